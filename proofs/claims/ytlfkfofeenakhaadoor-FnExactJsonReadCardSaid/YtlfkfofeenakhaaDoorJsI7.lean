/-
  What is proved here: impl's JSON reader: an object, its values by contract. No condition but that the reader lies in memory, and sizes.
-/
import Derived.Test.YtlfkfofeenakhaaDoorJsI6
import Derived.Test.YtlfkfofeenakhaaDoorJsS6
namespace Go.Proofs.YtlfkfofeenakhaaDoor
open Go.RowKit
set_option linter.unusedVariables false
set_option linter.unusedSimpArgs false

set_option maxHeartbeats 4000000 in
theorem implIndexS {B : Nat} {kv : Value} {keys : List ByteArray} (K : ByteArray) (w : World) (h : w.ownsRow B 9 1 kv keys.length (strCellsL keys)) (hl : keys.length ≤ 1000000) :
    Calls Tryd.prog 137 #[kv, .string K] w fun e w' => (∃ z : Int, e = .returned (.int .i64 z) ∧ ((0 ≤ z ∧ hasK keys K.data.toList = true) ∨ (z < 0 ∧ hasK keys K.data.toList = false))) ∧ w = w' := by
  obtain ⟨a1, k1, rfl⟩ := own_slice h
  have HO := hid h
  clear h
  go_enter Tryd.func137, Tryd.ntmps137
  go_wp2
  go_loopw [8] (fun v8 wx => ∃ i : Nat, i ≤ keys.length ∧ v8 = .int .i64 (i : Int) ∧ w = wx ∧ Hid (∀ j (hj : j < keys.length), j < i → keys[j].data.toList ≠ K.data.toList)) (fun v8 _ => keys.length - (intOf v8).toNat)
  case atStart => exact ⟨0, Nat.zero_le _, rfl, rfl, hid (fun j hj h => absurd h (by omega))⟩
  case round =>
    obtain ⟨i, hi9, rfl, rfl, HNO⟩ := hrel
    by_cases hlt9 : i < keys.length
    · have hii : (i : Int) < (keys.length : Int) := by omega
      have hi0 : (0 : Int) ≤ (i : Int) := by omega
      rcases HO.out.2 with ⟨_, h0⟩ | ⟨gk, capk, curk, hkv, hbk, hgk, _⟩
      · exact absurd h0 (by omega)
      obtain ⟨rfl, _⟩ : a1 = some ⟨gk, 0, none⟩ ∧ k1 = capk := by simpa using hkv
      have t0 := HO.out.cells (g := gk) rfl i (.string keys[i]) (by unfold strCellsL; rw [List.getElem?_map, List.getElem?_eq_getElem hlt9] <;> rfl)
      rw [Addr.add_lit, Nat.zero_add] at t0
      obtain ⟨M, hM⟩ : ∃ M, keys[i] = M := ⟨_, rfl⟩
      rw [hM] at t0
      have HMI := hid hM
      clear hM hkv hbk hgk
      by_cases hm : M.data.toList = K.data.toList
      · have e5 : (K.toList == M.toList) = true := by rw [Lib.toList_data, Lib.toList_data, hm]; exact beq_self_eq_true _
        have e6 : K.toList = M.toList := by rw [Lib.toList_data, Lib.toList_data, hm]
        have HRE := hid (show hasK keys K.data.toList = true from hasK_at hlt9 (by rw [HMI.out]; exact hm))
        have HI0 := hid hi0
        clear hm
        go_wp2
        go_ret
        exact ⟨⟨(i : Int), rfl, Or.inl ⟨HI0.out, HRE.out⟩⟩, rfl⟩
      · have e5 : (K.toList == M.toList) = false := by rw [beq_eq_false_iff_ne, Lib.toList_data, Lib.toList_data]; exact fun e => hm e.symm
        have e6 : ¬ K.toList = M.toList := by rw [Lib.toList_data, Lib.toList_data]; exact fun e => hm e.symm
        have HNM := hid hm
        clear hm
        go_wp2
        go_roundw
        case rel => exact ⟨i + 1, by omega, by go_num, by first | rfl | trivial, hid (fun j hj h => by
          rcases Nat.lt_or_ge j i with h1 | h1
          · exact HNO.out j hj h1
          · have hji : j = i := by omega
            subst hji
            rw [HMI.out]
            exact HNM.out)⟩
        case measure => simp [intOf]; omega
    · obtain rfl : i = keys.length := by omega
      have hii : ¬ (keys.length : Int) < (keys.length : Int) := by omega
      have HRE := hid (show hasK keys K.data.toList = false from hasK_take (fun j hj => HNO.out j hj hj))
      clear hlt9
      go_wp2
      go_ret
      exact ⟨⟨-1, rfl, Or.inr ⟨by decide, HRE.out⟩⟩, rfl⟩
theorem implContainsS {B : Nat} {kv : Value} {keys : List ByteArray} (K : ByteArray) (w : World) (h : w.ownsRow B 9 1 kv keys.length (strCellsL keys)) (hl : keys.length ≤ 1000000) :
    Calls Tryd.prog 108 #[kv, .string K] w fun e w' => e = .returned (.bool (hasK keys K.data.toList)) ∧ w = w' := by
  have CI := hid (implIndexS K w h hl)
  obtain ⟨a1, k1, rfl⟩ := own_slice h
  obtain ⟨B2, hB2⟩ : ∃ x, hasK keys K.data.toList = x := ⟨_, rfl⟩
  rw [hB2] at CI ⊢
  clear h hB2
  go_enter Tryd.func108, Tryd.ntmps108
  go_wp2_with fail
  refine CI.out.mono ?_
  rintro e w1 ⟨⟨z, rfl, hz⟩, rfl⟩
  rcases hz with ⟨h1, rfl⟩ | ⟨h1, rfl⟩
  · go_wp2
    go_ret
    exact ⟨by first | rfl | (simp [go_sem, *]; done), rfl⟩
  · have h2 : ¬ 0 ≤ z := by omega
    clear h1
    go_wp2
    go_ret
    exact ⟨by first | rfl | (simp [go_sem, *]; done), rfl⟩
/-- a stage between the world W and both appends -/
structure Stg (W wx : World) (nb : Nat) (k0 d0 KV DV : Value) (nk nd : Nat) (kc dc : List Value) : Prop where
  nlt : nb < W.heap.size
  klt : ∀ b, k0.ownBlock = some b → nb + 1 ≤ b ∧ b < W.heap.size
  dlt : ∀ b, d0.ownBlock = some b → nb + 1 ≤ b ∧ b < W.heap.size
  os : wx.os = W.os
  tape : wx.tape = W.tape
  output : wx.output = W.output
  size : W.heap.size ≤ wx.heap.size
  block : ∀ b, b < W.heap.size → k0.ownBlock ≠ some b → d0.ownBlock ≠ some b → wx.heap[b]? = W.heap[b]?
  krow : wx.ownsRow (nb + 1) 9 1 KV nk kc
  drow : wx.ownsRow (nb + 1) 3 1 DV nd dc
  ka : ∀ b, KV.ownBlock = some b → k0.ownBlock = some b ∨ W.heap.size ≤ b
  da : ∀ b, DV.ownBlock = some b → d0.ownBlock = some b ∨ W.heap.size ≤ b
  ne : ∀ b, KV.ownBlock = some b → DV.ownBlock ≠ some b
section
variable {W wx : World} {nb : Nat} {k0 d0 KV DV : Value} {nk nd : Nat} {kc dc : List Value}
theorem Stg.alloc (h : Stg W wx nb k0 d0 KV DV nk nd kc dc) (ob : Obj) : Stg W (wx.alloc ob) nb k0 d0 KV DV nk nd kc dc := by
  have al := ext_alloc wx ob
  exact ⟨h.nlt, h.klt, h.dlt, al.os.trans h.os, al.tape.trans h.tape, al.output.trans h.output, Nat.le_trans h.size al.size, fun b h1 h2 h3 => (al.block b (Nat.lt_of_lt_of_le h1 h.size)).trans (h.block b h1 h2 h3), h.krow.alloc _, h.drow.alloc _, h.ka, h.da, h.ne⟩
theorem Stg.atNb (h : Stg W wx nb k0 d0 KV DV nk nd kc dc) : wx.heap[nb]? = W.heap[nb]? := h.block nb h.nlt (fun e => by have := (h.klt nb e).1; omega) (fun e => by have := (h.dlt nb e).1; omega)
theorem Stg.lt1 (h : Stg W wx nb k0 d0 KV DV nk nd kc dc) : nb + 1 ≤ wx.heap.size := Nat.lt_of_lt_of_le h.nlt h.size
theorem Stg.cells {u0 u1 : Value} (h : Stg W wx nb k0 d0 KV DV nk nd kc dc) (hb : W.heap[nb]? = some (.cells #[u0, u1, k0, d0] 75 (0, 0))) : wx.cell? ⟨nb, 2, none⟩ = some k0 ∧ wx.cell? ⟨nb, 3, none⟩ = some d0 ∧ wx.frozen? ⟨nb, 2, none⟩ = false ∧ wx.frozen? ⟨nb, 3, none⟩ = false :=
  ⟨cell_of_row _ _ 2 _ _ _ (h.atNb.trans hb), cell_of_row _ _ 3 _ _ _ (h.atNb.trans hb), frozen_of_row _ _ 2 _ _ (h.atNb.trans hb), frozen_of_row _ _ 3 _ _ (h.atNb.trans hb)⟩
theorem oneS (M : ByteArray) : ∀ u ∈ ([.string M] : List Value), u.oneCell' = true := by
  intro u hu
  simp at hu
  subst hu
  rfl
theorem oneI (k : Int) : ∀ u ∈ ([.int .i64 k] : List Value), u.oneCell' = true := by
  intro u hu
  simp at hu
  subst hu
  rfl
theorem grown_own {w1 w2 : World} {r : Option Nat} (hg : w1.grownBy w2 r) {base : Nat} {e : TypeId} {size n : Nat} {v : Value} {xs : List Value} (h : w1.ownsRow base e size v n xs) (hr : ∀ b, v.ownBlock = some b → r ≠ some b) : w2.ownsRow base e size v n xs := by
  refine ⟨h.1, ?_⟩
  rcases h.2 with ⟨rfl, hn⟩ | ⟨b, cap, cur, rfl, h1, h2, h3⟩
  · exact Or.inl ⟨rfl, hn⟩
  · exact Or.inr ⟨b, cap, cur, rfl, h1, (hg.block b (Array.getElem?_eq_some_iff.1 h2).1 (fun e => hr b rfl e.symm)).trans h2, h3⟩
theorem Stg.growK (h : Stg W wx nb k0 d0 KV DV nk nd kc dc) {wy : World} {g2 m2 c2 nk2 : Nat} {kc2 : List Value} (hg : wx.grownBy wy KV.ownBlock) (hat : KV.ownBlock = some g2 ∨ wx.heap.size ≤ g2) (hown : wy.ownsRow (nb + 1) 9 1 (.slice (some ⟨g2, 0, none⟩) m2 c2) nk2 kc2) : Stg W wy nb k0 d0 (.slice (some ⟨g2, 0, none⟩) m2 c2) DV nk2 nd kc2 dc := by
  have hnew : ∀ b, (Value.slice (some ⟨g2, 0, none⟩) m2 c2).ownBlock = some b → b = g2 := fun b hb => by simpa [Value.ownBlock] using hb.symm
  refine ⟨h.nlt, h.klt, h.dlt, hg.os.trans h.os, hg.tape.trans h.tape, hg.output.trans h.output, Nat.le_trans h.size hg.size, fun b h1 h2 h3 => (hg.block b (Nat.lt_of_lt_of_le h1 h.size) (fun e => ?_)).trans (h.block b h1 h2 h3), hown, grown_own hg h.drow (fun b hb e => h.ne b e hb), fun b hb => ?_, h.da, fun b hb hd => ?_⟩
  · rcases h.ka b e.symm with h9 | h9
    · exact h2 h9
    · omega
  · rw [hnew b hb]
    rcases hat with h9 | h9
    · exact h.ka g2 h9
    · exact Or.inr (Nat.le_trans h.size h9)
  · rw [hnew b hb] at hd
    rcases hat with h9 | h9
    · exact h.ne g2 h9 hd
    · have := (h.drow.lt g2 hd).2; omega
theorem Stg.growD (h : Stg W wx nb k0 d0 KV DV nk nd kc dc) {wy : World} {g2 m2 c2 nd2 : Nat} {dc2 : List Value} (hg : wx.grownBy wy DV.ownBlock) (hat : DV.ownBlock = some g2 ∨ wx.heap.size ≤ g2) (hown : wy.ownsRow (nb + 1) 3 1 (.slice (some ⟨g2, 0, none⟩) m2 c2) nd2 dc2) : Stg W wy nb k0 d0 KV (.slice (some ⟨g2, 0, none⟩) m2 c2) nk nd2 kc dc2 := by
  have hnew : ∀ b, (Value.slice (some ⟨g2, 0, none⟩) m2 c2).ownBlock = some b → b = g2 := fun b hb => by simpa [Value.ownBlock] using hb.symm
  refine ⟨h.nlt, h.klt, h.dlt, hg.os.trans h.os, hg.tape.trans h.tape, hg.output.trans h.output, Nat.le_trans h.size hg.size, fun b h1 h2 h3 => (hg.block b (Nat.lt_of_lt_of_le h1 h.size) (fun e => ?_)).trans (h.block b h1 h2 h3), grown_own hg h.krow (fun b hb e => h.ne b hb e), hown, h.ka, fun b hb => ?_, fun b hb hd => ?_⟩
  · rcases h.da b e.symm with h9 | h9
    · exact h3 h9
    · omega
  · rw [hnew b hb]
    rcases hat with h9 | h9
    · exact h.da g2 h9
    · exact Or.inr (Nat.le_trans h.size h9)
  · rw [hnew b hd] at hb
    rcases hat with h9 | h9
    · exact h.ne g2 hb h9
    · have := (h.krow.lt g2 hb).2; omega
theorem Stg.newsK (h : Stg W wx nb k0 d0 KV DV nk nd kc dc) {wy : World} {bk : Nat} {x : Obj} (hk : wx.heap[bk]? = some x) (hb : W.heap.size ≤ bk) (hd : DV = d0) (hg : wx.grownBy wy KV.ownBlock) (hK : KV.ownBlock ≠ some bk) : wy.heap[bk]? = some x := (hg.block bk (Array.getElem?_eq_some_iff.1 hk).1 (fun e => hK e.symm)).trans hk
end
theorem GO.stg {X : Nat → Prop} {w W : World} {g nb o : Nat} {k0 d0 nv nv' : Value} {keys : List ByteArray} {kids : List Int} {ns : List JNode} (h : GO X w W g nb o k0 d0 nv nv' keys kids ns) : Stg W W nb k0 d0 k0 d0 keys.length kids.length (strCellsL keys) (intsJ kids) :=
  ⟨h.gi.nlt, h.gi.kown.lt, h.gi.down.lt, rfl, rfl, rfl, Nat.le_refl _, fun _ _ _ _ => rfl, h.gi.kown, h.gi.down, fun b hb => Or.inl hb, fun b hb => Or.inl hb, h.gi.ne1⟩
theorem GO.both {X : Nat → Prop} {w W wx : World} {g nb o : Nat} {k0 d0 KV DV nv nv' : Value} {keys : List ByteArray} {kids : List Int} {ns : List JNode} {t : ByteArray} {k : Int} (h : GO X w W g nb o k0 d0 nv nv' keys kids ns) (st : Stg W wx nb k0 d0 KV DV (keys.length + 1) (kids.length + 1) (strCellsL keys ++ [.string t]) (intsJ kids ++ [.int .i64 k])) (ht : t.size ≤ 1000000) (hk : 0 ≤ k ∧ k ≤ 1000000) :
    GO X w ((wx.setCell ⟨nb, 2, none⟩ KV).setCell ⟨nb, 3, none⟩ DV) g nb o KV DV nv nv' (keys ++ [t]) (kids ++ [k]) ns := by
  have hb0 : wx.heap[nb]? = some (.cells #[.int .i64 (kindO o), .string ⟨#[]⟩, k0, d0] 75 (0, 0)) := st.atNb.trans h.gi.blk
  have hb1 : (wx.setCell ⟨nb, 2, none⟩ KV).heap[nb]? = some (.cells #[.int .i64 (kindO o), .string ⟨#[]⟩, KV, d0] 75 (0, 0)) := (heap_setCell_same wx nb 2 _ _ _ hb0).trans rfl
  have hb2 : ((wx.setCell ⟨nb, 2, none⟩ KV).setCell ⟨nb, 3, none⟩ DV).heap[nb]? = some (.cells #[.int .i64 (kindO o), .string ⟨#[]⟩, KV, DV] 75 (0, 0)) := (heap_setCell_same _ nb 3 _ _ _ hb1).trans rfl
  have hsz : ((wx.setCell ⟨nb, 2, none⟩ KV).setCell ⟨nb, 3, none⟩ DV).heap.size = wx.heap.size := by simp [World.setCell]
  have hfar : ∀ b, b ≠ nb → ((wx.setCell ⟨nb, 2, none⟩ KV).setCell ⟨nb, 3, none⟩ DV).heap[b]? = wx.heap[b]? := fun b hb => (Below.heap_setCell _ ⟨nb, 3, none⟩ DV b hb).trans (Below.heap_setCell _ ⟨nb, 2, none⟩ KV b hb)
  have hall : ∀ b, b < W.heap.size → b ≠ nb → k0.ownBlock ≠ some b → d0.ownBlock ≠ some b → ((wx.setCell ⟨nb, 2, none⟩ KV).setCell ⟨nb, 3, none⟩ DV).heap[b]? = W.heap[b]? := fun b h1 h2 h3 h4 => (hfar b h2).trans (st.block b h1 h3 h4)
  obtain ⟨wy, hwy⟩ : ∃ x, (wx.setCell ⟨nb, 2, none⟩ KV).setCell ⟨nb, 3, none⟩ DV = x := ⟨_, rfl⟩
  have hrk := ownsRow_setCell_below (ownsRow_setCell_below st.krow (a := ⟨nb, 2, none⟩) (by show nb < nb + 1; omega) KV) (a := ⟨nb, 3, none⟩) (by show nb < nb + 1; omega) DV
  have hrd := ownsRow_setCell_below (ownsRow_setCell_below st.drow (a := ⟨nb, 2, none⟩) (by show nb < nb + 1; omega) KV) (a := ⟨nb, 3, none⟩) (by show nb < nb + 1; omega) DV
  have hos : ((wx.setCell ⟨nb, 2, none⟩ KV).setCell ⟨nb, 3, none⟩ DV).os = wx.os ∧ ((wx.setCell ⟨nb, 2, none⟩ KV).setCell ⟨nb, 3, none⟩ DV).tape = wx.tape ∧ ((wx.setCell ⟨nb, 2, none⟩ KV).setCell ⟨nb, 3, none⟩ DV).output = wx.output := ⟨rfl, rfl, rfl⟩
  rw [hwy] at hb2 hsz hall hrk hrd hos ⊢
  have hnv := h.gi.nvlt
  have no : JNo (fun b => X b ∨ b = nb ∨ KV.ownBlock = some b ∨ DV.ownBlock = some b) g nv' wy ns := by
    obtain ⟨os, css, hm, hd, ho, he⟩ := h.no
    refine ⟨os, css, hm, hd, ?_, he.1, fun i a b => ?_⟩
    · refine ⟨ho.1, ?_⟩
      rcases ho.2 with ⟨rfl, hn⟩ | ⟨b, cap, cur, rfl, h1, h2, h3⟩
      · exact Or.inl ⟨rfl, hn⟩
      · exact Or.inr ⟨b, cap, cur, rfl, h1, (hall b (Array.getElem?_eq_some_iff.1 h2).1 (fun e => h.gi.ne4 (by rw [e]; rfl)) (fun e => h.gi.ne2 b e rfl) (fun e => h.gi.ne3 b e rfl)).trans h2, h3⟩
    · refine Rd.mono (S := Beside (fun b => X b ∨ b = nb ∨ k0.ownBlock = some b ∨ d0.ownBlock = some b) g nv'.ownBlock W) (fun b hb => ⟨hb.1, by rw [hsz]; exact Nat.lt_of_lt_of_le hb.2.1 st.size, hb.2.2.1, ?_⟩) (Rd.same (fun b hb => hall b hb.2.1 (fun e => hb.2.2.2 (Or.inr (Or.inl e))) (fun e => hb.2.2.2 (Or.inr (Or.inr (Or.inl e)))) (fun e => hb.2.2.2 (Or.inr (Or.inr (Or.inr e))))) (he.2 i a b))
      rintro (hx | hx | hx | hx)
      · exact hb.2.2.2 (Or.inl hx)
      · exact hb.2.2.2 (Or.inr (Or.inl hx))
      · rcases st.ka b hx with h9 | h9
        · exact hb.2.2.2 (Or.inr (Or.inr (Or.inl h9)))
        · have := hb.2.1; omega
      · rcases st.da b hx with h9 | h9
        · exact hb.2.2.2 (Or.inr (Or.inr (Or.inr h9)))
        · have := hb.2.1; omega
  refine ⟨⟨hb2, h.gi.gnb, h.gi.wnb, ?_, ?_, st.ne, fun b hb e => ?_, fun b hb e => ?_, h.gi.ne4, no.js, h.gi.ro, ?_, ?_, ?_⟩, no⟩
  · rw [List.length_append, List.length_cons, List.length_nil]
    have e : strCellsL (keys ++ [t]) = strCellsL keys ++ [.string t] := by simp [strCellsL]
    rw [e]
    exact hrk
  · rw [List.length_append, List.length_cons, List.length_nil]
    have e : intsJ (kids ++ [k]) = intsJ kids ++ [.int .i64 k] := by simp [intsJ]
    rw [e]
    exact hrd
  · rcases st.ka b hb with h9 | h9
    · exact h.gi.ne2 b h9 e
    · have := hnv b e; omega
  · rcases st.da b hb with h9 | h9
    · exact h.gi.ne3 b h9 e
    · have := hnv b e; omega
  · refine ⟨hos.1.trans (st.os.trans h.gi.kp.os), hos.2.1.trans (st.tape.trans h.gi.kp.tape), hos.2.2.trans (st.output.trans h.gi.kp.output), by rw [hsz]; exact Nat.le_trans h.gi.kp.size st.size, fun b hb hg hr => (hall b (Nat.lt_of_lt_of_le hb h.gi.kp.size) (by have := h.gi.wnb; omega) (fun e => by have := (st.klt b e).1; have := h.gi.wnb; omega) (fun e => by have := (st.dlt b e).1; have := h.gi.wnb; omega)).trans (h.gi.kp.block b hb hg hr)⟩
  · intro x hx
    rcases List.mem_append.1 hx with h1 | h1
    · exact h.gi.ksz x h1
    · rw [List.mem_singleton.1 h1]; exact ht
  · intro x hx
    rcases List.mem_append.1 hx with h1 | h1
    · exact h.gi.dsz x h1
    · rw [List.mem_singleton.1 h1]; exact hk
theorem Stg.ji {W wx : World} {nb g p b : Nat} {s : ByteArray} {k0 d0 KV DV nv : Value} {nk nd : Nat} {kc dc : List Value} (st : Stg W wx nb k0 d0 KV DV nk nd kc dc) (h : JI W g s p b nv) (hg : g < nb) (u v : Value) : JI ((wx.setCell ⟨nb, 2, none⟩ u).setCell ⟨nb, 3, none⟩ v) g s p b nv :=
  ((Below.heap_setCell _ ⟨nb, 3, none⟩ v g (by show g ≠ nb; omega)).trans ((Below.heap_setCell _ ⟨nb, 2, none⟩ u g (by show g ≠ nb; omega)).trans (st.block g h.cells.2.2.2.2.2.2.2 (fun e => by have := (st.klt g e).1; omega) (fun e => by have := (st.dlt g e).1; omega)))).trans h
set_option maxHeartbeats 64000000 in
set_option maxRecDepth 100000 in
theorem implJObject {g d : Nat} {s : ByteArray} {val : Nat → Nat → List JNode → JR} (hs : s.size ≤ 5000) (hfw : FwV s.data.toList val) (HV : ValIC s g d val) : ObjC s g d val := by
  intro X w q b nv ns hX h hq hb hnb hn
  obtain ⟨ii, hi, hz0, hz1, hz2⟩ := info_parts info_strI
  obtain ⟨i1, hi1, hz3, hz4, hz5⟩ := info_parts info_intK
  obtain ⟨L, hL⟩ : ∃ L, s.data.toList = L := ⟨_, rfl⟩
  have hsl : s.size = L.length := by rw [← hL, Lib.size_eq]
  have CT := hid (fun (c q b : Nat) (nv : Value) (w : World) (h : JI w g s q b nv) (hq : q ≤ s.size) (hc : c ≠ 0) => implJTake c w h hq hs hc)
  have CS := hid (fun (q b : Nat) (nv : Value) (w : World) (h : JI w g s q b nv) (hq : q ≤ s.size) => implJSkip w h hq hs)
  have CP := hid (fun (q b : Nat) (nv : Value) (w : World) (h : JI w g s q b nv) (hq : q ≤ s.size) => implJNext w h hq)
  have CX := hid (fun (q b : Nat) (nv : Value) (w : World) (h : JI w g s q b nv) (hq : q < s.size) => implJText w h hq hs)
  have HVC := hid HV
  have HFW := hid hfw
  rw [hL] at CT CS CP CX HFW ⊢
  obtain ⟨R, hR⟩ : ∃ R, lstR L val 123 q b ns = R := ⟨_, rfl⟩
  have HR := hid (show R = if gB L q = 125 then putN ⟨kindO 123, ⟨#[]⟩, [], []⟩ (q + 1) b ns else grpG L val 123 125 (L.length + 1) q b ns [] [] from hR.symm)
  rw [hR]
  have HSL := hid hsl
  have HX := hid hX
  have HGO := hid (GO.start (o := 123) h hn hX)
  have hg : g < w.heap.size := h.cells.2.2.2.2.2.2.2
  have HG := hid hg
  have hj1 : JI (w.alloc (.cells #[.int .i64 (kindO 123), .string ⟨#[]⟩, .slice none 0 0, .slice none 0 0] 75)) g s q b nv := ((ext_alloc w _).block g hg).trans h
  obtain ⟨nb, hnbe⟩ : ∃ x, w.heap.size = x := ⟨_, rfl⟩
  rw [hnbe] at HGO
  obtain ⟨w1, hw1⟩ : ∃ x, w.alloc (.cells #[.int .i64 (kindO 123), .string ⟨#[]⟩, .slice none 0 0, .slice none 0 0] 75) = x := ⟨_, rfl⟩
  rw [hw1] at HGO hj1
  have hw1' : w.alloc (.cells #[.int .i64 7, .string ⟨#[]⟩, .slice none 0 0, .slice none 0 0] 75) = w1 := hw1
  have HJ1 := hid hj1
  have HNB := hid hnb
  have HB := hid hb
  have CTQ := hid (CT.out 125 q b nv w1 hj1 hq (by decide))
  have HQ := hid hq
  have HNBE := hid hnbe
  have HW1 := hid hw1'
  clear hL hsl hR h hfw HV hX hn hj1 hnb hb hg hw1 hw1' hnbe
  go_enter Tryd.func74, Tryd.ntmps74
  go_upto_region 2 with fail
  try rw [HW1.out]
  try rw [HNBE.out]
  by_cases hge : gB L q = 125
  · as_aux_lemma =>
    rw [decide_eq_true hge, if_pos hge] at CTQ
    have HRF := hid (show R = putN ⟨kindO 123, ⟨#[]⟩, [], []⟩ (q + 1) b ns by rw [HR.out, if_pos hge])
    clear hge
    go_wp2_with fail
    refine CTQ.out.mono ?_
    rintro e w3 ⟨rfl, hj, hk⟩
    have HJ3 := hid hj
    have HG3 := hid (HGO.out.kp0 hk)
    clear hj hk
    have n0 : w3.cell? ⟨nb, 0, none⟩ = some (.int .i64 (kindO 123)) := cell_of_row _ _ 0 _ _ _ HG3.out.gi.blk
    have n1 : w3.cell? ⟨nb, 1, none⟩ = some (.string ⟨#[]⟩) := cell_of_row _ _ 1 _ _ _ HG3.out.gi.blk
    have n2 : w3.cell? ⟨nb, 2, none⟩ = some (.slice none 0 0) := cell_of_row _ _ 2 _ _ _ HG3.out.gi.blk
    have n3 : w3.cell? ⟨nb, 3, none⟩ = some (.slice none 0 0) := cell_of_row _ _ 3 _ _ _ HG3.out.gi.blk
    have CA := hid (implAddGO HG3.out HJ3.out HX.out (by have := HNB.out; have := HB.out; omega))
    go_wp2_with fail
    refine CA.out.mono ?_
    rintro e w5 ⟨nv5, rfl, hj5, hn5, hro5, hk5⟩
    have HJ5 := hid hj5
    have HN5 := hid hn5
    have HRO5 := hid (HG3.out.gi.ro.trans hro5 HG3.out.gi.kp.size)
    have HKP5 := hid (HG3.out.gi.kp.trans hk5 HG3.out.gi.ro)
    clear hj5 hn5 hro5 hk5 n0 n1 n2 n3
    go_wp2
    go_ret2
    rw [HRF.out]
    exact ⟨Or.inl ⟨_, _, _, _, nv5, rfl, rfl, HJ5.out, HN5.out, HRO5.out⟩, HKP5.out⟩
  as_aux_lemma =>
  rw [decide_eq_false hge, if_neg hge] at CTQ
  have HRG := hid (show R = grpG L val 123 125 (L.length + 1) q b ns [] [] by rw [HR.out, if_neg hge])
  clear hge
  go_wp2_with fail
  refine CTQ.out.mono ?_
  rintro e w3 ⟨rfl, hj, hk⟩
  have HJ3 := hid hj
  have HG3 := hid (HGO.out.kp0 hk)
  clear hj hk
  go_wp2
  go_loopw [7, 8, 9, 10] (fun _ _ _ _ wr => ∃ (q f b' : Nat) (keys : List ByteArray) (kids : List Int) (kv dv nv' : Value) (ns' : List JNode), q ≤ s.size ∧ s.size + 1 ≤ f + q ∧ b' ≤ 200 ∧ ns'.length + 1 ≤ b' ∧ keys.length ≤ q ∧ kids.length ≤ q ∧ JI wr g s q b' nv' ∧ GO X w wr g nb 123 kv dv nv nv' keys kids ns' ∧ Hid (R = grpG L val 123 125 f q b' ns' keys kids)) (fun _ _ _ _ wr => s.size + 1 - atI wr g)
  case atStart => exact ⟨q, L.length + 1, b, [], [], .slice none 0 0, .slice none 0 0, nv, ns, HQ.out, by have := HSL.out; omega, HB.out, HNB.out, Nat.zero_le _, Nat.zero_le _, HJ3.out, HG3.out, HRG⟩
  case round =>
    obtain ⟨q, f, b', keys, kids, kv, dv, nv', ns', hqs, hf, hb2, hnb2, hkl, hdl, hj, hgo, HRK⟩ := hrel
    obtain ⟨f2, rfl⟩ : ∃ f2, f = f2 + 1 := ⟨f - 1, by omega⟩
    have HJr := hid hj
    have HGr := hid hgo
    have HAT := hid hj.atI
    have CPQ := hid (CP.out q b' nv' wr hj hqs)
    have HRB := hid (show R = if gB L q ≠ 34 then .er 2 q else if (strP L q).1 = false then .er 2 (strP L q).2.1 else if hasK keys (strP L q).2.2 = true then .er 4 q else if gB L (skB L (strP L q).2.1) ≠ 58 then .er 2 (skB L (strP L q).2.1) else grpN L 123 125 (grpG L val 123 125 f2) (val (skB L (skB L (strP L q).2.1 + 1)) b' ns') (keys ++ [mkB (strP L q).2.2]) kids by rw [HRK.out, grpG, if_pos rfl])
    obtain ⟨c0, c1, c2, c3, y1, y2, y3, hl⟩ := hj.cells
    clear hj hgo c0 c2 c3 y2 y3
    by_cases h34 : gB L q = 34
    rotate_left
    · as_aux_lemma =>
      have HRE := hid (show R = .er 2 q by rw [HRB.out, if_pos h34])
      obtain ⟨N, hN⟩ : ∃ n, nxI L q = n := ⟨_, rfl⟩
      have hiff := nxI_iff (L := L) (p := q) (c := 34) (by decide) (by have := HSL.out; omega)
      rw [hN] at hiff CPQ
      have e1 : (N != 34) = true := by rw [bne_iff_ne]; exact fun e => h34 (hiff.1 e)
      have e2 : ¬ N = 34 := fun e => h34 (hiff.1 e)
      clear hN hiff h34
      go_wp2_with fail
      refine CPQ.out.mono ?_
      rintro e w3 ⟨rfl, hqt⟩
      have HJ3 := hid (HJr.out.qt hqt)
      have HG3 := hid (HGr.out.kp0 hqt.kp)
      clear hqt
      go_wp2
      go_ret2
      rw [HRE.out]
      exact ⟨Or.inr ⟨2, q, b', nv', rfl, by decide, rfl, HJ3.out, HG3.out.gi.ro⟩, HG3.out.gi.kp⟩
    have hlt : q < L.length := gB_lt (by rw [h34]; decide)
    have e : nxI L q = 34 := by unfold nxI; rw [if_neg (by omega), h34]; rfl
    rw [e] at CPQ
    have HLT := hid (show q < s.size by have := HSL.out; omega)
    have hsi := strP_in (L := L) (p := q) hlt
    have HRC := hid (show R = if (strP L q).1 = false then .er 2 (strP L q).2.1 else if hasK keys (strP L q).2.2 = true then .er 4 q else if gB L (skB L (strP L q).2.1) ≠ 58 then .er 2 (skB L (strP L q).2.1) else grpN L 123 125 (grpG L val 123 125 f2) (val (skB L (skB L (strP L q).2.1 + 1)) b' ns') (keys ++ [mkB (strP L q).2.2]) kids by rw [HRB.out, if_neg (by rw [h34]; decide)])
    have CXQ := hid (fun w (h : JI w g s q b' nv') => CX.out q b' nv' w h HLT.out)
    obtain ⟨⟨sok, sp, st⟩, hS⟩ : ∃ S, strP L q = S := ⟨_, rfl⟩
    rw [hS] at CXQ HRC hsi
    dsimp only at CXQ HRC hsi
    have HSI := hid hsi
    clear h34 hlt e hS hsi
    go_wp2_with fail
    refine CPQ.out.mono ?_
    rintro e w3 ⟨rfl, hqt⟩
    have HJ3 := hid (HJr.out.qt hqt)
    have HG3 := hid (HGr.out.kp0 hqt.kp)
    clear hqt c1 y1 hl CPQ
    go_wp2_with fail
    refine (CXQ.out _ HJ3.out).mono ?_
    rintro e w4 ⟨rfl, hj4, hk4⟩
    have HJ4 := hid hj4
    have HG4 := hid (HG3.out.kp0 hk4)
    clear hj4 hk4
    cases sok with
    | false =>
      have HRE := hid (show R = .er 2 sp by rw [HRC.out, if_pos rfl])
      have e0 : ((cdI false : Nat) : Int) = 2 := rfl
      go_wp2
      go_ret2
      rw [HRE.out]
      exact ⟨Or.inr ⟨2, sp, b', nv', rfl, by decide, rfl, HJ4.out, HG4.out.gi.ro⟩, HG4.out.gi.kp⟩
    | true =>
    have e0 : ((cdI true : Nat) : Int) = 0 := rfl
    obtain ⟨M, hM⟩ : ∃ M, mkB st = M := ⟨_, rfl⟩
    have hMd : M.data.toList = st := by rw [← hM, mkB_data]
    have HMZ := hid (show M.size ≤ 1000000 by rw [← hM, mkB_size]; have := (HSI.out.2 rfl).2; have := HSL.out; omega)
    have HRP := hid (show R = if hasK keys M.data.toList = true then .er 4 q else if gB L (skB L sp) ≠ 58 then .er 2 (skB L sp) else grpN L 123 125 (grpG L val 123 125 f2) (val (skB L (skB L sp + 1)) b' ns') (keys ++ [M]) kids by rw [HRC.out, hMd, hM]; rfl)
    have HSP := hid (show q + 1 < sp ∧ sp ≤ L.length from ⟨(HSI.out.2 rfl).1, HSI.out.1⟩)
    obtain ⟨a1, k1, a2, k2, rfl, rfl⟩ := HG4.out.gi.slices
    have CCQ := hid (implContainsS M w4 HG4.out.gi.kown (by omega))
    rw [hM]
    have n2 : w4.cell? ⟨nb, 2, none⟩ = some (.slice a1 keys.length k1) := cell_of_row _ _ 2 _ _ _ HG4.out.gi.blk
    clear hM hMd HRC HSI
    cases hhk : hasK keys M.data.toList with
    | true =>
      as_aux_lemma =>
      rw [hhk] at CCQ
      have HRE := hid (show R = .er 4 q by rw [HRP.out, if_pos hhk])
      obtain ⟨c0, c1, c2, c3, y1, y2, y3, hl⟩ := HJ4.out.cells
      clear hhk c0 c2 c3 y2 y3
      have HJ5 := hid (HJ4.out.setP q)
      have HG5 := hid (HG4.out.kp0 ((Kp.refl g none w4).set 1 (.int .i64 (q : Int))))
      go_wp2_with fail
      refine CCQ.out.mono ?_
      rintro e w5 ⟨rfl, rfl⟩
      go_wp2
      go_ret2
      rw [HRE.out]
      exact ⟨Or.inr ⟨4, q, b', nv', rfl, by decide, rfl, HJ5.out, HG5.out.gi.ro⟩, HG5.out.gi.kp⟩
    | false =>
    rw [hhk] at CCQ
    have HRQ := hid (show R = if gB L (skB L sp) ≠ 58 then .er 2 (skB L sp) else grpN L 123 125 (grpG L val 123 125 f2) (val (skB L (skB L sp + 1)) b' ns') (keys ++ [M]) kids by rw [HRP.out, hhk]; rfl)
    have CS5 := hid (CS.out sp b' nv' w4 HJ4.out (by have := HSP.out; have := HSL.out; omega))
    have hs2 := skB_in L HSP.out.2
    obtain ⟨q2, hq2⟩ : ∃ x, skB L sp = x := ⟨_, rfl⟩
    rw [hq2] at CS5 HRQ hs2
    have hq2s : q2 ≤ s.size := by have := HSL.out; omega
    clear hhk hq2 HRP
    go_wp2_with fail
    refine CCQ.out.mono ?_
    rintro e w5 ⟨rfl, rfl⟩
    go_wp2_with fail
    refine CS5.out.mono ?_
    rintro e w6 ⟨rfl, hj6, hk6⟩
    have HJ6 := hid hj6
    have HG6 := hid (HG4.out.kp0 hk6)
    have CT6 := hid (CT.out 58 q2 b' nv' w6 hj6 hq2s (by decide))
    clear hj6 hk6 n2
    by_cases h58 : gB L q2 = 58
    rotate_left
    · as_aux_lemma =>
      rw [decide_eq_false h58, if_neg h58] at CT6
      have HRE := hid (show R = .er 2 q2 by rw [HRQ.out, if_pos h58])
      clear h58
      go_wp2_with fail
      refine CT6.out.mono ?_
      rintro e w7 ⟨rfl, hj7, hk7⟩
      have HJ7 := hid hj7
      have HG7 := hid (HG6.out.kp0 hk7)
      clear hj7 hk7
      go_wp2
      go_ret2
      rw [HRE.out]
      exact ⟨Or.inr ⟨2, q2, b', nv', rfl, by decide, rfl, HJ7.out, HG7.out.gi.ro⟩, HG7.out.gi.kp⟩
    rw [decide_eq_true h58, if_pos h58] at CT6
    have hl2 := gB_lt (L := L) (i := q2) (by omega)
    have hs3 := skB_in L (p := q2 + 1) hl2
    have HRN0 := hid (show R = grpN L 123 125 (grpG L val 123 125 f2) (val (skB L (q2 + 1)) b' ns') (keys ++ [M]) kids by rw [HRQ.out, if_neg (by rw [h58]; decide)])
    have CS7 := hid (fun w (h : JI w g s (q2 + 1) b' nv') => CS.out (q2 + 1) b' nv' w h (by have := HSL.out; omega))
    obtain ⟨q3, hq3⟩ : ∃ x, skB L (q2 + 1) = x := ⟨_, rfl⟩
    rw [hq3] at CS7 HRN0 hs3
    have HQ3 := hid (show q + 2 < q3 ∧ q3 ≤ L.length by have := HSP.out; omega)
    clear h58 hl2 hs3 hq3 hs2 HRQ
    go_wp2_with fail
    refine CT6.out.mono ?_
    rintro e w7 ⟨rfl, hj7, hk7⟩
    have HJ7 := hid hj7
    have HG7 := hid (HG6.out.kp0 hk7)
    clear hj7 hk7
    go_wp2_with fail
    refine (CS7.out _ HJ7.out).mono ?_
    rintro e w8 ⟨rfl, hj8, hk8⟩
    have HJ8 := hid hj8
    have HG8 := hid (HG7.out.kp0 hk8)
    clear hj8 hk8
    have CV := hid (HVC.out (fun b => X b ∨ b = nb ∨ (Value.slice a1 keys.length k1).ownBlock = some b ∨ (Value.slice a2 kids.length k2).ownBlock = some b) w8 q3 b' nv' ns' (HG8.out.gi.inX HX.out) HJ8.out (by have := HQ3.out; have := HSL.out; omega) hb2 (by omega) HG8.out.no)
    have HOV := hid (HFW.out q3 b' ns' HQ3.out.2 hb2)
    go_wp2_with fail
    refine CV.out.mono ?_
    rintro e w9 ⟨hv, hk⟩
    rcases hv with ⟨kid, j, b5, ns5, nv5, hr, rfl, hj5, hn5, hro5⟩ | ⟨c, p5, b5, nv5, hr, hc, rfl, hj5, hro5⟩
    rotate_left
    · as_aux_lemma =>
      have HRE := hid (show R = .er c p5 by rw [HRN0.out, hr]; rfl)
      have e1 : ((c : Int) != 0) = true := by rw [bne_iff_ne]; omega
      have e2 : ¬ (c : Int) = 0 := by omega
      have HJ5 := hid hj5
      have HRO := hid (HG8.out.gi.ro.trans hro5 HG8.out.gi.kp.size)
      have HKP := hid (HG8.out.gi.kp.trans hk HG8.out.gi.ro)
      have HC := hid hc
      clear hj5 hro5 hk hr hc
      go_wp2
      go_ret2
      rw [HRE.out]
      exact ⟨Or.inr ⟨c, p5, b5, nv5, rfl, HC.out, rfl, HJ5.out, HRO.out⟩, HKP.out⟩
    have HOK0 := hid (HOV.out kid j b5 ns5 hr)
    have HOK := hid (show q < j ∧ j ≤ L.length ∧ kid < ns5.length ∧ ns'.length < ns5.length ∧ b5 ≤ 200 ∧ b' ≤ b5 ∧ ns5.length + b' ≤ ns'.length + b5 + 0 by have h1 := HOK0.out; have h2 := HQ3.out; omega)
    have HRN := hid (show R = if gB L (skB L j) = 125 then putN ⟨if (123 : Nat) = 123 then 7 else 6, ⟨#[]⟩, keys ++ [M], kids ++ [(kid : Int)]⟩ (skB L j + 1) b5 ns5 else if gB L (skB L j) = 44 then grpG L val 123 125 f2 (skB L (skB L j + 1)) b5 ns5 (keys ++ [M]) (kids ++ [(kid : Int)]) else .er 2 (skB L j) by rw [HRN0.out, hr]; rfl)
    have HJL := hid (HOK.out.2.1)
    have HJ9 := hid hj5
    have HG9 := hid (HG8.out.val hn5 hro5 hk)
    have HKID := hid (show (kid : Nat) ≤ 1000000 by have := HOK.out; omega)
    have HKL := hid (show keys.length ≤ 5000 ∧ kids.length ≤ 5000 by omega)
    clear hj5 hn5 hro5 hk hr HOV HRN0 HOK0
    go_upto_region 19 with fail
    go_cut [10] from 19 to 87 (fun _ wx => ∃ (kv' dv' : Value), JI wx g s j b5 nv5 ∧ GO X w wx g nb 123 kv' dv' nv nv5 (keys ++ [M]) (kids ++ [(kid : Int)]) ns5)
    case first =>
      as_aux_lemma =>
      have hkid : (kid : Nat) ≤ 1000000 := HKID.out
      have hkl9 := HKL.out.1
      have hdl9 := HKL.out.2
      have HJD := hid (show JI w9.drew g s j b5 nv5 from HJ9.out)
      have HGD := hid (HG9.out.kp0 (Kp.refl g none w9).drew)
      have HSA := hid HGD.out.stg
      refine wp_region_held_drew (S := fun _ => True) (by kernel_rfl) trivial (fun hHeld => ?_)
      refine wpAnyH_take (i := 0) (v := ?_) rfl (by kernel_rfl) (by kernel_rfl) (by kernel_rfl) (fun _ _ _ h => h) (Or.inl ⟨by rfl, ?_⟩) (by assumption) ?_
      rotate_left
      · (intro w' hSw; (try dsimp only at hSw); go_simp; try (with_reducible rfl))
      change wpAnyH _ _ _ _ _ _ _ (Act.put _ (some 62) _) _
      try simp only [Act.put, List.setIfInBounds_toArray, List.set_cons_zero, List.set_cons_succ]
      refine wpAnyH_take (i := 2) (v := ?_) rfl (by kernel_rfl) (by kernel_rfl) (by kernel_rfl) (fun _ _ _ h => h) (Or.inl ⟨by rfl, ?_⟩) (by assumption) ?_
      rotate_left
      · (intro w' hSw; (try dsimp only at hSw); go_simp; try (with_reducible rfl))
      change wpAnyH _ _ _ _ _ _ _ (Act.put _ (some 64) _) _
      try simp only [Act.put, List.setIfInBounds_toArray, List.set_cons_zero, List.set_cons_succ]
      refine wpAnyH_take (i := 5) (v := ?_) rfl (by kernel_rfl) (by kernel_rfl) (by kernel_rfl) (fun _ _ _ h => h) (Or.inl ⟨by rfl, ?_⟩) (by assumption) ?_
      rotate_left
      · (intro w' hSw; (try dsimp only at hSw); go_simp; try (with_reducible rfl))
      change wpAnyH _ _ _ _ _ _ _ (Act.put _ (some 67) _) _
      try simp only [Act.put, List.setIfInBounds_toArray, List.set_cons_zero, List.set_cons_succ]
      refine wpAnyH_take (i := 7) (v := ?_) rfl (by kernel_rfl) (by kernel_rfl) (by kernel_rfl) (fun _ _ _ h => h) (Or.inl ⟨by rfl, ?_⟩) (by assumption) ?_
      rotate_left
      · (intro w' hSw; (try dsimp only at hSw); go_simp; try (with_reducible rfl))
      change wpAnyH _ _ _ _ _ _ _ (Act.put _ (some 69) _) _
      try simp only [Act.put, List.setIfInBounds_toArray, List.set_cons_zero, List.set_cons_succ]
      clear hHeld
      obtain ⟨wv0, hwv0⟩ : ∃ x, w9.drew = x := ⟨_, rfl⟩
      rw [hwv0] at HJD HGD HSA ⊢
      clear hwv0 HJ9 HG9
      have hHeld := trivial
      refine wpAnyH_ready (rs := [1, 3, 6, 8]) (by kernel_rfl) (by simp) ?_
      refine AllReadyH.cons (i := 1) rfl (fun K hK => ?_) ?_
      simp only [List.getElem_toArray, List.getElem_cons_succ, List.getElem_cons_zero]
      rw [if_pos (by rfl)]
      have n2 := (HSA.out.cells HGD.out.gi.blk).1
      go_simp
      refine hK.out _ _ trivial (fun hHeld => ?_)
      clear hK K n2
      try simp only [Act.put, List.setIfInBounds_toArray, List.set_cons_zero, List.set_cons_succ]
      refine wpAnyH_ready (rs := [3, 6, 8]) (by kernel_rfl) (by simp) ?_
      refine AllReadyH.cons (i := 3) rfl (fun K hK => ?_) ?_
      simp only [List.getElem_toArray, List.getElem_cons_succ, List.getElem_cons_zero]
      rw [if_pos (by rfl)]
      go_simp
      refine hK.out _ _ trivial (fun hHeld => ?_)
      clear hK K
      try simp only [Act.put, List.setIfInBounds_toArray, List.set_cons_zero, List.set_cons_succ]
      have HS2 := hid (HSA.out.alloc (.cells #[.string M] 9))
      have NB2 := hid (heap_alloc_new wv0 (.cells #[.string M] 9))
      obtain ⟨wv2, hw2⟩ : ∃ x, wv0.alloc (.cells #[.string M] 9) = x := ⟨_, rfl⟩
      rw [hw2] at HS2 NB2 ⊢
      obtain ⟨bk2, hb2⟩ : ∃ x, wv0.heap.size = x := ⟨_, rfl⟩
      have BL2 := hid (show wv0.heap.size ≤ bk2 by rw [← hb2]; exact HSA.out.size)
      rw [hb2] at NB2 ⊢
      clear hw2 hb2
      refine wpAnyH_ready (rs := [4, 6, 8]) (by kernel_rfl) (by simp) ?_
      refine AllReadyH.cons (i := 4) rfl (fun K hK => ?_) ?_
      simp only [List.getElem_toArray, List.getElem_cons_succ, List.getElem_cons_zero]
      rw [if_pos (by rfl)]
      refine wp_append_lies _ (.tmp 63) (.tmp 65) 73 rfl (nb + 1) 9 ii (.string ⟨#[]⟩) 1 16 Tryd.underlying73 hi hz0 hz1 hz2 rfl (by decide) (.slice a1 keys.length k1) keys.length (strCellsL keys) (by first | rfl | simp [Act.eval, Act.put]) HS2.out.krow ⟨bk2, 0, none⟩ 1 1 [.string M] (by first | rfl | simp [Act.eval, Act.put]) rfl (World.news_of_block (cs := #[.string M]) (t := 9) (fr := (0, 0)) NB2.out) (oneS M) (by decide) (by unfold maxLen; omega) (by omega) HS2.out.lt1 _ rfl ?_
      intro g3 cap3 wv3 hown3 hgrow3 hat3 hlt3
      have HS3 := hid (HS2.out.growK hgrow3 (hat3.imp_right (fun h => Nat.le_of_eq h.symm)) hown3)
      clear hown3 hgrow3 hat3 hlt3
      refine hK.out _ _ trivial (fun hHeld => ?_)
      clear hK K
      try simp only [Act.put, List.setIfInBounds_toArray, List.set_cons_zero, List.set_cons_succ]
      refine wpAnyH_ready (rs := [6, 8]) (by kernel_rfl) (by simp) ?_
      refine AllReadyH.cons (i := 6) rfl (fun K hK => ?_) ?_
      simp only [List.getElem_toArray, List.getElem_cons_succ, List.getElem_cons_zero]
      rw [if_pos (by rfl)]
      have n3 := (HS3.out.cells HGD.out.gi.blk).2.1
      go_simp
      refine hK.out _ _ trivial (fun hHeld => ?_)
      clear hK K n3
      try simp only [Act.put, List.setIfInBounds_toArray, List.set_cons_zero, List.set_cons_succ]
      refine wpAnyH_take (i := 10) (v := ?_) rfl (by kernel_rfl) (by kernel_rfl) (by kernel_rfl) (fun _ _ _ h => h) (Or.inl ⟨by rfl, ?_⟩) (by assumption) ?_
      rotate_left
      · (intro w' hSw; (try dsimp only at hSw); go_simp; try (with_reducible rfl))
      change wpAnyH _ _ _ _ _ _ _ (Act.put _ (some 72) _) _
      try simp only [Act.put, List.setIfInBounds_toArray, List.set_cons_zero, List.set_cons_succ]
      refine wpAnyH_ready (rs := [8]) (by kernel_rfl) (by simp) ?_
      refine AllReadyH.cons (i := 8) rfl (fun K hK => ?_) AllReadyH.nil
      simp only [List.getElem_toArray, List.getElem_cons_succ, List.getElem_cons_zero]
      rw [if_pos (by rfl)]
      go_simp
      refine hK.out _ _ trivial (fun hHeld => ?_)
      clear hK K
      try simp only [Act.put, List.setIfInBounds_toArray, List.set_cons_zero, List.set_cons_succ]
      have HS5 := hid (HS3.out.alloc (.cells #[.int .i64 (kid : Int)] 3))
      have NB5 := hid (heap_alloc_new wv3 (.cells #[.int .i64 (kid : Int)] 3))
      obtain ⟨wv5, hw5⟩ : ∃ x, wv3.alloc (.cells #[.int .i64 (kid : Int)] 3) = x := ⟨_, rfl⟩
      rw [hw5] at HS5 NB5 ⊢
      obtain ⟨bk5, hb5⟩ : ∃ x, wv3.heap.size = x := ⟨_, rfl⟩
      have BL5 := hid (show wv0.heap.size ≤ bk5 by rw [← hb5]; exact HS3.out.size)
      rw [hb5] at NB5 ⊢
      clear hw5 hb5
      refine wpAnyH_ready (rs := [9]) (by kernel_rfl) (by simp) ?_
      refine AllReadyH.cons (i := 9) rfl (fun K hK => ?_) AllReadyH.nil
      simp only [List.getElem_toArray, List.getElem_cons_succ, List.getElem_cons_zero]
      rw [if_pos (by rfl)]
      refine wp_append_lies _ (.tmp 68) (.tmp 70) 61 rfl (nb + 1) 3 i1 (.int .i64 0) 1 8 Tryd.underlying61 hi1 hz3 hz4 hz5 rfl (by decide) (.slice a2 kids.length k2) kids.length (intsJ kids) (by first | rfl | simp [Act.eval, Act.put]) HS5.out.drow ⟨bk5, 0, none⟩ 1 1 [.int .i64 (kid : Int)] (by first | rfl | simp [Act.eval, Act.put]) rfl (World.news_of_block (cs := #[.int .i64 (kid : Int)]) (t := 3) (fr := (0, 0)) NB5.out) (oneI _) (by decide) (by unfold maxLen; omega) (by omega) HS5.out.lt1 _ rfl ?_
      intro g6 cap6 wv6 hown6 hgrow6 hat6 hlt6
      have HS6 := hid (HS5.out.growD hgrow6 (hat6.imp_right (fun h => Nat.le_of_eq h.symm)) hown6)
      clear hown6 hgrow6 hat6 hlt6
      refine hK.out _ _ trivial (fun hHeld => ?_)
      clear hK K
      try simp only [Act.put, List.setIfInBounds_toArray, List.set_cons_zero, List.set_cons_succ]
      obtain ⟨n2, n3, z2, z3⟩ := HS6.out.cells HGD.out.gi.blk
      refine wpAnyH_ready (rs := [11]) (by kernel_rfl) (by simp) ?_
      refine AllReadyH.cons (i := 11) rfl (fun K hK => ?_) AllReadyH.nil
      simp only [List.getElem_toArray, List.getElem_cons_succ, List.getElem_cons_zero]
      rw [if_pos (by rfl)]
      go_simp
      refine hK.out _ _ trivial (fun hHeld => ?_)
      clear hK K
      try simp only [Act.put, List.setIfInBounds_toArray, List.set_cons_zero, List.set_cons_succ]
      refine wpAnyH_take (i := 12) (v := ?_) rfl (by kernel_rfl) (by kernel_rfl) (by kernel_rfl) (fun _ _ _ h => h) (Or.inl ⟨by rfl, ?_⟩) (by assumption) ?_
      rotate_left
      · (intro w' hSw; (try dsimp only at hSw); go_simp; try (with_reducible rfl))
      change wpAnyH _ _ _ _ _ _ _ (Act.put _ (some 73) _) _
      try simp only [Act.put, List.setIfInBounds_toArray, List.set_cons_zero, List.set_cons_succ]
      refine wpAnyH_ready (rs := [13]) (by kernel_rfl) (by simp) ?_
      refine AllReadyH.cons (i := 13) rfl (fun K hK => ?_) AllReadyH.nil
      simp only [List.getElem_toArray, List.getElem_cons_succ, List.getElem_cons_zero]
      rw [if_pos (by rfl)]
      go_simp
      refine hK.out _ _ trivial (fun hHeld => ?_)
      clear hK K
      try simp only [Act.put, List.setIfInBounds_toArray, List.set_cons_zero, List.set_cons_succ]
      refine wpAnyH_done (by kernel_rfl) ?_ _
      go_wp2
      go_meet
      case rel => exact ⟨_, _, HS6.out.ji HJD.out HGD.out.gi.gnb _ _, HGD.out.both HS6.out HMZ.out ⟨by omega, by omega⟩⟩
      refine AllReadyH.cons (i := 8) rfl (fun K hK => ?_) AllReadyH.nil
      simp only [List.getElem_toArray, List.getElem_cons_succ, List.getElem_cons_zero]
      rw [if_pos (by rfl)]
      go_simp
      refine hK.out _ _ trivial (fun hHeld => ?_)
      clear hK K
      try simp only [Act.put, List.setIfInBounds_toArray, List.set_cons_zero, List.set_cons_succ]
      have HS7 := hid (HS3.out.alloc (.cells #[.int .i64 (kid : Int)] 3))
      have NB7 := hid (heap_alloc_new wv3 (.cells #[.int .i64 (kid : Int)] 3))
      obtain ⟨wv7, hw7⟩ : ∃ x, wv3.alloc (.cells #[.int .i64 (kid : Int)] 3) = x := ⟨_, rfl⟩
      rw [hw7] at HS7 NB7 ⊢
      obtain ⟨bk7, hb7⟩ : ∃ x, wv3.heap.size = x := ⟨_, rfl⟩
      have BL7 := hid (show wv0.heap.size ≤ bk7 by rw [← hb7]; exact HS3.out.size)
      rw [hb7] at NB7 ⊢
      clear hw7 hb7
      refine wpAnyH_ready (rs := [6]) (by kernel_rfl) (by simp) ?_
      refine AllReadyH.cons (i := 6) rfl (fun K hK => ?_) AllReadyH.nil
      simp only [List.getElem_toArray, List.getElem_cons_succ, List.getElem_cons_zero]
      rw [if_pos (by rfl)]
      have n3 := (HS7.out.cells HGD.out.gi.blk).2.1
      go_simp
      refine hK.out _ _ trivial (fun hHeld => ?_)
      clear hK K n3
      try simp only [Act.put, List.setIfInBounds_toArray, List.set_cons_zero, List.set_cons_succ]
      refine wpAnyH_take (i := 10) (v := ?_) rfl (by kernel_rfl) (by kernel_rfl) (by kernel_rfl) (fun _ _ _ h => h) (Or.inl ⟨by rfl, ?_⟩) (by assumption) ?_
      rotate_left
      · (intro w' hSw; (try dsimp only at hSw); go_simp; try (with_reducible rfl))
      change wpAnyH _ _ _ _ _ _ _ (Act.put _ (some 72) _) _
      try simp only [Act.put, List.setIfInBounds_toArray, List.set_cons_zero, List.set_cons_succ]
      refine wpAnyH_ready (rs := [9]) (by kernel_rfl) (by simp) ?_
      refine AllReadyH.cons (i := 9) rfl (fun K hK => ?_) AllReadyH.nil
      simp only [List.getElem_toArray, List.getElem_cons_succ, List.getElem_cons_zero]
      rw [if_pos (by rfl)]
      refine wp_append_lies _ (.tmp 68) (.tmp 70) 61 rfl (nb + 1) 3 i1 (.int .i64 0) 1 8 Tryd.underlying61 hi1 hz3 hz4 hz5 rfl (by decide) (.slice a2 kids.length k2) kids.length (intsJ kids) (by first | rfl | simp [Act.eval, Act.put]) HS7.out.drow ⟨bk7, 0, none⟩ 1 1 [.int .i64 (kid : Int)] (by first | rfl | simp [Act.eval, Act.put]) rfl (World.news_of_block (cs := #[.int .i64 (kid : Int)]) (t := 3) (fr := (0, 0)) NB7.out) (oneI _) (by decide) (by unfold maxLen; omega) (by omega) HS7.out.lt1 _ rfl ?_
      intro g9 cap9 wv9 hown9 hgrow9 hat9 hlt9
      have HS9 := hid (HS7.out.growD hgrow9 (hat9.imp_right (fun h => Nat.le_of_eq h.symm)) hown9)
      clear hown9 hgrow9 hat9 hlt9
      refine hK.out _ _ trivial (fun hHeld => ?_)
      clear hK K
      try simp only [Act.put, List.setIfInBounds_toArray, List.set_cons_zero, List.set_cons_succ]
      obtain ⟨n2, n3, z2, z3⟩ := HS9.out.cells HGD.out.gi.blk
      refine wpAnyH_ready (rs := [11]) (by kernel_rfl) (by simp) ?_
      refine AllReadyH.cons (i := 11) rfl (fun K hK => ?_) AllReadyH.nil
      simp only [List.getElem_toArray, List.getElem_cons_succ, List.getElem_cons_zero]
      rw [if_pos (by rfl)]
      go_simp
      refine hK.out _ _ trivial (fun hHeld => ?_)
      clear hK K
      try simp only [Act.put, List.setIfInBounds_toArray, List.set_cons_zero, List.set_cons_succ]
      refine wpAnyH_take (i := 12) (v := ?_) rfl (by kernel_rfl) (by kernel_rfl) (by kernel_rfl) (fun _ _ _ h => h) (Or.inl ⟨by rfl, ?_⟩) (by assumption) ?_
      rotate_left
      · (intro w' hSw; (try dsimp only at hSw); go_simp; try (with_reducible rfl))
      change wpAnyH _ _ _ _ _ _ _ (Act.put _ (some 73) _) _
      try simp only [Act.put, List.setIfInBounds_toArray, List.set_cons_zero, List.set_cons_succ]
      refine wpAnyH_ready (rs := [13]) (by kernel_rfl) (by simp) ?_
      refine AllReadyH.cons (i := 13) rfl (fun K hK => ?_) AllReadyH.nil
      simp only [List.getElem_toArray, List.getElem_cons_succ, List.getElem_cons_zero]
      rw [if_pos (by rfl)]
      go_simp
      refine hK.out _ _ trivial (fun hHeld => ?_)
      clear hK K
      try simp only [Act.put, List.setIfInBounds_toArray, List.set_cons_zero, List.set_cons_succ]
      refine wpAnyH_done (by kernel_rfl) ?_ _
      go_wp2
      go_meet
      case rel => exact ⟨_, _, HS9.out.ji HJD.out HGD.out.gi.gnb _ _, HGD.out.both HS9.out HMZ.out ⟨by omega, by omega⟩⟩
      refine AllReadyH.cons (i := 6) rfl (fun K hK => ?_) ?_
      simp only [List.getElem_toArray, List.getElem_cons_succ, List.getElem_cons_zero]
      rw [if_pos (by rfl)]
      have n3 := (HS2.out.cells HGD.out.gi.blk).2.1
      go_simp
      refine hK.out _ _ trivial (fun hHeld => ?_)
      clear hK K n3
      try simp only [Act.put, List.setIfInBounds_toArray, List.set_cons_zero, List.set_cons_succ]
      refine wpAnyH_ready (rs := [4, 8]) (by kernel_rfl) (by simp) ?_
      refine AllReadyH.cons (i := 4) rfl (fun K hK => ?_) ?_
      simp only [List.getElem_toArray, List.getElem_cons_succ, List.getElem_cons_zero]
      rw [if_pos (by rfl)]
      refine wp_append_lies _ (.tmp 63) (.tmp 65) 73 rfl (nb + 1) 9 ii (.string ⟨#[]⟩) 1 16 Tryd.underlying73 hi hz0 hz1 hz2 rfl (by decide) (.slice a1 keys.length k1) keys.length (strCellsL keys) (by first | rfl | simp [Act.eval, Act.put]) HS2.out.krow ⟨bk2, 0, none⟩ 1 1 [.string M] (by first | rfl | simp [Act.eval, Act.put]) rfl (World.news_of_block (cs := #[.string M]) (t := 9) (fr := (0, 0)) NB2.out) (oneS M) (by decide) (by unfold maxLen; omega) (by omega) HS2.out.lt1 _ rfl ?_
      intro g11 cap11 wv11 hown11 hgrow11 hat11 hlt11
      have HS11 := hid (HS2.out.growK hgrow11 (hat11.imp_right (fun h => Nat.le_of_eq h.symm)) hown11)
      clear hown11 hgrow11 hat11 hlt11
      refine hK.out _ _ trivial (fun hHeld => ?_)
      clear hK K
      try simp only [Act.put, List.setIfInBounds_toArray, List.set_cons_zero, List.set_cons_succ]
      refine wpAnyH_take (i := 10) (v := ?_) rfl (by kernel_rfl) (by kernel_rfl) (by kernel_rfl) (fun _ _ _ h => h) (Or.inl ⟨by rfl, ?_⟩) (by assumption) ?_
      rotate_left
      · (intro w' hSw; (try dsimp only at hSw); go_simp; try (with_reducible rfl))
      change wpAnyH _ _ _ _ _ _ _ (Act.put _ (some 72) _) _
      try simp only [Act.put, List.setIfInBounds_toArray, List.set_cons_zero, List.set_cons_succ]
      refine wpAnyH_ready (rs := [8]) (by kernel_rfl) (by simp) ?_
      refine AllReadyH.cons (i := 8) rfl (fun K hK => ?_) AllReadyH.nil
      simp only [List.getElem_toArray, List.getElem_cons_succ, List.getElem_cons_zero]
      rw [if_pos (by rfl)]
      go_simp
      refine hK.out _ _ trivial (fun hHeld => ?_)
      clear hK K
      try simp only [Act.put, List.setIfInBounds_toArray, List.set_cons_zero, List.set_cons_succ]
      have HS12 := hid (HS11.out.alloc (.cells #[.int .i64 (kid : Int)] 3))
      have NB12 := hid (heap_alloc_new wv11 (.cells #[.int .i64 (kid : Int)] 3))
      obtain ⟨wv12, hw12⟩ : ∃ x, wv11.alloc (.cells #[.int .i64 (kid : Int)] 3) = x := ⟨_, rfl⟩
      rw [hw12] at HS12 NB12 ⊢
      obtain ⟨bk12, hb12⟩ : ∃ x, wv11.heap.size = x := ⟨_, rfl⟩
      have BL12 := hid (show wv0.heap.size ≤ bk12 by rw [← hb12]; exact HS11.out.size)
      rw [hb12] at NB12 ⊢
      clear hw12 hb12
      refine wpAnyH_ready (rs := [9]) (by kernel_rfl) (by simp) ?_
      refine AllReadyH.cons (i := 9) rfl (fun K hK => ?_) AllReadyH.nil
      simp only [List.getElem_toArray, List.getElem_cons_succ, List.getElem_cons_zero]
      rw [if_pos (by rfl)]
      refine wp_append_lies _ (.tmp 68) (.tmp 70) 61 rfl (nb + 1) 3 i1 (.int .i64 0) 1 8 Tryd.underlying61 hi1 hz3 hz4 hz5 rfl (by decide) (.slice a2 kids.length k2) kids.length (intsJ kids) (by first | rfl | simp [Act.eval, Act.put]) HS12.out.drow ⟨bk12, 0, none⟩ 1 1 [.int .i64 (kid : Int)] (by first | rfl | simp [Act.eval, Act.put]) rfl (World.news_of_block (cs := #[.int .i64 (kid : Int)]) (t := 3) (fr := (0, 0)) NB12.out) (oneI _) (by decide) (by unfold maxLen; omega) (by omega) HS12.out.lt1 _ rfl ?_
      intro g13 cap13 wv13 hown13 hgrow13 hat13 hlt13
      have HS13 := hid (HS12.out.growD hgrow13 (hat13.imp_right (fun h => Nat.le_of_eq h.symm)) hown13)
      clear hown13 hgrow13 hat13 hlt13
      refine hK.out _ _ trivial (fun hHeld => ?_)
      clear hK K
      try simp only [Act.put, List.setIfInBounds_toArray, List.set_cons_zero, List.set_cons_succ]
      obtain ⟨n2, n3, z2, z3⟩ := HS13.out.cells HGD.out.gi.blk
      refine wpAnyH_ready (rs := [11]) (by kernel_rfl) (by simp) ?_
      refine AllReadyH.cons (i := 11) rfl (fun K hK => ?_) AllReadyH.nil
      simp only [List.getElem_toArray, List.getElem_cons_succ, List.getElem_cons_zero]
      rw [if_pos (by rfl)]
      go_simp
      refine hK.out _ _ trivial (fun hHeld => ?_)
      clear hK K
      try simp only [Act.put, List.setIfInBounds_toArray, List.set_cons_zero, List.set_cons_succ]
      refine wpAnyH_take (i := 12) (v := ?_) rfl (by kernel_rfl) (by kernel_rfl) (by kernel_rfl) (fun _ _ _ h => h) (Or.inl ⟨by rfl, ?_⟩) (by assumption) ?_
      rotate_left
      · (intro w' hSw; (try dsimp only at hSw); go_simp; try (with_reducible rfl))
      change wpAnyH _ _ _ _ _ _ _ (Act.put _ (some 73) _) _
      try simp only [Act.put, List.setIfInBounds_toArray, List.set_cons_zero, List.set_cons_succ]
      refine wpAnyH_ready (rs := [13]) (by kernel_rfl) (by simp) ?_
      refine AllReadyH.cons (i := 13) rfl (fun K hK => ?_) AllReadyH.nil
      simp only [List.getElem_toArray, List.getElem_cons_succ, List.getElem_cons_zero]
      rw [if_pos (by rfl)]
      go_simp
      refine hK.out _ _ trivial (fun hHeld => ?_)
      clear hK K
      try simp only [Act.put, List.setIfInBounds_toArray, List.set_cons_zero, List.set_cons_succ]
      refine wpAnyH_done (by kernel_rfl) ?_ _
      go_wp2
      go_meet
      case rel => exact ⟨_, _, HS13.out.ji HJD.out HGD.out.gi.gnb _ _, HGD.out.both HS13.out HMZ.out ⟨by omega, by omega⟩⟩
      refine AllReadyH.cons (i := 8) rfl (fun K hK => ?_) AllReadyH.nil
      simp only [List.getElem_toArray, List.getElem_cons_succ, List.getElem_cons_zero]
      rw [if_pos (by rfl)]
      go_simp
      refine hK.out _ _ trivial (fun hHeld => ?_)
      clear hK K
      try simp only [Act.put, List.setIfInBounds_toArray, List.set_cons_zero, List.set_cons_succ]
      have HS14 := hid (HS2.out.alloc (.cells #[.int .i64 (kid : Int)] 3))
      have NB14 := hid (heap_alloc_new wv2 (.cells #[.int .i64 (kid : Int)] 3))
      have NO14 := hid (((ext_alloc wv2 (.cells #[.int .i64 (kid : Int)] 3)).block bk2 (Array.getElem?_eq_some_iff.1 NB2.out).1).trans NB2.out)
      obtain ⟨wv14, hw14⟩ : ∃ x, wv2.alloc (.cells #[.int .i64 (kid : Int)] 3) = x := ⟨_, rfl⟩
      rw [hw14] at HS14 NB14 NO14 ⊢
      obtain ⟨bk14, hb14⟩ : ∃ x, wv2.heap.size = x := ⟨_, rfl⟩
      have BL14 := hid (show wv0.heap.size ≤ bk14 by rw [← hb14]; exact HS2.out.size)
      rw [hb14] at NB14 ⊢
      clear hw14 hb14
      refine wpAnyH_ready (rs := [4]) (by kernel_rfl) (by simp) ?_
      refine AllReadyH.cons (i := 4) rfl (fun K hK => ?_) AllReadyH.nil
      simp only [List.getElem_toArray, List.getElem_cons_succ, List.getElem_cons_zero]
      rw [if_pos (by rfl)]
      refine wp_append_lies _ (.tmp 63) (.tmp 65) 73 rfl (nb + 1) 9 ii (.string ⟨#[]⟩) 1 16 Tryd.underlying73 hi hz0 hz1 hz2 rfl (by decide) (.slice a1 keys.length k1) keys.length (strCellsL keys) (by first | rfl | simp [Act.eval, Act.put]) HS14.out.krow ⟨bk2, 0, none⟩ 1 1 [.string M] (by first | rfl | simp [Act.eval, Act.put]) rfl (World.news_of_block (cs := #[.string M]) (t := 9) (fr := (0, 0)) NO14.out) (oneS M) (by decide) (by unfold maxLen; omega) (by omega) HS14.out.lt1 _ rfl ?_
      intro g15 cap15 wv15 hown15 hgrow15 hat15 hlt15
      have HS15 := hid (HS14.out.growK hgrow15 (hat15.imp_right (fun h => Nat.le_of_eq h.symm)) hown15)
      have NO15 := hid ((hgrow15.block bk14 (Array.getElem?_eq_some_iff.1 NB14.out).1 (fun e => by have := (HS14.out.klt _ e.symm).2; have := BL14.out; omega)).trans NB14.out)
      clear hown15 hgrow15 hat15 hlt15
      refine hK.out _ _ trivial (fun hHeld => ?_)
      clear hK K
      try simp only [Act.put, List.setIfInBounds_toArray, List.set_cons_zero, List.set_cons_succ]
      refine wpAnyH_take (i := 10) (v := ?_) rfl (by kernel_rfl) (by kernel_rfl) (by kernel_rfl) (fun _ _ _ h => h) (Or.inl ⟨by rfl, ?_⟩) (by assumption) ?_
      rotate_left
      · (intro w' hSw; (try dsimp only at hSw); go_simp; try (with_reducible rfl))
      change wpAnyH _ _ _ _ _ _ _ (Act.put _ (some 72) _) _
      try simp only [Act.put, List.setIfInBounds_toArray, List.set_cons_zero, List.set_cons_succ]
      refine wpAnyH_ready (rs := [9]) (by kernel_rfl) (by simp) ?_
      refine AllReadyH.cons (i := 9) rfl (fun K hK => ?_) AllReadyH.nil
      simp only [List.getElem_toArray, List.getElem_cons_succ, List.getElem_cons_zero]
      rw [if_pos (by rfl)]
      refine wp_append_lies _ (.tmp 68) (.tmp 70) 61 rfl (nb + 1) 3 i1 (.int .i64 0) 1 8 Tryd.underlying61 hi1 hz3 hz4 hz5 rfl (by decide) (.slice a2 kids.length k2) kids.length (intsJ kids) (by first | rfl | simp [Act.eval, Act.put]) HS15.out.drow ⟨bk14, 0, none⟩ 1 1 [.int .i64 (kid : Int)] (by first | rfl | simp [Act.eval, Act.put]) rfl (World.news_of_block (cs := #[.int .i64 (kid : Int)]) (t := 3) (fr := (0, 0)) NO15.out) (oneI _) (by decide) (by unfold maxLen; omega) (by omega) HS15.out.lt1 _ rfl ?_
      intro g16 cap16 wv16 hown16 hgrow16 hat16 hlt16
      have HS16 := hid (HS15.out.growD hgrow16 (hat16.imp_right (fun h => Nat.le_of_eq h.symm)) hown16)
      clear hown16 hgrow16 hat16 hlt16
      refine hK.out _ _ trivial (fun hHeld => ?_)
      clear hK K
      try simp only [Act.put, List.setIfInBounds_toArray, List.set_cons_zero, List.set_cons_succ]
      obtain ⟨n2, n3, z2, z3⟩ := HS16.out.cells HGD.out.gi.blk
      refine wpAnyH_ready (rs := [11]) (by kernel_rfl) (by simp) ?_
      refine AllReadyH.cons (i := 11) rfl (fun K hK => ?_) AllReadyH.nil
      simp only [List.getElem_toArray, List.getElem_cons_succ, List.getElem_cons_zero]
      rw [if_pos (by rfl)]
      go_simp
      refine hK.out _ _ trivial (fun hHeld => ?_)
      clear hK K
      try simp only [Act.put, List.setIfInBounds_toArray, List.set_cons_zero, List.set_cons_succ]
      refine wpAnyH_take (i := 12) (v := ?_) rfl (by kernel_rfl) (by kernel_rfl) (by kernel_rfl) (fun _ _ _ h => h) (Or.inl ⟨by rfl, ?_⟩) (by assumption) ?_
      rotate_left
      · (intro w' hSw; (try dsimp only at hSw); go_simp; try (with_reducible rfl))
      change wpAnyH _ _ _ _ _ _ _ (Act.put _ (some 73) _) _
      try simp only [Act.put, List.setIfInBounds_toArray, List.set_cons_zero, List.set_cons_succ]
      refine wpAnyH_ready (rs := [13]) (by kernel_rfl) (by simp) ?_
      refine AllReadyH.cons (i := 13) rfl (fun K hK => ?_) AllReadyH.nil
      simp only [List.getElem_toArray, List.getElem_cons_succ, List.getElem_cons_zero]
      rw [if_pos (by rfl)]
      go_simp
      refine hK.out _ _ trivial (fun hHeld => ?_)
      clear hK K
      try simp only [Act.put, List.setIfInBounds_toArray, List.set_cons_zero, List.set_cons_succ]
      refine wpAnyH_done (by kernel_rfl) ?_ _
      go_wp2
      go_meet
      case rel => exact ⟨_, _, HS16.out.ji HJD.out HGD.out.gi.gnb _ _, HGD.out.both HS16.out HMZ.out ⟨by omega, by omega⟩⟩
      refine AllReadyH.cons (i := 8) rfl (fun K hK => ?_) AllReadyH.nil
      simp only [List.getElem_toArray, List.getElem_cons_succ, List.getElem_cons_zero]
      rw [if_pos (by rfl)]
      go_simp
      refine hK.out _ _ trivial (fun hHeld => ?_)
      clear hK K
      try simp only [Act.put, List.setIfInBounds_toArray, List.set_cons_zero, List.set_cons_succ]
      have HS17 := hid (HS2.out.alloc (.cells #[.int .i64 (kid : Int)] 3))
      have NB17 := hid (heap_alloc_new wv2 (.cells #[.int .i64 (kid : Int)] 3))
      have NO17 := hid (((ext_alloc wv2 (.cells #[.int .i64 (kid : Int)] 3)).block bk2 (Array.getElem?_eq_some_iff.1 NB2.out).1).trans NB2.out)
      obtain ⟨wv17, hw17⟩ : ∃ x, wv2.alloc (.cells #[.int .i64 (kid : Int)] 3) = x := ⟨_, rfl⟩
      rw [hw17] at HS17 NB17 NO17 ⊢
      obtain ⟨bk17, hb17⟩ : ∃ x, wv2.heap.size = x := ⟨_, rfl⟩
      have BL17 := hid (show wv0.heap.size ≤ bk17 by rw [← hb17]; exact HS2.out.size)
      rw [hb17] at NB17 ⊢
      clear hw17 hb17
      refine wpAnyH_ready (rs := [4, 6]) (by kernel_rfl) (by simp) ?_
      refine AllReadyH.cons (i := 4) rfl (fun K hK => ?_) ?_
      simp only [List.getElem_toArray, List.getElem_cons_succ, List.getElem_cons_zero]
      rw [if_pos (by rfl)]
      refine wp_append_lies _ (.tmp 63) (.tmp 65) 73 rfl (nb + 1) 9 ii (.string ⟨#[]⟩) 1 16 Tryd.underlying73 hi hz0 hz1 hz2 rfl (by decide) (.slice a1 keys.length k1) keys.length (strCellsL keys) (by first | rfl | simp [Act.eval, Act.put]) HS17.out.krow ⟨bk2, 0, none⟩ 1 1 [.string M] (by first | rfl | simp [Act.eval, Act.put]) rfl (World.news_of_block (cs := #[.string M]) (t := 9) (fr := (0, 0)) NO17.out) (oneS M) (by decide) (by unfold maxLen; omega) (by omega) HS17.out.lt1 _ rfl ?_
      intro g18 cap18 wv18 hown18 hgrow18 hat18 hlt18
      have HS18 := hid (HS17.out.growK hgrow18 (hat18.imp_right (fun h => Nat.le_of_eq h.symm)) hown18)
      have NO18 := hid ((hgrow18.block bk17 (Array.getElem?_eq_some_iff.1 NB17.out).1 (fun e => by have := (HS17.out.klt _ e.symm).2; have := BL17.out; omega)).trans NB17.out)
      clear hown18 hgrow18 hat18 hlt18
      refine hK.out _ _ trivial (fun hHeld => ?_)
      clear hK K
      try simp only [Act.put, List.setIfInBounds_toArray, List.set_cons_zero, List.set_cons_succ]
      refine wpAnyH_ready (rs := [6]) (by kernel_rfl) (by simp) ?_
      refine AllReadyH.cons (i := 6) rfl (fun K hK => ?_) AllReadyH.nil
      simp only [List.getElem_toArray, List.getElem_cons_succ, List.getElem_cons_zero]
      rw [if_pos (by rfl)]
      have n3 := (HS18.out.cells HGD.out.gi.blk).2.1
      go_simp
      refine hK.out _ _ trivial (fun hHeld => ?_)
      clear hK K n3
      try simp only [Act.put, List.setIfInBounds_toArray, List.set_cons_zero, List.set_cons_succ]
      refine wpAnyH_take (i := 10) (v := ?_) rfl (by kernel_rfl) (by kernel_rfl) (by kernel_rfl) (fun _ _ _ h => h) (Or.inl ⟨by rfl, ?_⟩) (by assumption) ?_
      rotate_left
      · (intro w' hSw; (try dsimp only at hSw); go_simp; try (with_reducible rfl))
      change wpAnyH _ _ _ _ _ _ _ (Act.put _ (some 72) _) _
      try simp only [Act.put, List.setIfInBounds_toArray, List.set_cons_zero, List.set_cons_succ]
      refine wpAnyH_ready (rs := [9]) (by kernel_rfl) (by simp) ?_
      refine AllReadyH.cons (i := 9) rfl (fun K hK => ?_) AllReadyH.nil
      simp only [List.getElem_toArray, List.getElem_cons_succ, List.getElem_cons_zero]
      rw [if_pos (by rfl)]
      refine wp_append_lies _ (.tmp 68) (.tmp 70) 61 rfl (nb + 1) 3 i1 (.int .i64 0) 1 8 Tryd.underlying61 hi1 hz3 hz4 hz5 rfl (by decide) (.slice a2 kids.length k2) kids.length (intsJ kids) (by first | rfl | simp [Act.eval, Act.put]) HS18.out.drow ⟨bk17, 0, none⟩ 1 1 [.int .i64 (kid : Int)] (by first | rfl | simp [Act.eval, Act.put]) rfl (World.news_of_block (cs := #[.int .i64 (kid : Int)]) (t := 3) (fr := (0, 0)) NO18.out) (oneI _) (by decide) (by unfold maxLen; omega) (by omega) HS18.out.lt1 _ rfl ?_
      intro g20 cap20 wv20 hown20 hgrow20 hat20 hlt20
      have HS20 := hid (HS18.out.growD hgrow20 (hat20.imp_right (fun h => Nat.le_of_eq h.symm)) hown20)
      clear hown20 hgrow20 hat20 hlt20
      refine hK.out _ _ trivial (fun hHeld => ?_)
      clear hK K
      try simp only [Act.put, List.setIfInBounds_toArray, List.set_cons_zero, List.set_cons_succ]
      obtain ⟨n2, n3, z2, z3⟩ := HS20.out.cells HGD.out.gi.blk
      refine wpAnyH_ready (rs := [11]) (by kernel_rfl) (by simp) ?_
      refine AllReadyH.cons (i := 11) rfl (fun K hK => ?_) AllReadyH.nil
      simp only [List.getElem_toArray, List.getElem_cons_succ, List.getElem_cons_zero]
      rw [if_pos (by rfl)]
      go_simp
      refine hK.out _ _ trivial (fun hHeld => ?_)
      clear hK K
      try simp only [Act.put, List.setIfInBounds_toArray, List.set_cons_zero, List.set_cons_succ]
      refine wpAnyH_take (i := 12) (v := ?_) rfl (by kernel_rfl) (by kernel_rfl) (by kernel_rfl) (fun _ _ _ h => h) (Or.inl ⟨by rfl, ?_⟩) (by assumption) ?_
      rotate_left
      · (intro w' hSw; (try dsimp only at hSw); go_simp; try (with_reducible rfl))
      change wpAnyH _ _ _ _ _ _ _ (Act.put _ (some 73) _) _
      try simp only [Act.put, List.setIfInBounds_toArray, List.set_cons_zero, List.set_cons_succ]
      refine wpAnyH_ready (rs := [13]) (by kernel_rfl) (by simp) ?_
      refine AllReadyH.cons (i := 13) rfl (fun K hK => ?_) AllReadyH.nil
      simp only [List.getElem_toArray, List.getElem_cons_succ, List.getElem_cons_zero]
      rw [if_pos (by rfl)]
      go_simp
      refine hK.out _ _ trivial (fun hHeld => ?_)
      clear hK K
      try simp only [Act.put, List.setIfInBounds_toArray, List.set_cons_zero, List.set_cons_succ]
      refine wpAnyH_done (by kernel_rfl) ?_ _
      go_wp2
      go_meet
      case rel => exact ⟨_, _, HS20.out.ji HJD.out HGD.out.gi.gnb _ _, HGD.out.both HS20.out HMZ.out ⟨by omega, by omega⟩⟩
      refine AllReadyH.cons (i := 6) rfl (fun K hK => ?_) AllReadyH.nil
      simp only [List.getElem_toArray, List.getElem_cons_succ, List.getElem_cons_zero]
      rw [if_pos (by rfl)]
      have n3 := (HS17.out.cells HGD.out.gi.blk).2.1
      go_simp
      refine hK.out _ _ trivial (fun hHeld => ?_)
      clear hK K n3
      try simp only [Act.put, List.setIfInBounds_toArray, List.set_cons_zero, List.set_cons_succ]
      refine wpAnyH_ready (rs := [4]) (by kernel_rfl) (by simp) ?_
      refine AllReadyH.cons (i := 4) rfl (fun K hK => ?_) AllReadyH.nil
      simp only [List.getElem_toArray, List.getElem_cons_succ, List.getElem_cons_zero]
      rw [if_pos (by rfl)]
      refine wp_append_lies _ (.tmp 63) (.tmp 65) 73 rfl (nb + 1) 9 ii (.string ⟨#[]⟩) 1 16 Tryd.underlying73 hi hz0 hz1 hz2 rfl (by decide) (.slice a1 keys.length k1) keys.length (strCellsL keys) (by first | rfl | simp [Act.eval, Act.put]) HS17.out.krow ⟨bk2, 0, none⟩ 1 1 [.string M] (by first | rfl | simp [Act.eval, Act.put]) rfl (World.news_of_block (cs := #[.string M]) (t := 9) (fr := (0, 0)) NO17.out) (oneS M) (by decide) (by unfold maxLen; omega) (by omega) HS17.out.lt1 _ rfl ?_
      intro g22 cap22 wv22 hown22 hgrow22 hat22 hlt22
      have HS22 := hid (HS17.out.growK hgrow22 (hat22.imp_right (fun h => Nat.le_of_eq h.symm)) hown22)
      have NO22 := hid ((hgrow22.block bk17 (Array.getElem?_eq_some_iff.1 NB17.out).1 (fun e => by have := (HS17.out.klt _ e.symm).2; have := BL17.out; omega)).trans NB17.out)
      clear hown22 hgrow22 hat22 hlt22
      refine hK.out _ _ trivial (fun hHeld => ?_)
      clear hK K
      try simp only [Act.put, List.setIfInBounds_toArray, List.set_cons_zero, List.set_cons_succ]
      refine wpAnyH_take (i := 10) (v := ?_) rfl (by kernel_rfl) (by kernel_rfl) (by kernel_rfl) (fun _ _ _ h => h) (Or.inl ⟨by rfl, ?_⟩) (by assumption) ?_
      rotate_left
      · (intro w' hSw; (try dsimp only at hSw); go_simp; try (with_reducible rfl))
      change wpAnyH _ _ _ _ _ _ _ (Act.put _ (some 72) _) _
      try simp only [Act.put, List.setIfInBounds_toArray, List.set_cons_zero, List.set_cons_succ]
      refine wpAnyH_ready (rs := [9]) (by kernel_rfl) (by simp) ?_
      refine AllReadyH.cons (i := 9) rfl (fun K hK => ?_) AllReadyH.nil
      simp only [List.getElem_toArray, List.getElem_cons_succ, List.getElem_cons_zero]
      rw [if_pos (by rfl)]
      refine wp_append_lies _ (.tmp 68) (.tmp 70) 61 rfl (nb + 1) 3 i1 (.int .i64 0) 1 8 Tryd.underlying61 hi1 hz3 hz4 hz5 rfl (by decide) (.slice a2 kids.length k2) kids.length (intsJ kids) (by first | rfl | simp [Act.eval, Act.put]) HS22.out.drow ⟨bk17, 0, none⟩ 1 1 [.int .i64 (kid : Int)] (by first | rfl | simp [Act.eval, Act.put]) rfl (World.news_of_block (cs := #[.int .i64 (kid : Int)]) (t := 3) (fr := (0, 0)) NO22.out) (oneI _) (by decide) (by unfold maxLen; omega) (by omega) HS22.out.lt1 _ rfl ?_
      intro g23 cap23 wv23 hown23 hgrow23 hat23 hlt23
      have HS23 := hid (HS22.out.growD hgrow23 (hat23.imp_right (fun h => Nat.le_of_eq h.symm)) hown23)
      clear hown23 hgrow23 hat23 hlt23
      refine hK.out _ _ trivial (fun hHeld => ?_)
      clear hK K
      try simp only [Act.put, List.setIfInBounds_toArray, List.set_cons_zero, List.set_cons_succ]
      obtain ⟨n2, n3, z2, z3⟩ := HS23.out.cells HGD.out.gi.blk
      refine wpAnyH_ready (rs := [11]) (by kernel_rfl) (by simp) ?_
      refine AllReadyH.cons (i := 11) rfl (fun K hK => ?_) AllReadyH.nil
      simp only [List.getElem_toArray, List.getElem_cons_succ, List.getElem_cons_zero]
      rw [if_pos (by rfl)]
      go_simp
      refine hK.out _ _ trivial (fun hHeld => ?_)
      clear hK K
      try simp only [Act.put, List.setIfInBounds_toArray, List.set_cons_zero, List.set_cons_succ]
      refine wpAnyH_take (i := 12) (v := ?_) rfl (by kernel_rfl) (by kernel_rfl) (by kernel_rfl) (fun _ _ _ h => h) (Or.inl ⟨by rfl, ?_⟩) (by assumption) ?_
      rotate_left
      · (intro w' hSw; (try dsimp only at hSw); go_simp; try (with_reducible rfl))
      change wpAnyH _ _ _ _ _ _ _ (Act.put _ (some 73) _) _
      try simp only [Act.put, List.setIfInBounds_toArray, List.set_cons_zero, List.set_cons_succ]
      refine wpAnyH_ready (rs := [13]) (by kernel_rfl) (by simp) ?_
      refine AllReadyH.cons (i := 13) rfl (fun K hK => ?_) AllReadyH.nil
      simp only [List.getElem_toArray, List.getElem_cons_succ, List.getElem_cons_zero]
      rw [if_pos (by rfl)]
      go_simp
      refine hK.out _ _ trivial (fun hHeld => ?_)
      clear hK K
      try simp only [Act.put, List.setIfInBounds_toArray, List.set_cons_zero, List.set_cons_succ]
      refine wpAnyH_done (by kernel_rfl) ?_ _
      go_wp2
      go_meet
      case rel => exact ⟨_, _, HS23.out.ji HJD.out HGD.out.gi.gnb _ _, HGD.out.both HS23.out HMZ.out ⟨by omega, by omega⟩⟩
      refine AllReadyH.cons (i := 6) rfl (fun K hK => ?_) ?_
      simp only [List.getElem_toArray, List.getElem_cons_succ, List.getElem_cons_zero]
      rw [if_pos (by rfl)]
      have n3 := (HSA.out.cells HGD.out.gi.blk).2.1
      go_simp
      refine hK.out _ _ trivial (fun hHeld => ?_)
      clear hK K n3
      try simp only [Act.put, List.setIfInBounds_toArray, List.set_cons_zero, List.set_cons_succ]
      refine wpAnyH_ready (rs := [3, 8]) (by kernel_rfl) (by simp) ?_
      refine AllReadyH.cons (i := 3) rfl (fun K hK => ?_) ?_
      simp only [List.getElem_toArray, List.getElem_cons_succ, List.getElem_cons_zero]
      rw [if_pos (by rfl)]
      go_simp
      refine hK.out _ _ trivial (fun hHeld => ?_)
      clear hK K
      try simp only [Act.put, List.setIfInBounds_toArray, List.set_cons_zero, List.set_cons_succ]
      have HS25 := hid (HSA.out.alloc (.cells #[.string M] 9))
      have NB25 := hid (heap_alloc_new wv0 (.cells #[.string M] 9))
      obtain ⟨wv25, hw25⟩ : ∃ x, wv0.alloc (.cells #[.string M] 9) = x := ⟨_, rfl⟩
      rw [hw25] at HS25 NB25 ⊢
      obtain ⟨bk25, hb25⟩ : ∃ x, wv0.heap.size = x := ⟨_, rfl⟩
      have BL25 := hid (show wv0.heap.size ≤ bk25 by rw [← hb25]; exact HSA.out.size)
      rw [hb25] at NB25 ⊢
      clear hw25 hb25
      refine wpAnyH_ready (rs := [4, 8]) (by kernel_rfl) (by simp) ?_
      refine AllReadyH.cons (i := 4) rfl (fun K hK => ?_) ?_
      simp only [List.getElem_toArray, List.getElem_cons_succ, List.getElem_cons_zero]
      rw [if_pos (by rfl)]
      refine wp_append_lies _ (.tmp 63) (.tmp 65) 73 rfl (nb + 1) 9 ii (.string ⟨#[]⟩) 1 16 Tryd.underlying73 hi hz0 hz1 hz2 rfl (by decide) (.slice a1 keys.length k1) keys.length (strCellsL keys) (by first | rfl | simp [Act.eval, Act.put]) HS25.out.krow ⟨bk25, 0, none⟩ 1 1 [.string M] (by first | rfl | simp [Act.eval, Act.put]) rfl (World.news_of_block (cs := #[.string M]) (t := 9) (fr := (0, 0)) NB25.out) (oneS M) (by decide) (by unfold maxLen; omega) (by omega) HS25.out.lt1 _ rfl ?_
      intro g26 cap26 wv26 hown26 hgrow26 hat26 hlt26
      have HS26 := hid (HS25.out.growK hgrow26 (hat26.imp_right (fun h => Nat.le_of_eq h.symm)) hown26)
      clear hown26 hgrow26 hat26 hlt26
      refine hK.out _ _ trivial (fun hHeld => ?_)
      clear hK K
      try simp only [Act.put, List.setIfInBounds_toArray, List.set_cons_zero, List.set_cons_succ]
      refine wpAnyH_take (i := 10) (v := ?_) rfl (by kernel_rfl) (by kernel_rfl) (by kernel_rfl) (fun _ _ _ h => h) (Or.inl ⟨by rfl, ?_⟩) (by assumption) ?_
      rotate_left
      · (intro w' hSw; (try dsimp only at hSw); go_simp; try (with_reducible rfl))
      change wpAnyH _ _ _ _ _ _ _ (Act.put _ (some 72) _) _
      try simp only [Act.put, List.setIfInBounds_toArray, List.set_cons_zero, List.set_cons_succ]
      refine wpAnyH_ready (rs := [8]) (by kernel_rfl) (by simp) ?_
      refine AllReadyH.cons (i := 8) rfl (fun K hK => ?_) AllReadyH.nil
      simp only [List.getElem_toArray, List.getElem_cons_succ, List.getElem_cons_zero]
      rw [if_pos (by rfl)]
      go_simp
      refine hK.out _ _ trivial (fun hHeld => ?_)
      clear hK K
      try simp only [Act.put, List.setIfInBounds_toArray, List.set_cons_zero, List.set_cons_succ]
      have HS27 := hid (HS26.out.alloc (.cells #[.int .i64 (kid : Int)] 3))
      have NB27 := hid (heap_alloc_new wv26 (.cells #[.int .i64 (kid : Int)] 3))
      obtain ⟨wv27, hw27⟩ : ∃ x, wv26.alloc (.cells #[.int .i64 (kid : Int)] 3) = x := ⟨_, rfl⟩
      rw [hw27] at HS27 NB27 ⊢
      obtain ⟨bk27, hb27⟩ : ∃ x, wv26.heap.size = x := ⟨_, rfl⟩
      have BL27 := hid (show wv0.heap.size ≤ bk27 by rw [← hb27]; exact HS26.out.size)
      rw [hb27] at NB27 ⊢
      clear hw27 hb27
      refine wpAnyH_ready (rs := [9]) (by kernel_rfl) (by simp) ?_
      refine AllReadyH.cons (i := 9) rfl (fun K hK => ?_) AllReadyH.nil
      simp only [List.getElem_toArray, List.getElem_cons_succ, List.getElem_cons_zero]
      rw [if_pos (by rfl)]
      refine wp_append_lies _ (.tmp 68) (.tmp 70) 61 rfl (nb + 1) 3 i1 (.int .i64 0) 1 8 Tryd.underlying61 hi1 hz3 hz4 hz5 rfl (by decide) (.slice a2 kids.length k2) kids.length (intsJ kids) (by first | rfl | simp [Act.eval, Act.put]) HS27.out.drow ⟨bk27, 0, none⟩ 1 1 [.int .i64 (kid : Int)] (by first | rfl | simp [Act.eval, Act.put]) rfl (World.news_of_block (cs := #[.int .i64 (kid : Int)]) (t := 3) (fr := (0, 0)) NB27.out) (oneI _) (by decide) (by unfold maxLen; omega) (by omega) HS27.out.lt1 _ rfl ?_
      intro g28 cap28 wv28 hown28 hgrow28 hat28 hlt28
      have HS28 := hid (HS27.out.growD hgrow28 (hat28.imp_right (fun h => Nat.le_of_eq h.symm)) hown28)
      clear hown28 hgrow28 hat28 hlt28
      refine hK.out _ _ trivial (fun hHeld => ?_)
      clear hK K
      try simp only [Act.put, List.setIfInBounds_toArray, List.set_cons_zero, List.set_cons_succ]
      obtain ⟨n2, n3, z2, z3⟩ := HS28.out.cells HGD.out.gi.blk
      refine wpAnyH_ready (rs := [11]) (by kernel_rfl) (by simp) ?_
      refine AllReadyH.cons (i := 11) rfl (fun K hK => ?_) AllReadyH.nil
      simp only [List.getElem_toArray, List.getElem_cons_succ, List.getElem_cons_zero]
      rw [if_pos (by rfl)]
      go_simp
      refine hK.out _ _ trivial (fun hHeld => ?_)
      clear hK K
      try simp only [Act.put, List.setIfInBounds_toArray, List.set_cons_zero, List.set_cons_succ]
      refine wpAnyH_take (i := 12) (v := ?_) rfl (by kernel_rfl) (by kernel_rfl) (by kernel_rfl) (fun _ _ _ h => h) (Or.inl ⟨by rfl, ?_⟩) (by assumption) ?_
      rotate_left
      · (intro w' hSw; (try dsimp only at hSw); go_simp; try (with_reducible rfl))
      change wpAnyH _ _ _ _ _ _ _ (Act.put _ (some 73) _) _
      try simp only [Act.put, List.setIfInBounds_toArray, List.set_cons_zero, List.set_cons_succ]
      refine wpAnyH_ready (rs := [13]) (by kernel_rfl) (by simp) ?_
      refine AllReadyH.cons (i := 13) rfl (fun K hK => ?_) AllReadyH.nil
      simp only [List.getElem_toArray, List.getElem_cons_succ, List.getElem_cons_zero]
      rw [if_pos (by rfl)]
      go_simp
      refine hK.out _ _ trivial (fun hHeld => ?_)
      clear hK K
      try simp only [Act.put, List.setIfInBounds_toArray, List.set_cons_zero, List.set_cons_succ]
      refine wpAnyH_done (by kernel_rfl) ?_ _
      go_wp2
      go_meet
      case rel => exact ⟨_, _, HS28.out.ji HJD.out HGD.out.gi.gnb _ _, HGD.out.both HS28.out HMZ.out ⟨by omega, by omega⟩⟩
      refine AllReadyH.cons (i := 8) rfl (fun K hK => ?_) AllReadyH.nil
      simp only [List.getElem_toArray, List.getElem_cons_succ, List.getElem_cons_zero]
      rw [if_pos (by rfl)]
      go_simp
      refine hK.out _ _ trivial (fun hHeld => ?_)
      clear hK K
      try simp only [Act.put, List.setIfInBounds_toArray, List.set_cons_zero, List.set_cons_succ]
      have HS29 := hid (HS25.out.alloc (.cells #[.int .i64 (kid : Int)] 3))
      have NB29 := hid (heap_alloc_new wv25 (.cells #[.int .i64 (kid : Int)] 3))
      have NO29 := hid (((ext_alloc wv25 (.cells #[.int .i64 (kid : Int)] 3)).block bk25 (Array.getElem?_eq_some_iff.1 NB25.out).1).trans NB25.out)
      obtain ⟨wv29, hw29⟩ : ∃ x, wv25.alloc (.cells #[.int .i64 (kid : Int)] 3) = x := ⟨_, rfl⟩
      rw [hw29] at HS29 NB29 NO29 ⊢
      obtain ⟨bk29, hb29⟩ : ∃ x, wv25.heap.size = x := ⟨_, rfl⟩
      have BL29 := hid (show wv0.heap.size ≤ bk29 by rw [← hb29]; exact HS25.out.size)
      rw [hb29] at NB29 ⊢
      clear hw29 hb29
      refine wpAnyH_ready (rs := [4]) (by kernel_rfl) (by simp) ?_
      refine AllReadyH.cons (i := 4) rfl (fun K hK => ?_) AllReadyH.nil
      simp only [List.getElem_toArray, List.getElem_cons_succ, List.getElem_cons_zero]
      rw [if_pos (by rfl)]
      refine wp_append_lies _ (.tmp 63) (.tmp 65) 73 rfl (nb + 1) 9 ii (.string ⟨#[]⟩) 1 16 Tryd.underlying73 hi hz0 hz1 hz2 rfl (by decide) (.slice a1 keys.length k1) keys.length (strCellsL keys) (by first | rfl | simp [Act.eval, Act.put]) HS29.out.krow ⟨bk25, 0, none⟩ 1 1 [.string M] (by first | rfl | simp [Act.eval, Act.put]) rfl (World.news_of_block (cs := #[.string M]) (t := 9) (fr := (0, 0)) NO29.out) (oneS M) (by decide) (by unfold maxLen; omega) (by omega) HS29.out.lt1 _ rfl ?_
      intro g30 cap30 wv30 hown30 hgrow30 hat30 hlt30
      have HS30 := hid (HS29.out.growK hgrow30 (hat30.imp_right (fun h => Nat.le_of_eq h.symm)) hown30)
      have NO30 := hid ((hgrow30.block bk29 (Array.getElem?_eq_some_iff.1 NB29.out).1 (fun e => by have := (HS29.out.klt _ e.symm).2; have := BL29.out; omega)).trans NB29.out)
      clear hown30 hgrow30 hat30 hlt30
      refine hK.out _ _ trivial (fun hHeld => ?_)
      clear hK K
      try simp only [Act.put, List.setIfInBounds_toArray, List.set_cons_zero, List.set_cons_succ]
      refine wpAnyH_take (i := 10) (v := ?_) rfl (by kernel_rfl) (by kernel_rfl) (by kernel_rfl) (fun _ _ _ h => h) (Or.inl ⟨by rfl, ?_⟩) (by assumption) ?_
      rotate_left
      · (intro w' hSw; (try dsimp only at hSw); go_simp; try (with_reducible rfl))
      change wpAnyH _ _ _ _ _ _ _ (Act.put _ (some 72) _) _
      try simp only [Act.put, List.setIfInBounds_toArray, List.set_cons_zero, List.set_cons_succ]
      refine wpAnyH_ready (rs := [9]) (by kernel_rfl) (by simp) ?_
      refine AllReadyH.cons (i := 9) rfl (fun K hK => ?_) AllReadyH.nil
      simp only [List.getElem_toArray, List.getElem_cons_succ, List.getElem_cons_zero]
      rw [if_pos (by rfl)]
      refine wp_append_lies _ (.tmp 68) (.tmp 70) 61 rfl (nb + 1) 3 i1 (.int .i64 0) 1 8 Tryd.underlying61 hi1 hz3 hz4 hz5 rfl (by decide) (.slice a2 kids.length k2) kids.length (intsJ kids) (by first | rfl | simp [Act.eval, Act.put]) HS30.out.drow ⟨bk29, 0, none⟩ 1 1 [.int .i64 (kid : Int)] (by first | rfl | simp [Act.eval, Act.put]) rfl (World.news_of_block (cs := #[.int .i64 (kid : Int)]) (t := 3) (fr := (0, 0)) NO30.out) (oneI _) (by decide) (by unfold maxLen; omega) (by omega) HS30.out.lt1 _ rfl ?_
      intro g31 cap31 wv31 hown31 hgrow31 hat31 hlt31
      have HS31 := hid (HS30.out.growD hgrow31 (hat31.imp_right (fun h => Nat.le_of_eq h.symm)) hown31)
      clear hown31 hgrow31 hat31 hlt31
      refine hK.out _ _ trivial (fun hHeld => ?_)
      clear hK K
      try simp only [Act.put, List.setIfInBounds_toArray, List.set_cons_zero, List.set_cons_succ]
      obtain ⟨n2, n3, z2, z3⟩ := HS31.out.cells HGD.out.gi.blk
      refine wpAnyH_ready (rs := [11]) (by kernel_rfl) (by simp) ?_
      refine AllReadyH.cons (i := 11) rfl (fun K hK => ?_) AllReadyH.nil
      simp only [List.getElem_toArray, List.getElem_cons_succ, List.getElem_cons_zero]
      rw [if_pos (by rfl)]
      go_simp
      refine hK.out _ _ trivial (fun hHeld => ?_)
      clear hK K
      try simp only [Act.put, List.setIfInBounds_toArray, List.set_cons_zero, List.set_cons_succ]
      refine wpAnyH_take (i := 12) (v := ?_) rfl (by kernel_rfl) (by kernel_rfl) (by kernel_rfl) (fun _ _ _ h => h) (Or.inl ⟨by rfl, ?_⟩) (by assumption) ?_
      rotate_left
      · (intro w' hSw; (try dsimp only at hSw); go_simp; try (with_reducible rfl))
      change wpAnyH _ _ _ _ _ _ _ (Act.put _ (some 73) _) _
      try simp only [Act.put, List.setIfInBounds_toArray, List.set_cons_zero, List.set_cons_succ]
      refine wpAnyH_ready (rs := [13]) (by kernel_rfl) (by simp) ?_
      refine AllReadyH.cons (i := 13) rfl (fun K hK => ?_) AllReadyH.nil
      simp only [List.getElem_toArray, List.getElem_cons_succ, List.getElem_cons_zero]
      rw [if_pos (by rfl)]
      go_simp
      refine hK.out _ _ trivial (fun hHeld => ?_)
      clear hK K
      try simp only [Act.put, List.setIfInBounds_toArray, List.set_cons_zero, List.set_cons_succ]
      refine wpAnyH_done (by kernel_rfl) ?_ _
      go_wp2
      go_meet
      case rel => exact ⟨_, _, HS31.out.ji HJD.out HGD.out.gi.gnb _ _, HGD.out.both HS31.out HMZ.out ⟨by omega, by omega⟩⟩
      refine AllReadyH.cons (i := 8) rfl (fun K hK => ?_) AllReadyH.nil
      simp only [List.getElem_toArray, List.getElem_cons_succ, List.getElem_cons_zero]
      rw [if_pos (by rfl)]
      go_simp
      refine hK.out _ _ trivial (fun hHeld => ?_)
      clear hK K
      try simp only [Act.put, List.setIfInBounds_toArray, List.set_cons_zero, List.set_cons_succ]
      have HS32 := hid (HSA.out.alloc (.cells #[.int .i64 (kid : Int)] 3))
      have NB32 := hid (heap_alloc_new wv0 (.cells #[.int .i64 (kid : Int)] 3))
      obtain ⟨wv32, hw32⟩ : ∃ x, wv0.alloc (.cells #[.int .i64 (kid : Int)] 3) = x := ⟨_, rfl⟩
      rw [hw32] at HS32 NB32 ⊢
      obtain ⟨bk32, hb32⟩ : ∃ x, wv0.heap.size = x := ⟨_, rfl⟩
      have BL32 := hid (show wv0.heap.size ≤ bk32 by rw [← hb32]; exact HSA.out.size)
      rw [hb32] at NB32 ⊢
      clear hw32 hb32
      refine wpAnyH_ready (rs := [3]) (by kernel_rfl) (by simp) ?_
      refine AllReadyH.cons (i := 3) rfl (fun K hK => ?_) AllReadyH.nil
      simp only [List.getElem_toArray, List.getElem_cons_succ, List.getElem_cons_zero]
      rw [if_pos (by rfl)]
      go_simp
      refine hK.out _ _ trivial (fun hHeld => ?_)
      clear hK K
      try simp only [Act.put, List.setIfInBounds_toArray, List.set_cons_zero, List.set_cons_succ]
      have HS33 := hid (HS32.out.alloc (.cells #[.string M] 9))
      have NB33 := hid (heap_alloc_new wv32 (.cells #[.string M] 9))
      have NO33 := hid (((ext_alloc wv32 (.cells #[.string M] 9)).block bk32 (Array.getElem?_eq_some_iff.1 NB32.out).1).trans NB32.out)
      obtain ⟨wv33, hw33⟩ : ∃ x, wv32.alloc (.cells #[.string M] 9) = x := ⟨_, rfl⟩
      rw [hw33] at HS33 NB33 NO33 ⊢
      obtain ⟨bk33, hb33⟩ : ∃ x, wv32.heap.size = x := ⟨_, rfl⟩
      have BL33 := hid (show wv0.heap.size ≤ bk33 by rw [← hb33]; exact HS32.out.size)
      rw [hb33] at NB33 ⊢
      clear hw33 hb33
      refine wpAnyH_ready (rs := [4]) (by kernel_rfl) (by simp) ?_
      refine AllReadyH.cons (i := 4) rfl (fun K hK => ?_) AllReadyH.nil
      simp only [List.getElem_toArray, List.getElem_cons_succ, List.getElem_cons_zero]
      rw [if_pos (by rfl)]
      refine wp_append_lies _ (.tmp 63) (.tmp 65) 73 rfl (nb + 1) 9 ii (.string ⟨#[]⟩) 1 16 Tryd.underlying73 hi hz0 hz1 hz2 rfl (by decide) (.slice a1 keys.length k1) keys.length (strCellsL keys) (by first | rfl | simp [Act.eval, Act.put]) HS33.out.krow ⟨bk33, 0, none⟩ 1 1 [.string M] (by first | rfl | simp [Act.eval, Act.put]) rfl (World.news_of_block (cs := #[.string M]) (t := 9) (fr := (0, 0)) NB33.out) (oneS M) (by decide) (by unfold maxLen; omega) (by omega) HS33.out.lt1 _ rfl ?_
      intro g34 cap34 wv34 hown34 hgrow34 hat34 hlt34
      have HS34 := hid (HS33.out.growK hgrow34 (hat34.imp_right (fun h => Nat.le_of_eq h.symm)) hown34)
      have NO34 := hid ((hgrow34.block bk32 (Array.getElem?_eq_some_iff.1 NO33.out).1 (fun e => by have := (HS33.out.klt _ e.symm).2; have := BL32.out; omega)).trans NO33.out)
      clear hown34 hgrow34 hat34 hlt34
      refine hK.out _ _ trivial (fun hHeld => ?_)
      clear hK K
      try simp only [Act.put, List.setIfInBounds_toArray, List.set_cons_zero, List.set_cons_succ]
      refine wpAnyH_take (i := 10) (v := ?_) rfl (by kernel_rfl) (by kernel_rfl) (by kernel_rfl) (fun _ _ _ h => h) (Or.inl ⟨by rfl, ?_⟩) (by assumption) ?_
      rotate_left
      · (intro w' hSw; (try dsimp only at hSw); go_simp; try (with_reducible rfl))
      change wpAnyH _ _ _ _ _ _ _ (Act.put _ (some 72) _) _
      try simp only [Act.put, List.setIfInBounds_toArray, List.set_cons_zero, List.set_cons_succ]
      refine wpAnyH_ready (rs := [9]) (by kernel_rfl) (by simp) ?_
      refine AllReadyH.cons (i := 9) rfl (fun K hK => ?_) AllReadyH.nil
      simp only [List.getElem_toArray, List.getElem_cons_succ, List.getElem_cons_zero]
      rw [if_pos (by rfl)]
      refine wp_append_lies _ (.tmp 68) (.tmp 70) 61 rfl (nb + 1) 3 i1 (.int .i64 0) 1 8 Tryd.underlying61 hi1 hz3 hz4 hz5 rfl (by decide) (.slice a2 kids.length k2) kids.length (intsJ kids) (by first | rfl | simp [Act.eval, Act.put]) HS34.out.drow ⟨bk32, 0, none⟩ 1 1 [.int .i64 (kid : Int)] (by first | rfl | simp [Act.eval, Act.put]) rfl (World.news_of_block (cs := #[.int .i64 (kid : Int)]) (t := 3) (fr := (0, 0)) NO34.out) (oneI _) (by decide) (by unfold maxLen; omega) (by omega) HS34.out.lt1 _ rfl ?_
      intro g35 cap35 wv35 hown35 hgrow35 hat35 hlt35
      have HS35 := hid (HS34.out.growD hgrow35 (hat35.imp_right (fun h => Nat.le_of_eq h.symm)) hown35)
      clear hown35 hgrow35 hat35 hlt35
      refine hK.out _ _ trivial (fun hHeld => ?_)
      clear hK K
      try simp only [Act.put, List.setIfInBounds_toArray, List.set_cons_zero, List.set_cons_succ]
      obtain ⟨n2, n3, z2, z3⟩ := HS35.out.cells HGD.out.gi.blk
      refine wpAnyH_ready (rs := [11]) (by kernel_rfl) (by simp) ?_
      refine AllReadyH.cons (i := 11) rfl (fun K hK => ?_) AllReadyH.nil
      simp only [List.getElem_toArray, List.getElem_cons_succ, List.getElem_cons_zero]
      rw [if_pos (by rfl)]
      go_simp
      refine hK.out _ _ trivial (fun hHeld => ?_)
      clear hK K
      try simp only [Act.put, List.setIfInBounds_toArray, List.set_cons_zero, List.set_cons_succ]
      refine wpAnyH_take (i := 12) (v := ?_) rfl (by kernel_rfl) (by kernel_rfl) (by kernel_rfl) (fun _ _ _ h => h) (Or.inl ⟨by rfl, ?_⟩) (by assumption) ?_
      rotate_left
      · (intro w' hSw; (try dsimp only at hSw); go_simp; try (with_reducible rfl))
      change wpAnyH _ _ _ _ _ _ _ (Act.put _ (some 73) _) _
      try simp only [Act.put, List.setIfInBounds_toArray, List.set_cons_zero, List.set_cons_succ]
      refine wpAnyH_ready (rs := [13]) (by kernel_rfl) (by simp) ?_
      refine AllReadyH.cons (i := 13) rfl (fun K hK => ?_) AllReadyH.nil
      simp only [List.getElem_toArray, List.getElem_cons_succ, List.getElem_cons_zero]
      rw [if_pos (by rfl)]
      go_simp
      refine hK.out _ _ trivial (fun hHeld => ?_)
      clear hK K
      try simp only [Act.put, List.setIfInBounds_toArray, List.set_cons_zero, List.set_cons_succ]
      refine wpAnyH_done (by kernel_rfl) ?_ _
      go_wp2
      go_meet
      case rel => exact ⟨_, _, HS35.out.ji HJD.out HGD.out.gi.gnb _ _, HGD.out.both HS35.out HMZ.out ⟨by omega, by omega⟩⟩
      refine AllReadyH.cons (i := 8) rfl (fun K hK => ?_) AllReadyH.nil
      simp only [List.getElem_toArray, List.getElem_cons_succ, List.getElem_cons_zero]
      rw [if_pos (by rfl)]
      go_simp
      refine hK.out _ _ trivial (fun hHeld => ?_)
      clear hK K
      try simp only [Act.put, List.setIfInBounds_toArray, List.set_cons_zero, List.set_cons_succ]
      have HS36 := hid (HSA.out.alloc (.cells #[.int .i64 (kid : Int)] 3))
      have NB36 := hid (heap_alloc_new wv0 (.cells #[.int .i64 (kid : Int)] 3))
      obtain ⟨wv36, hw36⟩ : ∃ x, wv0.alloc (.cells #[.int .i64 (kid : Int)] 3) = x := ⟨_, rfl⟩
      rw [hw36] at HS36 NB36 ⊢
      obtain ⟨bk36, hb36⟩ : ∃ x, wv0.heap.size = x := ⟨_, rfl⟩
      have BL36 := hid (show wv0.heap.size ≤ bk36 by rw [← hb36]; exact HSA.out.size)
      rw [hb36] at NB36 ⊢
      clear hw36 hb36
      refine wpAnyH_ready (rs := [3, 6]) (by kernel_rfl) (by simp) ?_
      refine AllReadyH.cons (i := 3) rfl (fun K hK => ?_) ?_
      simp only [List.getElem_toArray, List.getElem_cons_succ, List.getElem_cons_zero]
      rw [if_pos (by rfl)]
      go_simp
      refine hK.out _ _ trivial (fun hHeld => ?_)
      clear hK K
      try simp only [Act.put, List.setIfInBounds_toArray, List.set_cons_zero, List.set_cons_succ]
      have HS37 := hid (HS36.out.alloc (.cells #[.string M] 9))
      have NB37 := hid (heap_alloc_new wv36 (.cells #[.string M] 9))
      have NO37 := hid (((ext_alloc wv36 (.cells #[.string M] 9)).block bk36 (Array.getElem?_eq_some_iff.1 NB36.out).1).trans NB36.out)
      obtain ⟨wv37, hw37⟩ : ∃ x, wv36.alloc (.cells #[.string M] 9) = x := ⟨_, rfl⟩
      rw [hw37] at HS37 NB37 NO37 ⊢
      obtain ⟨bk37, hb37⟩ : ∃ x, wv36.heap.size = x := ⟨_, rfl⟩
      have BL37 := hid (show wv0.heap.size ≤ bk37 by rw [← hb37]; exact HS36.out.size)
      rw [hb37] at NB37 ⊢
      clear hw37 hb37
      refine wpAnyH_ready (rs := [4, 6]) (by kernel_rfl) (by simp) ?_
      refine AllReadyH.cons (i := 4) rfl (fun K hK => ?_) ?_
      simp only [List.getElem_toArray, List.getElem_cons_succ, List.getElem_cons_zero]
      rw [if_pos (by rfl)]
      refine wp_append_lies _ (.tmp 63) (.tmp 65) 73 rfl (nb + 1) 9 ii (.string ⟨#[]⟩) 1 16 Tryd.underlying73 hi hz0 hz1 hz2 rfl (by decide) (.slice a1 keys.length k1) keys.length (strCellsL keys) (by first | rfl | simp [Act.eval, Act.put]) HS37.out.krow ⟨bk37, 0, none⟩ 1 1 [.string M] (by first | rfl | simp [Act.eval, Act.put]) rfl (World.news_of_block (cs := #[.string M]) (t := 9) (fr := (0, 0)) NB37.out) (oneS M) (by decide) (by unfold maxLen; omega) (by omega) HS37.out.lt1 _ rfl ?_
      intro g38 cap38 wv38 hown38 hgrow38 hat38 hlt38
      have HS38 := hid (HS37.out.growK hgrow38 (hat38.imp_right (fun h => Nat.le_of_eq h.symm)) hown38)
      have NO38 := hid ((hgrow38.block bk36 (Array.getElem?_eq_some_iff.1 NO37.out).1 (fun e => by have := (HS37.out.klt _ e.symm).2; have := BL36.out; omega)).trans NO37.out)
      clear hown38 hgrow38 hat38 hlt38
      refine hK.out _ _ trivial (fun hHeld => ?_)
      clear hK K
      try simp only [Act.put, List.setIfInBounds_toArray, List.set_cons_zero, List.set_cons_succ]
      refine wpAnyH_ready (rs := [6]) (by kernel_rfl) (by simp) ?_
      refine AllReadyH.cons (i := 6) rfl (fun K hK => ?_) AllReadyH.nil
      simp only [List.getElem_toArray, List.getElem_cons_succ, List.getElem_cons_zero]
      rw [if_pos (by rfl)]
      have n3 := (HS38.out.cells HGD.out.gi.blk).2.1
      go_simp
      refine hK.out _ _ trivial (fun hHeld => ?_)
      clear hK K n3
      try simp only [Act.put, List.setIfInBounds_toArray, List.set_cons_zero, List.set_cons_succ]
      refine wpAnyH_take (i := 10) (v := ?_) rfl (by kernel_rfl) (by kernel_rfl) (by kernel_rfl) (fun _ _ _ h => h) (Or.inl ⟨by rfl, ?_⟩) (by assumption) ?_
      rotate_left
      · (intro w' hSw; (try dsimp only at hSw); go_simp; try (with_reducible rfl))
      change wpAnyH _ _ _ _ _ _ _ (Act.put _ (some 72) _) _
      try simp only [Act.put, List.setIfInBounds_toArray, List.set_cons_zero, List.set_cons_succ]
      refine wpAnyH_ready (rs := [9]) (by kernel_rfl) (by simp) ?_
      refine AllReadyH.cons (i := 9) rfl (fun K hK => ?_) AllReadyH.nil
      simp only [List.getElem_toArray, List.getElem_cons_succ, List.getElem_cons_zero]
      rw [if_pos (by rfl)]
      refine wp_append_lies _ (.tmp 68) (.tmp 70) 61 rfl (nb + 1) 3 i1 (.int .i64 0) 1 8 Tryd.underlying61 hi1 hz3 hz4 hz5 rfl (by decide) (.slice a2 kids.length k2) kids.length (intsJ kids) (by first | rfl | simp [Act.eval, Act.put]) HS38.out.drow ⟨bk36, 0, none⟩ 1 1 [.int .i64 (kid : Int)] (by first | rfl | simp [Act.eval, Act.put]) rfl (World.news_of_block (cs := #[.int .i64 (kid : Int)]) (t := 3) (fr := (0, 0)) NO38.out) (oneI _) (by decide) (by unfold maxLen; omega) (by omega) HS38.out.lt1 _ rfl ?_
      intro g40 cap40 wv40 hown40 hgrow40 hat40 hlt40
      have HS40 := hid (HS38.out.growD hgrow40 (hat40.imp_right (fun h => Nat.le_of_eq h.symm)) hown40)
      clear hown40 hgrow40 hat40 hlt40
      refine hK.out _ _ trivial (fun hHeld => ?_)
      clear hK K
      try simp only [Act.put, List.setIfInBounds_toArray, List.set_cons_zero, List.set_cons_succ]
      obtain ⟨n2, n3, z2, z3⟩ := HS40.out.cells HGD.out.gi.blk
      refine wpAnyH_ready (rs := [11]) (by kernel_rfl) (by simp) ?_
      refine AllReadyH.cons (i := 11) rfl (fun K hK => ?_) AllReadyH.nil
      simp only [List.getElem_toArray, List.getElem_cons_succ, List.getElem_cons_zero]
      rw [if_pos (by rfl)]
      go_simp
      refine hK.out _ _ trivial (fun hHeld => ?_)
      clear hK K
      try simp only [Act.put, List.setIfInBounds_toArray, List.set_cons_zero, List.set_cons_succ]
      refine wpAnyH_take (i := 12) (v := ?_) rfl (by kernel_rfl) (by kernel_rfl) (by kernel_rfl) (fun _ _ _ h => h) (Or.inl ⟨by rfl, ?_⟩) (by assumption) ?_
      rotate_left
      · (intro w' hSw; (try dsimp only at hSw); go_simp; try (with_reducible rfl))
      change wpAnyH _ _ _ _ _ _ _ (Act.put _ (some 73) _) _
      try simp only [Act.put, List.setIfInBounds_toArray, List.set_cons_zero, List.set_cons_succ]
      refine wpAnyH_ready (rs := [13]) (by kernel_rfl) (by simp) ?_
      refine AllReadyH.cons (i := 13) rfl (fun K hK => ?_) AllReadyH.nil
      simp only [List.getElem_toArray, List.getElem_cons_succ, List.getElem_cons_zero]
      rw [if_pos (by rfl)]
      go_simp
      refine hK.out _ _ trivial (fun hHeld => ?_)
      clear hK K
      try simp only [Act.put, List.setIfInBounds_toArray, List.set_cons_zero, List.set_cons_succ]
      refine wpAnyH_done (by kernel_rfl) ?_ _
      go_wp2
      go_meet
      case rel => exact ⟨_, _, HS40.out.ji HJD.out HGD.out.gi.gnb _ _, HGD.out.both HS40.out HMZ.out ⟨by omega, by omega⟩⟩
      refine AllReadyH.cons (i := 6) rfl (fun K hK => ?_) AllReadyH.nil
      simp only [List.getElem_toArray, List.getElem_cons_succ, List.getElem_cons_zero]
      rw [if_pos (by rfl)]
      have n3 := (HS37.out.cells HGD.out.gi.blk).2.1
      go_simp
      refine hK.out _ _ trivial (fun hHeld => ?_)
      clear hK K n3
      try simp only [Act.put, List.setIfInBounds_toArray, List.set_cons_zero, List.set_cons_succ]
      refine wpAnyH_ready (rs := [4]) (by kernel_rfl) (by simp) ?_
      refine AllReadyH.cons (i := 4) rfl (fun K hK => ?_) AllReadyH.nil
      simp only [List.getElem_toArray, List.getElem_cons_succ, List.getElem_cons_zero]
      rw [if_pos (by rfl)]
      refine wp_append_lies _ (.tmp 63) (.tmp 65) 73 rfl (nb + 1) 9 ii (.string ⟨#[]⟩) 1 16 Tryd.underlying73 hi hz0 hz1 hz2 rfl (by decide) (.slice a1 keys.length k1) keys.length (strCellsL keys) (by first | rfl | simp [Act.eval, Act.put]) HS37.out.krow ⟨bk37, 0, none⟩ 1 1 [.string M] (by first | rfl | simp [Act.eval, Act.put]) rfl (World.news_of_block (cs := #[.string M]) (t := 9) (fr := (0, 0)) NB37.out) (oneS M) (by decide) (by unfold maxLen; omega) (by omega) HS37.out.lt1 _ rfl ?_
      intro g42 cap42 wv42 hown42 hgrow42 hat42 hlt42
      have HS42 := hid (HS37.out.growK hgrow42 (hat42.imp_right (fun h => Nat.le_of_eq h.symm)) hown42)
      have NO42 := hid ((hgrow42.block bk36 (Array.getElem?_eq_some_iff.1 NO37.out).1 (fun e => by have := (HS37.out.klt _ e.symm).2; have := BL36.out; omega)).trans NO37.out)
      clear hown42 hgrow42 hat42 hlt42
      refine hK.out _ _ trivial (fun hHeld => ?_)
      clear hK K
      try simp only [Act.put, List.setIfInBounds_toArray, List.set_cons_zero, List.set_cons_succ]
      refine wpAnyH_take (i := 10) (v := ?_) rfl (by kernel_rfl) (by kernel_rfl) (by kernel_rfl) (fun _ _ _ h => h) (Or.inl ⟨by rfl, ?_⟩) (by assumption) ?_
      rotate_left
      · (intro w' hSw; (try dsimp only at hSw); go_simp; try (with_reducible rfl))
      change wpAnyH _ _ _ _ _ _ _ (Act.put _ (some 72) _) _
      try simp only [Act.put, List.setIfInBounds_toArray, List.set_cons_zero, List.set_cons_succ]
      refine wpAnyH_ready (rs := [9]) (by kernel_rfl) (by simp) ?_
      refine AllReadyH.cons (i := 9) rfl (fun K hK => ?_) AllReadyH.nil
      simp only [List.getElem_toArray, List.getElem_cons_succ, List.getElem_cons_zero]
      rw [if_pos (by rfl)]
      refine wp_append_lies _ (.tmp 68) (.tmp 70) 61 rfl (nb + 1) 3 i1 (.int .i64 0) 1 8 Tryd.underlying61 hi1 hz3 hz4 hz5 rfl (by decide) (.slice a2 kids.length k2) kids.length (intsJ kids) (by first | rfl | simp [Act.eval, Act.put]) HS42.out.drow ⟨bk36, 0, none⟩ 1 1 [.int .i64 (kid : Int)] (by first | rfl | simp [Act.eval, Act.put]) rfl (World.news_of_block (cs := #[.int .i64 (kid : Int)]) (t := 3) (fr := (0, 0)) NO42.out) (oneI _) (by decide) (by unfold maxLen; omega) (by omega) HS42.out.lt1 _ rfl ?_
      intro g43 cap43 wv43 hown43 hgrow43 hat43 hlt43
      have HS43 := hid (HS42.out.growD hgrow43 (hat43.imp_right (fun h => Nat.le_of_eq h.symm)) hown43)
      clear hown43 hgrow43 hat43 hlt43
      refine hK.out _ _ trivial (fun hHeld => ?_)
      clear hK K
      try simp only [Act.put, List.setIfInBounds_toArray, List.set_cons_zero, List.set_cons_succ]
      obtain ⟨n2, n3, z2, z3⟩ := HS43.out.cells HGD.out.gi.blk
      refine wpAnyH_ready (rs := [11]) (by kernel_rfl) (by simp) ?_
      refine AllReadyH.cons (i := 11) rfl (fun K hK => ?_) AllReadyH.nil
      simp only [List.getElem_toArray, List.getElem_cons_succ, List.getElem_cons_zero]
      rw [if_pos (by rfl)]
      go_simp
      refine hK.out _ _ trivial (fun hHeld => ?_)
      clear hK K
      try simp only [Act.put, List.setIfInBounds_toArray, List.set_cons_zero, List.set_cons_succ]
      refine wpAnyH_take (i := 12) (v := ?_) rfl (by kernel_rfl) (by kernel_rfl) (by kernel_rfl) (fun _ _ _ h => h) (Or.inl ⟨by rfl, ?_⟩) (by assumption) ?_
      rotate_left
      · (intro w' hSw; (try dsimp only at hSw); go_simp; try (with_reducible rfl))
      change wpAnyH _ _ _ _ _ _ _ (Act.put _ (some 73) _) _
      try simp only [Act.put, List.setIfInBounds_toArray, List.set_cons_zero, List.set_cons_succ]
      refine wpAnyH_ready (rs := [13]) (by kernel_rfl) (by simp) ?_
      refine AllReadyH.cons (i := 13) rfl (fun K hK => ?_) AllReadyH.nil
      simp only [List.getElem_toArray, List.getElem_cons_succ, List.getElem_cons_zero]
      rw [if_pos (by rfl)]
      go_simp
      refine hK.out _ _ trivial (fun hHeld => ?_)
      clear hK K
      try simp only [Act.put, List.setIfInBounds_toArray, List.set_cons_zero, List.set_cons_succ]
      refine wpAnyH_done (by kernel_rfl) ?_ _
      go_wp2
      go_meet
      case rel => exact ⟨_, _, HS43.out.ji HJD.out HGD.out.gi.gnb _ _, HGD.out.both HS43.out HMZ.out ⟨by omega, by omega⟩⟩
      refine AllReadyH.cons (i := 6) rfl (fun K hK => ?_) AllReadyH.nil
      simp only [List.getElem_toArray, List.getElem_cons_succ, List.getElem_cons_zero]
      rw [if_pos (by rfl)]
      have n3 := (HS36.out.cells HGD.out.gi.blk).2.1
      go_simp
      refine hK.out _ _ trivial (fun hHeld => ?_)
      clear hK K n3
      try simp only [Act.put, List.setIfInBounds_toArray, List.set_cons_zero, List.set_cons_succ]
      refine wpAnyH_ready (rs := [3]) (by kernel_rfl) (by simp) ?_
      refine AllReadyH.cons (i := 3) rfl (fun K hK => ?_) AllReadyH.nil
      simp only [List.getElem_toArray, List.getElem_cons_succ, List.getElem_cons_zero]
      rw [if_pos (by rfl)]
      go_simp
      refine hK.out _ _ trivial (fun hHeld => ?_)
      clear hK K
      try simp only [Act.put, List.setIfInBounds_toArray, List.set_cons_zero, List.set_cons_succ]
      have HS45 := hid (HS36.out.alloc (.cells #[.string M] 9))
      have NB45 := hid (heap_alloc_new wv36 (.cells #[.string M] 9))
      have NO45 := hid (((ext_alloc wv36 (.cells #[.string M] 9)).block bk36 (Array.getElem?_eq_some_iff.1 NB36.out).1).trans NB36.out)
      obtain ⟨wv45, hw45⟩ : ∃ x, wv36.alloc (.cells #[.string M] 9) = x := ⟨_, rfl⟩
      rw [hw45] at HS45 NB45 NO45 ⊢
      obtain ⟨bk45, hb45⟩ : ∃ x, wv36.heap.size = x := ⟨_, rfl⟩
      have BL45 := hid (show wv0.heap.size ≤ bk45 by rw [← hb45]; exact HS36.out.size)
      rw [hb45] at NB45 ⊢
      clear hw45 hb45
      refine wpAnyH_ready (rs := [4]) (by kernel_rfl) (by simp) ?_
      refine AllReadyH.cons (i := 4) rfl (fun K hK => ?_) AllReadyH.nil
      simp only [List.getElem_toArray, List.getElem_cons_succ, List.getElem_cons_zero]
      rw [if_pos (by rfl)]
      refine wp_append_lies _ (.tmp 63) (.tmp 65) 73 rfl (nb + 1) 9 ii (.string ⟨#[]⟩) 1 16 Tryd.underlying73 hi hz0 hz1 hz2 rfl (by decide) (.slice a1 keys.length k1) keys.length (strCellsL keys) (by first | rfl | simp [Act.eval, Act.put]) HS45.out.krow ⟨bk45, 0, none⟩ 1 1 [.string M] (by first | rfl | simp [Act.eval, Act.put]) rfl (World.news_of_block (cs := #[.string M]) (t := 9) (fr := (0, 0)) NB45.out) (oneS M) (by decide) (by unfold maxLen; omega) (by omega) HS45.out.lt1 _ rfl ?_
      intro g46 cap46 wv46 hown46 hgrow46 hat46 hlt46
      have HS46 := hid (HS45.out.growK hgrow46 (hat46.imp_right (fun h => Nat.le_of_eq h.symm)) hown46)
      have NO46 := hid ((hgrow46.block bk36 (Array.getElem?_eq_some_iff.1 NO45.out).1 (fun e => by have := (HS45.out.klt _ e.symm).2; have := BL36.out; omega)).trans NO45.out)
      clear hown46 hgrow46 hat46 hlt46
      refine hK.out _ _ trivial (fun hHeld => ?_)
      clear hK K
      try simp only [Act.put, List.setIfInBounds_toArray, List.set_cons_zero, List.set_cons_succ]
      refine wpAnyH_take (i := 10) (v := ?_) rfl (by kernel_rfl) (by kernel_rfl) (by kernel_rfl) (fun _ _ _ h => h) (Or.inl ⟨by rfl, ?_⟩) (by assumption) ?_
      rotate_left
      · (intro w' hSw; (try dsimp only at hSw); go_simp; try (with_reducible rfl))
      change wpAnyH _ _ _ _ _ _ _ (Act.put _ (some 72) _) _
      try simp only [Act.put, List.setIfInBounds_toArray, List.set_cons_zero, List.set_cons_succ]
      refine wpAnyH_ready (rs := [9]) (by kernel_rfl) (by simp) ?_
      refine AllReadyH.cons (i := 9) rfl (fun K hK => ?_) AllReadyH.nil
      simp only [List.getElem_toArray, List.getElem_cons_succ, List.getElem_cons_zero]
      rw [if_pos (by rfl)]
      refine wp_append_lies _ (.tmp 68) (.tmp 70) 61 rfl (nb + 1) 3 i1 (.int .i64 0) 1 8 Tryd.underlying61 hi1 hz3 hz4 hz5 rfl (by decide) (.slice a2 kids.length k2) kids.length (intsJ kids) (by first | rfl | simp [Act.eval, Act.put]) HS46.out.drow ⟨bk36, 0, none⟩ 1 1 [.int .i64 (kid : Int)] (by first | rfl | simp [Act.eval, Act.put]) rfl (World.news_of_block (cs := #[.int .i64 (kid : Int)]) (t := 3) (fr := (0, 0)) NO46.out) (oneI _) (by decide) (by unfold maxLen; omega) (by omega) HS46.out.lt1 _ rfl ?_
      intro g47 cap47 wv47 hown47 hgrow47 hat47 hlt47
      have HS47 := hid (HS46.out.growD hgrow47 (hat47.imp_right (fun h => Nat.le_of_eq h.symm)) hown47)
      clear hown47 hgrow47 hat47 hlt47
      refine hK.out _ _ trivial (fun hHeld => ?_)
      clear hK K
      try simp only [Act.put, List.setIfInBounds_toArray, List.set_cons_zero, List.set_cons_succ]
      obtain ⟨n2, n3, z2, z3⟩ := HS47.out.cells HGD.out.gi.blk
      refine wpAnyH_ready (rs := [11]) (by kernel_rfl) (by simp) ?_
      refine AllReadyH.cons (i := 11) rfl (fun K hK => ?_) AllReadyH.nil
      simp only [List.getElem_toArray, List.getElem_cons_succ, List.getElem_cons_zero]
      rw [if_pos (by rfl)]
      go_simp
      refine hK.out _ _ trivial (fun hHeld => ?_)
      clear hK K
      try simp only [Act.put, List.setIfInBounds_toArray, List.set_cons_zero, List.set_cons_succ]
      refine wpAnyH_take (i := 12) (v := ?_) rfl (by kernel_rfl) (by kernel_rfl) (by kernel_rfl) (fun _ _ _ h => h) (Or.inl ⟨by rfl, ?_⟩) (by assumption) ?_
      rotate_left
      · (intro w' hSw; (try dsimp only at hSw); go_simp; try (with_reducible rfl))
      change wpAnyH _ _ _ _ _ _ _ (Act.put _ (some 73) _) _
      try simp only [Act.put, List.setIfInBounds_toArray, List.set_cons_zero, List.set_cons_succ]
      refine wpAnyH_ready (rs := [13]) (by kernel_rfl) (by simp) ?_
      refine AllReadyH.cons (i := 13) rfl (fun K hK => ?_) AllReadyH.nil
      simp only [List.getElem_toArray, List.getElem_cons_succ, List.getElem_cons_zero]
      rw [if_pos (by rfl)]
      go_simp
      refine hK.out _ _ trivial (fun hHeld => ?_)
      clear hK K
      try simp only [Act.put, List.setIfInBounds_toArray, List.set_cons_zero, List.set_cons_succ]
      refine wpAnyH_done (by kernel_rfl) ?_ _
      go_wp2
      go_meet
      case rel => exact ⟨_, _, HS47.out.ji HJD.out HGD.out.gi.gnb _ _, HGD.out.both HS47.out HMZ.out ⟨by omega, by omega⟩⟩
      refine AllReadyH.cons (i := 3) rfl (fun K hK => ?_) ?_
      simp only [List.getElem_toArray, List.getElem_cons_succ, List.getElem_cons_zero]
      rw [if_pos (by rfl)]
      go_simp
      refine hK.out _ _ trivial (fun hHeld => ?_)
      clear hK K
      try simp only [Act.put, List.setIfInBounds_toArray, List.set_cons_zero, List.set_cons_succ]
      have HS48 := hid (HSA.out.alloc (.cells #[.string M] 9))
      have NB48 := hid (heap_alloc_new wv0 (.cells #[.string M] 9))
      obtain ⟨wv48, hw48⟩ : ∃ x, wv0.alloc (.cells #[.string M] 9) = x := ⟨_, rfl⟩
      rw [hw48] at HS48 NB48 ⊢
      obtain ⟨bk48, hb48⟩ : ∃ x, wv0.heap.size = x := ⟨_, rfl⟩
      have BL48 := hid (show wv0.heap.size ≤ bk48 by rw [← hb48]; exact HSA.out.size)
      rw [hb48] at NB48 ⊢
      clear hw48 hb48
      refine wpAnyH_ready (rs := [1, 6, 8]) (by kernel_rfl) (by simp) ?_
      refine AllReadyH.cons (i := 1) rfl (fun K hK => ?_) ?_
      simp only [List.getElem_toArray, List.getElem_cons_succ, List.getElem_cons_zero]
      rw [if_pos (by rfl)]
      have n2 := (HS48.out.cells HGD.out.gi.blk).1
      go_simp
      refine hK.out _ _ trivial (fun hHeld => ?_)
      clear hK K n2
      try simp only [Act.put, List.setIfInBounds_toArray, List.set_cons_zero, List.set_cons_succ]
      refine wpAnyH_ready (rs := [4, 6, 8]) (by kernel_rfl) (by simp) ?_
      refine AllReadyH.cons (i := 4) rfl (fun K hK => ?_) ?_
      simp only [List.getElem_toArray, List.getElem_cons_succ, List.getElem_cons_zero]
      rw [if_pos (by rfl)]
      refine wp_append_lies _ (.tmp 63) (.tmp 65) 73 rfl (nb + 1) 9 ii (.string ⟨#[]⟩) 1 16 Tryd.underlying73 hi hz0 hz1 hz2 rfl (by decide) (.slice a1 keys.length k1) keys.length (strCellsL keys) (by first | rfl | simp [Act.eval, Act.put]) HS48.out.krow ⟨bk48, 0, none⟩ 1 1 [.string M] (by first | rfl | simp [Act.eval, Act.put]) rfl (World.news_of_block (cs := #[.string M]) (t := 9) (fr := (0, 0)) NB48.out) (oneS M) (by decide) (by unfold maxLen; omega) (by omega) HS48.out.lt1 _ rfl ?_
      intro g50 cap50 wv50 hown50 hgrow50 hat50 hlt50
      have HS50 := hid (HS48.out.growK hgrow50 (hat50.imp_right (fun h => Nat.le_of_eq h.symm)) hown50)
      clear hown50 hgrow50 hat50 hlt50
      refine hK.out _ _ trivial (fun hHeld => ?_)
      clear hK K
      try simp only [Act.put, List.setIfInBounds_toArray, List.set_cons_zero, List.set_cons_succ]
      refine wpAnyH_ready (rs := [6, 8]) (by kernel_rfl) (by simp) ?_
      refine AllReadyH.cons (i := 6) rfl (fun K hK => ?_) ?_
      simp only [List.getElem_toArray, List.getElem_cons_succ, List.getElem_cons_zero]
      rw [if_pos (by rfl)]
      have n3 := (HS50.out.cells HGD.out.gi.blk).2.1
      go_simp
      refine hK.out _ _ trivial (fun hHeld => ?_)
      clear hK K n3
      try simp only [Act.put, List.setIfInBounds_toArray, List.set_cons_zero, List.set_cons_succ]
      refine wpAnyH_take (i := 10) (v := ?_) rfl (by kernel_rfl) (by kernel_rfl) (by kernel_rfl) (fun _ _ _ h => h) (Or.inl ⟨by rfl, ?_⟩) (by assumption) ?_
      rotate_left
      · (intro w' hSw; (try dsimp only at hSw); go_simp; try (with_reducible rfl))
      change wpAnyH _ _ _ _ _ _ _ (Act.put _ (some 72) _) _
      try simp only [Act.put, List.setIfInBounds_toArray, List.set_cons_zero, List.set_cons_succ]
      refine wpAnyH_ready (rs := [8]) (by kernel_rfl) (by simp) ?_
      refine AllReadyH.cons (i := 8) rfl (fun K hK => ?_) AllReadyH.nil
      simp only [List.getElem_toArray, List.getElem_cons_succ, List.getElem_cons_zero]
      rw [if_pos (by rfl)]
      go_simp
      refine hK.out _ _ trivial (fun hHeld => ?_)
      clear hK K
      try simp only [Act.put, List.setIfInBounds_toArray, List.set_cons_zero, List.set_cons_succ]
      have HS52 := hid (HS50.out.alloc (.cells #[.int .i64 (kid : Int)] 3))
      have NB52 := hid (heap_alloc_new wv50 (.cells #[.int .i64 (kid : Int)] 3))
      obtain ⟨wv52, hw52⟩ : ∃ x, wv50.alloc (.cells #[.int .i64 (kid : Int)] 3) = x := ⟨_, rfl⟩
      rw [hw52] at HS52 NB52 ⊢
      obtain ⟨bk52, hb52⟩ : ∃ x, wv50.heap.size = x := ⟨_, rfl⟩
      have BL52 := hid (show wv0.heap.size ≤ bk52 by rw [← hb52]; exact HS50.out.size)
      rw [hb52] at NB52 ⊢
      clear hw52 hb52
      refine wpAnyH_ready (rs := [9]) (by kernel_rfl) (by simp) ?_
      refine AllReadyH.cons (i := 9) rfl (fun K hK => ?_) AllReadyH.nil
      simp only [List.getElem_toArray, List.getElem_cons_succ, List.getElem_cons_zero]
      rw [if_pos (by rfl)]
      refine wp_append_lies _ (.tmp 68) (.tmp 70) 61 rfl (nb + 1) 3 i1 (.int .i64 0) 1 8 Tryd.underlying61 hi1 hz3 hz4 hz5 rfl (by decide) (.slice a2 kids.length k2) kids.length (intsJ kids) (by first | rfl | simp [Act.eval, Act.put]) HS52.out.drow ⟨bk52, 0, none⟩ 1 1 [.int .i64 (kid : Int)] (by first | rfl | simp [Act.eval, Act.put]) rfl (World.news_of_block (cs := #[.int .i64 (kid : Int)]) (t := 3) (fr := (0, 0)) NB52.out) (oneI _) (by decide) (by unfold maxLen; omega) (by omega) HS52.out.lt1 _ rfl ?_
      intro g53 cap53 wv53 hown53 hgrow53 hat53 hlt53
      have HS53 := hid (HS52.out.growD hgrow53 (hat53.imp_right (fun h => Nat.le_of_eq h.symm)) hown53)
      clear hown53 hgrow53 hat53 hlt53
      refine hK.out _ _ trivial (fun hHeld => ?_)
      clear hK K
      try simp only [Act.put, List.setIfInBounds_toArray, List.set_cons_zero, List.set_cons_succ]
      obtain ⟨n2, n3, z2, z3⟩ := HS53.out.cells HGD.out.gi.blk
      refine wpAnyH_ready (rs := [11]) (by kernel_rfl) (by simp) ?_
      refine AllReadyH.cons (i := 11) rfl (fun K hK => ?_) AllReadyH.nil
      simp only [List.getElem_toArray, List.getElem_cons_succ, List.getElem_cons_zero]
      rw [if_pos (by rfl)]
      go_simp
      refine hK.out _ _ trivial (fun hHeld => ?_)
      clear hK K
      try simp only [Act.put, List.setIfInBounds_toArray, List.set_cons_zero, List.set_cons_succ]
      refine wpAnyH_take (i := 12) (v := ?_) rfl (by kernel_rfl) (by kernel_rfl) (by kernel_rfl) (fun _ _ _ h => h) (Or.inl ⟨by rfl, ?_⟩) (by assumption) ?_
      rotate_left
      · (intro w' hSw; (try dsimp only at hSw); go_simp; try (with_reducible rfl))
      change wpAnyH _ _ _ _ _ _ _ (Act.put _ (some 73) _) _
      try simp only [Act.put, List.setIfInBounds_toArray, List.set_cons_zero, List.set_cons_succ]
      refine wpAnyH_ready (rs := [13]) (by kernel_rfl) (by simp) ?_
      refine AllReadyH.cons (i := 13) rfl (fun K hK => ?_) AllReadyH.nil
      simp only [List.getElem_toArray, List.getElem_cons_succ, List.getElem_cons_zero]
      rw [if_pos (by rfl)]
      go_simp
      refine hK.out _ _ trivial (fun hHeld => ?_)
      clear hK K
      try simp only [Act.put, List.setIfInBounds_toArray, List.set_cons_zero, List.set_cons_succ]
      refine wpAnyH_done (by kernel_rfl) ?_ _
      go_wp2
      go_meet
      case rel => exact ⟨_, _, HS53.out.ji HJD.out HGD.out.gi.gnb _ _, HGD.out.both HS53.out HMZ.out ⟨by omega, by omega⟩⟩
      refine AllReadyH.cons (i := 8) rfl (fun K hK => ?_) AllReadyH.nil
      simp only [List.getElem_toArray, List.getElem_cons_succ, List.getElem_cons_zero]
      rw [if_pos (by rfl)]
      go_simp
      refine hK.out _ _ trivial (fun hHeld => ?_)
      clear hK K
      try simp only [Act.put, List.setIfInBounds_toArray, List.set_cons_zero, List.set_cons_succ]
      have HS54 := hid (HS50.out.alloc (.cells #[.int .i64 (kid : Int)] 3))
      have NB54 := hid (heap_alloc_new wv50 (.cells #[.int .i64 (kid : Int)] 3))
      obtain ⟨wv54, hw54⟩ : ∃ x, wv50.alloc (.cells #[.int .i64 (kid : Int)] 3) = x := ⟨_, rfl⟩
      rw [hw54] at HS54 NB54 ⊢
      obtain ⟨bk54, hb54⟩ : ∃ x, wv50.heap.size = x := ⟨_, rfl⟩
      have BL54 := hid (show wv0.heap.size ≤ bk54 by rw [← hb54]; exact HS50.out.size)
      rw [hb54] at NB54 ⊢
      clear hw54 hb54
      refine wpAnyH_ready (rs := [6]) (by kernel_rfl) (by simp) ?_
      refine AllReadyH.cons (i := 6) rfl (fun K hK => ?_) AllReadyH.nil
      simp only [List.getElem_toArray, List.getElem_cons_succ, List.getElem_cons_zero]
      rw [if_pos (by rfl)]
      have n3 := (HS54.out.cells HGD.out.gi.blk).2.1
      go_simp
      refine hK.out _ _ trivial (fun hHeld => ?_)
      clear hK K n3
      try simp only [Act.put, List.setIfInBounds_toArray, List.set_cons_zero, List.set_cons_succ]
      refine wpAnyH_take (i := 10) (v := ?_) rfl (by kernel_rfl) (by kernel_rfl) (by kernel_rfl) (fun _ _ _ h => h) (Or.inl ⟨by rfl, ?_⟩) (by assumption) ?_
      rotate_left
      · (intro w' hSw; (try dsimp only at hSw); go_simp; try (with_reducible rfl))
      change wpAnyH _ _ _ _ _ _ _ (Act.put _ (some 72) _) _
      try simp only [Act.put, List.setIfInBounds_toArray, List.set_cons_zero, List.set_cons_succ]
      refine wpAnyH_ready (rs := [9]) (by kernel_rfl) (by simp) ?_
      refine AllReadyH.cons (i := 9) rfl (fun K hK => ?_) AllReadyH.nil
      simp only [List.getElem_toArray, List.getElem_cons_succ, List.getElem_cons_zero]
      rw [if_pos (by rfl)]
      refine wp_append_lies _ (.tmp 68) (.tmp 70) 61 rfl (nb + 1) 3 i1 (.int .i64 0) 1 8 Tryd.underlying61 hi1 hz3 hz4 hz5 rfl (by decide) (.slice a2 kids.length k2) kids.length (intsJ kids) (by first | rfl | simp [Act.eval, Act.put]) HS54.out.drow ⟨bk54, 0, none⟩ 1 1 [.int .i64 (kid : Int)] (by first | rfl | simp [Act.eval, Act.put]) rfl (World.news_of_block (cs := #[.int .i64 (kid : Int)]) (t := 3) (fr := (0, 0)) NB54.out) (oneI _) (by decide) (by unfold maxLen; omega) (by omega) HS54.out.lt1 _ rfl ?_
      intro g56 cap56 wv56 hown56 hgrow56 hat56 hlt56
      have HS56 := hid (HS54.out.growD hgrow56 (hat56.imp_right (fun h => Nat.le_of_eq h.symm)) hown56)
      clear hown56 hgrow56 hat56 hlt56
      refine hK.out _ _ trivial (fun hHeld => ?_)
      clear hK K
      try simp only [Act.put, List.setIfInBounds_toArray, List.set_cons_zero, List.set_cons_succ]
      obtain ⟨n2, n3, z2, z3⟩ := HS56.out.cells HGD.out.gi.blk
      refine wpAnyH_ready (rs := [11]) (by kernel_rfl) (by simp) ?_
      refine AllReadyH.cons (i := 11) rfl (fun K hK => ?_) AllReadyH.nil
      simp only [List.getElem_toArray, List.getElem_cons_succ, List.getElem_cons_zero]
      rw [if_pos (by rfl)]
      go_simp
      refine hK.out _ _ trivial (fun hHeld => ?_)
      clear hK K
      try simp only [Act.put, List.setIfInBounds_toArray, List.set_cons_zero, List.set_cons_succ]
      refine wpAnyH_take (i := 12) (v := ?_) rfl (by kernel_rfl) (by kernel_rfl) (by kernel_rfl) (fun _ _ _ h => h) (Or.inl ⟨by rfl, ?_⟩) (by assumption) ?_
      rotate_left
      · (intro w' hSw; (try dsimp only at hSw); go_simp; try (with_reducible rfl))
      change wpAnyH _ _ _ _ _ _ _ (Act.put _ (some 73) _) _
      try simp only [Act.put, List.setIfInBounds_toArray, List.set_cons_zero, List.set_cons_succ]
      refine wpAnyH_ready (rs := [13]) (by kernel_rfl) (by simp) ?_
      refine AllReadyH.cons (i := 13) rfl (fun K hK => ?_) AllReadyH.nil
      simp only [List.getElem_toArray, List.getElem_cons_succ, List.getElem_cons_zero]
      rw [if_pos (by rfl)]
      go_simp
      refine hK.out _ _ trivial (fun hHeld => ?_)
      clear hK K
      try simp only [Act.put, List.setIfInBounds_toArray, List.set_cons_zero, List.set_cons_succ]
      refine wpAnyH_done (by kernel_rfl) ?_ _
      go_wp2
      go_meet
      case rel => exact ⟨_, _, HS56.out.ji HJD.out HGD.out.gi.gnb _ _, HGD.out.both HS56.out HMZ.out ⟨by omega, by omega⟩⟩
      refine AllReadyH.cons (i := 6) rfl (fun K hK => ?_) ?_
      simp only [List.getElem_toArray, List.getElem_cons_succ, List.getElem_cons_zero]
      rw [if_pos (by rfl)]
      have n3 := (HS48.out.cells HGD.out.gi.blk).2.1
      go_simp
      refine hK.out _ _ trivial (fun hHeld => ?_)
      clear hK K n3
      try simp only [Act.put, List.setIfInBounds_toArray, List.set_cons_zero, List.set_cons_succ]
      refine wpAnyH_ready (rs := [4, 8]) (by kernel_rfl) (by simp) ?_
      refine AllReadyH.cons (i := 4) rfl (fun K hK => ?_) ?_
      simp only [List.getElem_toArray, List.getElem_cons_succ, List.getElem_cons_zero]
      rw [if_pos (by rfl)]
      refine wp_append_lies _ (.tmp 63) (.tmp 65) 73 rfl (nb + 1) 9 ii (.string ⟨#[]⟩) 1 16 Tryd.underlying73 hi hz0 hz1 hz2 rfl (by decide) (.slice a1 keys.length k1) keys.length (strCellsL keys) (by first | rfl | simp [Act.eval, Act.put]) HS48.out.krow ⟨bk48, 0, none⟩ 1 1 [.string M] (by first | rfl | simp [Act.eval, Act.put]) rfl (World.news_of_block (cs := #[.string M]) (t := 9) (fr := (0, 0)) NB48.out) (oneS M) (by decide) (by unfold maxLen; omega) (by omega) HS48.out.lt1 _ rfl ?_
      intro g58 cap58 wv58 hown58 hgrow58 hat58 hlt58
      have HS58 := hid (HS48.out.growK hgrow58 (hat58.imp_right (fun h => Nat.le_of_eq h.symm)) hown58)
      clear hown58 hgrow58 hat58 hlt58
      refine hK.out _ _ trivial (fun hHeld => ?_)
      clear hK K
      try simp only [Act.put, List.setIfInBounds_toArray, List.set_cons_zero, List.set_cons_succ]
      refine wpAnyH_take (i := 10) (v := ?_) rfl (by kernel_rfl) (by kernel_rfl) (by kernel_rfl) (fun _ _ _ h => h) (Or.inl ⟨by rfl, ?_⟩) (by assumption) ?_
      rotate_left
      · (intro w' hSw; (try dsimp only at hSw); go_simp; try (with_reducible rfl))
      change wpAnyH _ _ _ _ _ _ _ (Act.put _ (some 72) _) _
      try simp only [Act.put, List.setIfInBounds_toArray, List.set_cons_zero, List.set_cons_succ]
      refine wpAnyH_ready (rs := [8]) (by kernel_rfl) (by simp) ?_
      refine AllReadyH.cons (i := 8) rfl (fun K hK => ?_) AllReadyH.nil
      simp only [List.getElem_toArray, List.getElem_cons_succ, List.getElem_cons_zero]
      rw [if_pos (by rfl)]
      go_simp
      refine hK.out _ _ trivial (fun hHeld => ?_)
      clear hK K
      try simp only [Act.put, List.setIfInBounds_toArray, List.set_cons_zero, List.set_cons_succ]
      have HS59 := hid (HS58.out.alloc (.cells #[.int .i64 (kid : Int)] 3))
      have NB59 := hid (heap_alloc_new wv58 (.cells #[.int .i64 (kid : Int)] 3))
      obtain ⟨wv59, hw59⟩ : ∃ x, wv58.alloc (.cells #[.int .i64 (kid : Int)] 3) = x := ⟨_, rfl⟩
      rw [hw59] at HS59 NB59 ⊢
      obtain ⟨bk59, hb59⟩ : ∃ x, wv58.heap.size = x := ⟨_, rfl⟩
      have BL59 := hid (show wv0.heap.size ≤ bk59 by rw [← hb59]; exact HS58.out.size)
      rw [hb59] at NB59 ⊢
      clear hw59 hb59
      refine wpAnyH_ready (rs := [9]) (by kernel_rfl) (by simp) ?_
      refine AllReadyH.cons (i := 9) rfl (fun K hK => ?_) AllReadyH.nil
      simp only [List.getElem_toArray, List.getElem_cons_succ, List.getElem_cons_zero]
      rw [if_pos (by rfl)]
      refine wp_append_lies _ (.tmp 68) (.tmp 70) 61 rfl (nb + 1) 3 i1 (.int .i64 0) 1 8 Tryd.underlying61 hi1 hz3 hz4 hz5 rfl (by decide) (.slice a2 kids.length k2) kids.length (intsJ kids) (by first | rfl | simp [Act.eval, Act.put]) HS59.out.drow ⟨bk59, 0, none⟩ 1 1 [.int .i64 (kid : Int)] (by first | rfl | simp [Act.eval, Act.put]) rfl (World.news_of_block (cs := #[.int .i64 (kid : Int)]) (t := 3) (fr := (0, 0)) NB59.out) (oneI _) (by decide) (by unfold maxLen; omega) (by omega) HS59.out.lt1 _ rfl ?_
      intro g60 cap60 wv60 hown60 hgrow60 hat60 hlt60
      have HS60 := hid (HS59.out.growD hgrow60 (hat60.imp_right (fun h => Nat.le_of_eq h.symm)) hown60)
      clear hown60 hgrow60 hat60 hlt60
      refine hK.out _ _ trivial (fun hHeld => ?_)
      clear hK K
      try simp only [Act.put, List.setIfInBounds_toArray, List.set_cons_zero, List.set_cons_succ]
      obtain ⟨n2, n3, z2, z3⟩ := HS60.out.cells HGD.out.gi.blk
      refine wpAnyH_ready (rs := [11]) (by kernel_rfl) (by simp) ?_
      refine AllReadyH.cons (i := 11) rfl (fun K hK => ?_) AllReadyH.nil
      simp only [List.getElem_toArray, List.getElem_cons_succ, List.getElem_cons_zero]
      rw [if_pos (by rfl)]
      go_simp
      refine hK.out _ _ trivial (fun hHeld => ?_)
      clear hK K
      try simp only [Act.put, List.setIfInBounds_toArray, List.set_cons_zero, List.set_cons_succ]
      refine wpAnyH_take (i := 12) (v := ?_) rfl (by kernel_rfl) (by kernel_rfl) (by kernel_rfl) (fun _ _ _ h => h) (Or.inl ⟨by rfl, ?_⟩) (by assumption) ?_
      rotate_left
      · (intro w' hSw; (try dsimp only at hSw); go_simp; try (with_reducible rfl))
      change wpAnyH _ _ _ _ _ _ _ (Act.put _ (some 73) _) _
      try simp only [Act.put, List.setIfInBounds_toArray, List.set_cons_zero, List.set_cons_succ]
      refine wpAnyH_ready (rs := [13]) (by kernel_rfl) (by simp) ?_
      refine AllReadyH.cons (i := 13) rfl (fun K hK => ?_) AllReadyH.nil
      simp only [List.getElem_toArray, List.getElem_cons_succ, List.getElem_cons_zero]
      rw [if_pos (by rfl)]
      go_simp
      refine hK.out _ _ trivial (fun hHeld => ?_)
      clear hK K
      try simp only [Act.put, List.setIfInBounds_toArray, List.set_cons_zero, List.set_cons_succ]
      refine wpAnyH_done (by kernel_rfl) ?_ _
      go_wp2
      go_meet
      case rel => exact ⟨_, _, HS60.out.ji HJD.out HGD.out.gi.gnb _ _, HGD.out.both HS60.out HMZ.out ⟨by omega, by omega⟩⟩
      refine AllReadyH.cons (i := 8) rfl (fun K hK => ?_) AllReadyH.nil
      simp only [List.getElem_toArray, List.getElem_cons_succ, List.getElem_cons_zero]
      rw [if_pos (by rfl)]
      go_simp
      refine hK.out _ _ trivial (fun hHeld => ?_)
      clear hK K
      try simp only [Act.put, List.setIfInBounds_toArray, List.set_cons_zero, List.set_cons_succ]
      have HS61 := hid (HS48.out.alloc (.cells #[.int .i64 (kid : Int)] 3))
      have NB61 := hid (heap_alloc_new wv48 (.cells #[.int .i64 (kid : Int)] 3))
      have NO61 := hid (((ext_alloc wv48 (.cells #[.int .i64 (kid : Int)] 3)).block bk48 (Array.getElem?_eq_some_iff.1 NB48.out).1).trans NB48.out)
      obtain ⟨wv61, hw61⟩ : ∃ x, wv48.alloc (.cells #[.int .i64 (kid : Int)] 3) = x := ⟨_, rfl⟩
      rw [hw61] at HS61 NB61 NO61 ⊢
      obtain ⟨bk61, hb61⟩ : ∃ x, wv48.heap.size = x := ⟨_, rfl⟩
      have BL61 := hid (show wv0.heap.size ≤ bk61 by rw [← hb61]; exact HS48.out.size)
      rw [hb61] at NB61 ⊢
      clear hw61 hb61
      refine wpAnyH_ready (rs := [4]) (by kernel_rfl) (by simp) ?_
      refine AllReadyH.cons (i := 4) rfl (fun K hK => ?_) AllReadyH.nil
      simp only [List.getElem_toArray, List.getElem_cons_succ, List.getElem_cons_zero]
      rw [if_pos (by rfl)]
      refine wp_append_lies _ (.tmp 63) (.tmp 65) 73 rfl (nb + 1) 9 ii (.string ⟨#[]⟩) 1 16 Tryd.underlying73 hi hz0 hz1 hz2 rfl (by decide) (.slice a1 keys.length k1) keys.length (strCellsL keys) (by first | rfl | simp [Act.eval, Act.put]) HS61.out.krow ⟨bk48, 0, none⟩ 1 1 [.string M] (by first | rfl | simp [Act.eval, Act.put]) rfl (World.news_of_block (cs := #[.string M]) (t := 9) (fr := (0, 0)) NO61.out) (oneS M) (by decide) (by unfold maxLen; omega) (by omega) HS61.out.lt1 _ rfl ?_
      intro g62 cap62 wv62 hown62 hgrow62 hat62 hlt62
      have HS62 := hid (HS61.out.growK hgrow62 (hat62.imp_right (fun h => Nat.le_of_eq h.symm)) hown62)
      have NO62 := hid ((hgrow62.block bk61 (Array.getElem?_eq_some_iff.1 NB61.out).1 (fun e => by have := (HS61.out.klt _ e.symm).2; have := BL61.out; omega)).trans NB61.out)
      clear hown62 hgrow62 hat62 hlt62
      refine hK.out _ _ trivial (fun hHeld => ?_)
      clear hK K
      try simp only [Act.put, List.setIfInBounds_toArray, List.set_cons_zero, List.set_cons_succ]
      refine wpAnyH_take (i := 10) (v := ?_) rfl (by kernel_rfl) (by kernel_rfl) (by kernel_rfl) (fun _ _ _ h => h) (Or.inl ⟨by rfl, ?_⟩) (by assumption) ?_
      rotate_left
      · (intro w' hSw; (try dsimp only at hSw); go_simp; try (with_reducible rfl))
      change wpAnyH _ _ _ _ _ _ _ (Act.put _ (some 72) _) _
      try simp only [Act.put, List.setIfInBounds_toArray, List.set_cons_zero, List.set_cons_succ]
      refine wpAnyH_ready (rs := [9]) (by kernel_rfl) (by simp) ?_
      refine AllReadyH.cons (i := 9) rfl (fun K hK => ?_) AllReadyH.nil
      simp only [List.getElem_toArray, List.getElem_cons_succ, List.getElem_cons_zero]
      rw [if_pos (by rfl)]
      refine wp_append_lies _ (.tmp 68) (.tmp 70) 61 rfl (nb + 1) 3 i1 (.int .i64 0) 1 8 Tryd.underlying61 hi1 hz3 hz4 hz5 rfl (by decide) (.slice a2 kids.length k2) kids.length (intsJ kids) (by first | rfl | simp [Act.eval, Act.put]) HS62.out.drow ⟨bk61, 0, none⟩ 1 1 [.int .i64 (kid : Int)] (by first | rfl | simp [Act.eval, Act.put]) rfl (World.news_of_block (cs := #[.int .i64 (kid : Int)]) (t := 3) (fr := (0, 0)) NO62.out) (oneI _) (by decide) (by unfold maxLen; omega) (by omega) HS62.out.lt1 _ rfl ?_
      intro g63 cap63 wv63 hown63 hgrow63 hat63 hlt63
      have HS63 := hid (HS62.out.growD hgrow63 (hat63.imp_right (fun h => Nat.le_of_eq h.symm)) hown63)
      clear hown63 hgrow63 hat63 hlt63
      refine hK.out _ _ trivial (fun hHeld => ?_)
      clear hK K
      try simp only [Act.put, List.setIfInBounds_toArray, List.set_cons_zero, List.set_cons_succ]
      obtain ⟨n2, n3, z2, z3⟩ := HS63.out.cells HGD.out.gi.blk
      refine wpAnyH_ready (rs := [11]) (by kernel_rfl) (by simp) ?_
      refine AllReadyH.cons (i := 11) rfl (fun K hK => ?_) AllReadyH.nil
      simp only [List.getElem_toArray, List.getElem_cons_succ, List.getElem_cons_zero]
      rw [if_pos (by rfl)]
      go_simp
      refine hK.out _ _ trivial (fun hHeld => ?_)
      clear hK K
      try simp only [Act.put, List.setIfInBounds_toArray, List.set_cons_zero, List.set_cons_succ]
      refine wpAnyH_take (i := 12) (v := ?_) rfl (by kernel_rfl) (by kernel_rfl) (by kernel_rfl) (fun _ _ _ h => h) (Or.inl ⟨by rfl, ?_⟩) (by assumption) ?_
      rotate_left
      · (intro w' hSw; (try dsimp only at hSw); go_simp; try (with_reducible rfl))
      change wpAnyH _ _ _ _ _ _ _ (Act.put _ (some 73) _) _
      try simp only [Act.put, List.setIfInBounds_toArray, List.set_cons_zero, List.set_cons_succ]
      refine wpAnyH_ready (rs := [13]) (by kernel_rfl) (by simp) ?_
      refine AllReadyH.cons (i := 13) rfl (fun K hK => ?_) AllReadyH.nil
      simp only [List.getElem_toArray, List.getElem_cons_succ, List.getElem_cons_zero]
      rw [if_pos (by rfl)]
      go_simp
      refine hK.out _ _ trivial (fun hHeld => ?_)
      clear hK K
      try simp only [Act.put, List.setIfInBounds_toArray, List.set_cons_zero, List.set_cons_succ]
      refine wpAnyH_done (by kernel_rfl) ?_ _
      go_wp2
      go_meet
      case rel => exact ⟨_, _, HS63.out.ji HJD.out HGD.out.gi.gnb _ _, HGD.out.both HS63.out HMZ.out ⟨by omega, by omega⟩⟩
      refine AllReadyH.cons (i := 8) rfl (fun K hK => ?_) AllReadyH.nil
      simp only [List.getElem_toArray, List.getElem_cons_succ, List.getElem_cons_zero]
      rw [if_pos (by rfl)]
      go_simp
      refine hK.out _ _ trivial (fun hHeld => ?_)
      clear hK K
      try simp only [Act.put, List.setIfInBounds_toArray, List.set_cons_zero, List.set_cons_succ]
      have HS64 := hid (HS48.out.alloc (.cells #[.int .i64 (kid : Int)] 3))
      have NB64 := hid (heap_alloc_new wv48 (.cells #[.int .i64 (kid : Int)] 3))
      have NO64 := hid (((ext_alloc wv48 (.cells #[.int .i64 (kid : Int)] 3)).block bk48 (Array.getElem?_eq_some_iff.1 NB48.out).1).trans NB48.out)
      obtain ⟨wv64, hw64⟩ : ∃ x, wv48.alloc (.cells #[.int .i64 (kid : Int)] 3) = x := ⟨_, rfl⟩
      rw [hw64] at HS64 NB64 NO64 ⊢
      obtain ⟨bk64, hb64⟩ : ∃ x, wv48.heap.size = x := ⟨_, rfl⟩
      have BL64 := hid (show wv0.heap.size ≤ bk64 by rw [← hb64]; exact HS48.out.size)
      rw [hb64] at NB64 ⊢
      clear hw64 hb64
      refine wpAnyH_ready (rs := [4, 6]) (by kernel_rfl) (by simp) ?_
      refine AllReadyH.cons (i := 4) rfl (fun K hK => ?_) ?_
      simp only [List.getElem_toArray, List.getElem_cons_succ, List.getElem_cons_zero]
      rw [if_pos (by rfl)]
      refine wp_append_lies _ (.tmp 63) (.tmp 65) 73 rfl (nb + 1) 9 ii (.string ⟨#[]⟩) 1 16 Tryd.underlying73 hi hz0 hz1 hz2 rfl (by decide) (.slice a1 keys.length k1) keys.length (strCellsL keys) (by first | rfl | simp [Act.eval, Act.put]) HS64.out.krow ⟨bk48, 0, none⟩ 1 1 [.string M] (by first | rfl | simp [Act.eval, Act.put]) rfl (World.news_of_block (cs := #[.string M]) (t := 9) (fr := (0, 0)) NO64.out) (oneS M) (by decide) (by unfold maxLen; omega) (by omega) HS64.out.lt1 _ rfl ?_
      intro g65 cap65 wv65 hown65 hgrow65 hat65 hlt65
      have HS65 := hid (HS64.out.growK hgrow65 (hat65.imp_right (fun h => Nat.le_of_eq h.symm)) hown65)
      have NO65 := hid ((hgrow65.block bk64 (Array.getElem?_eq_some_iff.1 NB64.out).1 (fun e => by have := (HS64.out.klt _ e.symm).2; have := BL64.out; omega)).trans NB64.out)
      clear hown65 hgrow65 hat65 hlt65
      refine hK.out _ _ trivial (fun hHeld => ?_)
      clear hK K
      try simp only [Act.put, List.setIfInBounds_toArray, List.set_cons_zero, List.set_cons_succ]
      refine wpAnyH_ready (rs := [6]) (by kernel_rfl) (by simp) ?_
      refine AllReadyH.cons (i := 6) rfl (fun K hK => ?_) AllReadyH.nil
      simp only [List.getElem_toArray, List.getElem_cons_succ, List.getElem_cons_zero]
      rw [if_pos (by rfl)]
      have n3 := (HS65.out.cells HGD.out.gi.blk).2.1
      go_simp
      refine hK.out _ _ trivial (fun hHeld => ?_)
      clear hK K n3
      try simp only [Act.put, List.setIfInBounds_toArray, List.set_cons_zero, List.set_cons_succ]
      refine wpAnyH_take (i := 10) (v := ?_) rfl (by kernel_rfl) (by kernel_rfl) (by kernel_rfl) (fun _ _ _ h => h) (Or.inl ⟨by rfl, ?_⟩) (by assumption) ?_
      rotate_left
      · (intro w' hSw; (try dsimp only at hSw); go_simp; try (with_reducible rfl))
      change wpAnyH _ _ _ _ _ _ _ (Act.put _ (some 72) _) _
      try simp only [Act.put, List.setIfInBounds_toArray, List.set_cons_zero, List.set_cons_succ]
      refine wpAnyH_ready (rs := [9]) (by kernel_rfl) (by simp) ?_
      refine AllReadyH.cons (i := 9) rfl (fun K hK => ?_) AllReadyH.nil
      simp only [List.getElem_toArray, List.getElem_cons_succ, List.getElem_cons_zero]
      rw [if_pos (by rfl)]
      refine wp_append_lies _ (.tmp 68) (.tmp 70) 61 rfl (nb + 1) 3 i1 (.int .i64 0) 1 8 Tryd.underlying61 hi1 hz3 hz4 hz5 rfl (by decide) (.slice a2 kids.length k2) kids.length (intsJ kids) (by first | rfl | simp [Act.eval, Act.put]) HS65.out.drow ⟨bk64, 0, none⟩ 1 1 [.int .i64 (kid : Int)] (by first | rfl | simp [Act.eval, Act.put]) rfl (World.news_of_block (cs := #[.int .i64 (kid : Int)]) (t := 3) (fr := (0, 0)) NO65.out) (oneI _) (by decide) (by unfold maxLen; omega) (by omega) HS65.out.lt1 _ rfl ?_
      intro g67 cap67 wv67 hown67 hgrow67 hat67 hlt67
      have HS67 := hid (HS65.out.growD hgrow67 (hat67.imp_right (fun h => Nat.le_of_eq h.symm)) hown67)
      clear hown67 hgrow67 hat67 hlt67
      refine hK.out _ _ trivial (fun hHeld => ?_)
      clear hK K
      try simp only [Act.put, List.setIfInBounds_toArray, List.set_cons_zero, List.set_cons_succ]
      obtain ⟨n2, n3, z2, z3⟩ := HS67.out.cells HGD.out.gi.blk
      refine wpAnyH_ready (rs := [11]) (by kernel_rfl) (by simp) ?_
      refine AllReadyH.cons (i := 11) rfl (fun K hK => ?_) AllReadyH.nil
      simp only [List.getElem_toArray, List.getElem_cons_succ, List.getElem_cons_zero]
      rw [if_pos (by rfl)]
      go_simp
      refine hK.out _ _ trivial (fun hHeld => ?_)
      clear hK K
      try simp only [Act.put, List.setIfInBounds_toArray, List.set_cons_zero, List.set_cons_succ]
      refine wpAnyH_take (i := 12) (v := ?_) rfl (by kernel_rfl) (by kernel_rfl) (by kernel_rfl) (fun _ _ _ h => h) (Or.inl ⟨by rfl, ?_⟩) (by assumption) ?_
      rotate_left
      · (intro w' hSw; (try dsimp only at hSw); go_simp; try (with_reducible rfl))
      change wpAnyH _ _ _ _ _ _ _ (Act.put _ (some 73) _) _
      try simp only [Act.put, List.setIfInBounds_toArray, List.set_cons_zero, List.set_cons_succ]
      refine wpAnyH_ready (rs := [13]) (by kernel_rfl) (by simp) ?_
      refine AllReadyH.cons (i := 13) rfl (fun K hK => ?_) AllReadyH.nil
      simp only [List.getElem_toArray, List.getElem_cons_succ, List.getElem_cons_zero]
      rw [if_pos (by rfl)]
      go_simp
      refine hK.out _ _ trivial (fun hHeld => ?_)
      clear hK K
      try simp only [Act.put, List.setIfInBounds_toArray, List.set_cons_zero, List.set_cons_succ]
      refine wpAnyH_done (by kernel_rfl) ?_ _
      go_wp2
      go_meet
      case rel => exact ⟨_, _, HS67.out.ji HJD.out HGD.out.gi.gnb _ _, HGD.out.both HS67.out HMZ.out ⟨by omega, by omega⟩⟩
      refine AllReadyH.cons (i := 6) rfl (fun K hK => ?_) AllReadyH.nil
      simp only [List.getElem_toArray, List.getElem_cons_succ, List.getElem_cons_zero]
      rw [if_pos (by rfl)]
      have n3 := (HS64.out.cells HGD.out.gi.blk).2.1
      go_simp
      refine hK.out _ _ trivial (fun hHeld => ?_)
      clear hK K n3
      try simp only [Act.put, List.setIfInBounds_toArray, List.set_cons_zero, List.set_cons_succ]
      refine wpAnyH_ready (rs := [4]) (by kernel_rfl) (by simp) ?_
      refine AllReadyH.cons (i := 4) rfl (fun K hK => ?_) AllReadyH.nil
      simp only [List.getElem_toArray, List.getElem_cons_succ, List.getElem_cons_zero]
      rw [if_pos (by rfl)]
      refine wp_append_lies _ (.tmp 63) (.tmp 65) 73 rfl (nb + 1) 9 ii (.string ⟨#[]⟩) 1 16 Tryd.underlying73 hi hz0 hz1 hz2 rfl (by decide) (.slice a1 keys.length k1) keys.length (strCellsL keys) (by first | rfl | simp [Act.eval, Act.put]) HS64.out.krow ⟨bk48, 0, none⟩ 1 1 [.string M] (by first | rfl | simp [Act.eval, Act.put]) rfl (World.news_of_block (cs := #[.string M]) (t := 9) (fr := (0, 0)) NO64.out) (oneS M) (by decide) (by unfold maxLen; omega) (by omega) HS64.out.lt1 _ rfl ?_
      intro g69 cap69 wv69 hown69 hgrow69 hat69 hlt69
      have HS69 := hid (HS64.out.growK hgrow69 (hat69.imp_right (fun h => Nat.le_of_eq h.symm)) hown69)
      have NO69 := hid ((hgrow69.block bk64 (Array.getElem?_eq_some_iff.1 NB64.out).1 (fun e => by have := (HS64.out.klt _ e.symm).2; have := BL64.out; omega)).trans NB64.out)
      clear hown69 hgrow69 hat69 hlt69
      refine hK.out _ _ trivial (fun hHeld => ?_)
      clear hK K
      try simp only [Act.put, List.setIfInBounds_toArray, List.set_cons_zero, List.set_cons_succ]
      refine wpAnyH_take (i := 10) (v := ?_) rfl (by kernel_rfl) (by kernel_rfl) (by kernel_rfl) (fun _ _ _ h => h) (Or.inl ⟨by rfl, ?_⟩) (by assumption) ?_
      rotate_left
      · (intro w' hSw; (try dsimp only at hSw); go_simp; try (with_reducible rfl))
      change wpAnyH _ _ _ _ _ _ _ (Act.put _ (some 72) _) _
      try simp only [Act.put, List.setIfInBounds_toArray, List.set_cons_zero, List.set_cons_succ]
      refine wpAnyH_ready (rs := [9]) (by kernel_rfl) (by simp) ?_
      refine AllReadyH.cons (i := 9) rfl (fun K hK => ?_) AllReadyH.nil
      simp only [List.getElem_toArray, List.getElem_cons_succ, List.getElem_cons_zero]
      rw [if_pos (by rfl)]
      refine wp_append_lies _ (.tmp 68) (.tmp 70) 61 rfl (nb + 1) 3 i1 (.int .i64 0) 1 8 Tryd.underlying61 hi1 hz3 hz4 hz5 rfl (by decide) (.slice a2 kids.length k2) kids.length (intsJ kids) (by first | rfl | simp [Act.eval, Act.put]) HS69.out.drow ⟨bk64, 0, none⟩ 1 1 [.int .i64 (kid : Int)] (by first | rfl | simp [Act.eval, Act.put]) rfl (World.news_of_block (cs := #[.int .i64 (kid : Int)]) (t := 3) (fr := (0, 0)) NO69.out) (oneI _) (by decide) (by unfold maxLen; omega) (by omega) HS69.out.lt1 _ rfl ?_
      intro g70 cap70 wv70 hown70 hgrow70 hat70 hlt70
      have HS70 := hid (HS69.out.growD hgrow70 (hat70.imp_right (fun h => Nat.le_of_eq h.symm)) hown70)
      clear hown70 hgrow70 hat70 hlt70
      refine hK.out _ _ trivial (fun hHeld => ?_)
      clear hK K
      try simp only [Act.put, List.setIfInBounds_toArray, List.set_cons_zero, List.set_cons_succ]
      obtain ⟨n2, n3, z2, z3⟩ := HS70.out.cells HGD.out.gi.blk
      refine wpAnyH_ready (rs := [11]) (by kernel_rfl) (by simp) ?_
      refine AllReadyH.cons (i := 11) rfl (fun K hK => ?_) AllReadyH.nil
      simp only [List.getElem_toArray, List.getElem_cons_succ, List.getElem_cons_zero]
      rw [if_pos (by rfl)]
      go_simp
      refine hK.out _ _ trivial (fun hHeld => ?_)
      clear hK K
      try simp only [Act.put, List.setIfInBounds_toArray, List.set_cons_zero, List.set_cons_succ]
      refine wpAnyH_take (i := 12) (v := ?_) rfl (by kernel_rfl) (by kernel_rfl) (by kernel_rfl) (fun _ _ _ h => h) (Or.inl ⟨by rfl, ?_⟩) (by assumption) ?_
      rotate_left
      · (intro w' hSw; (try dsimp only at hSw); go_simp; try (with_reducible rfl))
      change wpAnyH _ _ _ _ _ _ _ (Act.put _ (some 73) _) _
      try simp only [Act.put, List.setIfInBounds_toArray, List.set_cons_zero, List.set_cons_succ]
      refine wpAnyH_ready (rs := [13]) (by kernel_rfl) (by simp) ?_
      refine AllReadyH.cons (i := 13) rfl (fun K hK => ?_) AllReadyH.nil
      simp only [List.getElem_toArray, List.getElem_cons_succ, List.getElem_cons_zero]
      rw [if_pos (by rfl)]
      go_simp
      refine hK.out _ _ trivial (fun hHeld => ?_)
      clear hK K
      try simp only [Act.put, List.setIfInBounds_toArray, List.set_cons_zero, List.set_cons_succ]
      refine wpAnyH_done (by kernel_rfl) ?_ _
      go_wp2
      go_meet
      case rel => exact ⟨_, _, HS70.out.ji HJD.out HGD.out.gi.gnb _ _, HGD.out.both HS70.out HMZ.out ⟨by omega, by omega⟩⟩
      refine AllReadyH.cons (i := 6) rfl (fun K hK => ?_) ?_
      simp only [List.getElem_toArray, List.getElem_cons_succ, List.getElem_cons_zero]
      rw [if_pos (by rfl)]
      have n3 := (HS48.out.cells HGD.out.gi.blk).2.1
      go_simp
      refine hK.out _ _ trivial (fun hHeld => ?_)
      clear hK K n3
      try simp only [Act.put, List.setIfInBounds_toArray, List.set_cons_zero, List.set_cons_succ]
      refine wpAnyH_ready (rs := [1, 8]) (by kernel_rfl) (by simp) ?_
      refine AllReadyH.cons (i := 1) rfl (fun K hK => ?_) ?_
      simp only [List.getElem_toArray, List.getElem_cons_succ, List.getElem_cons_zero]
      rw [if_pos (by rfl)]
      have n2 := (HS48.out.cells HGD.out.gi.blk).1
      go_simp
      refine hK.out _ _ trivial (fun hHeld => ?_)
      clear hK K n2
      try simp only [Act.put, List.setIfInBounds_toArray, List.set_cons_zero, List.set_cons_succ]
      refine wpAnyH_ready (rs := [4, 8]) (by kernel_rfl) (by simp) ?_
      refine AllReadyH.cons (i := 4) rfl (fun K hK => ?_) ?_
      simp only [List.getElem_toArray, List.getElem_cons_succ, List.getElem_cons_zero]
      rw [if_pos (by rfl)]
      refine wp_append_lies _ (.tmp 63) (.tmp 65) 73 rfl (nb + 1) 9 ii (.string ⟨#[]⟩) 1 16 Tryd.underlying73 hi hz0 hz1 hz2 rfl (by decide) (.slice a1 keys.length k1) keys.length (strCellsL keys) (by first | rfl | simp [Act.eval, Act.put]) HS48.out.krow ⟨bk48, 0, none⟩ 1 1 [.string M] (by first | rfl | simp [Act.eval, Act.put]) rfl (World.news_of_block (cs := #[.string M]) (t := 9) (fr := (0, 0)) NB48.out) (oneS M) (by decide) (by unfold maxLen; omega) (by omega) HS48.out.lt1 _ rfl ?_
      intro g73 cap73 wv73 hown73 hgrow73 hat73 hlt73
      have HS73 := hid (HS48.out.growK hgrow73 (hat73.imp_right (fun h => Nat.le_of_eq h.symm)) hown73)
      clear hown73 hgrow73 hat73 hlt73
      refine hK.out _ _ trivial (fun hHeld => ?_)
      clear hK K
      try simp only [Act.put, List.setIfInBounds_toArray, List.set_cons_zero, List.set_cons_succ]
      refine wpAnyH_take (i := 10) (v := ?_) rfl (by kernel_rfl) (by kernel_rfl) (by kernel_rfl) (fun _ _ _ h => h) (Or.inl ⟨by rfl, ?_⟩) (by assumption) ?_
      rotate_left
      · (intro w' hSw; (try dsimp only at hSw); go_simp; try (with_reducible rfl))
      change wpAnyH _ _ _ _ _ _ _ (Act.put _ (some 72) _) _
      try simp only [Act.put, List.setIfInBounds_toArray, List.set_cons_zero, List.set_cons_succ]
      refine wpAnyH_ready (rs := [8]) (by kernel_rfl) (by simp) ?_
      refine AllReadyH.cons (i := 8) rfl (fun K hK => ?_) AllReadyH.nil
      simp only [List.getElem_toArray, List.getElem_cons_succ, List.getElem_cons_zero]
      rw [if_pos (by rfl)]
      go_simp
      refine hK.out _ _ trivial (fun hHeld => ?_)
      clear hK K
      try simp only [Act.put, List.setIfInBounds_toArray, List.set_cons_zero, List.set_cons_succ]
      have HS74 := hid (HS73.out.alloc (.cells #[.int .i64 (kid : Int)] 3))
      have NB74 := hid (heap_alloc_new wv73 (.cells #[.int .i64 (kid : Int)] 3))
      obtain ⟨wv74, hw74⟩ : ∃ x, wv73.alloc (.cells #[.int .i64 (kid : Int)] 3) = x := ⟨_, rfl⟩
      rw [hw74] at HS74 NB74 ⊢
      obtain ⟨bk74, hb74⟩ : ∃ x, wv73.heap.size = x := ⟨_, rfl⟩
      have BL74 := hid (show wv0.heap.size ≤ bk74 by rw [← hb74]; exact HS73.out.size)
      rw [hb74] at NB74 ⊢
      clear hw74 hb74
      refine wpAnyH_ready (rs := [9]) (by kernel_rfl) (by simp) ?_
      refine AllReadyH.cons (i := 9) rfl (fun K hK => ?_) AllReadyH.nil
      simp only [List.getElem_toArray, List.getElem_cons_succ, List.getElem_cons_zero]
      rw [if_pos (by rfl)]
      refine wp_append_lies _ (.tmp 68) (.tmp 70) 61 rfl (nb + 1) 3 i1 (.int .i64 0) 1 8 Tryd.underlying61 hi1 hz3 hz4 hz5 rfl (by decide) (.slice a2 kids.length k2) kids.length (intsJ kids) (by first | rfl | simp [Act.eval, Act.put]) HS74.out.drow ⟨bk74, 0, none⟩ 1 1 [.int .i64 (kid : Int)] (by first | rfl | simp [Act.eval, Act.put]) rfl (World.news_of_block (cs := #[.int .i64 (kid : Int)]) (t := 3) (fr := (0, 0)) NB74.out) (oneI _) (by decide) (by unfold maxLen; omega) (by omega) HS74.out.lt1 _ rfl ?_
      intro g75 cap75 wv75 hown75 hgrow75 hat75 hlt75
      have HS75 := hid (HS74.out.growD hgrow75 (hat75.imp_right (fun h => Nat.le_of_eq h.symm)) hown75)
      clear hown75 hgrow75 hat75 hlt75
      refine hK.out _ _ trivial (fun hHeld => ?_)
      clear hK K
      try simp only [Act.put, List.setIfInBounds_toArray, List.set_cons_zero, List.set_cons_succ]
      obtain ⟨n2, n3, z2, z3⟩ := HS75.out.cells HGD.out.gi.blk
      refine wpAnyH_ready (rs := [11]) (by kernel_rfl) (by simp) ?_
      refine AllReadyH.cons (i := 11) rfl (fun K hK => ?_) AllReadyH.nil
      simp only [List.getElem_toArray, List.getElem_cons_succ, List.getElem_cons_zero]
      rw [if_pos (by rfl)]
      go_simp
      refine hK.out _ _ trivial (fun hHeld => ?_)
      clear hK K
      try simp only [Act.put, List.setIfInBounds_toArray, List.set_cons_zero, List.set_cons_succ]
      refine wpAnyH_take (i := 12) (v := ?_) rfl (by kernel_rfl) (by kernel_rfl) (by kernel_rfl) (fun _ _ _ h => h) (Or.inl ⟨by rfl, ?_⟩) (by assumption) ?_
      rotate_left
      · (intro w' hSw; (try dsimp only at hSw); go_simp; try (with_reducible rfl))
      change wpAnyH _ _ _ _ _ _ _ (Act.put _ (some 73) _) _
      try simp only [Act.put, List.setIfInBounds_toArray, List.set_cons_zero, List.set_cons_succ]
      refine wpAnyH_ready (rs := [13]) (by kernel_rfl) (by simp) ?_
      refine AllReadyH.cons (i := 13) rfl (fun K hK => ?_) AllReadyH.nil
      simp only [List.getElem_toArray, List.getElem_cons_succ, List.getElem_cons_zero]
      rw [if_pos (by rfl)]
      go_simp
      refine hK.out _ _ trivial (fun hHeld => ?_)
      clear hK K
      try simp only [Act.put, List.setIfInBounds_toArray, List.set_cons_zero, List.set_cons_succ]
      refine wpAnyH_done (by kernel_rfl) ?_ _
      go_wp2
      go_meet
      case rel => exact ⟨_, _, HS75.out.ji HJD.out HGD.out.gi.gnb _ _, HGD.out.both HS75.out HMZ.out ⟨by omega, by omega⟩⟩
      refine AllReadyH.cons (i := 8) rfl (fun K hK => ?_) AllReadyH.nil
      simp only [List.getElem_toArray, List.getElem_cons_succ, List.getElem_cons_zero]
      rw [if_pos (by rfl)]
      go_simp
      refine hK.out _ _ trivial (fun hHeld => ?_)
      clear hK K
      try simp only [Act.put, List.setIfInBounds_toArray, List.set_cons_zero, List.set_cons_succ]
      have HS76 := hid (HS48.out.alloc (.cells #[.int .i64 (kid : Int)] 3))
      have NB76 := hid (heap_alloc_new wv48 (.cells #[.int .i64 (kid : Int)] 3))
      have NO76 := hid (((ext_alloc wv48 (.cells #[.int .i64 (kid : Int)] 3)).block bk48 (Array.getElem?_eq_some_iff.1 NB48.out).1).trans NB48.out)
      obtain ⟨wv76, hw76⟩ : ∃ x, wv48.alloc (.cells #[.int .i64 (kid : Int)] 3) = x := ⟨_, rfl⟩
      rw [hw76] at HS76 NB76 NO76 ⊢
      obtain ⟨bk76, hb76⟩ : ∃ x, wv48.heap.size = x := ⟨_, rfl⟩
      have BL76 := hid (show wv0.heap.size ≤ bk76 by rw [← hb76]; exact HS48.out.size)
      rw [hb76] at NB76 ⊢
      clear hw76 hb76
      refine wpAnyH_ready (rs := [4]) (by kernel_rfl) (by simp) ?_
      refine AllReadyH.cons (i := 4) rfl (fun K hK => ?_) AllReadyH.nil
      simp only [List.getElem_toArray, List.getElem_cons_succ, List.getElem_cons_zero]
      rw [if_pos (by rfl)]
      refine wp_append_lies _ (.tmp 63) (.tmp 65) 73 rfl (nb + 1) 9 ii (.string ⟨#[]⟩) 1 16 Tryd.underlying73 hi hz0 hz1 hz2 rfl (by decide) (.slice a1 keys.length k1) keys.length (strCellsL keys) (by first | rfl | simp [Act.eval, Act.put]) HS76.out.krow ⟨bk48, 0, none⟩ 1 1 [.string M] (by first | rfl | simp [Act.eval, Act.put]) rfl (World.news_of_block (cs := #[.string M]) (t := 9) (fr := (0, 0)) NO76.out) (oneS M) (by decide) (by unfold maxLen; omega) (by omega) HS76.out.lt1 _ rfl ?_
      intro g77 cap77 wv77 hown77 hgrow77 hat77 hlt77
      have HS77 := hid (HS76.out.growK hgrow77 (hat77.imp_right (fun h => Nat.le_of_eq h.symm)) hown77)
      have NO77 := hid ((hgrow77.block bk76 (Array.getElem?_eq_some_iff.1 NB76.out).1 (fun e => by have := (HS76.out.klt _ e.symm).2; have := BL76.out; omega)).trans NB76.out)
      clear hown77 hgrow77 hat77 hlt77
      refine hK.out _ _ trivial (fun hHeld => ?_)
      clear hK K
      try simp only [Act.put, List.setIfInBounds_toArray, List.set_cons_zero, List.set_cons_succ]
      refine wpAnyH_take (i := 10) (v := ?_) rfl (by kernel_rfl) (by kernel_rfl) (by kernel_rfl) (fun _ _ _ h => h) (Or.inl ⟨by rfl, ?_⟩) (by assumption) ?_
      rotate_left
      · (intro w' hSw; (try dsimp only at hSw); go_simp; try (with_reducible rfl))
      change wpAnyH _ _ _ _ _ _ _ (Act.put _ (some 72) _) _
      try simp only [Act.put, List.setIfInBounds_toArray, List.set_cons_zero, List.set_cons_succ]
      refine wpAnyH_ready (rs := [9]) (by kernel_rfl) (by simp) ?_
      refine AllReadyH.cons (i := 9) rfl (fun K hK => ?_) AllReadyH.nil
      simp only [List.getElem_toArray, List.getElem_cons_succ, List.getElem_cons_zero]
      rw [if_pos (by rfl)]
      refine wp_append_lies _ (.tmp 68) (.tmp 70) 61 rfl (nb + 1) 3 i1 (.int .i64 0) 1 8 Tryd.underlying61 hi1 hz3 hz4 hz5 rfl (by decide) (.slice a2 kids.length k2) kids.length (intsJ kids) (by first | rfl | simp [Act.eval, Act.put]) HS77.out.drow ⟨bk76, 0, none⟩ 1 1 [.int .i64 (kid : Int)] (by first | rfl | simp [Act.eval, Act.put]) rfl (World.news_of_block (cs := #[.int .i64 (kid : Int)]) (t := 3) (fr := (0, 0)) NO77.out) (oneI _) (by decide) (by unfold maxLen; omega) (by omega) HS77.out.lt1 _ rfl ?_
      intro g78 cap78 wv78 hown78 hgrow78 hat78 hlt78
      have HS78 := hid (HS77.out.growD hgrow78 (hat78.imp_right (fun h => Nat.le_of_eq h.symm)) hown78)
      clear hown78 hgrow78 hat78 hlt78
      refine hK.out _ _ trivial (fun hHeld => ?_)
      clear hK K
      try simp only [Act.put, List.setIfInBounds_toArray, List.set_cons_zero, List.set_cons_succ]
      obtain ⟨n2, n3, z2, z3⟩ := HS78.out.cells HGD.out.gi.blk
      refine wpAnyH_ready (rs := [11]) (by kernel_rfl) (by simp) ?_
      refine AllReadyH.cons (i := 11) rfl (fun K hK => ?_) AllReadyH.nil
      simp only [List.getElem_toArray, List.getElem_cons_succ, List.getElem_cons_zero]
      rw [if_pos (by rfl)]
      go_simp
      refine hK.out _ _ trivial (fun hHeld => ?_)
      clear hK K
      try simp only [Act.put, List.setIfInBounds_toArray, List.set_cons_zero, List.set_cons_succ]
      refine wpAnyH_take (i := 12) (v := ?_) rfl (by kernel_rfl) (by kernel_rfl) (by kernel_rfl) (fun _ _ _ h => h) (Or.inl ⟨by rfl, ?_⟩) (by assumption) ?_
      rotate_left
      · (intro w' hSw; (try dsimp only at hSw); go_simp; try (with_reducible rfl))
      change wpAnyH _ _ _ _ _ _ _ (Act.put _ (some 73) _) _
      try simp only [Act.put, List.setIfInBounds_toArray, List.set_cons_zero, List.set_cons_succ]
      refine wpAnyH_ready (rs := [13]) (by kernel_rfl) (by simp) ?_
      refine AllReadyH.cons (i := 13) rfl (fun K hK => ?_) AllReadyH.nil
      simp only [List.getElem_toArray, List.getElem_cons_succ, List.getElem_cons_zero]
      rw [if_pos (by rfl)]
      go_simp
      refine hK.out _ _ trivial (fun hHeld => ?_)
      clear hK K
      try simp only [Act.put, List.setIfInBounds_toArray, List.set_cons_zero, List.set_cons_succ]
      refine wpAnyH_done (by kernel_rfl) ?_ _
      go_wp2
      go_meet
      case rel => exact ⟨_, _, HS78.out.ji HJD.out HGD.out.gi.gnb _ _, HGD.out.both HS78.out HMZ.out ⟨by omega, by omega⟩⟩
      refine AllReadyH.cons (i := 8) rfl (fun K hK => ?_) AllReadyH.nil
      simp only [List.getElem_toArray, List.getElem_cons_succ, List.getElem_cons_zero]
      rw [if_pos (by rfl)]
      go_simp
      refine hK.out _ _ trivial (fun hHeld => ?_)
      clear hK K
      try simp only [Act.put, List.setIfInBounds_toArray, List.set_cons_zero, List.set_cons_succ]
      have HS79 := hid (HS48.out.alloc (.cells #[.int .i64 (kid : Int)] 3))
      have NB79 := hid (heap_alloc_new wv48 (.cells #[.int .i64 (kid : Int)] 3))
      have NO79 := hid (((ext_alloc wv48 (.cells #[.int .i64 (kid : Int)] 3)).block bk48 (Array.getElem?_eq_some_iff.1 NB48.out).1).trans NB48.out)
      obtain ⟨wv79, hw79⟩ : ∃ x, wv48.alloc (.cells #[.int .i64 (kid : Int)] 3) = x := ⟨_, rfl⟩
      rw [hw79] at HS79 NB79 NO79 ⊢
      obtain ⟨bk79, hb79⟩ : ∃ x, wv48.heap.size = x := ⟨_, rfl⟩
      have BL79 := hid (show wv0.heap.size ≤ bk79 by rw [← hb79]; exact HS48.out.size)
      rw [hb79] at NB79 ⊢
      clear hw79 hb79
      refine wpAnyH_ready (rs := [1]) (by kernel_rfl) (by simp) ?_
      refine AllReadyH.cons (i := 1) rfl (fun K hK => ?_) AllReadyH.nil
      simp only [List.getElem_toArray, List.getElem_cons_succ, List.getElem_cons_zero]
      rw [if_pos (by rfl)]
      have n2 := (HS79.out.cells HGD.out.gi.blk).1
      go_simp
      refine hK.out _ _ trivial (fun hHeld => ?_)
      clear hK K n2
      try simp only [Act.put, List.setIfInBounds_toArray, List.set_cons_zero, List.set_cons_succ]
      refine wpAnyH_ready (rs := [4]) (by kernel_rfl) (by simp) ?_
      refine AllReadyH.cons (i := 4) rfl (fun K hK => ?_) AllReadyH.nil
      simp only [List.getElem_toArray, List.getElem_cons_succ, List.getElem_cons_zero]
      rw [if_pos (by rfl)]
      refine wp_append_lies _ (.tmp 63) (.tmp 65) 73 rfl (nb + 1) 9 ii (.string ⟨#[]⟩) 1 16 Tryd.underlying73 hi hz0 hz1 hz2 rfl (by decide) (.slice a1 keys.length k1) keys.length (strCellsL keys) (by first | rfl | simp [Act.eval, Act.put]) HS79.out.krow ⟨bk48, 0, none⟩ 1 1 [.string M] (by first | rfl | simp [Act.eval, Act.put]) rfl (World.news_of_block (cs := #[.string M]) (t := 9) (fr := (0, 0)) NO79.out) (oneS M) (by decide) (by unfold maxLen; omega) (by omega) HS79.out.lt1 _ rfl ?_
      intro g81 cap81 wv81 hown81 hgrow81 hat81 hlt81
      have HS81 := hid (HS79.out.growK hgrow81 (hat81.imp_right (fun h => Nat.le_of_eq h.symm)) hown81)
      have NO81 := hid ((hgrow81.block bk79 (Array.getElem?_eq_some_iff.1 NB79.out).1 (fun e => by have := (HS79.out.klt _ e.symm).2; have := BL79.out; omega)).trans NB79.out)
      clear hown81 hgrow81 hat81 hlt81
      refine hK.out _ _ trivial (fun hHeld => ?_)
      clear hK K
      try simp only [Act.put, List.setIfInBounds_toArray, List.set_cons_zero, List.set_cons_succ]
      refine wpAnyH_take (i := 10) (v := ?_) rfl (by kernel_rfl) (by kernel_rfl) (by kernel_rfl) (fun _ _ _ h => h) (Or.inl ⟨by rfl, ?_⟩) (by assumption) ?_
      rotate_left
      · (intro w' hSw; (try dsimp only at hSw); go_simp; try (with_reducible rfl))
      change wpAnyH _ _ _ _ _ _ _ (Act.put _ (some 72) _) _
      try simp only [Act.put, List.setIfInBounds_toArray, List.set_cons_zero, List.set_cons_succ]
      refine wpAnyH_ready (rs := [9]) (by kernel_rfl) (by simp) ?_
      refine AllReadyH.cons (i := 9) rfl (fun K hK => ?_) AllReadyH.nil
      simp only [List.getElem_toArray, List.getElem_cons_succ, List.getElem_cons_zero]
      rw [if_pos (by rfl)]
      refine wp_append_lies _ (.tmp 68) (.tmp 70) 61 rfl (nb + 1) 3 i1 (.int .i64 0) 1 8 Tryd.underlying61 hi1 hz3 hz4 hz5 rfl (by decide) (.slice a2 kids.length k2) kids.length (intsJ kids) (by first | rfl | simp [Act.eval, Act.put]) HS81.out.drow ⟨bk79, 0, none⟩ 1 1 [.int .i64 (kid : Int)] (by first | rfl | simp [Act.eval, Act.put]) rfl (World.news_of_block (cs := #[.int .i64 (kid : Int)]) (t := 3) (fr := (0, 0)) NO81.out) (oneI _) (by decide) (by unfold maxLen; omega) (by omega) HS81.out.lt1 _ rfl ?_
      intro g82 cap82 wv82 hown82 hgrow82 hat82 hlt82
      have HS82 := hid (HS81.out.growD hgrow82 (hat82.imp_right (fun h => Nat.le_of_eq h.symm)) hown82)
      clear hown82 hgrow82 hat82 hlt82
      refine hK.out _ _ trivial (fun hHeld => ?_)
      clear hK K
      try simp only [Act.put, List.setIfInBounds_toArray, List.set_cons_zero, List.set_cons_succ]
      obtain ⟨n2, n3, z2, z3⟩ := HS82.out.cells HGD.out.gi.blk
      refine wpAnyH_ready (rs := [11]) (by kernel_rfl) (by simp) ?_
      refine AllReadyH.cons (i := 11) rfl (fun K hK => ?_) AllReadyH.nil
      simp only [List.getElem_toArray, List.getElem_cons_succ, List.getElem_cons_zero]
      rw [if_pos (by rfl)]
      go_simp
      refine hK.out _ _ trivial (fun hHeld => ?_)
      clear hK K
      try simp only [Act.put, List.setIfInBounds_toArray, List.set_cons_zero, List.set_cons_succ]
      refine wpAnyH_take (i := 12) (v := ?_) rfl (by kernel_rfl) (by kernel_rfl) (by kernel_rfl) (fun _ _ _ h => h) (Or.inl ⟨by rfl, ?_⟩) (by assumption) ?_
      rotate_left
      · (intro w' hSw; (try dsimp only at hSw); go_simp; try (with_reducible rfl))
      change wpAnyH _ _ _ _ _ _ _ (Act.put _ (some 73) _) _
      try simp only [Act.put, List.setIfInBounds_toArray, List.set_cons_zero, List.set_cons_succ]
      refine wpAnyH_ready (rs := [13]) (by kernel_rfl) (by simp) ?_
      refine AllReadyH.cons (i := 13) rfl (fun K hK => ?_) AllReadyH.nil
      simp only [List.getElem_toArray, List.getElem_cons_succ, List.getElem_cons_zero]
      rw [if_pos (by rfl)]
      go_simp
      refine hK.out _ _ trivial (fun hHeld => ?_)
      clear hK K
      try simp only [Act.put, List.setIfInBounds_toArray, List.set_cons_zero, List.set_cons_succ]
      refine wpAnyH_done (by kernel_rfl) ?_ _
      go_wp2
      go_meet
      case rel => exact ⟨_, _, HS82.out.ji HJD.out HGD.out.gi.gnb _ _, HGD.out.both HS82.out HMZ.out ⟨by omega, by omega⟩⟩
      refine AllReadyH.cons (i := 8) rfl (fun K hK => ?_) AllReadyH.nil
      simp only [List.getElem_toArray, List.getElem_cons_succ, List.getElem_cons_zero]
      rw [if_pos (by rfl)]
      go_simp
      refine hK.out _ _ trivial (fun hHeld => ?_)
      clear hK K
      try simp only [Act.put, List.setIfInBounds_toArray, List.set_cons_zero, List.set_cons_succ]
      have HS83 := hid (HS48.out.alloc (.cells #[.int .i64 (kid : Int)] 3))
      have NB83 := hid (heap_alloc_new wv48 (.cells #[.int .i64 (kid : Int)] 3))
      have NO83 := hid (((ext_alloc wv48 (.cells #[.int .i64 (kid : Int)] 3)).block bk48 (Array.getElem?_eq_some_iff.1 NB48.out).1).trans NB48.out)
      obtain ⟨wv83, hw83⟩ : ∃ x, wv48.alloc (.cells #[.int .i64 (kid : Int)] 3) = x := ⟨_, rfl⟩
      rw [hw83] at HS83 NB83 NO83 ⊢
      obtain ⟨bk83, hb83⟩ : ∃ x, wv48.heap.size = x := ⟨_, rfl⟩
      have BL83 := hid (show wv0.heap.size ≤ bk83 by rw [← hb83]; exact HS48.out.size)
      rw [hb83] at NB83 ⊢
      clear hw83 hb83
      refine wpAnyH_ready (rs := [1, 6]) (by kernel_rfl) (by simp) ?_
      refine AllReadyH.cons (i := 1) rfl (fun K hK => ?_) ?_
      simp only [List.getElem_toArray, List.getElem_cons_succ, List.getElem_cons_zero]
      rw [if_pos (by rfl)]
      have n2 := (HS83.out.cells HGD.out.gi.blk).1
      go_simp
      refine hK.out _ _ trivial (fun hHeld => ?_)
      clear hK K n2
      try simp only [Act.put, List.setIfInBounds_toArray, List.set_cons_zero, List.set_cons_succ]
      refine wpAnyH_ready (rs := [4, 6]) (by kernel_rfl) (by simp) ?_
      refine AllReadyH.cons (i := 4) rfl (fun K hK => ?_) ?_
      simp only [List.getElem_toArray, List.getElem_cons_succ, List.getElem_cons_zero]
      rw [if_pos (by rfl)]
      refine wp_append_lies _ (.tmp 63) (.tmp 65) 73 rfl (nb + 1) 9 ii (.string ⟨#[]⟩) 1 16 Tryd.underlying73 hi hz0 hz1 hz2 rfl (by decide) (.slice a1 keys.length k1) keys.length (strCellsL keys) (by first | rfl | simp [Act.eval, Act.put]) HS83.out.krow ⟨bk48, 0, none⟩ 1 1 [.string M] (by first | rfl | simp [Act.eval, Act.put]) rfl (World.news_of_block (cs := #[.string M]) (t := 9) (fr := (0, 0)) NO83.out) (oneS M) (by decide) (by unfold maxLen; omega) (by omega) HS83.out.lt1 _ rfl ?_
      intro g85 cap85 wv85 hown85 hgrow85 hat85 hlt85
      have HS85 := hid (HS83.out.growK hgrow85 (hat85.imp_right (fun h => Nat.le_of_eq h.symm)) hown85)
      have NO85 := hid ((hgrow85.block bk83 (Array.getElem?_eq_some_iff.1 NB83.out).1 (fun e => by have := (HS83.out.klt _ e.symm).2; have := BL83.out; omega)).trans NB83.out)
      clear hown85 hgrow85 hat85 hlt85
      refine hK.out _ _ trivial (fun hHeld => ?_)
      clear hK K
      try simp only [Act.put, List.setIfInBounds_toArray, List.set_cons_zero, List.set_cons_succ]
      refine wpAnyH_ready (rs := [6]) (by kernel_rfl) (by simp) ?_
      refine AllReadyH.cons (i := 6) rfl (fun K hK => ?_) AllReadyH.nil
      simp only [List.getElem_toArray, List.getElem_cons_succ, List.getElem_cons_zero]
      rw [if_pos (by rfl)]
      have n3 := (HS85.out.cells HGD.out.gi.blk).2.1
      go_simp
      refine hK.out _ _ trivial (fun hHeld => ?_)
      clear hK K n3
      try simp only [Act.put, List.setIfInBounds_toArray, List.set_cons_zero, List.set_cons_succ]
      refine wpAnyH_take (i := 10) (v := ?_) rfl (by kernel_rfl) (by kernel_rfl) (by kernel_rfl) (fun _ _ _ h => h) (Or.inl ⟨by rfl, ?_⟩) (by assumption) ?_
      rotate_left
      · (intro w' hSw; (try dsimp only at hSw); go_simp; try (with_reducible rfl))
      change wpAnyH _ _ _ _ _ _ _ (Act.put _ (some 72) _) _
      try simp only [Act.put, List.setIfInBounds_toArray, List.set_cons_zero, List.set_cons_succ]
      refine wpAnyH_ready (rs := [9]) (by kernel_rfl) (by simp) ?_
      refine AllReadyH.cons (i := 9) rfl (fun K hK => ?_) AllReadyH.nil
      simp only [List.getElem_toArray, List.getElem_cons_succ, List.getElem_cons_zero]
      rw [if_pos (by rfl)]
      refine wp_append_lies _ (.tmp 68) (.tmp 70) 61 rfl (nb + 1) 3 i1 (.int .i64 0) 1 8 Tryd.underlying61 hi1 hz3 hz4 hz5 rfl (by decide) (.slice a2 kids.length k2) kids.length (intsJ kids) (by first | rfl | simp [Act.eval, Act.put]) HS85.out.drow ⟨bk83, 0, none⟩ 1 1 [.int .i64 (kid : Int)] (by first | rfl | simp [Act.eval, Act.put]) rfl (World.news_of_block (cs := #[.int .i64 (kid : Int)]) (t := 3) (fr := (0, 0)) NO85.out) (oneI _) (by decide) (by unfold maxLen; omega) (by omega) HS85.out.lt1 _ rfl ?_
      intro g87 cap87 wv87 hown87 hgrow87 hat87 hlt87
      have HS87 := hid (HS85.out.growD hgrow87 (hat87.imp_right (fun h => Nat.le_of_eq h.symm)) hown87)
      clear hown87 hgrow87 hat87 hlt87
      refine hK.out _ _ trivial (fun hHeld => ?_)
      clear hK K
      try simp only [Act.put, List.setIfInBounds_toArray, List.set_cons_zero, List.set_cons_succ]
      obtain ⟨n2, n3, z2, z3⟩ := HS87.out.cells HGD.out.gi.blk
      refine wpAnyH_ready (rs := [11]) (by kernel_rfl) (by simp) ?_
      refine AllReadyH.cons (i := 11) rfl (fun K hK => ?_) AllReadyH.nil
      simp only [List.getElem_toArray, List.getElem_cons_succ, List.getElem_cons_zero]
      rw [if_pos (by rfl)]
      go_simp
      refine hK.out _ _ trivial (fun hHeld => ?_)
      clear hK K
      try simp only [Act.put, List.setIfInBounds_toArray, List.set_cons_zero, List.set_cons_succ]
      refine wpAnyH_take (i := 12) (v := ?_) rfl (by kernel_rfl) (by kernel_rfl) (by kernel_rfl) (fun _ _ _ h => h) (Or.inl ⟨by rfl, ?_⟩) (by assumption) ?_
      rotate_left
      · (intro w' hSw; (try dsimp only at hSw); go_simp; try (with_reducible rfl))
      change wpAnyH _ _ _ _ _ _ _ (Act.put _ (some 73) _) _
      try simp only [Act.put, List.setIfInBounds_toArray, List.set_cons_zero, List.set_cons_succ]
      refine wpAnyH_ready (rs := [13]) (by kernel_rfl) (by simp) ?_
      refine AllReadyH.cons (i := 13) rfl (fun K hK => ?_) AllReadyH.nil
      simp only [List.getElem_toArray, List.getElem_cons_succ, List.getElem_cons_zero]
      rw [if_pos (by rfl)]
      go_simp
      refine hK.out _ _ trivial (fun hHeld => ?_)
      clear hK K
      try simp only [Act.put, List.setIfInBounds_toArray, List.set_cons_zero, List.set_cons_succ]
      refine wpAnyH_done (by kernel_rfl) ?_ _
      go_wp2
      go_meet
      case rel => exact ⟨_, _, HS87.out.ji HJD.out HGD.out.gi.gnb _ _, HGD.out.both HS87.out HMZ.out ⟨by omega, by omega⟩⟩
      refine AllReadyH.cons (i := 6) rfl (fun K hK => ?_) AllReadyH.nil
      simp only [List.getElem_toArray, List.getElem_cons_succ, List.getElem_cons_zero]
      rw [if_pos (by rfl)]
      have n3 := (HS83.out.cells HGD.out.gi.blk).2.1
      go_simp
      refine hK.out _ _ trivial (fun hHeld => ?_)
      clear hK K n3
      try simp only [Act.put, List.setIfInBounds_toArray, List.set_cons_zero, List.set_cons_succ]
      refine wpAnyH_ready (rs := [4]) (by kernel_rfl) (by simp) ?_
      refine AllReadyH.cons (i := 4) rfl (fun K hK => ?_) AllReadyH.nil
      simp only [List.getElem_toArray, List.getElem_cons_succ, List.getElem_cons_zero]
      rw [if_pos (by rfl)]
      refine wp_append_lies _ (.tmp 63) (.tmp 65) 73 rfl (nb + 1) 9 ii (.string ⟨#[]⟩) 1 16 Tryd.underlying73 hi hz0 hz1 hz2 rfl (by decide) (.slice a1 keys.length k1) keys.length (strCellsL keys) (by first | rfl | simp [Act.eval, Act.put]) HS83.out.krow ⟨bk48, 0, none⟩ 1 1 [.string M] (by first | rfl | simp [Act.eval, Act.put]) rfl (World.news_of_block (cs := #[.string M]) (t := 9) (fr := (0, 0)) NO83.out) (oneS M) (by decide) (by unfold maxLen; omega) (by omega) HS83.out.lt1 _ rfl ?_
      intro g89 cap89 wv89 hown89 hgrow89 hat89 hlt89
      have HS89 := hid (HS83.out.growK hgrow89 (hat89.imp_right (fun h => Nat.le_of_eq h.symm)) hown89)
      have NO89 := hid ((hgrow89.block bk83 (Array.getElem?_eq_some_iff.1 NB83.out).1 (fun e => by have := (HS83.out.klt _ e.symm).2; have := BL83.out; omega)).trans NB83.out)
      clear hown89 hgrow89 hat89 hlt89
      refine hK.out _ _ trivial (fun hHeld => ?_)
      clear hK K
      try simp only [Act.put, List.setIfInBounds_toArray, List.set_cons_zero, List.set_cons_succ]
      refine wpAnyH_take (i := 10) (v := ?_) rfl (by kernel_rfl) (by kernel_rfl) (by kernel_rfl) (fun _ _ _ h => h) (Or.inl ⟨by rfl, ?_⟩) (by assumption) ?_
      rotate_left
      · (intro w' hSw; (try dsimp only at hSw); go_simp; try (with_reducible rfl))
      change wpAnyH _ _ _ _ _ _ _ (Act.put _ (some 72) _) _
      try simp only [Act.put, List.setIfInBounds_toArray, List.set_cons_zero, List.set_cons_succ]
      refine wpAnyH_ready (rs := [9]) (by kernel_rfl) (by simp) ?_
      refine AllReadyH.cons (i := 9) rfl (fun K hK => ?_) AllReadyH.nil
      simp only [List.getElem_toArray, List.getElem_cons_succ, List.getElem_cons_zero]
      rw [if_pos (by rfl)]
      refine wp_append_lies _ (.tmp 68) (.tmp 70) 61 rfl (nb + 1) 3 i1 (.int .i64 0) 1 8 Tryd.underlying61 hi1 hz3 hz4 hz5 rfl (by decide) (.slice a2 kids.length k2) kids.length (intsJ kids) (by first | rfl | simp [Act.eval, Act.put]) HS89.out.drow ⟨bk83, 0, none⟩ 1 1 [.int .i64 (kid : Int)] (by first | rfl | simp [Act.eval, Act.put]) rfl (World.news_of_block (cs := #[.int .i64 (kid : Int)]) (t := 3) (fr := (0, 0)) NO89.out) (oneI _) (by decide) (by unfold maxLen; omega) (by omega) HS89.out.lt1 _ rfl ?_
      intro g90 cap90 wv90 hown90 hgrow90 hat90 hlt90
      have HS90 := hid (HS89.out.growD hgrow90 (hat90.imp_right (fun h => Nat.le_of_eq h.symm)) hown90)
      clear hown90 hgrow90 hat90 hlt90
      refine hK.out _ _ trivial (fun hHeld => ?_)
      clear hK K
      try simp only [Act.put, List.setIfInBounds_toArray, List.set_cons_zero, List.set_cons_succ]
      obtain ⟨n2, n3, z2, z3⟩ := HS90.out.cells HGD.out.gi.blk
      refine wpAnyH_ready (rs := [11]) (by kernel_rfl) (by simp) ?_
      refine AllReadyH.cons (i := 11) rfl (fun K hK => ?_) AllReadyH.nil
      simp only [List.getElem_toArray, List.getElem_cons_succ, List.getElem_cons_zero]
      rw [if_pos (by rfl)]
      go_simp
      refine hK.out _ _ trivial (fun hHeld => ?_)
      clear hK K
      try simp only [Act.put, List.setIfInBounds_toArray, List.set_cons_zero, List.set_cons_succ]
      refine wpAnyH_take (i := 12) (v := ?_) rfl (by kernel_rfl) (by kernel_rfl) (by kernel_rfl) (fun _ _ _ h => h) (Or.inl ⟨by rfl, ?_⟩) (by assumption) ?_
      rotate_left
      · (intro w' hSw; (try dsimp only at hSw); go_simp; try (with_reducible rfl))
      change wpAnyH _ _ _ _ _ _ _ (Act.put _ (some 73) _) _
      try simp only [Act.put, List.setIfInBounds_toArray, List.set_cons_zero, List.set_cons_succ]
      refine wpAnyH_ready (rs := [13]) (by kernel_rfl) (by simp) ?_
      refine AllReadyH.cons (i := 13) rfl (fun K hK => ?_) AllReadyH.nil
      simp only [List.getElem_toArray, List.getElem_cons_succ, List.getElem_cons_zero]
      rw [if_pos (by rfl)]
      go_simp
      refine hK.out _ _ trivial (fun hHeld => ?_)
      clear hK K
      try simp only [Act.put, List.setIfInBounds_toArray, List.set_cons_zero, List.set_cons_succ]
      refine wpAnyH_done (by kernel_rfl) ?_ _
      go_wp2
      go_meet
      case rel => exact ⟨_, _, HS90.out.ji HJD.out HGD.out.gi.gnb _ _, HGD.out.both HS90.out HMZ.out ⟨by omega, by omega⟩⟩
      refine AllReadyH.cons (i := 6) rfl (fun K hK => ?_) AllReadyH.nil
      simp only [List.getElem_toArray, List.getElem_cons_succ, List.getElem_cons_zero]
      rw [if_pos (by rfl)]
      have n3 := (HS83.out.cells HGD.out.gi.blk).2.1
      go_simp
      refine hK.out _ _ trivial (fun hHeld => ?_)
      clear hK K n3
      try simp only [Act.put, List.setIfInBounds_toArray, List.set_cons_zero, List.set_cons_succ]
      refine wpAnyH_ready (rs := [1]) (by kernel_rfl) (by simp) ?_
      refine AllReadyH.cons (i := 1) rfl (fun K hK => ?_) AllReadyH.nil
      simp only [List.getElem_toArray, List.getElem_cons_succ, List.getElem_cons_zero]
      rw [if_pos (by rfl)]
      have n2 := (HS83.out.cells HGD.out.gi.blk).1
      go_simp
      refine hK.out _ _ trivial (fun hHeld => ?_)
      clear hK K n2
      try simp only [Act.put, List.setIfInBounds_toArray, List.set_cons_zero, List.set_cons_succ]
      refine wpAnyH_ready (rs := [4]) (by kernel_rfl) (by simp) ?_
      refine AllReadyH.cons (i := 4) rfl (fun K hK => ?_) AllReadyH.nil
      simp only [List.getElem_toArray, List.getElem_cons_succ, List.getElem_cons_zero]
      rw [if_pos (by rfl)]
      refine wp_append_lies _ (.tmp 63) (.tmp 65) 73 rfl (nb + 1) 9 ii (.string ⟨#[]⟩) 1 16 Tryd.underlying73 hi hz0 hz1 hz2 rfl (by decide) (.slice a1 keys.length k1) keys.length (strCellsL keys) (by first | rfl | simp [Act.eval, Act.put]) HS83.out.krow ⟨bk48, 0, none⟩ 1 1 [.string M] (by first | rfl | simp [Act.eval, Act.put]) rfl (World.news_of_block (cs := #[.string M]) (t := 9) (fr := (0, 0)) NO83.out) (oneS M) (by decide) (by unfold maxLen; omega) (by omega) HS83.out.lt1 _ rfl ?_
      intro g93 cap93 wv93 hown93 hgrow93 hat93 hlt93
      have HS93 := hid (HS83.out.growK hgrow93 (hat93.imp_right (fun h => Nat.le_of_eq h.symm)) hown93)
      have NO93 := hid ((hgrow93.block bk83 (Array.getElem?_eq_some_iff.1 NB83.out).1 (fun e => by have := (HS83.out.klt _ e.symm).2; have := BL83.out; omega)).trans NB83.out)
      clear hown93 hgrow93 hat93 hlt93
      refine hK.out _ _ trivial (fun hHeld => ?_)
      clear hK K
      try simp only [Act.put, List.setIfInBounds_toArray, List.set_cons_zero, List.set_cons_succ]
      refine wpAnyH_take (i := 10) (v := ?_) rfl (by kernel_rfl) (by kernel_rfl) (by kernel_rfl) (fun _ _ _ h => h) (Or.inl ⟨by rfl, ?_⟩) (by assumption) ?_
      rotate_left
      · (intro w' hSw; (try dsimp only at hSw); go_simp; try (with_reducible rfl))
      change wpAnyH _ _ _ _ _ _ _ (Act.put _ (some 72) _) _
      try simp only [Act.put, List.setIfInBounds_toArray, List.set_cons_zero, List.set_cons_succ]
      refine wpAnyH_ready (rs := [9]) (by kernel_rfl) (by simp) ?_
      refine AllReadyH.cons (i := 9) rfl (fun K hK => ?_) AllReadyH.nil
      simp only [List.getElem_toArray, List.getElem_cons_succ, List.getElem_cons_zero]
      rw [if_pos (by rfl)]
      refine wp_append_lies _ (.tmp 68) (.tmp 70) 61 rfl (nb + 1) 3 i1 (.int .i64 0) 1 8 Tryd.underlying61 hi1 hz3 hz4 hz5 rfl (by decide) (.slice a2 kids.length k2) kids.length (intsJ kids) (by first | rfl | simp [Act.eval, Act.put]) HS93.out.drow ⟨bk83, 0, none⟩ 1 1 [.int .i64 (kid : Int)] (by first | rfl | simp [Act.eval, Act.put]) rfl (World.news_of_block (cs := #[.int .i64 (kid : Int)]) (t := 3) (fr := (0, 0)) NO93.out) (oneI _) (by decide) (by unfold maxLen; omega) (by omega) HS93.out.lt1 _ rfl ?_
      intro g94 cap94 wv94 hown94 hgrow94 hat94 hlt94
      have HS94 := hid (HS93.out.growD hgrow94 (hat94.imp_right (fun h => Nat.le_of_eq h.symm)) hown94)
      clear hown94 hgrow94 hat94 hlt94
      refine hK.out _ _ trivial (fun hHeld => ?_)
      clear hK K
      try simp only [Act.put, List.setIfInBounds_toArray, List.set_cons_zero, List.set_cons_succ]
      obtain ⟨n2, n3, z2, z3⟩ := HS94.out.cells HGD.out.gi.blk
      refine wpAnyH_ready (rs := [11]) (by kernel_rfl) (by simp) ?_
      refine AllReadyH.cons (i := 11) rfl (fun K hK => ?_) AllReadyH.nil
      simp only [List.getElem_toArray, List.getElem_cons_succ, List.getElem_cons_zero]
      rw [if_pos (by rfl)]
      go_simp
      refine hK.out _ _ trivial (fun hHeld => ?_)
      clear hK K
      try simp only [Act.put, List.setIfInBounds_toArray, List.set_cons_zero, List.set_cons_succ]
      refine wpAnyH_take (i := 12) (v := ?_) rfl (by kernel_rfl) (by kernel_rfl) (by kernel_rfl) (fun _ _ _ h => h) (Or.inl ⟨by rfl, ?_⟩) (by assumption) ?_
      rotate_left
      · (intro w' hSw; (try dsimp only at hSw); go_simp; try (with_reducible rfl))
      change wpAnyH _ _ _ _ _ _ _ (Act.put _ (some 73) _) _
      try simp only [Act.put, List.setIfInBounds_toArray, List.set_cons_zero, List.set_cons_succ]
      refine wpAnyH_ready (rs := [13]) (by kernel_rfl) (by simp) ?_
      refine AllReadyH.cons (i := 13) rfl (fun K hK => ?_) AllReadyH.nil
      simp only [List.getElem_toArray, List.getElem_cons_succ, List.getElem_cons_zero]
      rw [if_pos (by rfl)]
      go_simp
      refine hK.out _ _ trivial (fun hHeld => ?_)
      clear hK K
      try simp only [Act.put, List.setIfInBounds_toArray, List.set_cons_zero, List.set_cons_succ]
      refine wpAnyH_done (by kernel_rfl) ?_ _
      go_wp2
      go_meet
      case rel => exact ⟨_, _, HS94.out.ji HJD.out HGD.out.gi.gnb _ _, HGD.out.both HS94.out HMZ.out ⟨by omega, by omega⟩⟩
      refine AllReadyH.cons (i := 6) rfl (fun K hK => ?_) ?_
      simp only [List.getElem_toArray, List.getElem_cons_succ, List.getElem_cons_zero]
      rw [if_pos (by rfl)]
      have n3 := (HSA.out.cells HGD.out.gi.blk).2.1
      go_simp
      refine hK.out _ _ trivial (fun hHeld => ?_)
      clear hK K n3
      try simp only [Act.put, List.setIfInBounds_toArray, List.set_cons_zero, List.set_cons_succ]
      refine wpAnyH_ready (rs := [1, 3, 8]) (by kernel_rfl) (by simp) ?_
      refine AllReadyH.cons (i := 1) rfl (fun K hK => ?_) ?_
      simp only [List.getElem_toArray, List.getElem_cons_succ, List.getElem_cons_zero]
      rw [if_pos (by rfl)]
      have n2 := (HSA.out.cells HGD.out.gi.blk).1
      go_simp
      refine hK.out _ _ trivial (fun hHeld => ?_)
      clear hK K n2
      try simp only [Act.put, List.setIfInBounds_toArray, List.set_cons_zero, List.set_cons_succ]
      refine wpAnyH_ready (rs := [3, 8]) (by kernel_rfl) (by simp) ?_
      refine AllReadyH.cons (i := 3) rfl (fun K hK => ?_) ?_
      simp only [List.getElem_toArray, List.getElem_cons_succ, List.getElem_cons_zero]
      rw [if_pos (by rfl)]
      go_simp
      refine hK.out _ _ trivial (fun hHeld => ?_)
      clear hK K
      try simp only [Act.put, List.setIfInBounds_toArray, List.set_cons_zero, List.set_cons_succ]
      have HS97 := hid (HSA.out.alloc (.cells #[.string M] 9))
      have NB97 := hid (heap_alloc_new wv0 (.cells #[.string M] 9))
      obtain ⟨wv97, hw97⟩ : ∃ x, wv0.alloc (.cells #[.string M] 9) = x := ⟨_, rfl⟩
      rw [hw97] at HS97 NB97 ⊢
      obtain ⟨bk97, hb97⟩ : ∃ x, wv0.heap.size = x := ⟨_, rfl⟩
      have BL97 := hid (show wv0.heap.size ≤ bk97 by rw [← hb97]; exact HSA.out.size)
      rw [hb97] at NB97 ⊢
      clear hw97 hb97
      refine wpAnyH_ready (rs := [4, 8]) (by kernel_rfl) (by simp) ?_
      refine AllReadyH.cons (i := 4) rfl (fun K hK => ?_) ?_
      simp only [List.getElem_toArray, List.getElem_cons_succ, List.getElem_cons_zero]
      rw [if_pos (by rfl)]
      refine wp_append_lies _ (.tmp 63) (.tmp 65) 73 rfl (nb + 1) 9 ii (.string ⟨#[]⟩) 1 16 Tryd.underlying73 hi hz0 hz1 hz2 rfl (by decide) (.slice a1 keys.length k1) keys.length (strCellsL keys) (by first | rfl | simp [Act.eval, Act.put]) HS97.out.krow ⟨bk97, 0, none⟩ 1 1 [.string M] (by first | rfl | simp [Act.eval, Act.put]) rfl (World.news_of_block (cs := #[.string M]) (t := 9) (fr := (0, 0)) NB97.out) (oneS M) (by decide) (by unfold maxLen; omega) (by omega) HS97.out.lt1 _ rfl ?_
      intro g98 cap98 wv98 hown98 hgrow98 hat98 hlt98
      have HS98 := hid (HS97.out.growK hgrow98 (hat98.imp_right (fun h => Nat.le_of_eq h.symm)) hown98)
      clear hown98 hgrow98 hat98 hlt98
      refine hK.out _ _ trivial (fun hHeld => ?_)
      clear hK K
      try simp only [Act.put, List.setIfInBounds_toArray, List.set_cons_zero, List.set_cons_succ]
      refine wpAnyH_take (i := 10) (v := ?_) rfl (by kernel_rfl) (by kernel_rfl) (by kernel_rfl) (fun _ _ _ h => h) (Or.inl ⟨by rfl, ?_⟩) (by assumption) ?_
      rotate_left
      · (intro w' hSw; (try dsimp only at hSw); go_simp; try (with_reducible rfl))
      change wpAnyH _ _ _ _ _ _ _ (Act.put _ (some 72) _) _
      try simp only [Act.put, List.setIfInBounds_toArray, List.set_cons_zero, List.set_cons_succ]
      refine wpAnyH_ready (rs := [8]) (by kernel_rfl) (by simp) ?_
      refine AllReadyH.cons (i := 8) rfl (fun K hK => ?_) AllReadyH.nil
      simp only [List.getElem_toArray, List.getElem_cons_succ, List.getElem_cons_zero]
      rw [if_pos (by rfl)]
      go_simp
      refine hK.out _ _ trivial (fun hHeld => ?_)
      clear hK K
      try simp only [Act.put, List.setIfInBounds_toArray, List.set_cons_zero, List.set_cons_succ]
      have HS99 := hid (HS98.out.alloc (.cells #[.int .i64 (kid : Int)] 3))
      have NB99 := hid (heap_alloc_new wv98 (.cells #[.int .i64 (kid : Int)] 3))
      obtain ⟨wv99, hw99⟩ : ∃ x, wv98.alloc (.cells #[.int .i64 (kid : Int)] 3) = x := ⟨_, rfl⟩
      rw [hw99] at HS99 NB99 ⊢
      obtain ⟨bk99, hb99⟩ : ∃ x, wv98.heap.size = x := ⟨_, rfl⟩
      have BL99 := hid (show wv0.heap.size ≤ bk99 by rw [← hb99]; exact HS98.out.size)
      rw [hb99] at NB99 ⊢
      clear hw99 hb99
      refine wpAnyH_ready (rs := [9]) (by kernel_rfl) (by simp) ?_
      refine AllReadyH.cons (i := 9) rfl (fun K hK => ?_) AllReadyH.nil
      simp only [List.getElem_toArray, List.getElem_cons_succ, List.getElem_cons_zero]
      rw [if_pos (by rfl)]
      refine wp_append_lies _ (.tmp 68) (.tmp 70) 61 rfl (nb + 1) 3 i1 (.int .i64 0) 1 8 Tryd.underlying61 hi1 hz3 hz4 hz5 rfl (by decide) (.slice a2 kids.length k2) kids.length (intsJ kids) (by first | rfl | simp [Act.eval, Act.put]) HS99.out.drow ⟨bk99, 0, none⟩ 1 1 [.int .i64 (kid : Int)] (by first | rfl | simp [Act.eval, Act.put]) rfl (World.news_of_block (cs := #[.int .i64 (kid : Int)]) (t := 3) (fr := (0, 0)) NB99.out) (oneI _) (by decide) (by unfold maxLen; omega) (by omega) HS99.out.lt1 _ rfl ?_
      intro g100 cap100 wv100 hown100 hgrow100 hat100 hlt100
      have HS100 := hid (HS99.out.growD hgrow100 (hat100.imp_right (fun h => Nat.le_of_eq h.symm)) hown100)
      clear hown100 hgrow100 hat100 hlt100
      refine hK.out _ _ trivial (fun hHeld => ?_)
      clear hK K
      try simp only [Act.put, List.setIfInBounds_toArray, List.set_cons_zero, List.set_cons_succ]
      obtain ⟨n2, n3, z2, z3⟩ := HS100.out.cells HGD.out.gi.blk
      refine wpAnyH_ready (rs := [11]) (by kernel_rfl) (by simp) ?_
      refine AllReadyH.cons (i := 11) rfl (fun K hK => ?_) AllReadyH.nil
      simp only [List.getElem_toArray, List.getElem_cons_succ, List.getElem_cons_zero]
      rw [if_pos (by rfl)]
      go_simp
      refine hK.out _ _ trivial (fun hHeld => ?_)
      clear hK K
      try simp only [Act.put, List.setIfInBounds_toArray, List.set_cons_zero, List.set_cons_succ]
      refine wpAnyH_take (i := 12) (v := ?_) rfl (by kernel_rfl) (by kernel_rfl) (by kernel_rfl) (fun _ _ _ h => h) (Or.inl ⟨by rfl, ?_⟩) (by assumption) ?_
      rotate_left
      · (intro w' hSw; (try dsimp only at hSw); go_simp; try (with_reducible rfl))
      change wpAnyH _ _ _ _ _ _ _ (Act.put _ (some 73) _) _
      try simp only [Act.put, List.setIfInBounds_toArray, List.set_cons_zero, List.set_cons_succ]
      refine wpAnyH_ready (rs := [13]) (by kernel_rfl) (by simp) ?_
      refine AllReadyH.cons (i := 13) rfl (fun K hK => ?_) AllReadyH.nil
      simp only [List.getElem_toArray, List.getElem_cons_succ, List.getElem_cons_zero]
      rw [if_pos (by rfl)]
      go_simp
      refine hK.out _ _ trivial (fun hHeld => ?_)
      clear hK K
      try simp only [Act.put, List.setIfInBounds_toArray, List.set_cons_zero, List.set_cons_succ]
      refine wpAnyH_done (by kernel_rfl) ?_ _
      go_wp2
      go_meet
      case rel => exact ⟨_, _, HS100.out.ji HJD.out HGD.out.gi.gnb _ _, HGD.out.both HS100.out HMZ.out ⟨by omega, by omega⟩⟩
      refine AllReadyH.cons (i := 8) rfl (fun K hK => ?_) AllReadyH.nil
      simp only [List.getElem_toArray, List.getElem_cons_succ, List.getElem_cons_zero]
      rw [if_pos (by rfl)]
      go_simp
      refine hK.out _ _ trivial (fun hHeld => ?_)
      clear hK K
      try simp only [Act.put, List.setIfInBounds_toArray, List.set_cons_zero, List.set_cons_succ]
      have HS101 := hid (HS97.out.alloc (.cells #[.int .i64 (kid : Int)] 3))
      have NB101 := hid (heap_alloc_new wv97 (.cells #[.int .i64 (kid : Int)] 3))
      have NO101 := hid (((ext_alloc wv97 (.cells #[.int .i64 (kid : Int)] 3)).block bk97 (Array.getElem?_eq_some_iff.1 NB97.out).1).trans NB97.out)
      obtain ⟨wv101, hw101⟩ : ∃ x, wv97.alloc (.cells #[.int .i64 (kid : Int)] 3) = x := ⟨_, rfl⟩
      rw [hw101] at HS101 NB101 NO101 ⊢
      obtain ⟨bk101, hb101⟩ : ∃ x, wv97.heap.size = x := ⟨_, rfl⟩
      have BL101 := hid (show wv0.heap.size ≤ bk101 by rw [← hb101]; exact HS97.out.size)
      rw [hb101] at NB101 ⊢
      clear hw101 hb101
      refine wpAnyH_ready (rs := [4]) (by kernel_rfl) (by simp) ?_
      refine AllReadyH.cons (i := 4) rfl (fun K hK => ?_) AllReadyH.nil
      simp only [List.getElem_toArray, List.getElem_cons_succ, List.getElem_cons_zero]
      rw [if_pos (by rfl)]
      refine wp_append_lies _ (.tmp 63) (.tmp 65) 73 rfl (nb + 1) 9 ii (.string ⟨#[]⟩) 1 16 Tryd.underlying73 hi hz0 hz1 hz2 rfl (by decide) (.slice a1 keys.length k1) keys.length (strCellsL keys) (by first | rfl | simp [Act.eval, Act.put]) HS101.out.krow ⟨bk97, 0, none⟩ 1 1 [.string M] (by first | rfl | simp [Act.eval, Act.put]) rfl (World.news_of_block (cs := #[.string M]) (t := 9) (fr := (0, 0)) NO101.out) (oneS M) (by decide) (by unfold maxLen; omega) (by omega) HS101.out.lt1 _ rfl ?_
      intro g102 cap102 wv102 hown102 hgrow102 hat102 hlt102
      have HS102 := hid (HS101.out.growK hgrow102 (hat102.imp_right (fun h => Nat.le_of_eq h.symm)) hown102)
      have NO102 := hid ((hgrow102.block bk101 (Array.getElem?_eq_some_iff.1 NB101.out).1 (fun e => by have := (HS101.out.klt _ e.symm).2; have := BL101.out; omega)).trans NB101.out)
      clear hown102 hgrow102 hat102 hlt102
      refine hK.out _ _ trivial (fun hHeld => ?_)
      clear hK K
      try simp only [Act.put, List.setIfInBounds_toArray, List.set_cons_zero, List.set_cons_succ]
      refine wpAnyH_take (i := 10) (v := ?_) rfl (by kernel_rfl) (by kernel_rfl) (by kernel_rfl) (fun _ _ _ h => h) (Or.inl ⟨by rfl, ?_⟩) (by assumption) ?_
      rotate_left
      · (intro w' hSw; (try dsimp only at hSw); go_simp; try (with_reducible rfl))
      change wpAnyH _ _ _ _ _ _ _ (Act.put _ (some 72) _) _
      try simp only [Act.put, List.setIfInBounds_toArray, List.set_cons_zero, List.set_cons_succ]
      refine wpAnyH_ready (rs := [9]) (by kernel_rfl) (by simp) ?_
      refine AllReadyH.cons (i := 9) rfl (fun K hK => ?_) AllReadyH.nil
      simp only [List.getElem_toArray, List.getElem_cons_succ, List.getElem_cons_zero]
      rw [if_pos (by rfl)]
      refine wp_append_lies _ (.tmp 68) (.tmp 70) 61 rfl (nb + 1) 3 i1 (.int .i64 0) 1 8 Tryd.underlying61 hi1 hz3 hz4 hz5 rfl (by decide) (.slice a2 kids.length k2) kids.length (intsJ kids) (by first | rfl | simp [Act.eval, Act.put]) HS102.out.drow ⟨bk101, 0, none⟩ 1 1 [.int .i64 (kid : Int)] (by first | rfl | simp [Act.eval, Act.put]) rfl (World.news_of_block (cs := #[.int .i64 (kid : Int)]) (t := 3) (fr := (0, 0)) NO102.out) (oneI _) (by decide) (by unfold maxLen; omega) (by omega) HS102.out.lt1 _ rfl ?_
      intro g103 cap103 wv103 hown103 hgrow103 hat103 hlt103
      have HS103 := hid (HS102.out.growD hgrow103 (hat103.imp_right (fun h => Nat.le_of_eq h.symm)) hown103)
      clear hown103 hgrow103 hat103 hlt103
      refine hK.out _ _ trivial (fun hHeld => ?_)
      clear hK K
      try simp only [Act.put, List.setIfInBounds_toArray, List.set_cons_zero, List.set_cons_succ]
      obtain ⟨n2, n3, z2, z3⟩ := HS103.out.cells HGD.out.gi.blk
      refine wpAnyH_ready (rs := [11]) (by kernel_rfl) (by simp) ?_
      refine AllReadyH.cons (i := 11) rfl (fun K hK => ?_) AllReadyH.nil
      simp only [List.getElem_toArray, List.getElem_cons_succ, List.getElem_cons_zero]
      rw [if_pos (by rfl)]
      go_simp
      refine hK.out _ _ trivial (fun hHeld => ?_)
      clear hK K
      try simp only [Act.put, List.setIfInBounds_toArray, List.set_cons_zero, List.set_cons_succ]
      refine wpAnyH_take (i := 12) (v := ?_) rfl (by kernel_rfl) (by kernel_rfl) (by kernel_rfl) (fun _ _ _ h => h) (Or.inl ⟨by rfl, ?_⟩) (by assumption) ?_
      rotate_left
      · (intro w' hSw; (try dsimp only at hSw); go_simp; try (with_reducible rfl))
      change wpAnyH _ _ _ _ _ _ _ (Act.put _ (some 73) _) _
      try simp only [Act.put, List.setIfInBounds_toArray, List.set_cons_zero, List.set_cons_succ]
      refine wpAnyH_ready (rs := [13]) (by kernel_rfl) (by simp) ?_
      refine AllReadyH.cons (i := 13) rfl (fun K hK => ?_) AllReadyH.nil
      simp only [List.getElem_toArray, List.getElem_cons_succ, List.getElem_cons_zero]
      rw [if_pos (by rfl)]
      go_simp
      refine hK.out _ _ trivial (fun hHeld => ?_)
      clear hK K
      try simp only [Act.put, List.setIfInBounds_toArray, List.set_cons_zero, List.set_cons_succ]
      refine wpAnyH_done (by kernel_rfl) ?_ _
      go_wp2
      go_meet
      case rel => exact ⟨_, _, HS103.out.ji HJD.out HGD.out.gi.gnb _ _, HGD.out.both HS103.out HMZ.out ⟨by omega, by omega⟩⟩
      refine AllReadyH.cons (i := 8) rfl (fun K hK => ?_) AllReadyH.nil
      simp only [List.getElem_toArray, List.getElem_cons_succ, List.getElem_cons_zero]
      rw [if_pos (by rfl)]
      go_simp
      refine hK.out _ _ trivial (fun hHeld => ?_)
      clear hK K
      try simp only [Act.put, List.setIfInBounds_toArray, List.set_cons_zero, List.set_cons_succ]
      have HS104 := hid (HSA.out.alloc (.cells #[.int .i64 (kid : Int)] 3))
      have NB104 := hid (heap_alloc_new wv0 (.cells #[.int .i64 (kid : Int)] 3))
      obtain ⟨wv104, hw104⟩ : ∃ x, wv0.alloc (.cells #[.int .i64 (kid : Int)] 3) = x := ⟨_, rfl⟩
      rw [hw104] at HS104 NB104 ⊢
      obtain ⟨bk104, hb104⟩ : ∃ x, wv0.heap.size = x := ⟨_, rfl⟩
      have BL104 := hid (show wv0.heap.size ≤ bk104 by rw [← hb104]; exact HSA.out.size)
      rw [hb104] at NB104 ⊢
      clear hw104 hb104
      refine wpAnyH_ready (rs := [3]) (by kernel_rfl) (by simp) ?_
      refine AllReadyH.cons (i := 3) rfl (fun K hK => ?_) AllReadyH.nil
      simp only [List.getElem_toArray, List.getElem_cons_succ, List.getElem_cons_zero]
      rw [if_pos (by rfl)]
      go_simp
      refine hK.out _ _ trivial (fun hHeld => ?_)
      clear hK K
      try simp only [Act.put, List.setIfInBounds_toArray, List.set_cons_zero, List.set_cons_succ]
      have HS105 := hid (HS104.out.alloc (.cells #[.string M] 9))
      have NB105 := hid (heap_alloc_new wv104 (.cells #[.string M] 9))
      have NO105 := hid (((ext_alloc wv104 (.cells #[.string M] 9)).block bk104 (Array.getElem?_eq_some_iff.1 NB104.out).1).trans NB104.out)
      obtain ⟨wv105, hw105⟩ : ∃ x, wv104.alloc (.cells #[.string M] 9) = x := ⟨_, rfl⟩
      rw [hw105] at HS105 NB105 NO105 ⊢
      obtain ⟨bk105, hb105⟩ : ∃ x, wv104.heap.size = x := ⟨_, rfl⟩
      have BL105 := hid (show wv0.heap.size ≤ bk105 by rw [← hb105]; exact HS104.out.size)
      rw [hb105] at NB105 ⊢
      clear hw105 hb105
      refine wpAnyH_ready (rs := [4]) (by kernel_rfl) (by simp) ?_
      refine AllReadyH.cons (i := 4) rfl (fun K hK => ?_) AllReadyH.nil
      simp only [List.getElem_toArray, List.getElem_cons_succ, List.getElem_cons_zero]
      rw [if_pos (by rfl)]
      refine wp_append_lies _ (.tmp 63) (.tmp 65) 73 rfl (nb + 1) 9 ii (.string ⟨#[]⟩) 1 16 Tryd.underlying73 hi hz0 hz1 hz2 rfl (by decide) (.slice a1 keys.length k1) keys.length (strCellsL keys) (by first | rfl | simp [Act.eval, Act.put]) HS105.out.krow ⟨bk105, 0, none⟩ 1 1 [.string M] (by first | rfl | simp [Act.eval, Act.put]) rfl (World.news_of_block (cs := #[.string M]) (t := 9) (fr := (0, 0)) NB105.out) (oneS M) (by decide) (by unfold maxLen; omega) (by omega) HS105.out.lt1 _ rfl ?_
      intro g106 cap106 wv106 hown106 hgrow106 hat106 hlt106
      have HS106 := hid (HS105.out.growK hgrow106 (hat106.imp_right (fun h => Nat.le_of_eq h.symm)) hown106)
      have NO106 := hid ((hgrow106.block bk104 (Array.getElem?_eq_some_iff.1 NO105.out).1 (fun e => by have := (HS105.out.klt _ e.symm).2; have := BL104.out; omega)).trans NO105.out)
      clear hown106 hgrow106 hat106 hlt106
      refine hK.out _ _ trivial (fun hHeld => ?_)
      clear hK K
      try simp only [Act.put, List.setIfInBounds_toArray, List.set_cons_zero, List.set_cons_succ]
      refine wpAnyH_take (i := 10) (v := ?_) rfl (by kernel_rfl) (by kernel_rfl) (by kernel_rfl) (fun _ _ _ h => h) (Or.inl ⟨by rfl, ?_⟩) (by assumption) ?_
      rotate_left
      · (intro w' hSw; (try dsimp only at hSw); go_simp; try (with_reducible rfl))
      change wpAnyH _ _ _ _ _ _ _ (Act.put _ (some 72) _) _
      try simp only [Act.put, List.setIfInBounds_toArray, List.set_cons_zero, List.set_cons_succ]
      refine wpAnyH_ready (rs := [9]) (by kernel_rfl) (by simp) ?_
      refine AllReadyH.cons (i := 9) rfl (fun K hK => ?_) AllReadyH.nil
      simp only [List.getElem_toArray, List.getElem_cons_succ, List.getElem_cons_zero]
      rw [if_pos (by rfl)]
      refine wp_append_lies _ (.tmp 68) (.tmp 70) 61 rfl (nb + 1) 3 i1 (.int .i64 0) 1 8 Tryd.underlying61 hi1 hz3 hz4 hz5 rfl (by decide) (.slice a2 kids.length k2) kids.length (intsJ kids) (by first | rfl | simp [Act.eval, Act.put]) HS106.out.drow ⟨bk104, 0, none⟩ 1 1 [.int .i64 (kid : Int)] (by first | rfl | simp [Act.eval, Act.put]) rfl (World.news_of_block (cs := #[.int .i64 (kid : Int)]) (t := 3) (fr := (0, 0)) NO106.out) (oneI _) (by decide) (by unfold maxLen; omega) (by omega) HS106.out.lt1 _ rfl ?_
      intro g107 cap107 wv107 hown107 hgrow107 hat107 hlt107
      have HS107 := hid (HS106.out.growD hgrow107 (hat107.imp_right (fun h => Nat.le_of_eq h.symm)) hown107)
      clear hown107 hgrow107 hat107 hlt107
      refine hK.out _ _ trivial (fun hHeld => ?_)
      clear hK K
      try simp only [Act.put, List.setIfInBounds_toArray, List.set_cons_zero, List.set_cons_succ]
      obtain ⟨n2, n3, z2, z3⟩ := HS107.out.cells HGD.out.gi.blk
      refine wpAnyH_ready (rs := [11]) (by kernel_rfl) (by simp) ?_
      refine AllReadyH.cons (i := 11) rfl (fun K hK => ?_) AllReadyH.nil
      simp only [List.getElem_toArray, List.getElem_cons_succ, List.getElem_cons_zero]
      rw [if_pos (by rfl)]
      go_simp
      refine hK.out _ _ trivial (fun hHeld => ?_)
      clear hK K
      try simp only [Act.put, List.setIfInBounds_toArray, List.set_cons_zero, List.set_cons_succ]
      refine wpAnyH_take (i := 12) (v := ?_) rfl (by kernel_rfl) (by kernel_rfl) (by kernel_rfl) (fun _ _ _ h => h) (Or.inl ⟨by rfl, ?_⟩) (by assumption) ?_
      rotate_left
      · (intro w' hSw; (try dsimp only at hSw); go_simp; try (with_reducible rfl))
      change wpAnyH _ _ _ _ _ _ _ (Act.put _ (some 73) _) _
      try simp only [Act.put, List.setIfInBounds_toArray, List.set_cons_zero, List.set_cons_succ]
      refine wpAnyH_ready (rs := [13]) (by kernel_rfl) (by simp) ?_
      refine AllReadyH.cons (i := 13) rfl (fun K hK => ?_) AllReadyH.nil
      simp only [List.getElem_toArray, List.getElem_cons_succ, List.getElem_cons_zero]
      rw [if_pos (by rfl)]
      go_simp
      refine hK.out _ _ trivial (fun hHeld => ?_)
      clear hK K
      try simp only [Act.put, List.setIfInBounds_toArray, List.set_cons_zero, List.set_cons_succ]
      refine wpAnyH_done (by kernel_rfl) ?_ _
      go_wp2
      go_meet
      case rel => exact ⟨_, _, HS107.out.ji HJD.out HGD.out.gi.gnb _ _, HGD.out.both HS107.out HMZ.out ⟨by omega, by omega⟩⟩
      refine AllReadyH.cons (i := 3) rfl (fun K hK => ?_) ?_
      simp only [List.getElem_toArray, List.getElem_cons_succ, List.getElem_cons_zero]
      rw [if_pos (by rfl)]
      go_simp
      refine hK.out _ _ trivial (fun hHeld => ?_)
      clear hK K
      try simp only [Act.put, List.setIfInBounds_toArray, List.set_cons_zero, List.set_cons_succ]
      have HS108 := hid (HSA.out.alloc (.cells #[.string M] 9))
      have NB108 := hid (heap_alloc_new wv0 (.cells #[.string M] 9))
      obtain ⟨wv108, hw108⟩ : ∃ x, wv0.alloc (.cells #[.string M] 9) = x := ⟨_, rfl⟩
      rw [hw108] at HS108 NB108 ⊢
      obtain ⟨bk108, hb108⟩ : ∃ x, wv0.heap.size = x := ⟨_, rfl⟩
      have BL108 := hid (show wv0.heap.size ≤ bk108 by rw [← hb108]; exact HSA.out.size)
      rw [hb108] at NB108 ⊢
      clear hw108 hb108
      refine wpAnyH_ready (rs := [1, 8]) (by kernel_rfl) (by simp) ?_
      refine AllReadyH.cons (i := 1) rfl (fun K hK => ?_) ?_
      simp only [List.getElem_toArray, List.getElem_cons_succ, List.getElem_cons_zero]
      rw [if_pos (by rfl)]
      have n2 := (HS108.out.cells HGD.out.gi.blk).1
      go_simp
      refine hK.out _ _ trivial (fun hHeld => ?_)
      clear hK K n2
      try simp only [Act.put, List.setIfInBounds_toArray, List.set_cons_zero, List.set_cons_succ]
      refine wpAnyH_ready (rs := [4, 8]) (by kernel_rfl) (by simp) ?_
      refine AllReadyH.cons (i := 4) rfl (fun K hK => ?_) ?_
      simp only [List.getElem_toArray, List.getElem_cons_succ, List.getElem_cons_zero]
      rw [if_pos (by rfl)]
      refine wp_append_lies _ (.tmp 63) (.tmp 65) 73 rfl (nb + 1) 9 ii (.string ⟨#[]⟩) 1 16 Tryd.underlying73 hi hz0 hz1 hz2 rfl (by decide) (.slice a1 keys.length k1) keys.length (strCellsL keys) (by first | rfl | simp [Act.eval, Act.put]) HS108.out.krow ⟨bk108, 0, none⟩ 1 1 [.string M] (by first | rfl | simp [Act.eval, Act.put]) rfl (World.news_of_block (cs := #[.string M]) (t := 9) (fr := (0, 0)) NB108.out) (oneS M) (by decide) (by unfold maxLen; omega) (by omega) HS108.out.lt1 _ rfl ?_
      intro g110 cap110 wv110 hown110 hgrow110 hat110 hlt110
      have HS110 := hid (HS108.out.growK hgrow110 (hat110.imp_right (fun h => Nat.le_of_eq h.symm)) hown110)
      clear hown110 hgrow110 hat110 hlt110
      refine hK.out _ _ trivial (fun hHeld => ?_)
      clear hK K
      try simp only [Act.put, List.setIfInBounds_toArray, List.set_cons_zero, List.set_cons_succ]
      refine wpAnyH_take (i := 10) (v := ?_) rfl (by kernel_rfl) (by kernel_rfl) (by kernel_rfl) (fun _ _ _ h => h) (Or.inl ⟨by rfl, ?_⟩) (by assumption) ?_
      rotate_left
      · (intro w' hSw; (try dsimp only at hSw); go_simp; try (with_reducible rfl))
      change wpAnyH _ _ _ _ _ _ _ (Act.put _ (some 72) _) _
      try simp only [Act.put, List.setIfInBounds_toArray, List.set_cons_zero, List.set_cons_succ]
      refine wpAnyH_ready (rs := [8]) (by kernel_rfl) (by simp) ?_
      refine AllReadyH.cons (i := 8) rfl (fun K hK => ?_) AllReadyH.nil
      simp only [List.getElem_toArray, List.getElem_cons_succ, List.getElem_cons_zero]
      rw [if_pos (by rfl)]
      go_simp
      refine hK.out _ _ trivial (fun hHeld => ?_)
      clear hK K
      try simp only [Act.put, List.setIfInBounds_toArray, List.set_cons_zero, List.set_cons_succ]
      have HS111 := hid (HS110.out.alloc (.cells #[.int .i64 (kid : Int)] 3))
      have NB111 := hid (heap_alloc_new wv110 (.cells #[.int .i64 (kid : Int)] 3))
      obtain ⟨wv111, hw111⟩ : ∃ x, wv110.alloc (.cells #[.int .i64 (kid : Int)] 3) = x := ⟨_, rfl⟩
      rw [hw111] at HS111 NB111 ⊢
      obtain ⟨bk111, hb111⟩ : ∃ x, wv110.heap.size = x := ⟨_, rfl⟩
      have BL111 := hid (show wv0.heap.size ≤ bk111 by rw [← hb111]; exact HS110.out.size)
      rw [hb111] at NB111 ⊢
      clear hw111 hb111
      refine wpAnyH_ready (rs := [9]) (by kernel_rfl) (by simp) ?_
      refine AllReadyH.cons (i := 9) rfl (fun K hK => ?_) AllReadyH.nil
      simp only [List.getElem_toArray, List.getElem_cons_succ, List.getElem_cons_zero]
      rw [if_pos (by rfl)]
      refine wp_append_lies _ (.tmp 68) (.tmp 70) 61 rfl (nb + 1) 3 i1 (.int .i64 0) 1 8 Tryd.underlying61 hi1 hz3 hz4 hz5 rfl (by decide) (.slice a2 kids.length k2) kids.length (intsJ kids) (by first | rfl | simp [Act.eval, Act.put]) HS111.out.drow ⟨bk111, 0, none⟩ 1 1 [.int .i64 (kid : Int)] (by first | rfl | simp [Act.eval, Act.put]) rfl (World.news_of_block (cs := #[.int .i64 (kid : Int)]) (t := 3) (fr := (0, 0)) NB111.out) (oneI _) (by decide) (by unfold maxLen; omega) (by omega) HS111.out.lt1 _ rfl ?_
      intro g112 cap112 wv112 hown112 hgrow112 hat112 hlt112
      have HS112 := hid (HS111.out.growD hgrow112 (hat112.imp_right (fun h => Nat.le_of_eq h.symm)) hown112)
      clear hown112 hgrow112 hat112 hlt112
      refine hK.out _ _ trivial (fun hHeld => ?_)
      clear hK K
      try simp only [Act.put, List.setIfInBounds_toArray, List.set_cons_zero, List.set_cons_succ]
      obtain ⟨n2, n3, z2, z3⟩ := HS112.out.cells HGD.out.gi.blk
      refine wpAnyH_ready (rs := [11]) (by kernel_rfl) (by simp) ?_
      refine AllReadyH.cons (i := 11) rfl (fun K hK => ?_) AllReadyH.nil
      simp only [List.getElem_toArray, List.getElem_cons_succ, List.getElem_cons_zero]
      rw [if_pos (by rfl)]
      go_simp
      refine hK.out _ _ trivial (fun hHeld => ?_)
      clear hK K
      try simp only [Act.put, List.setIfInBounds_toArray, List.set_cons_zero, List.set_cons_succ]
      refine wpAnyH_take (i := 12) (v := ?_) rfl (by kernel_rfl) (by kernel_rfl) (by kernel_rfl) (fun _ _ _ h => h) (Or.inl ⟨by rfl, ?_⟩) (by assumption) ?_
      rotate_left
      · (intro w' hSw; (try dsimp only at hSw); go_simp; try (with_reducible rfl))
      change wpAnyH _ _ _ _ _ _ _ (Act.put _ (some 73) _) _
      try simp only [Act.put, List.setIfInBounds_toArray, List.set_cons_zero, List.set_cons_succ]
      refine wpAnyH_ready (rs := [13]) (by kernel_rfl) (by simp) ?_
      refine AllReadyH.cons (i := 13) rfl (fun K hK => ?_) AllReadyH.nil
      simp only [List.getElem_toArray, List.getElem_cons_succ, List.getElem_cons_zero]
      rw [if_pos (by rfl)]
      go_simp
      refine hK.out _ _ trivial (fun hHeld => ?_)
      clear hK K
      try simp only [Act.put, List.setIfInBounds_toArray, List.set_cons_zero, List.set_cons_succ]
      refine wpAnyH_done (by kernel_rfl) ?_ _
      go_wp2
      go_meet
      case rel => exact ⟨_, _, HS112.out.ji HJD.out HGD.out.gi.gnb _ _, HGD.out.both HS112.out HMZ.out ⟨by omega, by omega⟩⟩
      refine AllReadyH.cons (i := 8) rfl (fun K hK => ?_) AllReadyH.nil
      simp only [List.getElem_toArray, List.getElem_cons_succ, List.getElem_cons_zero]
      rw [if_pos (by rfl)]
      go_simp
      refine hK.out _ _ trivial (fun hHeld => ?_)
      clear hK K
      try simp only [Act.put, List.setIfInBounds_toArray, List.set_cons_zero, List.set_cons_succ]
      have HS113 := hid (HS108.out.alloc (.cells #[.int .i64 (kid : Int)] 3))
      have NB113 := hid (heap_alloc_new wv108 (.cells #[.int .i64 (kid : Int)] 3))
      have NO113 := hid (((ext_alloc wv108 (.cells #[.int .i64 (kid : Int)] 3)).block bk108 (Array.getElem?_eq_some_iff.1 NB108.out).1).trans NB108.out)
      obtain ⟨wv113, hw113⟩ : ∃ x, wv108.alloc (.cells #[.int .i64 (kid : Int)] 3) = x := ⟨_, rfl⟩
      rw [hw113] at HS113 NB113 NO113 ⊢
      obtain ⟨bk113, hb113⟩ : ∃ x, wv108.heap.size = x := ⟨_, rfl⟩
      have BL113 := hid (show wv0.heap.size ≤ bk113 by rw [← hb113]; exact HS108.out.size)
      rw [hb113] at NB113 ⊢
      clear hw113 hb113
      refine wpAnyH_ready (rs := [4]) (by kernel_rfl) (by simp) ?_
      refine AllReadyH.cons (i := 4) rfl (fun K hK => ?_) AllReadyH.nil
      simp only [List.getElem_toArray, List.getElem_cons_succ, List.getElem_cons_zero]
      rw [if_pos (by rfl)]
      refine wp_append_lies _ (.tmp 63) (.tmp 65) 73 rfl (nb + 1) 9 ii (.string ⟨#[]⟩) 1 16 Tryd.underlying73 hi hz0 hz1 hz2 rfl (by decide) (.slice a1 keys.length k1) keys.length (strCellsL keys) (by first | rfl | simp [Act.eval, Act.put]) HS113.out.krow ⟨bk108, 0, none⟩ 1 1 [.string M] (by first | rfl | simp [Act.eval, Act.put]) rfl (World.news_of_block (cs := #[.string M]) (t := 9) (fr := (0, 0)) NO113.out) (oneS M) (by decide) (by unfold maxLen; omega) (by omega) HS113.out.lt1 _ rfl ?_
      intro g114 cap114 wv114 hown114 hgrow114 hat114 hlt114
      have HS114 := hid (HS113.out.growK hgrow114 (hat114.imp_right (fun h => Nat.le_of_eq h.symm)) hown114)
      have NO114 := hid ((hgrow114.block bk113 (Array.getElem?_eq_some_iff.1 NB113.out).1 (fun e => by have := (HS113.out.klt _ e.symm).2; have := BL113.out; omega)).trans NB113.out)
      clear hown114 hgrow114 hat114 hlt114
      refine hK.out _ _ trivial (fun hHeld => ?_)
      clear hK K
      try simp only [Act.put, List.setIfInBounds_toArray, List.set_cons_zero, List.set_cons_succ]
      refine wpAnyH_take (i := 10) (v := ?_) rfl (by kernel_rfl) (by kernel_rfl) (by kernel_rfl) (fun _ _ _ h => h) (Or.inl ⟨by rfl, ?_⟩) (by assumption) ?_
      rotate_left
      · (intro w' hSw; (try dsimp only at hSw); go_simp; try (with_reducible rfl))
      change wpAnyH _ _ _ _ _ _ _ (Act.put _ (some 72) _) _
      try simp only [Act.put, List.setIfInBounds_toArray, List.set_cons_zero, List.set_cons_succ]
      refine wpAnyH_ready (rs := [9]) (by kernel_rfl) (by simp) ?_
      refine AllReadyH.cons (i := 9) rfl (fun K hK => ?_) AllReadyH.nil
      simp only [List.getElem_toArray, List.getElem_cons_succ, List.getElem_cons_zero]
      rw [if_pos (by rfl)]
      refine wp_append_lies _ (.tmp 68) (.tmp 70) 61 rfl (nb + 1) 3 i1 (.int .i64 0) 1 8 Tryd.underlying61 hi1 hz3 hz4 hz5 rfl (by decide) (.slice a2 kids.length k2) kids.length (intsJ kids) (by first | rfl | simp [Act.eval, Act.put]) HS114.out.drow ⟨bk113, 0, none⟩ 1 1 [.int .i64 (kid : Int)] (by first | rfl | simp [Act.eval, Act.put]) rfl (World.news_of_block (cs := #[.int .i64 (kid : Int)]) (t := 3) (fr := (0, 0)) NO114.out) (oneI _) (by decide) (by unfold maxLen; omega) (by omega) HS114.out.lt1 _ rfl ?_
      intro g115 cap115 wv115 hown115 hgrow115 hat115 hlt115
      have HS115 := hid (HS114.out.growD hgrow115 (hat115.imp_right (fun h => Nat.le_of_eq h.symm)) hown115)
      clear hown115 hgrow115 hat115 hlt115
      refine hK.out _ _ trivial (fun hHeld => ?_)
      clear hK K
      try simp only [Act.put, List.setIfInBounds_toArray, List.set_cons_zero, List.set_cons_succ]
      obtain ⟨n2, n3, z2, z3⟩ := HS115.out.cells HGD.out.gi.blk
      refine wpAnyH_ready (rs := [11]) (by kernel_rfl) (by simp) ?_
      refine AllReadyH.cons (i := 11) rfl (fun K hK => ?_) AllReadyH.nil
      simp only [List.getElem_toArray, List.getElem_cons_succ, List.getElem_cons_zero]
      rw [if_pos (by rfl)]
      go_simp
      refine hK.out _ _ trivial (fun hHeld => ?_)
      clear hK K
      try simp only [Act.put, List.setIfInBounds_toArray, List.set_cons_zero, List.set_cons_succ]
      refine wpAnyH_take (i := 12) (v := ?_) rfl (by kernel_rfl) (by kernel_rfl) (by kernel_rfl) (fun _ _ _ h => h) (Or.inl ⟨by rfl, ?_⟩) (by assumption) ?_
      rotate_left
      · (intro w' hSw; (try dsimp only at hSw); go_simp; try (with_reducible rfl))
      change wpAnyH _ _ _ _ _ _ _ (Act.put _ (some 73) _) _
      try simp only [Act.put, List.setIfInBounds_toArray, List.set_cons_zero, List.set_cons_succ]
      refine wpAnyH_ready (rs := [13]) (by kernel_rfl) (by simp) ?_
      refine AllReadyH.cons (i := 13) rfl (fun K hK => ?_) AllReadyH.nil
      simp only [List.getElem_toArray, List.getElem_cons_succ, List.getElem_cons_zero]
      rw [if_pos (by rfl)]
      go_simp
      refine hK.out _ _ trivial (fun hHeld => ?_)
      clear hK K
      try simp only [Act.put, List.setIfInBounds_toArray, List.set_cons_zero, List.set_cons_succ]
      refine wpAnyH_done (by kernel_rfl) ?_ _
      go_wp2
      go_meet
      case rel => exact ⟨_, _, HS115.out.ji HJD.out HGD.out.gi.gnb _ _, HGD.out.both HS115.out HMZ.out ⟨by omega, by omega⟩⟩
      refine AllReadyH.cons (i := 8) rfl (fun K hK => ?_) AllReadyH.nil
      simp only [List.getElem_toArray, List.getElem_cons_succ, List.getElem_cons_zero]
      rw [if_pos (by rfl)]
      go_simp
      refine hK.out _ _ trivial (fun hHeld => ?_)
      clear hK K
      try simp only [Act.put, List.setIfInBounds_toArray, List.set_cons_zero, List.set_cons_succ]
      have HS116 := hid (HS108.out.alloc (.cells #[.int .i64 (kid : Int)] 3))
      have NB116 := hid (heap_alloc_new wv108 (.cells #[.int .i64 (kid : Int)] 3))
      have NO116 := hid (((ext_alloc wv108 (.cells #[.int .i64 (kid : Int)] 3)).block bk108 (Array.getElem?_eq_some_iff.1 NB108.out).1).trans NB108.out)
      obtain ⟨wv116, hw116⟩ : ∃ x, wv108.alloc (.cells #[.int .i64 (kid : Int)] 3) = x := ⟨_, rfl⟩
      rw [hw116] at HS116 NB116 NO116 ⊢
      obtain ⟨bk116, hb116⟩ : ∃ x, wv108.heap.size = x := ⟨_, rfl⟩
      have BL116 := hid (show wv0.heap.size ≤ bk116 by rw [← hb116]; exact HS108.out.size)
      rw [hb116] at NB116 ⊢
      clear hw116 hb116
      refine wpAnyH_ready (rs := [1]) (by kernel_rfl) (by simp) ?_
      refine AllReadyH.cons (i := 1) rfl (fun K hK => ?_) AllReadyH.nil
      simp only [List.getElem_toArray, List.getElem_cons_succ, List.getElem_cons_zero]
      rw [if_pos (by rfl)]
      have n2 := (HS116.out.cells HGD.out.gi.blk).1
      go_simp
      refine hK.out _ _ trivial (fun hHeld => ?_)
      clear hK K n2
      try simp only [Act.put, List.setIfInBounds_toArray, List.set_cons_zero, List.set_cons_succ]
      refine wpAnyH_ready (rs := [4]) (by kernel_rfl) (by simp) ?_
      refine AllReadyH.cons (i := 4) rfl (fun K hK => ?_) AllReadyH.nil
      simp only [List.getElem_toArray, List.getElem_cons_succ, List.getElem_cons_zero]
      rw [if_pos (by rfl)]
      refine wp_append_lies _ (.tmp 63) (.tmp 65) 73 rfl (nb + 1) 9 ii (.string ⟨#[]⟩) 1 16 Tryd.underlying73 hi hz0 hz1 hz2 rfl (by decide) (.slice a1 keys.length k1) keys.length (strCellsL keys) (by first | rfl | simp [Act.eval, Act.put]) HS116.out.krow ⟨bk108, 0, none⟩ 1 1 [.string M] (by first | rfl | simp [Act.eval, Act.put]) rfl (World.news_of_block (cs := #[.string M]) (t := 9) (fr := (0, 0)) NO116.out) (oneS M) (by decide) (by unfold maxLen; omega) (by omega) HS116.out.lt1 _ rfl ?_
      intro g118 cap118 wv118 hown118 hgrow118 hat118 hlt118
      have HS118 := hid (HS116.out.growK hgrow118 (hat118.imp_right (fun h => Nat.le_of_eq h.symm)) hown118)
      have NO118 := hid ((hgrow118.block bk116 (Array.getElem?_eq_some_iff.1 NB116.out).1 (fun e => by have := (HS116.out.klt _ e.symm).2; have := BL116.out; omega)).trans NB116.out)
      clear hown118 hgrow118 hat118 hlt118
      refine hK.out _ _ trivial (fun hHeld => ?_)
      clear hK K
      try simp only [Act.put, List.setIfInBounds_toArray, List.set_cons_zero, List.set_cons_succ]
      refine wpAnyH_take (i := 10) (v := ?_) rfl (by kernel_rfl) (by kernel_rfl) (by kernel_rfl) (fun _ _ _ h => h) (Or.inl ⟨by rfl, ?_⟩) (by assumption) ?_
      rotate_left
      · (intro w' hSw; (try dsimp only at hSw); go_simp; try (with_reducible rfl))
      change wpAnyH _ _ _ _ _ _ _ (Act.put _ (some 72) _) _
      try simp only [Act.put, List.setIfInBounds_toArray, List.set_cons_zero, List.set_cons_succ]
      refine wpAnyH_ready (rs := [9]) (by kernel_rfl) (by simp) ?_
      refine AllReadyH.cons (i := 9) rfl (fun K hK => ?_) AllReadyH.nil
      simp only [List.getElem_toArray, List.getElem_cons_succ, List.getElem_cons_zero]
      rw [if_pos (by rfl)]
      refine wp_append_lies _ (.tmp 68) (.tmp 70) 61 rfl (nb + 1) 3 i1 (.int .i64 0) 1 8 Tryd.underlying61 hi1 hz3 hz4 hz5 rfl (by decide) (.slice a2 kids.length k2) kids.length (intsJ kids) (by first | rfl | simp [Act.eval, Act.put]) HS118.out.drow ⟨bk116, 0, none⟩ 1 1 [.int .i64 (kid : Int)] (by first | rfl | simp [Act.eval, Act.put]) rfl (World.news_of_block (cs := #[.int .i64 (kid : Int)]) (t := 3) (fr := (0, 0)) NO118.out) (oneI _) (by decide) (by unfold maxLen; omega) (by omega) HS118.out.lt1 _ rfl ?_
      intro g119 cap119 wv119 hown119 hgrow119 hat119 hlt119
      have HS119 := hid (HS118.out.growD hgrow119 (hat119.imp_right (fun h => Nat.le_of_eq h.symm)) hown119)
      clear hown119 hgrow119 hat119 hlt119
      refine hK.out _ _ trivial (fun hHeld => ?_)
      clear hK K
      try simp only [Act.put, List.setIfInBounds_toArray, List.set_cons_zero, List.set_cons_succ]
      obtain ⟨n2, n3, z2, z3⟩ := HS119.out.cells HGD.out.gi.blk
      refine wpAnyH_ready (rs := [11]) (by kernel_rfl) (by simp) ?_
      refine AllReadyH.cons (i := 11) rfl (fun K hK => ?_) AllReadyH.nil
      simp only [List.getElem_toArray, List.getElem_cons_succ, List.getElem_cons_zero]
      rw [if_pos (by rfl)]
      go_simp
      refine hK.out _ _ trivial (fun hHeld => ?_)
      clear hK K
      try simp only [Act.put, List.setIfInBounds_toArray, List.set_cons_zero, List.set_cons_succ]
      refine wpAnyH_take (i := 12) (v := ?_) rfl (by kernel_rfl) (by kernel_rfl) (by kernel_rfl) (fun _ _ _ h => h) (Or.inl ⟨by rfl, ?_⟩) (by assumption) ?_
      rotate_left
      · (intro w' hSw; (try dsimp only at hSw); go_simp; try (with_reducible rfl))
      change wpAnyH _ _ _ _ _ _ _ (Act.put _ (some 73) _) _
      try simp only [Act.put, List.setIfInBounds_toArray, List.set_cons_zero, List.set_cons_succ]
      refine wpAnyH_ready (rs := [13]) (by kernel_rfl) (by simp) ?_
      refine AllReadyH.cons (i := 13) rfl (fun K hK => ?_) AllReadyH.nil
      simp only [List.getElem_toArray, List.getElem_cons_succ, List.getElem_cons_zero]
      rw [if_pos (by rfl)]
      go_simp
      refine hK.out _ _ trivial (fun hHeld => ?_)
      clear hK K
      try simp only [Act.put, List.setIfInBounds_toArray, List.set_cons_zero, List.set_cons_succ]
      refine wpAnyH_done (by kernel_rfl) ?_ _
      go_wp2
      go_meet
      case rel => exact ⟨_, _, HS119.out.ji HJD.out HGD.out.gi.gnb _ _, HGD.out.both HS119.out HMZ.out ⟨by omega, by omega⟩⟩
      refine AllReadyH.cons (i := 8) rfl (fun K hK => ?_) AllReadyH.nil
      simp only [List.getElem_toArray, List.getElem_cons_succ, List.getElem_cons_zero]
      rw [if_pos (by rfl)]
      go_simp
      refine hK.out _ _ trivial (fun hHeld => ?_)
      clear hK K
      try simp only [Act.put, List.setIfInBounds_toArray, List.set_cons_zero, List.set_cons_succ]
      have HS120 := hid (HSA.out.alloc (.cells #[.int .i64 (kid : Int)] 3))
      have NB120 := hid (heap_alloc_new wv0 (.cells #[.int .i64 (kid : Int)] 3))
      obtain ⟨wv120, hw120⟩ : ∃ x, wv0.alloc (.cells #[.int .i64 (kid : Int)] 3) = x := ⟨_, rfl⟩
      rw [hw120] at HS120 NB120 ⊢
      obtain ⟨bk120, hb120⟩ : ∃ x, wv0.heap.size = x := ⟨_, rfl⟩
      have BL120 := hid (show wv0.heap.size ≤ bk120 by rw [← hb120]; exact HSA.out.size)
      rw [hb120] at NB120 ⊢
      clear hw120 hb120
      refine wpAnyH_ready (rs := [1, 3]) (by kernel_rfl) (by simp) ?_
      refine AllReadyH.cons (i := 1) rfl (fun K hK => ?_) ?_
      simp only [List.getElem_toArray, List.getElem_cons_succ, List.getElem_cons_zero]
      rw [if_pos (by rfl)]
      have n2 := (HS120.out.cells HGD.out.gi.blk).1
      go_simp
      refine hK.out _ _ trivial (fun hHeld => ?_)
      clear hK K n2
      try simp only [Act.put, List.setIfInBounds_toArray, List.set_cons_zero, List.set_cons_succ]
      refine wpAnyH_ready (rs := [3]) (by kernel_rfl) (by simp) ?_
      refine AllReadyH.cons (i := 3) rfl (fun K hK => ?_) AllReadyH.nil
      simp only [List.getElem_toArray, List.getElem_cons_succ, List.getElem_cons_zero]
      rw [if_pos (by rfl)]
      go_simp
      refine hK.out _ _ trivial (fun hHeld => ?_)
      clear hK K
      try simp only [Act.put, List.setIfInBounds_toArray, List.set_cons_zero, List.set_cons_succ]
      have HS122 := hid (HS120.out.alloc (.cells #[.string M] 9))
      have NB122 := hid (heap_alloc_new wv120 (.cells #[.string M] 9))
      have NO122 := hid (((ext_alloc wv120 (.cells #[.string M] 9)).block bk120 (Array.getElem?_eq_some_iff.1 NB120.out).1).trans NB120.out)
      obtain ⟨wv122, hw122⟩ : ∃ x, wv120.alloc (.cells #[.string M] 9) = x := ⟨_, rfl⟩
      rw [hw122] at HS122 NB122 NO122 ⊢
      obtain ⟨bk122, hb122⟩ : ∃ x, wv120.heap.size = x := ⟨_, rfl⟩
      have BL122 := hid (show wv0.heap.size ≤ bk122 by rw [← hb122]; exact HS120.out.size)
      rw [hb122] at NB122 ⊢
      clear hw122 hb122
      refine wpAnyH_ready (rs := [4]) (by kernel_rfl) (by simp) ?_
      refine AllReadyH.cons (i := 4) rfl (fun K hK => ?_) AllReadyH.nil
      simp only [List.getElem_toArray, List.getElem_cons_succ, List.getElem_cons_zero]
      rw [if_pos (by rfl)]
      refine wp_append_lies _ (.tmp 63) (.tmp 65) 73 rfl (nb + 1) 9 ii (.string ⟨#[]⟩) 1 16 Tryd.underlying73 hi hz0 hz1 hz2 rfl (by decide) (.slice a1 keys.length k1) keys.length (strCellsL keys) (by first | rfl | simp [Act.eval, Act.put]) HS122.out.krow ⟨bk122, 0, none⟩ 1 1 [.string M] (by first | rfl | simp [Act.eval, Act.put]) rfl (World.news_of_block (cs := #[.string M]) (t := 9) (fr := (0, 0)) NB122.out) (oneS M) (by decide) (by unfold maxLen; omega) (by omega) HS122.out.lt1 _ rfl ?_
      intro g123 cap123 wv123 hown123 hgrow123 hat123 hlt123
      have HS123 := hid (HS122.out.growK hgrow123 (hat123.imp_right (fun h => Nat.le_of_eq h.symm)) hown123)
      have NO123 := hid ((hgrow123.block bk120 (Array.getElem?_eq_some_iff.1 NO122.out).1 (fun e => by have := (HS122.out.klt _ e.symm).2; have := BL120.out; omega)).trans NO122.out)
      clear hown123 hgrow123 hat123 hlt123
      refine hK.out _ _ trivial (fun hHeld => ?_)
      clear hK K
      try simp only [Act.put, List.setIfInBounds_toArray, List.set_cons_zero, List.set_cons_succ]
      refine wpAnyH_take (i := 10) (v := ?_) rfl (by kernel_rfl) (by kernel_rfl) (by kernel_rfl) (fun _ _ _ h => h) (Or.inl ⟨by rfl, ?_⟩) (by assumption) ?_
      rotate_left
      · (intro w' hSw; (try dsimp only at hSw); go_simp; try (with_reducible rfl))
      change wpAnyH _ _ _ _ _ _ _ (Act.put _ (some 72) _) _
      try simp only [Act.put, List.setIfInBounds_toArray, List.set_cons_zero, List.set_cons_succ]
      refine wpAnyH_ready (rs := [9]) (by kernel_rfl) (by simp) ?_
      refine AllReadyH.cons (i := 9) rfl (fun K hK => ?_) AllReadyH.nil
      simp only [List.getElem_toArray, List.getElem_cons_succ, List.getElem_cons_zero]
      rw [if_pos (by rfl)]
      refine wp_append_lies _ (.tmp 68) (.tmp 70) 61 rfl (nb + 1) 3 i1 (.int .i64 0) 1 8 Tryd.underlying61 hi1 hz3 hz4 hz5 rfl (by decide) (.slice a2 kids.length k2) kids.length (intsJ kids) (by first | rfl | simp [Act.eval, Act.put]) HS123.out.drow ⟨bk120, 0, none⟩ 1 1 [.int .i64 (kid : Int)] (by first | rfl | simp [Act.eval, Act.put]) rfl (World.news_of_block (cs := #[.int .i64 (kid : Int)]) (t := 3) (fr := (0, 0)) NO123.out) (oneI _) (by decide) (by unfold maxLen; omega) (by omega) HS123.out.lt1 _ rfl ?_
      intro g124 cap124 wv124 hown124 hgrow124 hat124 hlt124
      have HS124 := hid (HS123.out.growD hgrow124 (hat124.imp_right (fun h => Nat.le_of_eq h.symm)) hown124)
      clear hown124 hgrow124 hat124 hlt124
      refine hK.out _ _ trivial (fun hHeld => ?_)
      clear hK K
      try simp only [Act.put, List.setIfInBounds_toArray, List.set_cons_zero, List.set_cons_succ]
      obtain ⟨n2, n3, z2, z3⟩ := HS124.out.cells HGD.out.gi.blk
      refine wpAnyH_ready (rs := [11]) (by kernel_rfl) (by simp) ?_
      refine AllReadyH.cons (i := 11) rfl (fun K hK => ?_) AllReadyH.nil
      simp only [List.getElem_toArray, List.getElem_cons_succ, List.getElem_cons_zero]
      rw [if_pos (by rfl)]
      go_simp
      refine hK.out _ _ trivial (fun hHeld => ?_)
      clear hK K
      try simp only [Act.put, List.setIfInBounds_toArray, List.set_cons_zero, List.set_cons_succ]
      refine wpAnyH_take (i := 12) (v := ?_) rfl (by kernel_rfl) (by kernel_rfl) (by kernel_rfl) (fun _ _ _ h => h) (Or.inl ⟨by rfl, ?_⟩) (by assumption) ?_
      rotate_left
      · (intro w' hSw; (try dsimp only at hSw); go_simp; try (with_reducible rfl))
      change wpAnyH _ _ _ _ _ _ _ (Act.put _ (some 73) _) _
      try simp only [Act.put, List.setIfInBounds_toArray, List.set_cons_zero, List.set_cons_succ]
      refine wpAnyH_ready (rs := [13]) (by kernel_rfl) (by simp) ?_
      refine AllReadyH.cons (i := 13) rfl (fun K hK => ?_) AllReadyH.nil
      simp only [List.getElem_toArray, List.getElem_cons_succ, List.getElem_cons_zero]
      rw [if_pos (by rfl)]
      go_simp
      refine hK.out _ _ trivial (fun hHeld => ?_)
      clear hK K
      try simp only [Act.put, List.setIfInBounds_toArray, List.set_cons_zero, List.set_cons_succ]
      refine wpAnyH_done (by kernel_rfl) ?_ _
      go_wp2
      go_meet
      case rel => exact ⟨_, _, HS124.out.ji HJD.out HGD.out.gi.gnb _ _, HGD.out.both HS124.out HMZ.out ⟨by omega, by omega⟩⟩
      refine AllReadyH.cons (i := 3) rfl (fun K hK => ?_) AllReadyH.nil
      simp only [List.getElem_toArray, List.getElem_cons_succ, List.getElem_cons_zero]
      rw [if_pos (by rfl)]
      go_simp
      refine hK.out _ _ trivial (fun hHeld => ?_)
      clear hK K
      try simp only [Act.put, List.setIfInBounds_toArray, List.set_cons_zero, List.set_cons_succ]
      have HS125 := hid (HS120.out.alloc (.cells #[.string M] 9))
      have NB125 := hid (heap_alloc_new wv120 (.cells #[.string M] 9))
      have NO125 := hid (((ext_alloc wv120 (.cells #[.string M] 9)).block bk120 (Array.getElem?_eq_some_iff.1 NB120.out).1).trans NB120.out)
      obtain ⟨wv125, hw125⟩ : ∃ x, wv120.alloc (.cells #[.string M] 9) = x := ⟨_, rfl⟩
      rw [hw125] at HS125 NB125 NO125 ⊢
      obtain ⟨bk125, hb125⟩ : ∃ x, wv120.heap.size = x := ⟨_, rfl⟩
      have BL125 := hid (show wv0.heap.size ≤ bk125 by rw [← hb125]; exact HS120.out.size)
      rw [hb125] at NB125 ⊢
      clear hw125 hb125
      refine wpAnyH_ready (rs := [1]) (by kernel_rfl) (by simp) ?_
      refine AllReadyH.cons (i := 1) rfl (fun K hK => ?_) AllReadyH.nil
      simp only [List.getElem_toArray, List.getElem_cons_succ, List.getElem_cons_zero]
      rw [if_pos (by rfl)]
      have n2 := (HS125.out.cells HGD.out.gi.blk).1
      go_simp
      refine hK.out _ _ trivial (fun hHeld => ?_)
      clear hK K n2
      try simp only [Act.put, List.setIfInBounds_toArray, List.set_cons_zero, List.set_cons_succ]
      refine wpAnyH_ready (rs := [4]) (by kernel_rfl) (by simp) ?_
      refine AllReadyH.cons (i := 4) rfl (fun K hK => ?_) AllReadyH.nil
      simp only [List.getElem_toArray, List.getElem_cons_succ, List.getElem_cons_zero]
      rw [if_pos (by rfl)]
      refine wp_append_lies _ (.tmp 63) (.tmp 65) 73 rfl (nb + 1) 9 ii (.string ⟨#[]⟩) 1 16 Tryd.underlying73 hi hz0 hz1 hz2 rfl (by decide) (.slice a1 keys.length k1) keys.length (strCellsL keys) (by first | rfl | simp [Act.eval, Act.put]) HS125.out.krow ⟨bk125, 0, none⟩ 1 1 [.string M] (by first | rfl | simp [Act.eval, Act.put]) rfl (World.news_of_block (cs := #[.string M]) (t := 9) (fr := (0, 0)) NB125.out) (oneS M) (by decide) (by unfold maxLen; omega) (by omega) HS125.out.lt1 _ rfl ?_
      intro g127 cap127 wv127 hown127 hgrow127 hat127 hlt127
      have HS127 := hid (HS125.out.growK hgrow127 (hat127.imp_right (fun h => Nat.le_of_eq h.symm)) hown127)
      have NO127 := hid ((hgrow127.block bk120 (Array.getElem?_eq_some_iff.1 NO125.out).1 (fun e => by have := (HS125.out.klt _ e.symm).2; have := BL120.out; omega)).trans NO125.out)
      clear hown127 hgrow127 hat127 hlt127
      refine hK.out _ _ trivial (fun hHeld => ?_)
      clear hK K
      try simp only [Act.put, List.setIfInBounds_toArray, List.set_cons_zero, List.set_cons_succ]
      refine wpAnyH_take (i := 10) (v := ?_) rfl (by kernel_rfl) (by kernel_rfl) (by kernel_rfl) (fun _ _ _ h => h) (Or.inl ⟨by rfl, ?_⟩) (by assumption) ?_
      rotate_left
      · (intro w' hSw; (try dsimp only at hSw); go_simp; try (with_reducible rfl))
      change wpAnyH _ _ _ _ _ _ _ (Act.put _ (some 72) _) _
      try simp only [Act.put, List.setIfInBounds_toArray, List.set_cons_zero, List.set_cons_succ]
      refine wpAnyH_ready (rs := [9]) (by kernel_rfl) (by simp) ?_
      refine AllReadyH.cons (i := 9) rfl (fun K hK => ?_) AllReadyH.nil
      simp only [List.getElem_toArray, List.getElem_cons_succ, List.getElem_cons_zero]
      rw [if_pos (by rfl)]
      refine wp_append_lies _ (.tmp 68) (.tmp 70) 61 rfl (nb + 1) 3 i1 (.int .i64 0) 1 8 Tryd.underlying61 hi1 hz3 hz4 hz5 rfl (by decide) (.slice a2 kids.length k2) kids.length (intsJ kids) (by first | rfl | simp [Act.eval, Act.put]) HS127.out.drow ⟨bk120, 0, none⟩ 1 1 [.int .i64 (kid : Int)] (by first | rfl | simp [Act.eval, Act.put]) rfl (World.news_of_block (cs := #[.int .i64 (kid : Int)]) (t := 3) (fr := (0, 0)) NO127.out) (oneI _) (by decide) (by unfold maxLen; omega) (by omega) HS127.out.lt1 _ rfl ?_
      intro g128 cap128 wv128 hown128 hgrow128 hat128 hlt128
      have HS128 := hid (HS127.out.growD hgrow128 (hat128.imp_right (fun h => Nat.le_of_eq h.symm)) hown128)
      clear hown128 hgrow128 hat128 hlt128
      refine hK.out _ _ trivial (fun hHeld => ?_)
      clear hK K
      try simp only [Act.put, List.setIfInBounds_toArray, List.set_cons_zero, List.set_cons_succ]
      obtain ⟨n2, n3, z2, z3⟩ := HS128.out.cells HGD.out.gi.blk
      refine wpAnyH_ready (rs := [11]) (by kernel_rfl) (by simp) ?_
      refine AllReadyH.cons (i := 11) rfl (fun K hK => ?_) AllReadyH.nil
      simp only [List.getElem_toArray, List.getElem_cons_succ, List.getElem_cons_zero]
      rw [if_pos (by rfl)]
      go_simp
      refine hK.out _ _ trivial (fun hHeld => ?_)
      clear hK K
      try simp only [Act.put, List.setIfInBounds_toArray, List.set_cons_zero, List.set_cons_succ]
      refine wpAnyH_take (i := 12) (v := ?_) rfl (by kernel_rfl) (by kernel_rfl) (by kernel_rfl) (fun _ _ _ h => h) (Or.inl ⟨by rfl, ?_⟩) (by assumption) ?_
      rotate_left
      · (intro w' hSw; (try dsimp only at hSw); go_simp; try (with_reducible rfl))
      change wpAnyH _ _ _ _ _ _ _ (Act.put _ (some 73) _) _
      try simp only [Act.put, List.setIfInBounds_toArray, List.set_cons_zero, List.set_cons_succ]
      refine wpAnyH_ready (rs := [13]) (by kernel_rfl) (by simp) ?_
      refine AllReadyH.cons (i := 13) rfl (fun K hK => ?_) AllReadyH.nil
      simp only [List.getElem_toArray, List.getElem_cons_succ, List.getElem_cons_zero]
      rw [if_pos (by rfl)]
      go_simp
      refine hK.out _ _ trivial (fun hHeld => ?_)
      clear hK K
      try simp only [Act.put, List.setIfInBounds_toArray, List.set_cons_zero, List.set_cons_succ]
      refine wpAnyH_done (by kernel_rfl) ?_ _
      go_wp2
      go_meet
      case rel => exact ⟨_, _, HS128.out.ji HJD.out HGD.out.gi.gnb _ _, HGD.out.both HS128.out HMZ.out ⟨by omega, by omega⟩⟩
      refine AllReadyH.cons (i := 8) rfl (fun K hK => ?_) AllReadyH.nil
      simp only [List.getElem_toArray, List.getElem_cons_succ, List.getElem_cons_zero]
      rw [if_pos (by rfl)]
      go_simp
      refine hK.out _ _ trivial (fun hHeld => ?_)
      clear hK K
      try simp only [Act.put, List.setIfInBounds_toArray, List.set_cons_zero, List.set_cons_succ]
      have HS129 := hid (HSA.out.alloc (.cells #[.int .i64 (kid : Int)] 3))
      have NB129 := hid (heap_alloc_new wv0 (.cells #[.int .i64 (kid : Int)] 3))
      obtain ⟨wv129, hw129⟩ : ∃ x, wv0.alloc (.cells #[.int .i64 (kid : Int)] 3) = x := ⟨_, rfl⟩
      rw [hw129] at HS129 NB129 ⊢
      obtain ⟨bk129, hb129⟩ : ∃ x, wv0.heap.size = x := ⟨_, rfl⟩
      have BL129 := hid (show wv0.heap.size ≤ bk129 by rw [← hb129]; exact HSA.out.size)
      rw [hb129] at NB129 ⊢
      clear hw129 hb129
      refine wpAnyH_ready (rs := [1, 3, 6]) (by kernel_rfl) (by simp) ?_
      refine AllReadyH.cons (i := 1) rfl (fun K hK => ?_) ?_
      simp only [List.getElem_toArray, List.getElem_cons_succ, List.getElem_cons_zero]
      rw [if_pos (by rfl)]
      have n2 := (HS129.out.cells HGD.out.gi.blk).1
      go_simp
      refine hK.out _ _ trivial (fun hHeld => ?_)
      clear hK K n2
      try simp only [Act.put, List.setIfInBounds_toArray, List.set_cons_zero, List.set_cons_succ]
      refine wpAnyH_ready (rs := [3, 6]) (by kernel_rfl) (by simp) ?_
      refine AllReadyH.cons (i := 3) rfl (fun K hK => ?_) ?_
      simp only [List.getElem_toArray, List.getElem_cons_succ, List.getElem_cons_zero]
      rw [if_pos (by rfl)]
      go_simp
      refine hK.out _ _ trivial (fun hHeld => ?_)
      clear hK K
      try simp only [Act.put, List.setIfInBounds_toArray, List.set_cons_zero, List.set_cons_succ]
      have HS131 := hid (HS129.out.alloc (.cells #[.string M] 9))
      have NB131 := hid (heap_alloc_new wv129 (.cells #[.string M] 9))
      have NO131 := hid (((ext_alloc wv129 (.cells #[.string M] 9)).block bk129 (Array.getElem?_eq_some_iff.1 NB129.out).1).trans NB129.out)
      obtain ⟨wv131, hw131⟩ : ∃ x, wv129.alloc (.cells #[.string M] 9) = x := ⟨_, rfl⟩
      rw [hw131] at HS131 NB131 NO131 ⊢
      obtain ⟨bk131, hb131⟩ : ∃ x, wv129.heap.size = x := ⟨_, rfl⟩
      have BL131 := hid (show wv0.heap.size ≤ bk131 by rw [← hb131]; exact HS129.out.size)
      rw [hb131] at NB131 ⊢
      clear hw131 hb131
      refine wpAnyH_ready (rs := [4, 6]) (by kernel_rfl) (by simp) ?_
      refine AllReadyH.cons (i := 4) rfl (fun K hK => ?_) ?_
      simp only [List.getElem_toArray, List.getElem_cons_succ, List.getElem_cons_zero]
      rw [if_pos (by rfl)]
      refine wp_append_lies _ (.tmp 63) (.tmp 65) 73 rfl (nb + 1) 9 ii (.string ⟨#[]⟩) 1 16 Tryd.underlying73 hi hz0 hz1 hz2 rfl (by decide) (.slice a1 keys.length k1) keys.length (strCellsL keys) (by first | rfl | simp [Act.eval, Act.put]) HS131.out.krow ⟨bk131, 0, none⟩ 1 1 [.string M] (by first | rfl | simp [Act.eval, Act.put]) rfl (World.news_of_block (cs := #[.string M]) (t := 9) (fr := (0, 0)) NB131.out) (oneS M) (by decide) (by unfold maxLen; omega) (by omega) HS131.out.lt1 _ rfl ?_
      intro g132 cap132 wv132 hown132 hgrow132 hat132 hlt132
      have HS132 := hid (HS131.out.growK hgrow132 (hat132.imp_right (fun h => Nat.le_of_eq h.symm)) hown132)
      have NO132 := hid ((hgrow132.block bk129 (Array.getElem?_eq_some_iff.1 NO131.out).1 (fun e => by have := (HS131.out.klt _ e.symm).2; have := BL129.out; omega)).trans NO131.out)
      clear hown132 hgrow132 hat132 hlt132
      refine hK.out _ _ trivial (fun hHeld => ?_)
      clear hK K
      try simp only [Act.put, List.setIfInBounds_toArray, List.set_cons_zero, List.set_cons_succ]
      refine wpAnyH_ready (rs := [6]) (by kernel_rfl) (by simp) ?_
      refine AllReadyH.cons (i := 6) rfl (fun K hK => ?_) AllReadyH.nil
      simp only [List.getElem_toArray, List.getElem_cons_succ, List.getElem_cons_zero]
      rw [if_pos (by rfl)]
      have n3 := (HS132.out.cells HGD.out.gi.blk).2.1
      go_simp
      refine hK.out _ _ trivial (fun hHeld => ?_)
      clear hK K n3
      try simp only [Act.put, List.setIfInBounds_toArray, List.set_cons_zero, List.set_cons_succ]
      refine wpAnyH_take (i := 10) (v := ?_) rfl (by kernel_rfl) (by kernel_rfl) (by kernel_rfl) (fun _ _ _ h => h) (Or.inl ⟨by rfl, ?_⟩) (by assumption) ?_
      rotate_left
      · (intro w' hSw; (try dsimp only at hSw); go_simp; try (with_reducible rfl))
      change wpAnyH _ _ _ _ _ _ _ (Act.put _ (some 72) _) _
      try simp only [Act.put, List.setIfInBounds_toArray, List.set_cons_zero, List.set_cons_succ]
      refine wpAnyH_ready (rs := [9]) (by kernel_rfl) (by simp) ?_
      refine AllReadyH.cons (i := 9) rfl (fun K hK => ?_) AllReadyH.nil
      simp only [List.getElem_toArray, List.getElem_cons_succ, List.getElem_cons_zero]
      rw [if_pos (by rfl)]
      refine wp_append_lies _ (.tmp 68) (.tmp 70) 61 rfl (nb + 1) 3 i1 (.int .i64 0) 1 8 Tryd.underlying61 hi1 hz3 hz4 hz5 rfl (by decide) (.slice a2 kids.length k2) kids.length (intsJ kids) (by first | rfl | simp [Act.eval, Act.put]) HS132.out.drow ⟨bk129, 0, none⟩ 1 1 [.int .i64 (kid : Int)] (by first | rfl | simp [Act.eval, Act.put]) rfl (World.news_of_block (cs := #[.int .i64 (kid : Int)]) (t := 3) (fr := (0, 0)) NO132.out) (oneI _) (by decide) (by unfold maxLen; omega) (by omega) HS132.out.lt1 _ rfl ?_
      intro g134 cap134 wv134 hown134 hgrow134 hat134 hlt134
      have HS134 := hid (HS132.out.growD hgrow134 (hat134.imp_right (fun h => Nat.le_of_eq h.symm)) hown134)
      clear hown134 hgrow134 hat134 hlt134
      refine hK.out _ _ trivial (fun hHeld => ?_)
      clear hK K
      try simp only [Act.put, List.setIfInBounds_toArray, List.set_cons_zero, List.set_cons_succ]
      obtain ⟨n2, n3, z2, z3⟩ := HS134.out.cells HGD.out.gi.blk
      refine wpAnyH_ready (rs := [11]) (by kernel_rfl) (by simp) ?_
      refine AllReadyH.cons (i := 11) rfl (fun K hK => ?_) AllReadyH.nil
      simp only [List.getElem_toArray, List.getElem_cons_succ, List.getElem_cons_zero]
      rw [if_pos (by rfl)]
      go_simp
      refine hK.out _ _ trivial (fun hHeld => ?_)
      clear hK K
      try simp only [Act.put, List.setIfInBounds_toArray, List.set_cons_zero, List.set_cons_succ]
      refine wpAnyH_take (i := 12) (v := ?_) rfl (by kernel_rfl) (by kernel_rfl) (by kernel_rfl) (fun _ _ _ h => h) (Or.inl ⟨by rfl, ?_⟩) (by assumption) ?_
      rotate_left
      · (intro w' hSw; (try dsimp only at hSw); go_simp; try (with_reducible rfl))
      change wpAnyH _ _ _ _ _ _ _ (Act.put _ (some 73) _) _
      try simp only [Act.put, List.setIfInBounds_toArray, List.set_cons_zero, List.set_cons_succ]
      refine wpAnyH_ready (rs := [13]) (by kernel_rfl) (by simp) ?_
      refine AllReadyH.cons (i := 13) rfl (fun K hK => ?_) AllReadyH.nil
      simp only [List.getElem_toArray, List.getElem_cons_succ, List.getElem_cons_zero]
      rw [if_pos (by rfl)]
      go_simp
      refine hK.out _ _ trivial (fun hHeld => ?_)
      clear hK K
      try simp only [Act.put, List.setIfInBounds_toArray, List.set_cons_zero, List.set_cons_succ]
      refine wpAnyH_done (by kernel_rfl) ?_ _
      go_wp2
      go_meet
      case rel => exact ⟨_, _, HS134.out.ji HJD.out HGD.out.gi.gnb _ _, HGD.out.both HS134.out HMZ.out ⟨by omega, by omega⟩⟩
      refine AllReadyH.cons (i := 6) rfl (fun K hK => ?_) AllReadyH.nil
      simp only [List.getElem_toArray, List.getElem_cons_succ, List.getElem_cons_zero]
      rw [if_pos (by rfl)]
      have n3 := (HS131.out.cells HGD.out.gi.blk).2.1
      go_simp
      refine hK.out _ _ trivial (fun hHeld => ?_)
      clear hK K n3
      try simp only [Act.put, List.setIfInBounds_toArray, List.set_cons_zero, List.set_cons_succ]
      refine wpAnyH_ready (rs := [4]) (by kernel_rfl) (by simp) ?_
      refine AllReadyH.cons (i := 4) rfl (fun K hK => ?_) AllReadyH.nil
      simp only [List.getElem_toArray, List.getElem_cons_succ, List.getElem_cons_zero]
      rw [if_pos (by rfl)]
      refine wp_append_lies _ (.tmp 63) (.tmp 65) 73 rfl (nb + 1) 9 ii (.string ⟨#[]⟩) 1 16 Tryd.underlying73 hi hz0 hz1 hz2 rfl (by decide) (.slice a1 keys.length k1) keys.length (strCellsL keys) (by first | rfl | simp [Act.eval, Act.put]) HS131.out.krow ⟨bk131, 0, none⟩ 1 1 [.string M] (by first | rfl | simp [Act.eval, Act.put]) rfl (World.news_of_block (cs := #[.string M]) (t := 9) (fr := (0, 0)) NB131.out) (oneS M) (by decide) (by unfold maxLen; omega) (by omega) HS131.out.lt1 _ rfl ?_
      intro g136 cap136 wv136 hown136 hgrow136 hat136 hlt136
      have HS136 := hid (HS131.out.growK hgrow136 (hat136.imp_right (fun h => Nat.le_of_eq h.symm)) hown136)
      have NO136 := hid ((hgrow136.block bk129 (Array.getElem?_eq_some_iff.1 NO131.out).1 (fun e => by have := (HS131.out.klt _ e.symm).2; have := BL129.out; omega)).trans NO131.out)
      clear hown136 hgrow136 hat136 hlt136
      refine hK.out _ _ trivial (fun hHeld => ?_)
      clear hK K
      try simp only [Act.put, List.setIfInBounds_toArray, List.set_cons_zero, List.set_cons_succ]
      refine wpAnyH_take (i := 10) (v := ?_) rfl (by kernel_rfl) (by kernel_rfl) (by kernel_rfl) (fun _ _ _ h => h) (Or.inl ⟨by rfl, ?_⟩) (by assumption) ?_
      rotate_left
      · (intro w' hSw; (try dsimp only at hSw); go_simp; try (with_reducible rfl))
      change wpAnyH _ _ _ _ _ _ _ (Act.put _ (some 72) _) _
      try simp only [Act.put, List.setIfInBounds_toArray, List.set_cons_zero, List.set_cons_succ]
      refine wpAnyH_ready (rs := [9]) (by kernel_rfl) (by simp) ?_
      refine AllReadyH.cons (i := 9) rfl (fun K hK => ?_) AllReadyH.nil
      simp only [List.getElem_toArray, List.getElem_cons_succ, List.getElem_cons_zero]
      rw [if_pos (by rfl)]
      refine wp_append_lies _ (.tmp 68) (.tmp 70) 61 rfl (nb + 1) 3 i1 (.int .i64 0) 1 8 Tryd.underlying61 hi1 hz3 hz4 hz5 rfl (by decide) (.slice a2 kids.length k2) kids.length (intsJ kids) (by first | rfl | simp [Act.eval, Act.put]) HS136.out.drow ⟨bk129, 0, none⟩ 1 1 [.int .i64 (kid : Int)] (by first | rfl | simp [Act.eval, Act.put]) rfl (World.news_of_block (cs := #[.int .i64 (kid : Int)]) (t := 3) (fr := (0, 0)) NO136.out) (oneI _) (by decide) (by unfold maxLen; omega) (by omega) HS136.out.lt1 _ rfl ?_
      intro g137 cap137 wv137 hown137 hgrow137 hat137 hlt137
      have HS137 := hid (HS136.out.growD hgrow137 (hat137.imp_right (fun h => Nat.le_of_eq h.symm)) hown137)
      clear hown137 hgrow137 hat137 hlt137
      refine hK.out _ _ trivial (fun hHeld => ?_)
      clear hK K
      try simp only [Act.put, List.setIfInBounds_toArray, List.set_cons_zero, List.set_cons_succ]
      obtain ⟨n2, n3, z2, z3⟩ := HS137.out.cells HGD.out.gi.blk
      refine wpAnyH_ready (rs := [11]) (by kernel_rfl) (by simp) ?_
      refine AllReadyH.cons (i := 11) rfl (fun K hK => ?_) AllReadyH.nil
      simp only [List.getElem_toArray, List.getElem_cons_succ, List.getElem_cons_zero]
      rw [if_pos (by rfl)]
      go_simp
      refine hK.out _ _ trivial (fun hHeld => ?_)
      clear hK K
      try simp only [Act.put, List.setIfInBounds_toArray, List.set_cons_zero, List.set_cons_succ]
      refine wpAnyH_take (i := 12) (v := ?_) rfl (by kernel_rfl) (by kernel_rfl) (by kernel_rfl) (fun _ _ _ h => h) (Or.inl ⟨by rfl, ?_⟩) (by assumption) ?_
      rotate_left
      · (intro w' hSw; (try dsimp only at hSw); go_simp; try (with_reducible rfl))
      change wpAnyH _ _ _ _ _ _ _ (Act.put _ (some 73) _) _
      try simp only [Act.put, List.setIfInBounds_toArray, List.set_cons_zero, List.set_cons_succ]
      refine wpAnyH_ready (rs := [13]) (by kernel_rfl) (by simp) ?_
      refine AllReadyH.cons (i := 13) rfl (fun K hK => ?_) AllReadyH.nil
      simp only [List.getElem_toArray, List.getElem_cons_succ, List.getElem_cons_zero]
      rw [if_pos (by rfl)]
      go_simp
      refine hK.out _ _ trivial (fun hHeld => ?_)
      clear hK K
      try simp only [Act.put, List.setIfInBounds_toArray, List.set_cons_zero, List.set_cons_succ]
      refine wpAnyH_done (by kernel_rfl) ?_ _
      go_wp2
      go_meet
      case rel => exact ⟨_, _, HS137.out.ji HJD.out HGD.out.gi.gnb _ _, HGD.out.both HS137.out HMZ.out ⟨by omega, by omega⟩⟩
      refine AllReadyH.cons (i := 6) rfl (fun K hK => ?_) AllReadyH.nil
      simp only [List.getElem_toArray, List.getElem_cons_succ, List.getElem_cons_zero]
      rw [if_pos (by rfl)]
      have n3 := (HS129.out.cells HGD.out.gi.blk).2.1
      go_simp
      refine hK.out _ _ trivial (fun hHeld => ?_)
      clear hK K n3
      try simp only [Act.put, List.setIfInBounds_toArray, List.set_cons_zero, List.set_cons_succ]
      refine wpAnyH_ready (rs := [3]) (by kernel_rfl) (by simp) ?_
      refine AllReadyH.cons (i := 3) rfl (fun K hK => ?_) AllReadyH.nil
      simp only [List.getElem_toArray, List.getElem_cons_succ, List.getElem_cons_zero]
      rw [if_pos (by rfl)]
      go_simp
      refine hK.out _ _ trivial (fun hHeld => ?_)
      clear hK K
      try simp only [Act.put, List.setIfInBounds_toArray, List.set_cons_zero, List.set_cons_succ]
      have HS139 := hid (HS129.out.alloc (.cells #[.string M] 9))
      have NB139 := hid (heap_alloc_new wv129 (.cells #[.string M] 9))
      have NO139 := hid (((ext_alloc wv129 (.cells #[.string M] 9)).block bk129 (Array.getElem?_eq_some_iff.1 NB129.out).1).trans NB129.out)
      obtain ⟨wv139, hw139⟩ : ∃ x, wv129.alloc (.cells #[.string M] 9) = x := ⟨_, rfl⟩
      rw [hw139] at HS139 NB139 NO139 ⊢
      obtain ⟨bk139, hb139⟩ : ∃ x, wv129.heap.size = x := ⟨_, rfl⟩
      have BL139 := hid (show wv0.heap.size ≤ bk139 by rw [← hb139]; exact HS129.out.size)
      rw [hb139] at NB139 ⊢
      clear hw139 hb139
      refine wpAnyH_ready (rs := [4]) (by kernel_rfl) (by simp) ?_
      refine AllReadyH.cons (i := 4) rfl (fun K hK => ?_) AllReadyH.nil
      simp only [List.getElem_toArray, List.getElem_cons_succ, List.getElem_cons_zero]
      rw [if_pos (by rfl)]
      refine wp_append_lies _ (.tmp 63) (.tmp 65) 73 rfl (nb + 1) 9 ii (.string ⟨#[]⟩) 1 16 Tryd.underlying73 hi hz0 hz1 hz2 rfl (by decide) (.slice a1 keys.length k1) keys.length (strCellsL keys) (by first | rfl | simp [Act.eval, Act.put]) HS139.out.krow ⟨bk139, 0, none⟩ 1 1 [.string M] (by first | rfl | simp [Act.eval, Act.put]) rfl (World.news_of_block (cs := #[.string M]) (t := 9) (fr := (0, 0)) NB139.out) (oneS M) (by decide) (by unfold maxLen; omega) (by omega) HS139.out.lt1 _ rfl ?_
      intro g140 cap140 wv140 hown140 hgrow140 hat140 hlt140
      have HS140 := hid (HS139.out.growK hgrow140 (hat140.imp_right (fun h => Nat.le_of_eq h.symm)) hown140)
      have NO140 := hid ((hgrow140.block bk129 (Array.getElem?_eq_some_iff.1 NO139.out).1 (fun e => by have := (HS139.out.klt _ e.symm).2; have := BL129.out; omega)).trans NO139.out)
      clear hown140 hgrow140 hat140 hlt140
      refine hK.out _ _ trivial (fun hHeld => ?_)
      clear hK K
      try simp only [Act.put, List.setIfInBounds_toArray, List.set_cons_zero, List.set_cons_succ]
      refine wpAnyH_take (i := 10) (v := ?_) rfl (by kernel_rfl) (by kernel_rfl) (by kernel_rfl) (fun _ _ _ h => h) (Or.inl ⟨by rfl, ?_⟩) (by assumption) ?_
      rotate_left
      · (intro w' hSw; (try dsimp only at hSw); go_simp; try (with_reducible rfl))
      change wpAnyH _ _ _ _ _ _ _ (Act.put _ (some 72) _) _
      try simp only [Act.put, List.setIfInBounds_toArray, List.set_cons_zero, List.set_cons_succ]
      refine wpAnyH_ready (rs := [9]) (by kernel_rfl) (by simp) ?_
      refine AllReadyH.cons (i := 9) rfl (fun K hK => ?_) AllReadyH.nil
      simp only [List.getElem_toArray, List.getElem_cons_succ, List.getElem_cons_zero]
      rw [if_pos (by rfl)]
      refine wp_append_lies _ (.tmp 68) (.tmp 70) 61 rfl (nb + 1) 3 i1 (.int .i64 0) 1 8 Tryd.underlying61 hi1 hz3 hz4 hz5 rfl (by decide) (.slice a2 kids.length k2) kids.length (intsJ kids) (by first | rfl | simp [Act.eval, Act.put]) HS140.out.drow ⟨bk129, 0, none⟩ 1 1 [.int .i64 (kid : Int)] (by first | rfl | simp [Act.eval, Act.put]) rfl (World.news_of_block (cs := #[.int .i64 (kid : Int)]) (t := 3) (fr := (0, 0)) NO140.out) (oneI _) (by decide) (by unfold maxLen; omega) (by omega) HS140.out.lt1 _ rfl ?_
      intro g141 cap141 wv141 hown141 hgrow141 hat141 hlt141
      have HS141 := hid (HS140.out.growD hgrow141 (hat141.imp_right (fun h => Nat.le_of_eq h.symm)) hown141)
      clear hown141 hgrow141 hat141 hlt141
      refine hK.out _ _ trivial (fun hHeld => ?_)
      clear hK K
      try simp only [Act.put, List.setIfInBounds_toArray, List.set_cons_zero, List.set_cons_succ]
      obtain ⟨n2, n3, z2, z3⟩ := HS141.out.cells HGD.out.gi.blk
      refine wpAnyH_ready (rs := [11]) (by kernel_rfl) (by simp) ?_
      refine AllReadyH.cons (i := 11) rfl (fun K hK => ?_) AllReadyH.nil
      simp only [List.getElem_toArray, List.getElem_cons_succ, List.getElem_cons_zero]
      rw [if_pos (by rfl)]
      go_simp
      refine hK.out _ _ trivial (fun hHeld => ?_)
      clear hK K
      try simp only [Act.put, List.setIfInBounds_toArray, List.set_cons_zero, List.set_cons_succ]
      refine wpAnyH_take (i := 12) (v := ?_) rfl (by kernel_rfl) (by kernel_rfl) (by kernel_rfl) (fun _ _ _ h => h) (Or.inl ⟨by rfl, ?_⟩) (by assumption) ?_
      rotate_left
      · (intro w' hSw; (try dsimp only at hSw); go_simp; try (with_reducible rfl))
      change wpAnyH _ _ _ _ _ _ _ (Act.put _ (some 73) _) _
      try simp only [Act.put, List.setIfInBounds_toArray, List.set_cons_zero, List.set_cons_succ]
      refine wpAnyH_ready (rs := [13]) (by kernel_rfl) (by simp) ?_
      refine AllReadyH.cons (i := 13) rfl (fun K hK => ?_) AllReadyH.nil
      simp only [List.getElem_toArray, List.getElem_cons_succ, List.getElem_cons_zero]
      rw [if_pos (by rfl)]
      go_simp
      refine hK.out _ _ trivial (fun hHeld => ?_)
      clear hK K
      try simp only [Act.put, List.setIfInBounds_toArray, List.set_cons_zero, List.set_cons_succ]
      refine wpAnyH_done (by kernel_rfl) ?_ _
      go_wp2
      go_meet
      case rel => exact ⟨_, _, HS141.out.ji HJD.out HGD.out.gi.gnb _ _, HGD.out.both HS141.out HMZ.out ⟨by omega, by omega⟩⟩
      refine AllReadyH.cons (i := 3) rfl (fun K hK => ?_) ?_
      simp only [List.getElem_toArray, List.getElem_cons_succ, List.getElem_cons_zero]
      rw [if_pos (by rfl)]
      go_simp
      refine hK.out _ _ trivial (fun hHeld => ?_)
      clear hK K
      try simp only [Act.put, List.setIfInBounds_toArray, List.set_cons_zero, List.set_cons_succ]
      have HS142 := hid (HS129.out.alloc (.cells #[.string M] 9))
      have NB142 := hid (heap_alloc_new wv129 (.cells #[.string M] 9))
      have NO142 := hid (((ext_alloc wv129 (.cells #[.string M] 9)).block bk129 (Array.getElem?_eq_some_iff.1 NB129.out).1).trans NB129.out)
      obtain ⟨wv142, hw142⟩ : ∃ x, wv129.alloc (.cells #[.string M] 9) = x := ⟨_, rfl⟩
      rw [hw142] at HS142 NB142 NO142 ⊢
      obtain ⟨bk142, hb142⟩ : ∃ x, wv129.heap.size = x := ⟨_, rfl⟩
      have BL142 := hid (show wv0.heap.size ≤ bk142 by rw [← hb142]; exact HS129.out.size)
      rw [hb142] at NB142 ⊢
      clear hw142 hb142
      refine wpAnyH_ready (rs := [1, 6]) (by kernel_rfl) (by simp) ?_
      refine AllReadyH.cons (i := 1) rfl (fun K hK => ?_) ?_
      simp only [List.getElem_toArray, List.getElem_cons_succ, List.getElem_cons_zero]
      rw [if_pos (by rfl)]
      have n2 := (HS142.out.cells HGD.out.gi.blk).1
      go_simp
      refine hK.out _ _ trivial (fun hHeld => ?_)
      clear hK K n2
      try simp only [Act.put, List.setIfInBounds_toArray, List.set_cons_zero, List.set_cons_succ]
      refine wpAnyH_ready (rs := [4, 6]) (by kernel_rfl) (by simp) ?_
      refine AllReadyH.cons (i := 4) rfl (fun K hK => ?_) ?_
      simp only [List.getElem_toArray, List.getElem_cons_succ, List.getElem_cons_zero]
      rw [if_pos (by rfl)]
      refine wp_append_lies _ (.tmp 63) (.tmp 65) 73 rfl (nb + 1) 9 ii (.string ⟨#[]⟩) 1 16 Tryd.underlying73 hi hz0 hz1 hz2 rfl (by decide) (.slice a1 keys.length k1) keys.length (strCellsL keys) (by first | rfl | simp [Act.eval, Act.put]) HS142.out.krow ⟨bk142, 0, none⟩ 1 1 [.string M] (by first | rfl | simp [Act.eval, Act.put]) rfl (World.news_of_block (cs := #[.string M]) (t := 9) (fr := (0, 0)) NB142.out) (oneS M) (by decide) (by unfold maxLen; omega) (by omega) HS142.out.lt1 _ rfl ?_
      intro g144 cap144 wv144 hown144 hgrow144 hat144 hlt144
      have HS144 := hid (HS142.out.growK hgrow144 (hat144.imp_right (fun h => Nat.le_of_eq h.symm)) hown144)
      have NO144 := hid ((hgrow144.block bk129 (Array.getElem?_eq_some_iff.1 NO142.out).1 (fun e => by have := (HS142.out.klt _ e.symm).2; have := BL129.out; omega)).trans NO142.out)
      clear hown144 hgrow144 hat144 hlt144
      refine hK.out _ _ trivial (fun hHeld => ?_)
      clear hK K
      try simp only [Act.put, List.setIfInBounds_toArray, List.set_cons_zero, List.set_cons_succ]
      refine wpAnyH_ready (rs := [6]) (by kernel_rfl) (by simp) ?_
      refine AllReadyH.cons (i := 6) rfl (fun K hK => ?_) AllReadyH.nil
      simp only [List.getElem_toArray, List.getElem_cons_succ, List.getElem_cons_zero]
      rw [if_pos (by rfl)]
      have n3 := (HS144.out.cells HGD.out.gi.blk).2.1
      go_simp
      refine hK.out _ _ trivial (fun hHeld => ?_)
      clear hK K n3
      try simp only [Act.put, List.setIfInBounds_toArray, List.set_cons_zero, List.set_cons_succ]
      refine wpAnyH_take (i := 10) (v := ?_) rfl (by kernel_rfl) (by kernel_rfl) (by kernel_rfl) (fun _ _ _ h => h) (Or.inl ⟨by rfl, ?_⟩) (by assumption) ?_
      rotate_left
      · (intro w' hSw; (try dsimp only at hSw); go_simp; try (with_reducible rfl))
      change wpAnyH _ _ _ _ _ _ _ (Act.put _ (some 72) _) _
      try simp only [Act.put, List.setIfInBounds_toArray, List.set_cons_zero, List.set_cons_succ]
      refine wpAnyH_ready (rs := [9]) (by kernel_rfl) (by simp) ?_
      refine AllReadyH.cons (i := 9) rfl (fun K hK => ?_) AllReadyH.nil
      simp only [List.getElem_toArray, List.getElem_cons_succ, List.getElem_cons_zero]
      rw [if_pos (by rfl)]
      refine wp_append_lies _ (.tmp 68) (.tmp 70) 61 rfl (nb + 1) 3 i1 (.int .i64 0) 1 8 Tryd.underlying61 hi1 hz3 hz4 hz5 rfl (by decide) (.slice a2 kids.length k2) kids.length (intsJ kids) (by first | rfl | simp [Act.eval, Act.put]) HS144.out.drow ⟨bk129, 0, none⟩ 1 1 [.int .i64 (kid : Int)] (by first | rfl | simp [Act.eval, Act.put]) rfl (World.news_of_block (cs := #[.int .i64 (kid : Int)]) (t := 3) (fr := (0, 0)) NO144.out) (oneI _) (by decide) (by unfold maxLen; omega) (by omega) HS144.out.lt1 _ rfl ?_
      intro g146 cap146 wv146 hown146 hgrow146 hat146 hlt146
      have HS146 := hid (HS144.out.growD hgrow146 (hat146.imp_right (fun h => Nat.le_of_eq h.symm)) hown146)
      clear hown146 hgrow146 hat146 hlt146
      refine hK.out _ _ trivial (fun hHeld => ?_)
      clear hK K
      try simp only [Act.put, List.setIfInBounds_toArray, List.set_cons_zero, List.set_cons_succ]
      obtain ⟨n2, n3, z2, z3⟩ := HS146.out.cells HGD.out.gi.blk
      refine wpAnyH_ready (rs := [11]) (by kernel_rfl) (by simp) ?_
      refine AllReadyH.cons (i := 11) rfl (fun K hK => ?_) AllReadyH.nil
      simp only [List.getElem_toArray, List.getElem_cons_succ, List.getElem_cons_zero]
      rw [if_pos (by rfl)]
      go_simp
      refine hK.out _ _ trivial (fun hHeld => ?_)
      clear hK K
      try simp only [Act.put, List.setIfInBounds_toArray, List.set_cons_zero, List.set_cons_succ]
      refine wpAnyH_take (i := 12) (v := ?_) rfl (by kernel_rfl) (by kernel_rfl) (by kernel_rfl) (fun _ _ _ h => h) (Or.inl ⟨by rfl, ?_⟩) (by assumption) ?_
      rotate_left
      · (intro w' hSw; (try dsimp only at hSw); go_simp; try (with_reducible rfl))
      change wpAnyH _ _ _ _ _ _ _ (Act.put _ (some 73) _) _
      try simp only [Act.put, List.setIfInBounds_toArray, List.set_cons_zero, List.set_cons_succ]
      refine wpAnyH_ready (rs := [13]) (by kernel_rfl) (by simp) ?_
      refine AllReadyH.cons (i := 13) rfl (fun K hK => ?_) AllReadyH.nil
      simp only [List.getElem_toArray, List.getElem_cons_succ, List.getElem_cons_zero]
      rw [if_pos (by rfl)]
      go_simp
      refine hK.out _ _ trivial (fun hHeld => ?_)
      clear hK K
      try simp only [Act.put, List.setIfInBounds_toArray, List.set_cons_zero, List.set_cons_succ]
      refine wpAnyH_done (by kernel_rfl) ?_ _
      go_wp2
      go_meet
      case rel => exact ⟨_, _, HS146.out.ji HJD.out HGD.out.gi.gnb _ _, HGD.out.both HS146.out HMZ.out ⟨by omega, by omega⟩⟩
      refine AllReadyH.cons (i := 6) rfl (fun K hK => ?_) AllReadyH.nil
      simp only [List.getElem_toArray, List.getElem_cons_succ, List.getElem_cons_zero]
      rw [if_pos (by rfl)]
      have n3 := (HS142.out.cells HGD.out.gi.blk).2.1
      go_simp
      refine hK.out _ _ trivial (fun hHeld => ?_)
      clear hK K n3
      try simp only [Act.put, List.setIfInBounds_toArray, List.set_cons_zero, List.set_cons_succ]
      refine wpAnyH_ready (rs := [4]) (by kernel_rfl) (by simp) ?_
      refine AllReadyH.cons (i := 4) rfl (fun K hK => ?_) AllReadyH.nil
      simp only [List.getElem_toArray, List.getElem_cons_succ, List.getElem_cons_zero]
      rw [if_pos (by rfl)]
      refine wp_append_lies _ (.tmp 63) (.tmp 65) 73 rfl (nb + 1) 9 ii (.string ⟨#[]⟩) 1 16 Tryd.underlying73 hi hz0 hz1 hz2 rfl (by decide) (.slice a1 keys.length k1) keys.length (strCellsL keys) (by first | rfl | simp [Act.eval, Act.put]) HS142.out.krow ⟨bk142, 0, none⟩ 1 1 [.string M] (by first | rfl | simp [Act.eval, Act.put]) rfl (World.news_of_block (cs := #[.string M]) (t := 9) (fr := (0, 0)) NB142.out) (oneS M) (by decide) (by unfold maxLen; omega) (by omega) HS142.out.lt1 _ rfl ?_
      intro g148 cap148 wv148 hown148 hgrow148 hat148 hlt148
      have HS148 := hid (HS142.out.growK hgrow148 (hat148.imp_right (fun h => Nat.le_of_eq h.symm)) hown148)
      have NO148 := hid ((hgrow148.block bk129 (Array.getElem?_eq_some_iff.1 NO142.out).1 (fun e => by have := (HS142.out.klt _ e.symm).2; have := BL129.out; omega)).trans NO142.out)
      clear hown148 hgrow148 hat148 hlt148
      refine hK.out _ _ trivial (fun hHeld => ?_)
      clear hK K
      try simp only [Act.put, List.setIfInBounds_toArray, List.set_cons_zero, List.set_cons_succ]
      refine wpAnyH_take (i := 10) (v := ?_) rfl (by kernel_rfl) (by kernel_rfl) (by kernel_rfl) (fun _ _ _ h => h) (Or.inl ⟨by rfl, ?_⟩) (by assumption) ?_
      rotate_left
      · (intro w' hSw; (try dsimp only at hSw); go_simp; try (with_reducible rfl))
      change wpAnyH _ _ _ _ _ _ _ (Act.put _ (some 72) _) _
      try simp only [Act.put, List.setIfInBounds_toArray, List.set_cons_zero, List.set_cons_succ]
      refine wpAnyH_ready (rs := [9]) (by kernel_rfl) (by simp) ?_
      refine AllReadyH.cons (i := 9) rfl (fun K hK => ?_) AllReadyH.nil
      simp only [List.getElem_toArray, List.getElem_cons_succ, List.getElem_cons_zero]
      rw [if_pos (by rfl)]
      refine wp_append_lies _ (.tmp 68) (.tmp 70) 61 rfl (nb + 1) 3 i1 (.int .i64 0) 1 8 Tryd.underlying61 hi1 hz3 hz4 hz5 rfl (by decide) (.slice a2 kids.length k2) kids.length (intsJ kids) (by first | rfl | simp [Act.eval, Act.put]) HS148.out.drow ⟨bk129, 0, none⟩ 1 1 [.int .i64 (kid : Int)] (by first | rfl | simp [Act.eval, Act.put]) rfl (World.news_of_block (cs := #[.int .i64 (kid : Int)]) (t := 3) (fr := (0, 0)) NO148.out) (oneI _) (by decide) (by unfold maxLen; omega) (by omega) HS148.out.lt1 _ rfl ?_
      intro g149 cap149 wv149 hown149 hgrow149 hat149 hlt149
      have HS149 := hid (HS148.out.growD hgrow149 (hat149.imp_right (fun h => Nat.le_of_eq h.symm)) hown149)
      clear hown149 hgrow149 hat149 hlt149
      refine hK.out _ _ trivial (fun hHeld => ?_)
      clear hK K
      try simp only [Act.put, List.setIfInBounds_toArray, List.set_cons_zero, List.set_cons_succ]
      obtain ⟨n2, n3, z2, z3⟩ := HS149.out.cells HGD.out.gi.blk
      refine wpAnyH_ready (rs := [11]) (by kernel_rfl) (by simp) ?_
      refine AllReadyH.cons (i := 11) rfl (fun K hK => ?_) AllReadyH.nil
      simp only [List.getElem_toArray, List.getElem_cons_succ, List.getElem_cons_zero]
      rw [if_pos (by rfl)]
      go_simp
      refine hK.out _ _ trivial (fun hHeld => ?_)
      clear hK K
      try simp only [Act.put, List.setIfInBounds_toArray, List.set_cons_zero, List.set_cons_succ]
      refine wpAnyH_take (i := 12) (v := ?_) rfl (by kernel_rfl) (by kernel_rfl) (by kernel_rfl) (fun _ _ _ h => h) (Or.inl ⟨by rfl, ?_⟩) (by assumption) ?_
      rotate_left
      · (intro w' hSw; (try dsimp only at hSw); go_simp; try (with_reducible rfl))
      change wpAnyH _ _ _ _ _ _ _ (Act.put _ (some 73) _) _
      try simp only [Act.put, List.setIfInBounds_toArray, List.set_cons_zero, List.set_cons_succ]
      refine wpAnyH_ready (rs := [13]) (by kernel_rfl) (by simp) ?_
      refine AllReadyH.cons (i := 13) rfl (fun K hK => ?_) AllReadyH.nil
      simp only [List.getElem_toArray, List.getElem_cons_succ, List.getElem_cons_zero]
      rw [if_pos (by rfl)]
      go_simp
      refine hK.out _ _ trivial (fun hHeld => ?_)
      clear hK K
      try simp only [Act.put, List.setIfInBounds_toArray, List.set_cons_zero, List.set_cons_succ]
      refine wpAnyH_done (by kernel_rfl) ?_ _
      go_wp2
      go_meet
      case rel => exact ⟨_, _, HS149.out.ji HJD.out HGD.out.gi.gnb _ _, HGD.out.both HS149.out HMZ.out ⟨by omega, by omega⟩⟩
      refine AllReadyH.cons (i := 6) rfl (fun K hK => ?_) AllReadyH.nil
      simp only [List.getElem_toArray, List.getElem_cons_succ, List.getElem_cons_zero]
      rw [if_pos (by rfl)]
      have n3 := (HS142.out.cells HGD.out.gi.blk).2.1
      go_simp
      refine hK.out _ _ trivial (fun hHeld => ?_)
      clear hK K n3
      try simp only [Act.put, List.setIfInBounds_toArray, List.set_cons_zero, List.set_cons_succ]
      refine wpAnyH_ready (rs := [1]) (by kernel_rfl) (by simp) ?_
      refine AllReadyH.cons (i := 1) rfl (fun K hK => ?_) AllReadyH.nil
      simp only [List.getElem_toArray, List.getElem_cons_succ, List.getElem_cons_zero]
      rw [if_pos (by rfl)]
      have n2 := (HS142.out.cells HGD.out.gi.blk).1
      go_simp
      refine hK.out _ _ trivial (fun hHeld => ?_)
      clear hK K n2
      try simp only [Act.put, List.setIfInBounds_toArray, List.set_cons_zero, List.set_cons_succ]
      refine wpAnyH_ready (rs := [4]) (by kernel_rfl) (by simp) ?_
      refine AllReadyH.cons (i := 4) rfl (fun K hK => ?_) AllReadyH.nil
      simp only [List.getElem_toArray, List.getElem_cons_succ, List.getElem_cons_zero]
      rw [if_pos (by rfl)]
      refine wp_append_lies _ (.tmp 63) (.tmp 65) 73 rfl (nb + 1) 9 ii (.string ⟨#[]⟩) 1 16 Tryd.underlying73 hi hz0 hz1 hz2 rfl (by decide) (.slice a1 keys.length k1) keys.length (strCellsL keys) (by first | rfl | simp [Act.eval, Act.put]) HS142.out.krow ⟨bk142, 0, none⟩ 1 1 [.string M] (by first | rfl | simp [Act.eval, Act.put]) rfl (World.news_of_block (cs := #[.string M]) (t := 9) (fr := (0, 0)) NB142.out) (oneS M) (by decide) (by unfold maxLen; omega) (by omega) HS142.out.lt1 _ rfl ?_
      intro g152 cap152 wv152 hown152 hgrow152 hat152 hlt152
      have HS152 := hid (HS142.out.growK hgrow152 (hat152.imp_right (fun h => Nat.le_of_eq h.symm)) hown152)
      have NO152 := hid ((hgrow152.block bk129 (Array.getElem?_eq_some_iff.1 NO142.out).1 (fun e => by have := (HS142.out.klt _ e.symm).2; have := BL129.out; omega)).trans NO142.out)
      clear hown152 hgrow152 hat152 hlt152
      refine hK.out _ _ trivial (fun hHeld => ?_)
      clear hK K
      try simp only [Act.put, List.setIfInBounds_toArray, List.set_cons_zero, List.set_cons_succ]
      refine wpAnyH_take (i := 10) (v := ?_) rfl (by kernel_rfl) (by kernel_rfl) (by kernel_rfl) (fun _ _ _ h => h) (Or.inl ⟨by rfl, ?_⟩) (by assumption) ?_
      rotate_left
      · (intro w' hSw; (try dsimp only at hSw); go_simp; try (with_reducible rfl))
      change wpAnyH _ _ _ _ _ _ _ (Act.put _ (some 72) _) _
      try simp only [Act.put, List.setIfInBounds_toArray, List.set_cons_zero, List.set_cons_succ]
      refine wpAnyH_ready (rs := [9]) (by kernel_rfl) (by simp) ?_
      refine AllReadyH.cons (i := 9) rfl (fun K hK => ?_) AllReadyH.nil
      simp only [List.getElem_toArray, List.getElem_cons_succ, List.getElem_cons_zero]
      rw [if_pos (by rfl)]
      refine wp_append_lies _ (.tmp 68) (.tmp 70) 61 rfl (nb + 1) 3 i1 (.int .i64 0) 1 8 Tryd.underlying61 hi1 hz3 hz4 hz5 rfl (by decide) (.slice a2 kids.length k2) kids.length (intsJ kids) (by first | rfl | simp [Act.eval, Act.put]) HS152.out.drow ⟨bk129, 0, none⟩ 1 1 [.int .i64 (kid : Int)] (by first | rfl | simp [Act.eval, Act.put]) rfl (World.news_of_block (cs := #[.int .i64 (kid : Int)]) (t := 3) (fr := (0, 0)) NO152.out) (oneI _) (by decide) (by unfold maxLen; omega) (by omega) HS152.out.lt1 _ rfl ?_
      intro g153 cap153 wv153 hown153 hgrow153 hat153 hlt153
      have HS153 := hid (HS152.out.growD hgrow153 (hat153.imp_right (fun h => Nat.le_of_eq h.symm)) hown153)
      clear hown153 hgrow153 hat153 hlt153
      refine hK.out _ _ trivial (fun hHeld => ?_)
      clear hK K
      try simp only [Act.put, List.setIfInBounds_toArray, List.set_cons_zero, List.set_cons_succ]
      obtain ⟨n2, n3, z2, z3⟩ := HS153.out.cells HGD.out.gi.blk
      refine wpAnyH_ready (rs := [11]) (by kernel_rfl) (by simp) ?_
      refine AllReadyH.cons (i := 11) rfl (fun K hK => ?_) AllReadyH.nil
      simp only [List.getElem_toArray, List.getElem_cons_succ, List.getElem_cons_zero]
      rw [if_pos (by rfl)]
      go_simp
      refine hK.out _ _ trivial (fun hHeld => ?_)
      clear hK K
      try simp only [Act.put, List.setIfInBounds_toArray, List.set_cons_zero, List.set_cons_succ]
      refine wpAnyH_take (i := 12) (v := ?_) rfl (by kernel_rfl) (by kernel_rfl) (by kernel_rfl) (fun _ _ _ h => h) (Or.inl ⟨by rfl, ?_⟩) (by assumption) ?_
      rotate_left
      · (intro w' hSw; (try dsimp only at hSw); go_simp; try (with_reducible rfl))
      change wpAnyH _ _ _ _ _ _ _ (Act.put _ (some 73) _) _
      try simp only [Act.put, List.setIfInBounds_toArray, List.set_cons_zero, List.set_cons_succ]
      refine wpAnyH_ready (rs := [13]) (by kernel_rfl) (by simp) ?_
      refine AllReadyH.cons (i := 13) rfl (fun K hK => ?_) AllReadyH.nil
      simp only [List.getElem_toArray, List.getElem_cons_succ, List.getElem_cons_zero]
      rw [if_pos (by rfl)]
      go_simp
      refine hK.out _ _ trivial (fun hHeld => ?_)
      clear hK K
      try simp only [Act.put, List.setIfInBounds_toArray, List.set_cons_zero, List.set_cons_succ]
      refine wpAnyH_done (by kernel_rfl) ?_ _
      go_wp2
      go_meet
      case rel => exact ⟨_, _, HS153.out.ji HJD.out HGD.out.gi.gnb _ _, HGD.out.both HS153.out HMZ.out ⟨by omega, by omega⟩⟩
      refine AllReadyH.cons (i := 6) rfl (fun K hK => ?_) AllReadyH.nil
      simp only [List.getElem_toArray, List.getElem_cons_succ, List.getElem_cons_zero]
      rw [if_pos (by rfl)]
      have n3 := (HS129.out.cells HGD.out.gi.blk).2.1
      go_simp
      refine hK.out _ _ trivial (fun hHeld => ?_)
      clear hK K n3
      try simp only [Act.put, List.setIfInBounds_toArray, List.set_cons_zero, List.set_cons_succ]
      refine wpAnyH_ready (rs := [1, 3]) (by kernel_rfl) (by simp) ?_
      refine AllReadyH.cons (i := 1) rfl (fun K hK => ?_) ?_
      simp only [List.getElem_toArray, List.getElem_cons_succ, List.getElem_cons_zero]
      rw [if_pos (by rfl)]
      have n2 := (HS129.out.cells HGD.out.gi.blk).1
      go_simp
      refine hK.out _ _ trivial (fun hHeld => ?_)
      clear hK K n2
      try simp only [Act.put, List.setIfInBounds_toArray, List.set_cons_zero, List.set_cons_succ]
      refine wpAnyH_ready (rs := [3]) (by kernel_rfl) (by simp) ?_
      refine AllReadyH.cons (i := 3) rfl (fun K hK => ?_) AllReadyH.nil
      simp only [List.getElem_toArray, List.getElem_cons_succ, List.getElem_cons_zero]
      rw [if_pos (by rfl)]
      go_simp
      refine hK.out _ _ trivial (fun hHeld => ?_)
      clear hK K
      try simp only [Act.put, List.setIfInBounds_toArray, List.set_cons_zero, List.set_cons_succ]
      have HS156 := hid (HS129.out.alloc (.cells #[.string M] 9))
      have NB156 := hid (heap_alloc_new wv129 (.cells #[.string M] 9))
      have NO156 := hid (((ext_alloc wv129 (.cells #[.string M] 9)).block bk129 (Array.getElem?_eq_some_iff.1 NB129.out).1).trans NB129.out)
      obtain ⟨wv156, hw156⟩ : ∃ x, wv129.alloc (.cells #[.string M] 9) = x := ⟨_, rfl⟩
      rw [hw156] at HS156 NB156 NO156 ⊢
      obtain ⟨bk156, hb156⟩ : ∃ x, wv129.heap.size = x := ⟨_, rfl⟩
      have BL156 := hid (show wv0.heap.size ≤ bk156 by rw [← hb156]; exact HS129.out.size)
      rw [hb156] at NB156 ⊢
      clear hw156 hb156
      refine wpAnyH_ready (rs := [4]) (by kernel_rfl) (by simp) ?_
      refine AllReadyH.cons (i := 4) rfl (fun K hK => ?_) AllReadyH.nil
      simp only [List.getElem_toArray, List.getElem_cons_succ, List.getElem_cons_zero]
      rw [if_pos (by rfl)]
      refine wp_append_lies _ (.tmp 63) (.tmp 65) 73 rfl (nb + 1) 9 ii (.string ⟨#[]⟩) 1 16 Tryd.underlying73 hi hz0 hz1 hz2 rfl (by decide) (.slice a1 keys.length k1) keys.length (strCellsL keys) (by first | rfl | simp [Act.eval, Act.put]) HS156.out.krow ⟨bk156, 0, none⟩ 1 1 [.string M] (by first | rfl | simp [Act.eval, Act.put]) rfl (World.news_of_block (cs := #[.string M]) (t := 9) (fr := (0, 0)) NB156.out) (oneS M) (by decide) (by unfold maxLen; omega) (by omega) HS156.out.lt1 _ rfl ?_
      intro g157 cap157 wv157 hown157 hgrow157 hat157 hlt157
      have HS157 := hid (HS156.out.growK hgrow157 (hat157.imp_right (fun h => Nat.le_of_eq h.symm)) hown157)
      have NO157 := hid ((hgrow157.block bk129 (Array.getElem?_eq_some_iff.1 NO156.out).1 (fun e => by have := (HS156.out.klt _ e.symm).2; have := BL129.out; omega)).trans NO156.out)
      clear hown157 hgrow157 hat157 hlt157
      refine hK.out _ _ trivial (fun hHeld => ?_)
      clear hK K
      try simp only [Act.put, List.setIfInBounds_toArray, List.set_cons_zero, List.set_cons_succ]
      refine wpAnyH_take (i := 10) (v := ?_) rfl (by kernel_rfl) (by kernel_rfl) (by kernel_rfl) (fun _ _ _ h => h) (Or.inl ⟨by rfl, ?_⟩) (by assumption) ?_
      rotate_left
      · (intro w' hSw; (try dsimp only at hSw); go_simp; try (with_reducible rfl))
      change wpAnyH _ _ _ _ _ _ _ (Act.put _ (some 72) _) _
      try simp only [Act.put, List.setIfInBounds_toArray, List.set_cons_zero, List.set_cons_succ]
      refine wpAnyH_ready (rs := [9]) (by kernel_rfl) (by simp) ?_
      refine AllReadyH.cons (i := 9) rfl (fun K hK => ?_) AllReadyH.nil
      simp only [List.getElem_toArray, List.getElem_cons_succ, List.getElem_cons_zero]
      rw [if_pos (by rfl)]
      refine wp_append_lies _ (.tmp 68) (.tmp 70) 61 rfl (nb + 1) 3 i1 (.int .i64 0) 1 8 Tryd.underlying61 hi1 hz3 hz4 hz5 rfl (by decide) (.slice a2 kids.length k2) kids.length (intsJ kids) (by first | rfl | simp [Act.eval, Act.put]) HS157.out.drow ⟨bk129, 0, none⟩ 1 1 [.int .i64 (kid : Int)] (by first | rfl | simp [Act.eval, Act.put]) rfl (World.news_of_block (cs := #[.int .i64 (kid : Int)]) (t := 3) (fr := (0, 0)) NO157.out) (oneI _) (by decide) (by unfold maxLen; omega) (by omega) HS157.out.lt1 _ rfl ?_
      intro g158 cap158 wv158 hown158 hgrow158 hat158 hlt158
      have HS158 := hid (HS157.out.growD hgrow158 (hat158.imp_right (fun h => Nat.le_of_eq h.symm)) hown158)
      clear hown158 hgrow158 hat158 hlt158
      refine hK.out _ _ trivial (fun hHeld => ?_)
      clear hK K
      try simp only [Act.put, List.setIfInBounds_toArray, List.set_cons_zero, List.set_cons_succ]
      obtain ⟨n2, n3, z2, z3⟩ := HS158.out.cells HGD.out.gi.blk
      refine wpAnyH_ready (rs := [11]) (by kernel_rfl) (by simp) ?_
      refine AllReadyH.cons (i := 11) rfl (fun K hK => ?_) AllReadyH.nil
      simp only [List.getElem_toArray, List.getElem_cons_succ, List.getElem_cons_zero]
      rw [if_pos (by rfl)]
      go_simp
      refine hK.out _ _ trivial (fun hHeld => ?_)
      clear hK K
      try simp only [Act.put, List.setIfInBounds_toArray, List.set_cons_zero, List.set_cons_succ]
      refine wpAnyH_take (i := 12) (v := ?_) rfl (by kernel_rfl) (by kernel_rfl) (by kernel_rfl) (fun _ _ _ h => h) (Or.inl ⟨by rfl, ?_⟩) (by assumption) ?_
      rotate_left
      · (intro w' hSw; (try dsimp only at hSw); go_simp; try (with_reducible rfl))
      change wpAnyH _ _ _ _ _ _ _ (Act.put _ (some 73) _) _
      try simp only [Act.put, List.setIfInBounds_toArray, List.set_cons_zero, List.set_cons_succ]
      refine wpAnyH_ready (rs := [13]) (by kernel_rfl) (by simp) ?_
      refine AllReadyH.cons (i := 13) rfl (fun K hK => ?_) AllReadyH.nil
      simp only [List.getElem_toArray, List.getElem_cons_succ, List.getElem_cons_zero]
      rw [if_pos (by rfl)]
      go_simp
      refine hK.out _ _ trivial (fun hHeld => ?_)
      clear hK K
      try simp only [Act.put, List.setIfInBounds_toArray, List.set_cons_zero, List.set_cons_succ]
      refine wpAnyH_done (by kernel_rfl) ?_ _
      go_wp2
      go_meet
      case rel => exact ⟨_, _, HS158.out.ji HJD.out HGD.out.gi.gnb _ _, HGD.out.both HS158.out HMZ.out ⟨by omega, by omega⟩⟩
      refine AllReadyH.cons (i := 3) rfl (fun K hK => ?_) AllReadyH.nil
      simp only [List.getElem_toArray, List.getElem_cons_succ, List.getElem_cons_zero]
      rw [if_pos (by rfl)]
      go_simp
      refine hK.out _ _ trivial (fun hHeld => ?_)
      clear hK K
      try simp only [Act.put, List.setIfInBounds_toArray, List.set_cons_zero, List.set_cons_succ]
      have HS159 := hid (HS129.out.alloc (.cells #[.string M] 9))
      have NB159 := hid (heap_alloc_new wv129 (.cells #[.string M] 9))
      have NO159 := hid (((ext_alloc wv129 (.cells #[.string M] 9)).block bk129 (Array.getElem?_eq_some_iff.1 NB129.out).1).trans NB129.out)
      obtain ⟨wv159, hw159⟩ : ∃ x, wv129.alloc (.cells #[.string M] 9) = x := ⟨_, rfl⟩
      rw [hw159] at HS159 NB159 NO159 ⊢
      obtain ⟨bk159, hb159⟩ : ∃ x, wv129.heap.size = x := ⟨_, rfl⟩
      have BL159 := hid (show wv0.heap.size ≤ bk159 by rw [← hb159]; exact HS129.out.size)
      rw [hb159] at NB159 ⊢
      clear hw159 hb159
      refine wpAnyH_ready (rs := [1]) (by kernel_rfl) (by simp) ?_
      refine AllReadyH.cons (i := 1) rfl (fun K hK => ?_) AllReadyH.nil
      simp only [List.getElem_toArray, List.getElem_cons_succ, List.getElem_cons_zero]
      rw [if_pos (by rfl)]
      have n2 := (HS159.out.cells HGD.out.gi.blk).1
      go_simp
      refine hK.out _ _ trivial (fun hHeld => ?_)
      clear hK K n2
      try simp only [Act.put, List.setIfInBounds_toArray, List.set_cons_zero, List.set_cons_succ]
      refine wpAnyH_ready (rs := [4]) (by kernel_rfl) (by simp) ?_
      refine AllReadyH.cons (i := 4) rfl (fun K hK => ?_) AllReadyH.nil
      simp only [List.getElem_toArray, List.getElem_cons_succ, List.getElem_cons_zero]
      rw [if_pos (by rfl)]
      refine wp_append_lies _ (.tmp 63) (.tmp 65) 73 rfl (nb + 1) 9 ii (.string ⟨#[]⟩) 1 16 Tryd.underlying73 hi hz0 hz1 hz2 rfl (by decide) (.slice a1 keys.length k1) keys.length (strCellsL keys) (by first | rfl | simp [Act.eval, Act.put]) HS159.out.krow ⟨bk159, 0, none⟩ 1 1 [.string M] (by first | rfl | simp [Act.eval, Act.put]) rfl (World.news_of_block (cs := #[.string M]) (t := 9) (fr := (0, 0)) NB159.out) (oneS M) (by decide) (by unfold maxLen; omega) (by omega) HS159.out.lt1 _ rfl ?_
      intro g161 cap161 wv161 hown161 hgrow161 hat161 hlt161
      have HS161 := hid (HS159.out.growK hgrow161 (hat161.imp_right (fun h => Nat.le_of_eq h.symm)) hown161)
      have NO161 := hid ((hgrow161.block bk129 (Array.getElem?_eq_some_iff.1 NO159.out).1 (fun e => by have := (HS159.out.klt _ e.symm).2; have := BL129.out; omega)).trans NO159.out)
      clear hown161 hgrow161 hat161 hlt161
      refine hK.out _ _ trivial (fun hHeld => ?_)
      clear hK K
      try simp only [Act.put, List.setIfInBounds_toArray, List.set_cons_zero, List.set_cons_succ]
      refine wpAnyH_take (i := 10) (v := ?_) rfl (by kernel_rfl) (by kernel_rfl) (by kernel_rfl) (fun _ _ _ h => h) (Or.inl ⟨by rfl, ?_⟩) (by assumption) ?_
      rotate_left
      · (intro w' hSw; (try dsimp only at hSw); go_simp; try (with_reducible rfl))
      change wpAnyH _ _ _ _ _ _ _ (Act.put _ (some 72) _) _
      try simp only [Act.put, List.setIfInBounds_toArray, List.set_cons_zero, List.set_cons_succ]
      refine wpAnyH_ready (rs := [9]) (by kernel_rfl) (by simp) ?_
      refine AllReadyH.cons (i := 9) rfl (fun K hK => ?_) AllReadyH.nil
      simp only [List.getElem_toArray, List.getElem_cons_succ, List.getElem_cons_zero]
      rw [if_pos (by rfl)]
      refine wp_append_lies _ (.tmp 68) (.tmp 70) 61 rfl (nb + 1) 3 i1 (.int .i64 0) 1 8 Tryd.underlying61 hi1 hz3 hz4 hz5 rfl (by decide) (.slice a2 kids.length k2) kids.length (intsJ kids) (by first | rfl | simp [Act.eval, Act.put]) HS161.out.drow ⟨bk129, 0, none⟩ 1 1 [.int .i64 (kid : Int)] (by first | rfl | simp [Act.eval, Act.put]) rfl (World.news_of_block (cs := #[.int .i64 (kid : Int)]) (t := 3) (fr := (0, 0)) NO161.out) (oneI _) (by decide) (by unfold maxLen; omega) (by omega) HS161.out.lt1 _ rfl ?_
      intro g162 cap162 wv162 hown162 hgrow162 hat162 hlt162
      have HS162 := hid (HS161.out.growD hgrow162 (hat162.imp_right (fun h => Nat.le_of_eq h.symm)) hown162)
      clear hown162 hgrow162 hat162 hlt162
      refine hK.out _ _ trivial (fun hHeld => ?_)
      clear hK K
      try simp only [Act.put, List.setIfInBounds_toArray, List.set_cons_zero, List.set_cons_succ]
      obtain ⟨n2, n3, z2, z3⟩ := HS162.out.cells HGD.out.gi.blk
      refine wpAnyH_ready (rs := [11]) (by kernel_rfl) (by simp) ?_
      refine AllReadyH.cons (i := 11) rfl (fun K hK => ?_) AllReadyH.nil
      simp only [List.getElem_toArray, List.getElem_cons_succ, List.getElem_cons_zero]
      rw [if_pos (by rfl)]
      go_simp
      refine hK.out _ _ trivial (fun hHeld => ?_)
      clear hK K
      try simp only [Act.put, List.setIfInBounds_toArray, List.set_cons_zero, List.set_cons_succ]
      refine wpAnyH_take (i := 12) (v := ?_) rfl (by kernel_rfl) (by kernel_rfl) (by kernel_rfl) (fun _ _ _ h => h) (Or.inl ⟨by rfl, ?_⟩) (by assumption) ?_
      rotate_left
      · (intro w' hSw; (try dsimp only at hSw); go_simp; try (with_reducible rfl))
      change wpAnyH _ _ _ _ _ _ _ (Act.put _ (some 73) _) _
      try simp only [Act.put, List.setIfInBounds_toArray, List.set_cons_zero, List.set_cons_succ]
      refine wpAnyH_ready (rs := [13]) (by kernel_rfl) (by simp) ?_
      refine AllReadyH.cons (i := 13) rfl (fun K hK => ?_) AllReadyH.nil
      simp only [List.getElem_toArray, List.getElem_cons_succ, List.getElem_cons_zero]
      rw [if_pos (by rfl)]
      go_simp
      refine hK.out _ _ trivial (fun hHeld => ?_)
      clear hK K
      try simp only [Act.put, List.setIfInBounds_toArray, List.set_cons_zero, List.set_cons_succ]
      refine wpAnyH_done (by kernel_rfl) ?_ _
      go_wp2
      go_meet
      case rel => exact ⟨_, _, HS162.out.ji HJD.out HGD.out.gi.gnb _ _, HGD.out.both HS162.out HMZ.out ⟨by omega, by omega⟩⟩
    case rest =>
    obtain ⟨kv', dv', hj8, hg8⟩ := hcut
    obtain ⟨w8, hw8⟩ : ∃ x, x = wc := ⟨_, rfl⟩
    subst hw8
    have HJ8 := hid hj8
    have HG8 := hid hg8
    clear hj8 hg8
    obtain ⟨j2, hj2⟩ : ∃ x, skB L j = x := ⟨_, rfl⟩
    have hs2 := skB_in L (p := j) HJL.out
    rw [hj2] at HRN hs2
    have hj2s : j2 ≤ s.size := by have := HSL.out; omega
    have CSQ := hid (CS.out j b5 nv5 w8 HJ8.out (by have := HJL.out; have := HSL.out; omega))
    rw [hj2] at CSQ
    clear hj2
    go_wp2_with fail
    refine CSQ.out.mono ?_
    rintro e w9 ⟨rfl, hj9, hk9⟩
    have HJ9 := hid hj9
    have HG9 := hid (HG8.out.kp0 hk9)
    clear hj9 hk9
    have CTA := hid (CT.out 125 j2 b5 nv5 w9 HJ9.out hj2s (by decide))
    by_cases hge : gB L j2 = 125
    · rw [decide_eq_true hge, if_pos hge] at CTA
      have HRF := hid (show R = putN ⟨kindO 123, ⟨#[]⟩, keys ++ [M], kids ++ [(kid : Int)]⟩ (j2 + 1) b5 ns5 by rw [HRN.out, if_pos hge]; rfl)
      clear hge
      go_wp2_with fail
      refine CTA.out.mono ?_
      rintro e wa ⟨rfl, hja, hka⟩
      have HJA := hid hja
      have HGA := hid (HG9.out.kp0 hka)
      clear hja hka
      obtain ⟨a3, k3, a4, k4, rfl, rfl⟩ := HGA.out.gi.slices
      obtain ⟨m3, hm3⟩ : ∃ x, (keys ++ [M]).length = x := ⟨_, rfl⟩
      obtain ⟨m4, hm4⟩ : ∃ x, (kids ++ [(kid : Int)]).length = x := ⟨_, rfl⟩
      rw [hm3, hm4] at HGA
      clear hm3 hm4
      have n0 : wa.cell? ⟨nb, 0, none⟩ = some (.int .i64 (kindO 123)) := cell_of_row _ _ 0 _ _ _ HGA.out.gi.blk
      have n1 : wa.cell? ⟨nb, 1, none⟩ = some (.string ⟨#[]⟩) := cell_of_row _ _ 1 _ _ _ HGA.out.gi.blk
      have n2 : wa.cell? ⟨nb, 2, none⟩ = some (.slice a3 m3 k3) := cell_of_row _ _ 2 _ _ _ HGA.out.gi.blk
      have n3 : wa.cell? ⟨nb, 3, none⟩ = some (.slice a4 m4 k4) := cell_of_row _ _ 3 _ _ _ HGA.out.gi.blk
      have CA := hid (implAddGO HGA.out HJA.out HX.out (by have := HOK.out; omega))
      go_wp2_with fail
      refine CA.out.mono ?_
      rintro e wb ⟨nvb, rfl, hjb, hnb, hrob, hkb⟩
      have HJB := hid hjb
      have HNB := hid hnb
      have HRO := hid (HGA.out.gi.ro.trans hrob HGA.out.gi.kp.size)
      have HKP := hid (HGA.out.gi.kp.trans hkb HGA.out.gi.ro)
      clear hjb hnb hrob hkb n0 n1 n2 n3
      go_wp2
      go_ret2
      rw [HRF.out]
      exact ⟨Or.inl ⟨_, _, _, _, nvb, rfl, rfl, HJB.out, HNB.out, HRO.out⟩, HKP.out⟩
    rw [decide_eq_false hge, if_neg hge] at CTA
    have HRM := hid (show R = if gB L j2 = 44 then grpG L val 123 125 f2 (skB L (j2 + 1)) b5 ns5 (keys ++ [M]) (kids ++ [(kid : Int)]) else .er 2 j2 by rw [HRN.out, if_neg hge])
    clear hge
    go_wp2_with fail
    refine CTA.out.mono ?_
    rintro e wa ⟨rfl, hja, hka⟩
    have HJA := hid hja
    have HGA := hid (HG9.out.kp0 hka)
    clear hja hka
    have CTB := hid (CT.out 44 j2 b5 nv5 wa HJA.out hj2s (by decide))
    by_cases h44 : gB L j2 = 44
    rotate_left
    · rw [decide_eq_false h44, if_neg h44] at CTB
      have HRE := hid (show R = .er 2 j2 by rw [HRM.out, if_neg h44])
      clear h44
      go_wp2_with fail
      refine CTB.out.mono ?_
      rintro e wb ⟨rfl, hjb, hkb⟩
      have HJB := hid hjb
      have HGB := hid (HGA.out.kp0 hkb)
      clear hjb hkb
      go_wp2
      go_ret2
      rw [HRE.out]
      exact ⟨Or.inr ⟨2, j2, b5, nv5, rfl, by decide, rfl, HJB.out, HGB.out.gi.ro⟩, HGB.out.gi.kp⟩
    rw [decide_eq_true h44, if_pos h44] at CTB
    have hl2 := gB_lt (L := L) (i := j2) (by omega)
    obtain ⟨j3, hj3⟩ : ∃ x, skB L (j2 + 1) = x := ⟨_, rfl⟩
    have hs3 := skB_in L (p := j2 + 1) hl2
    have HRZ := hid (show R = grpG L val 123 125 f2 j3 b5 ns5 (keys ++ [M]) (kids ++ [(kid : Int)]) by rw [HRM.out, if_pos h44, hj3])
    rw [hj3] at hs3
    clear h44
    go_wp2_with fail
    refine CTB.out.mono ?_
    rintro e wb ⟨rfl, hjb, hkb⟩
    have HJB := hid hjb
    have HGB := hid (HGA.out.kp0 hkb)
    clear hjb hkb
    have CSB := hid (CS.out (j2 + 1) b5 nv5 wb HJB.out (by have := HSL.out; omega))
    rw [hj3] at CSB
    clear hj3
    go_wp2_with fail
    refine CSB.out.mono ?_
    rintro e wc ⟨rfl, hjc, hkc⟩
    have HJC := hid hjc
    have HGC := hid (HGB.out.kp0 hkc)
    have HATC := hid hjc.atI
    clear hjc hkc
    go_wp2
    go_roundw
    case rel => exact ⟨j3, f2, b5, keys ++ [M], kids ++ [(kid : Int)], _, _, nv5, ns5, by have := HSL.out; omega, by have := HOK.out; omega, HOK.out.2.2.2.2.1, by have := HOK.out; omega, by rw [List.length_append, List.length_singleton]; have := HOK.out; omega, by rw [List.length_append, List.length_singleton]; have := HOK.out; omega, HJC.out, HGC.out, HRZ⟩
    case measure => rw [HATC.out, HAT.out]; have := HOK.out; have := HSL.out; omega
end Go.Proofs.YtlfkfofeenakhaaDoor
