/-
  What is proved here: the reference's alternatives, off what its rows are; and all of its reader, by levels. No condition but that the reader, its list and its nodes lie in memory, and sizes.
-/
import Derived.Test.YtkmkencodcfloaaGreatDoorRxS9
namespace Go.Proofs.YtkmkencodcfloaaGreatDoor
open Go.RowKit
set_option linter.unusedVariables false
set_option linter.unusedSimpArgs false

theorem NodeS.both {X : Nat → Prop} {w w' : World} {g cap d M : Nat} {a : Option Addr} {l : List Nat} {nv : Value} {r : RR} {e : Ending} (h : NodeS X w w' g cap d a l nv M r e) : ∃ (kid j c q : Nat) (nv' : Value) (ns' : List RxNode), e = .returned (.int .i64 ((kid : Nat) : Int)) ∧ w'.heap[g]? = some (.cells #[.slice a l.length cap, .int .i64 ((j : Nat) : Int), .int .i64 ((c : Nat) : Int), .int .i64 ((q : Nat) : Int), .int .i64 ((d : Nat) : Int), nv'] 93 (0, 0)) ∧ RxNs X g nv' w' ns' ∧ RowOn w nv.ownBlock nv'.ownBlock ∧ ((c = 0 ∧ q = 0 ∧ r = .ok kid j ns') ∨ (c ≠ 0 ∧ r = .er c q ∧ ns'.length ≤ M ∧ j ≤ 4000 ∧ kid ≤ 100000)) := by
  rcases h with ⟨kid, j, ns', nv', h1, h2, h3, h4, h5⟩ | ⟨c, q, x, j, nv', ns', h1, h2, h3, h4, h5, h6, h7, h8, h9⟩
  · exact ⟨kid, j, 0, 0, nv', ns', h2, h3, h4, h5, Or.inl ⟨rfl, rfl, h1⟩⟩
  · exact ⟨x, j, c, q, nv', ns', h2, h4, h5, h6, Or.inr ⟨h3, h1, h7, h8, h9⟩⟩
theorem rowS_in {l : List Nat} {grp : Nat → List RxNode → RR} {top : Bool} (hg : Fwd1 l grp) {i : Nat} {ns ns1 : List RxNode} {kid j : Nat} (hi : i ≤ l.length) (h : rowS l grp top i ns = .ok kid j ns1) :
    i ≤ j ∧ j ≤ l.length ∧ kid < ns1.length ∧ ns.length ≤ ns1.length ∧ ns1.length + 4 * i ≤ ns.length + 4 * j + 1 := by
  have hp : rowP l grp i ns = .ok kid j ns1 := by
    cases top with
    | false => rw [← rowS_inner]; exact h
    | true =>
      rw [rowS_top] at h
      unfold topS at h
      cases hr : rowP l grp i ns with
      | er c p => rw [hr] at h; cases h
      | ok kid1 j1 ns2 =>
        rw [hr] at h
        simp only at h
        split at h
        · cases h
        · exact h
  have := rowP_in hg hi hp
  exact ⟨this.1, this.2.1, this.2.2.1, this.2.2.2.1, this.2.2.2.2.1⟩
/-- what is left of alternatives behind one of them -/
def altN (l : List Nat) (grp : Nat → List RxNode → RR) (top : Bool) (f j : Nat) (ns : List RxNode) (kids : List Nat) : RR := if gN l j = 124 then altsGoS l grp top f (j + 1) ns kids else endAlt kids j ns
theorem altsGoS_er {l : List Nat} {grp : Nat → List RxNode → RR} {top : Bool} {f i c p : Nat} {ns : List RxNode} {kids : List Nat} (h : rowS l grp top i ns = .er c p) : altsGoS l grp top (f + 1) i ns kids = .er c p := by
  rw [altsGoS, h]
theorem altsGoS_ok {l : List Nat} {grp : Nat → List RxNode → RR} {top : Bool} {f i kid j : Nat} {ns ns1 : List RxNode} {kids : List Nat} (h : rowS l grp top i ns = .ok kid j ns1) : altsGoS l grp top (f + 1) i ns kids = altN l grp top f j ns1 (kids ++ [kid]) := by
  rw [altsGoS, h]; rfl
def AltI (X : Nat → Prop) (w wr : World) (g cap d : Nat) (a : Option Addr) (l : List Nat) (nv : Value) (i M : Nat) (F : Nat → Nat → List RxNode → List Nat → RR) (R : RR) (kv : Value) : Prop :=
  ∃ (nsj : List RxNode) (nvj : Value) (kids : List Nat) (j c q : Nat), wr.heap[g]? = some (.cells #[.slice a l.length cap, .int .i64 ((j : Nat) : Int), .int .i64 ((c : Nat) : Int), .int .i64 ((q : Nat) : Int), .int .i64 ((d : Nat) : Int), nvj] 93 (0, 0)) ∧ RxNs (fun b => X b ∨ kv.ownBlock = some b) g nvj wr nsj ∧ wr.ownsRow w.heap.size 3 1 kv kids.length (ints' (ints kids)) ∧ (∀ b, kv.ownBlock = some b → nvj.ownBlock ≠ some b)
    ∧ RowOn w nv.ownBlock nvj.ownBlock ∧ Kp g nv.ownBlock w wr ∧ j ≤ 4000 ∧ (∀ k ∈ kids, k ≤ 100000) ∧ kids.length ≤ 1990 ∧ 0 < kids.length
    ∧ ((c = 0 ∧ q = 0 ∧ i ≤ j ∧ j ≤ l.length ∧ nsj.length ≤ 4 * j + 5 ∧ kids.length ≤ j + 1 ∧ ∃ f, l.length ≤ f + j ∧ F f j nsj kids = R) ∨ (c ≠ 0 ∧ R = .er c q ∧ nsj.length ≤ M))
set_option maxHeartbeats 16000000 in
set_option maxRecDepth 100000 in
theorem specAlts {g cap d M : Nat} {a : Option Addr} {l : List Nat} {grp : Nat → List RxNode → RR} (hM : 5000 ≤ M) (hM9 : M ≤ 90000) (HP : NodeCS 95 (rowS l grp (decide (d = 0))) (l.length + 1) M g cap d a l) (hfw : Fwd1 l grp) : NodeCS 60 (altsS l grp (decide (d = 0))) (l.length + 1) (M + 1) g cap d a l := by
  intro X w i nv ns hX hb hL hi hn hlen2
  have hlen := hL.len
  have hg : g < w.heap.size := (Array.getElem?_eq_some_iff.1 hb).1
  have CX2 := hid (fun (w' : World) (j : Nat) (nv' : Value) (hk : Kp g nv.ownBlock w w') (hb' : w'.heap[g]? = some (.cells #[.slice a l.length cap, .int .i64 ((j : Nat) : Int), .int .i64 ((0 : Nat) : Int), .int .i64 ((0 : Nat) : Int), .int .i64 ((d : Nat) : Int), nv'] 93 (0, 0))) (hj : j ≤ 4000) => specPeek w' hb' (hL.kp hn hk hg) hj)
  have HLL := hid (fun (w' : World) (hk : Kp g nv.ownBlock w w') => hL.kp hn hk hg)
  have C0 := hid (HP X w i nv ns hX hb hL hi hn hlen2)
  obtain ⟨top, htop⟩ : ∃ b, decide (d = 0) = b := ⟨_, rfl⟩
  rw [htop] at HP C0 ⊢
  obtain ⟨R, hR⟩ : ∃ r, altsS l grp top i ns = r := ⟨_, rfl⟩
  rw [hR]
  have HR := hid (show altsGoS l grp top (l.length - i + 1) i ns [] = R by rw [← hR]; unfold altsS; rw [show l.length + 1 - i = l.length - i + 1 by omega])
  have HX := hid hX
  have HP := hid HP
  have HFW := hid hfw
  have hszn := hlen2
  obtain ⟨ii, hii, hz0, hz1, hz2⟩ := info_parts info_int
  clear hb hR hn hL hlen2 hfw hX htop
  unfold NodeS
  go_enter Tryz.func60, Tryz.ntmps60
  go_wp2_with fail
  refine C0.out.mono ?_
  rintro e w3 ⟨he, hk3⟩
  obtain ⟨kid, j0, c, q, nv2, ns2, rfl, h3, h4, h5, hm⟩ := he.both
  have hb3 := ((ext_alloc w3 (.cells #[.int .i64 (kid : Int)] 3)).block g (Nat.lt_of_lt_of_le hg hk3.size)).trans h3
  have hkd : kid ≤ 100000 ∧ j0 ≤ 4000 := by
    rcases hm with ⟨rfl, rfl, h⟩ | ⟨_, _, h7, h8, h9⟩
    · have := rowS_in HFW.out (by omega) h; omega
    · exact ⟨h9, h8⟩
  have HB3 := hid hb3
  have HN3 := hid ((h4.grow (Y := fun b => X b ∨ (Value.slice (some ⟨w3.heap.size, 0, none⟩) 1 1).ownBlock = some b) (r := none) (grown_none w3) (fun b e => by cases e) (fun b e => by cases e) (fun b hlt h => by
    rcases h with h | h
    · exact h
    · simp only [Value.ownBlock, Option.some.injEq] at h; omega)).kp ((Kp.refl g none w3).alloc (.cells #[.int .i64 (kid : Int)] 3)))
  have H4 := hid h4
  have H5 := hid h5
  have HM := hid hm
  have HK3 := hid hk3
  clear he hb3 h3 h4 h5 hm
  go_wp2
  go_loopw [3] (fun kv wr => AltI X w wr g cap d a l nv i M (altN l grp top) R kv) (fun _ wr => meaS g wr)
  case atStart =>
    refine ⟨ns2, nv2, [kid], j0, c, q, HB3.out, HN3.out, ⟨by simp [ints', ints], Or.inr ⟨w3.heap.size, 1, #[.int .i64 (kid : Int)], rfl, HK3.out.size, heap_alloc_new _ _, Nat.le_refl _, by decide, by simp, by simp [ints', ints]⟩⟩, ?_, H5.out, HK3.out.alloc _, hkd.2, by simp; exact hkd.1, by simp, by simp, ?_⟩
    · intro b h e
      simp only [Value.ownBlock, Option.some.injEq] at h
      have := (H4.out.lt b e).2
      omega
    · rcases HM.out with ⟨rfl, rfl, h⟩ | ⟨hc0, h, h7, h8, h9⟩
      · have hin := rowS_in HFW.out (by omega) h
        exact Or.inl ⟨rfl, rfl, hin.1, hin.2.1, by omega, by simp, l.length - i, by omega, by rw [← HR.out, altsGoS_ok h]; rfl⟩
      · exact Or.inr ⟨hc0, by rw [← HR.out, altsGoS_er h], h7⟩
  case round =>
    obtain ⟨nsj, nvj, kids, j, c, q, hbr, hns, hrow, hnk, hro, hkr, hj4, hk1, hk2, hkn, hmode⟩ := hrel
    obtain ⟨sa, sc, rfl⟩ := row_shape hrow
    obtain ⟨⟨c0, c1, c2, c3, c4, c5⟩, ⟨y1, y2, y3, y4, y5⟩, hgr⟩ := blk6c hbr
    have HBR := hid hbr
    have HNS := hid hns
    have HROW := hid hrow
    have HNK := hid hnk
    have HRO := hid hro
    have HKR := hid hkr
    have HK1 := hid hk1
    have hkp : ∀ x ∈ ints kids, ptI x := by
      intro x hx
      obtain ⟨k, hk, rfl⟩ := List.mem_map.1 hx
      have := hk1 k hk
      unfold ptI; omega
    have HKP := hid hkp
    have hws := hkr.size
    clear hns hrow hnk hro hk1 hkp
    rcases hmode with ⟨rfl, rfl, hij, hjl, hnl, hkj, f, hf, hgo⟩ | ⟨hc0, hRe, hnM⟩
    · have CXJ := hid (fun (w' : World) (hq : Qt wr w') => CX2.out w' j nvj (hkr.trans hq.kp HRO.out) (hq.at hbr) (by omega))
      obtain ⟨u, hu⟩ : ∃ c, gN l j = c := ⟨_, rfl⟩
      rw [hu] at CXJ
      unfold altN at hgo
      rw [hu] at hgo
      have HU := hid hu
      clear hbr hkr hu
      by_cases h124 : u = 124
      · subst h124
        have hjlt := gN_lt (l := l) (i := j) (by rw [HU.out]; decide)
        obtain ⟨f, rfl⟩ : ∃ m, f = m + 1 := ⟨f - 1, by omega⟩
        rw [if_pos rfl] at hgo
        have HGO := hid hgo
        clear hgo
        go_wp2_with fail
        refine (CXJ.out _ (Qt.refl _)).mono ?_
        rintro e wq ⟨rfl, hqq⟩
        have hbq := hqq.at HBR.out
        clear c0 c1 c2 c3 c4 c5 y1 y2 y3 y4 y5
        obtain ⟨⟨c0, c1, c2, c3, c4, c5⟩, ⟨y1, y2, y3, y4, y5⟩, hgq⟩ := blk6c hbq
        have hwq : IntKind.i64.wrap ((j : Int) + 1) = (j : Int) + 1 := IntWalk.i64_in _ (by omega)
        have hcj : ((j + 1 : Nat) : Int) = (j : Int) + 1 := by omega
        have hb9 := blk6_set (o := 1) (.int .i64 ((j + 1 : Nat) : Int)) hbq
        have hkq := (hqq.kp (g := g) (r := none)).set 1 (.int .i64 ((j + 1 : Nat) : Int))
        have CR := hid (HP.out (fun b => X b ∨ (Value.slice sa kids.length sc).ownBlock = some b) (wq.setCell ⟨g, 1, none⟩ (.int .i64 ((j + 1 : Nat) : Int))) (j + 1) nvj nsj (fun b h => by
          have h9 : b < wr.heap.size := h.elim (fun h => Nat.lt_of_lt_of_le (HX.out b h) hws) (fun h => (HROW.out.lt b h).2)
          exact Nat.lt_of_lt_of_le h9 hkq.size) hb9 (HLL.out _ (HKR.out.trans hkq.weak HRO.out)) (by omega) (HNS.out.kp hkq) (by omega))
        have HKQ := hid hkq
        rw [hcj] at CR HKQ
        clear hbq hb9 hkq
        go_wp2_with fail
        refine CR.out.mono ?_
        rintro e w3 ⟨he, hk3⟩
        have hk3 : Kp g nvj.ownBlock wr w3 := HKQ.out.weak.trans hk3 (RowOn.refl _ _)
        have he := he.up (w := wr) (nv := nvj) (M' := M) (RowOn.refl _ _) HKQ.out.size (Nat.le_refl _)
        obtain ⟨kid, k, c, p, nv2, ns2, rfl, h3, h4, h5, hm⟩ := he.both
        have h1 : True := trivial
        have hkd : kid ≤ 100000 ∧ k ≤ 4000 := by
          rcases hm with ⟨rfl, rfl, h⟩ | ⟨_, _, h7, h8, h9⟩
          · have := rowS_in HFW.out (by omega) h; omega
          · exact ⟨h9, h8⟩
        have hkb := hkd.1
        have HMM := hid hm
        clear he hm
        have hro7 := HRO.out.trans h5 hws
        have hk7a := HKR.out.trans hk3 HRO.out
        have hne2 : ∀ b, (Value.slice sa kids.length sc).ownBlock = some b → nv2.ownBlock ≠ some b := fun b hb => h5.ne (HROW.out.lt b hb).2 (HNK.out b hb)
        have row3 := (row_kp HROW.out hk3 (by omega) (fun b hb => HNK.out b hb)).alloc (.cells #[.int .i64 (kid : Int)] 3)
        have hb8 := ((ext_alloc w3 (.cells #[.int .i64 (kid : Int)] 3)).block g (by have := hk3.size; omega)).trans h3
        have hn8 := h4.kp ((Kp.refl g none w3).alloc (.cells #[.int .i64 (kid : Int)] 3))
        have hk8 := hk7a.alloc (.cells #[.int .i64 (kid : Int)] 3)
        have hs3 := hk3.size
        have a1 : ([Value.int .i64 (kid : Int)] : List Value).length = 1 * 1 := rfl
        have a2 : ∀ u ∈ ([Value.int .i64 (kid : Int)] : List Value), u.oneCell' = true := by
          intro u hu
          simp only [List.mem_singleton] at hu
          subst hu
          rfl
        have a3 : kids.length + 1 ≤ maxLen := by unfold maxLen; omega
        have a4 : (kids.length + 1) * 8 ≤ 140737488355328 := by omega
        have a5 : w.heap.size ≤ (w3.alloc (.cells #[.int .i64 (kid : Int)] 3)).heap.size := by simp; omega
        have a6 := World.news_of_block (show (w3.alloc (.cells #[.int .i64 (kid : Int)] 3)).heap[w3.heap.size]? = some (.cells ([Value.int .i64 (kid : Int)] : List Value).toArray 3 (0, 0)) from heap_alloc_new _ _)
        have A := hid (And.intro a1 (And.intro a2 (And.intro a3 (And.intro a4 (And.intro a5 (And.intro a6 row3))))))
        have H358 := hid (And.intro hb8 (And.intro hn8 (And.intro hk8 hne2)))
        clear a1 a2 a3 a4 a5 a6 row3 hb8 hn8 hk8 hne2 h1 h3 h4 h5 hk7a
        go_wp2_with ((at_builtin; refine wpList_append_lies _ rfl (.tmp 24) (.tmp 27) 84 rfl w.heap.size 3 ii (.int .i64 0) 1 8 Tryz.underlying84 hii hz0 hz1 hz2 rfl (by decide) (.slice sa kids.length sc) kids.length (ints' (ints kids)) rfl A.out.2.2.2.2.2.2 ⟨w3.heap.size, 0, none⟩ 1 1 [.int .i64 (kid : Int)] rfl A.out.1 A.out.2.2.2.2.2.1 A.out.2.1 (by decide) A.out.2.2.1 A.out.2.2.2.1 A.out.2.2.2.2.1 _ rfl ?_))
        intro g6 cap6 w7 hown7 hgrow7 hat7 hlt7
        obtain ⟨hb8, hn8, hk8, hne2⟩ := H358.out
        have hng := fun b (e : some b = Value.ownBlock (.slice sa kids.length sc)) => (A.out.2.2.2.2.2.2.lt b e.symm).1
        have Hb7 := hid ((hgrow7.block g (by simp; omega) (fun e => by have := hng _ e; omega)).trans hb8)
        have HK7 := hid (hk8.grownNew hgrow7 (fun b e => hng b e.symm))
        have HO7 := hid hown7
        have HN7 := hid (hn8.grow (Y := fun b => X b ∨ (Value.slice (some ⟨g6, 0, none⟩) (kids.length + 1) cap6).ownBlock = some b) hgrow7 (fun b e => Or.inr e) (fun b e => hne2 b e) (fun b hlt hy => by
          rcases hy with hy | hy
          · exact Or.inl hy
          · right
            simp only [Value.ownBlock, Option.some.injEq] at hy
            subst hy
            rcases hat7 with h | h
            · exact h
            · exfalso; simp at hlt h; omega))
        have HNE7 := hid (show ∀ b, (Value.slice (some ⟨g6, 0, none⟩) (kids.length + 1) cap6).ownBlock = some b → nv2.ownBlock ≠ some b from fun b e => by
          simp only [Value.ownBlock, Option.some.injEq] at e
          subst e
          rcases hat7 with h | h
          · exact hne2 _ h
          · intro e2
            have h9 := (hn8.lt _ e2).2
            simp at h h9
            omega)
        have HKA := hid (show ∀ k ∈ kids ++ [kid], k ≤ 100000 from fun q hq => by
          rcases List.mem_append.1 hq with hq | hq
          · exact HK1.out q hq
          · rw [List.mem_singleton.1 hq]; exact hkb)
        skip
        clear hb8 hn8 hk8 hne2 hown7 hgrow7 hng
        go_wp2
        go_roundw
        case rel =>
          refine ⟨ns2, nv2, kids ++ [kid], k, c, p, Hb7.out, HN7.out, by rw [ints_ints, List.length_append]; exact HO7.out, HNE7.out, hro7, HK7.out, hkd.2, HKA.out, by rw [List.length_append]; show kids.length + 1 ≤ _; omega, by rw [List.length_append]; show 0 < kids.length + 1; omega, ?_⟩
          rcases HMM.out with ⟨rfl, rfl, h⟩ | ⟨hc0, h, h7, h8, h9⟩
          · have hin := rowS_in HFW.out (by omega) h
            exact Or.inl ⟨rfl, rfl, by omega, hin.2.1, by omega, by rw [List.length_append]; show kids.length + 1 ≤ k + 1; omega, f, by omega, by rw [← HGO.out, altsGoS_ok h]⟩
          · exact Or.inr ⟨hc0, by rw [← HGO.out, altsGoS_er h], h7⟩
        case measure =>
          rcases HMM.out with ⟨rfl, rfl, h⟩ | ⟨hc0, h, h7, h8, h9⟩
          · have hin := rowS_in HFW.out (by omega) h
            rw [meaS_ok (blk6c Hb7.out).1.2.2.1 (blk6c Hb7.out).1.2.1, meaS_ok (blk6c HBR.out).1.2.2.1 (blk6c HBR.out).1.2.1]
            omega
          · rw [meaS_er (blk6c Hb7.out).1.2.2.1 hc0, meaS_ok (blk6c HBR.out).1.2.2.1 (blk6c HBR.out).1.2.1]
            omega
      · have e124 : ((u : Int) == 124) = false := by rw [beq_eq_false_iff_ne]; omega
        rw [if_neg h124] at hgo
        have HF := hid (show endAlt kids j nsj = R from hgo)
        clear hgo
        go_wp2_with fail
        refine (CXJ.out _ (Qt.refl _)).mono ?_
        rintro e wq ⟨rfl, ⟨m6, rfl⟩⟩
        have HW : Qt wr (wr.drewN m6) := Qt.one _ _
        rcases kids with _ | ⟨k1, _ | ⟨k2, rest⟩⟩
        · exact absurd hkn (by simp)
        · simp only [List.length_cons, List.length_nil, Nat.zero_add] at *
          obtain ⟨b, rfl, hcb⟩ := row_one HROW.out
          go_wp2
          go_ret
          exact ⟨Or.inl ⟨k1, j, nsj, nvj, HF.out.symm, rfl, HW.at HBR.out, (HNS.out.mono (fun b h => Or.inl h)).qt HW, HRO.out⟩, HKR.out.trans HW.kp HRO.out⟩
        · simp only [List.length_cons] at *
          have q0 : (((rest.length : Int) + 1 + 1) == 0) = false := by rw [beq_eq_false_iff_ne]; omega
          have q1 : (((rest.length : Int) + 1 + 1) == 1) = false := by rw [beq_eq_false_iff_ne]; omega
          have q2 : ¬ ((rest.length : Int) + 1 + 1) = 0 := by omega
          have q3 : ¬ ((rest.length : Int) + 1 + 1) = 1 := by omega
          have q4 : ¬ ((rest.length : Int) + 1) = 0 := by omega
          have q5 : (((rest.length : Int) + 1) == 0) = false := by rw [beq_eq_false_iff_ne]; omega
          have hrk0 := rd_own_ints (S := Beside X g nvj.ownBlock wr) (by simpa [ints] using HROW.out) HKP.out (fun b hb h1 h2 => ⟨by omega, h2, HNK.out b hb, fun h => by have := HX.out b h; omega⟩)
          have hrk := Rd.same (fun b hb => by rw [HW.heap]) (Rd.mono (T := Beside X g nvj.ownBlock (wr.drewN m6)) (fun b hb => hb) hrk0)
          have CADD := hid (specPutAt (X := X) ⟨8, 0, 0, false, [], ints (k1 :: k2 :: rest)⟩ _ (HW.at HBR.out) ((HNS.out.mono (fun b h => Or.inl h)).qt HW) (by omega) (by dsimp only; omega) (by dsimp only; omega) (by dsimp only; omega) rd_noInts hrk)
          dsimp only at CADD
          go_wp2_with fail
          refine CADD.out.mono ?_
          rintro e w9 ⟨nv', rfl, h1, h2, h3, h4⟩
          have hkk := (HKR.out.trans HW.kp HRO.out).trans h4 HRO.out
          have hrr := HRO.out.trans (h3.up (w := wr) (by rw [HW.heap]; exact Nat.le_refl _)) hws
          have H1 := hid h1
          clear h1
          go_wp2
          go_ret
          exact ⟨Or.inl ⟨_, _, _, nv', HF.out.symm, rfl, H1.out, h2, hrr⟩, hkk⟩
    · have hz1 : ((c : Int) == 0) = false := by rw [beq_eq_false_iff_ne]; omega
      have hz2 : ¬ (c : Int) = 0 := by omega
      clear hbr hkr
      have HW : Qt wr wr := Qt.refl _
      rcases kids with _ | ⟨k1, _ | ⟨k2, rest⟩⟩
      · exact absurd hkn (by simp)
      · simp only [List.length_cons, List.length_nil, Nat.zero_add] at *
        obtain ⟨b, rfl, hcb⟩ := row_one HROW.out
        go_wp2
        go_ret
        exact ⟨Or.inr ⟨c, q, k1, j, nvj, nsj, hRe, rfl, hc0, HW.at HBR.out, (HNS.out.mono (fun b h => Or.inl h)).qt HW, HRO.out, by omega, hj4, HK1.out k1 (by simp)⟩, HKR.out.trans HW.kp HRO.out⟩
      · simp only [List.length_cons] at *
        have q0 : (((rest.length : Int) + 1 + 1) == 0) = false := by rw [beq_eq_false_iff_ne]; omega
        have q1 : (((rest.length : Int) + 1 + 1) == 1) = false := by rw [beq_eq_false_iff_ne]; omega
        have q2 : ¬ ((rest.length : Int) + 1 + 1) = 0 := by omega
        have q3 : ¬ ((rest.length : Int) + 1 + 1) = 1 := by omega
        have q4 : ¬ ((rest.length : Int) + 1) = 0 := by omega
        have q5 : (((rest.length : Int) + 1) == 0) = false := by rw [beq_eq_false_iff_ne]; omega
        have hrk0 := rd_own_ints (S := Beside X g nvj.ownBlock wr) (by simpa [ints] using HROW.out) HKP.out (fun b hb h1 h2 => ⟨by omega, h2, HNK.out b hb, fun h => by have := HX.out b h; omega⟩)
        have hrk := Rd.same (fun b hb => by rw [HW.heap]) (Rd.mono (T := Beside X g nvj.ownBlock wr) (fun b hb => hb) hrk0)
        have CADD := hid (specPutAt (X := X) ⟨8, 0, 0, false, [], ints (k1 :: k2 :: rest)⟩ _ (HW.at HBR.out) ((HNS.out.mono (fun b h => Or.inl h)).qt HW) (by omega) (by dsimp only; omega) (by dsimp only; omega) (by dsimp only; omega) rd_noInts hrk)
        dsimp only at CADD
        go_wp2_with fail
        refine CADD.out.mono ?_
        rintro e w9 ⟨nv', rfl, h1, h2, h3, h4⟩
        have hkk := (HKR.out.trans HW.kp HRO.out).trans h4 HRO.out
        have hrr := HRO.out.trans (h3.up (w := wr) (by rw [HW.heap]; exact Nat.le_refl _)) hws
        have H1 := hid h1
        clear h1
        go_wp2
        go_ret
        exact ⟨Or.inr ⟨c, q, nsj.length, j, nv', _, hRe, rfl, hc0, H1.out, h2, hrr, by rw [List.length_append]; show nsj.length + 1 ≤ M + 1; omega, hj4, by omega⟩, hkk⟩
end Go.Proofs.YtkmkencodcfloaaGreatDoor
