/-
  What is proved here: plain laws of the replaced text's length. No program in sight.
  What is proved here: (*strings.Replacer).build where each old text is one byte (all different) and each new one a backslash and a byte: it makes the table. No condition besides.
  What is proved here: (*strings.byteStringReplacer).Replace at a table of single bytes: each byte that the table has is replaced. No condition besides the text's size.
  What is proved here: sync.Once's Do in one goroutine, the Once not yet done and its lock free: the function is called once, 'done' is stored, the lock is let go. No condition besides.
  What is proved here: strings.NewReplacer and (*strings.Replacer).Replace, the Replacer new, where each old text is one byte (all different) and each new one a backslash and a byte. No condition besides.
-/
import Derived.Test.YtcebgmdcbdggeaaGreatDoorRepl
import Derived.Laws.CopyRow
import Derived.Laws.OwnMore
import Derived.Test.YtcebgmdcbdggeaaGreatDoorValOk
import Derived.Laws.AppendOwn
import Derived.Laws.Build
import Derived.Laws.Tables
import Derived.Lib.ConvBytes
import Derived.Laws.IdiomStrings
import Derived.Laws.Slices
import Derived.Test.YtcebgmdcbdggeaaGreatDoorShelfC
import Derived.WalkSpells
import Derived.Test.YtcebgmdcbdggeaaGreatDoorBase
import Derived.Test.YtcebgmdcbdggeaaGreatDoorWithin
import Derived.WalkKit
import Derived.Defers
import Derived.RegionCalls
import Derived.Laws.LoneSync
import Derived.Laws.Pointers
namespace Go.Proofs.YtcebgmdcbdggeaaGreatDoor
open Go.RowKit
set_option linter.unusedVariables false
set_option linter.unusedSimpArgs false

/-- how many of a text's bytes are replaced -/
def sumC (ps : List (UInt8 × UInt8)) (l : List UInt8) : Nat := ps.foldr (fun p n => l.count p.1 + n) 0
theorem sumC_nil (ps : List (UInt8 × UInt8)) : sumC ps [] = 0 := by
  unfold sumC
  induction ps with
  | nil => rfl
  | cons p r ih => simpa using ih
theorem sumC_pair (p : UInt8 × UInt8) (r : List (UInt8 × UInt8)) (l : List UInt8) : sumC (p :: r) l = l.count p.1 + sumC r l := rfl
theorem sumC_notin {ps : List (UInt8 × UInt8)} {b : UInt8} {l : List UInt8} (h : b ∉ ps.map (·.1)) : sumC ps (b :: l) = sumC ps l := by
  induction ps with
  | nil => rfl
  | cons p r ih =>
    have h1 : ¬ b = p.1 := fun e => h (by simp [e])
    have h2 : b ∉ r.map (·.1) := fun e => h (by simp only [List.map_cons, List.mem_cons]; exact Or.inr e)
    rw [sumC_pair, sumC_pair, ih h2, List.count_cons_of_ne h1]
theorem sumC_cons {ps : List (UInt8 × UInt8)} (hn : (ps.map (·.1)).Nodup) (b : UInt8) (l : List UInt8) : sumC ps (b :: l) = sumC ps l + (if (rep ps b).isSome then 1 else 0) := by
  induction ps with
  | nil => rfl
  | cons p r ih =>
    rw [List.map_cons, List.nodup_cons] at hn
    by_cases h : p.1 = b
    · have hr : rep (p :: r) b = some p.2 := by show (if p.1 = b then some p.2 else rep r b) = _; rw [if_pos h]
      rw [sumC_pair, sumC_pair, hr]
      have h2 : b ∉ r.map (·.1) := h ▸ hn.1
      rw [sumC_notin h2, h, List.count_cons_self]
      simp
      omega
    · have hr : rep (p :: r) b = rep r b := by show (if p.1 = b then some p.2 else rep r b) = _; rw [if_neg h]
      rw [sumC_pair, sumC_pair, hr, ih hn.2, List.count_cons_of_ne (fun e => h e.symm)]
      omega
theorem replL_length {ps : List (UInt8 × UInt8)} (hn : (ps.map (·.1)).Nodup) (l : List UInt8) : (replL ps l).length = l.length + sumC ps l := by
  induction l with
  | nil => rw [sumC_nil]; rfl
  | cons b l ih =>
    have h : replL ps (b :: l) = replB ps b ++ replL ps l := rfl
    rw [h, List.length_append, ih, sumC_cons hn, replB_len, List.length_cons]
    split <;> omega
theorem replL_ge (ps : List (UInt8 × UInt8)) (l : List UInt8) : l.length ≤ (replL ps l).length := by
  induction l with
  | nil => exact Nat.zero_le _
  | cons b l ih =>
    have h : replL ps (b :: l) = replB ps b ++ replL ps l := rfl
    rw [h, List.length_append, replB_len, List.length_cons]
    split <;> omega
theorem replL_id (ps : List (UInt8 × UInt8)) {l : List UInt8} (h : (replL ps l).length = l.length) : replL ps l = l := by
  induction l with
  | nil => rfl
  | cons b l ih =>
    have h1 : replL ps (b :: l) = replB ps b ++ replL ps l := rfl
    have h2 := replL_ge ps l
    have h3 := replB_len ps b
    rw [h1, List.length_append, List.length_cons] at h
    cases hr : rep ps b with
    | some c => rw [hr] at h3; simp at h3; omega
    | none =>
      have h4 : replB ps b = [b] := by unfold replB; rw [hr]
      rw [h1, h4, ih (by rw [h4] at h; simp at h; omega)]
      rfl
theorem replL_take_le (ps : List (UInt8 × UInt8)) (l : List UInt8) (k : Nat) : (replL ps (l.take k)).length ≤ (replL ps l).length := by
  have h : replL ps l = replL ps (l.take k) ++ replL ps (l.drop k) := by
    unfold replL
    rw [← List.flatMap_append, List.take_append_drop]
  rw [h, List.length_append]
  omega
theorem rep_mem {ps : List (UInt8 × UInt8)} {p : UInt8 × UInt8} (h : p ∈ ps) : rep ps p.1 ≠ none := by
  induction ps with
  | nil => cases h
  | cons q r ih =>
    show (if q.1 = p.1 then some q.2 else rep r p.1) ≠ none
    split
    · exact fun e => by cases e
    · rename_i hq
      rcases List.mem_cons.1 h with rfl | h
      · exact absurd rfl hq
      · exact ih h
theorem sumC_drop_le (ps : List (UInt8 × UInt8)) (l : List UInt8) (j : Nat) : sumC (ps.drop j) l ≤ sumC ps l := by
  induction ps generalizing j with
  | nil => simp
  | cons p r ih =>
    cases j with
    | zero => exact Nat.le_refl _
    | succ j =>
      rw [List.drop_succ_cons, sumC_pair]
      have := ih j
      omega
/-- the operation copy in a walk -/
theorem oper_copy {P : Program} {w w' : World} {o : Oper} {a : Act} {K : Act → World → Prop} {Q : Exit → Act → World → Prop} {d x : Operand} {t u : TypeId} {v v1 v' : Value}
    (ho : o.op = .call { callee := .builtin .copy, args := #[d, x], argTypes := #[t, u] }) (hs : a.eval d = v) (hx : a.eval x = v1) (hr : (Builtin.copy_ #[t, u] o.type #[v, v1]).run P w = .ok v' w')
    (h : K (a.put o.dst v') w') : o.wp P a w K Q := by
  unfold Oper.wp execOp
  simp only [ho, resolve, invoke, builtin, Sem.run_bind, Sem.run_pure, Result.andThen_ok, List.map_toArray, List.map_cons, List.map_nil, hs, hx, hr]
  exact h
/-- a row of bytes behind a copy into it -/
theorem own_splice {w : World} {B : Nat} {e : TypeId} {g N cap : Nat} {xs cs : List Value} {J : Nat} (h : w.ownsRow B e 1 (.slice (some ⟨g, 0, none⟩) N cap) N xs) (hJ : J + cs.length ≤ N) :
    ∃ cur, w.heap[g]? = some (.cells cur e (0, 0)) ∧ J + cs.length ≤ cur.size ∧
      (w.setRow g (cur.toList.take J ++ cs ++ cur.toList.drop (J + cs.length)).toArray).ownsRow B e 1 (.slice (some ⟨g, 0, none⟩) N cap) N (xs.take J ++ cs ++ xs.drop (J + cs.length)) ∧ B ≤ g := by
  rcases h.2 with ⟨h', _⟩ | ⟨g', cap', cur, h', hb, hg, hnc, hcm, hcs, htake⟩
  · simp at h'
  · simp only [Value.slice.injEq, Option.some.injEq, Addr.mk.injEq, and_true, true_and] at h'
    obtain ⟨rfl, rfl⟩ := h'
    have hl := h.1
    rw [Nat.mul_one] at hcs htake hl
    have hcl : cur.toList.length = cap := by rw [Array.length_toList]; exact hcs
    refine ⟨cur, hg, by omega, ⟨?_, .inr ⟨g, cap, _, rfl, hb, setRow_heap w g cur _ e _ hg, hnc, hcm, ?_, ?_⟩⟩, hb⟩
    · simp only [List.length_append, List.length_take, List.length_drop]; omega
    · simp only [List.size_toArray, List.length_append, List.length_take, List.length_drop]; omega
    · rw [Nat.mul_one, ← htake]
      apply List.ext_getElem?
      intro i
      simp only [List.getElem?_take, List.getElem?_append, List.length_take, List.length_append, List.getElem?_drop]
      rw [hcl]
      have m1 : min J cap = J := by omega
      have m2 : min N cap = N := by omega
      rw [m1]
      by_cases c1 : i < N
      · rw [if_pos c1]
        have m3 : min J (min N cap) = J := by omega
        rw [m3]
        by_cases c2 : i < J + cs.length
        · rw [if_pos c2, if_pos c2]
          by_cases c3 : i < J
          · rw [if_pos c3, if_pos c3, if_pos c3, if_pos c3, if_pos c1]
          · rw [if_neg c3, if_neg c3]
        · rw [if_neg c2, if_neg c2, if_pos (by omega)]
      · rw [if_neg c1, if_neg (by omega), if_neg (by omega)]
end Go.Proofs.YtcebgmdcbdggeaaGreatDoor

namespace Go.Proofs.YtcebgmdcbdggeaaGreatDoor
open Go.RowKit
set_option linter.unusedVariables false
set_option linter.unusedSimpArgs false
theorem info_strR : (Tryz.prog.info? 9).map (fun i => (i.zero, i.size, i.bytes)) = some (some (.string ⟨#[]⟩), 1, 16) := by kernel_rfl
set_option maxHeartbeats 8000000 in
set_option maxRecDepth 100000 in
theorem implBuild {ps : List (UInt8 × UInt8)} {b r n cap : Nat} (w : World) (hnd : (ps.map (·.1)).Nodup) (hL2 : 2 ≤ ps.length) (hL : ps.length ≤ 100) (hn : n = 2 * ps.length) (hr : r < w.heap.size)
    (h4 : w.cell? ⟨b, 4, none⟩ = some (.slice (some ⟨r, 0, none⟩) n cap))
    (hrow : ∀ k (hk : k < ps.length), w.cell? ⟨r, 2 * k, none⟩ = some (.string (mkB [ps[k].1])) ∧ w.cell? ⟨r, 2 * k + 1, none⟩ = some (.string (mkB [92, ps[k].2]))) :
    Calls Tryz.prog 61 #[.pointer (some ⟨b, 0, none⟩)] w fun e w' => ∃ br, e = .returned (.iface 124 (.pointer (some ⟨br, 0, none⟩))) ∧ w.heap.size ≤ br ∧ Bsr w.heap.size ps br w' ∧ Below w.heap.size w w' := by
  obtain ⟨i0, hi, hz0, hz1, hz2⟩ := info_parts info_strR
  have qT : ∀ (w : World) (a : Option Addr) (n c n' c' : Nat), (binOp .eql 22 (.slice a n c) (.slice none n' c')).run Tryz.prog w = .ok (.bool a.isNone) w := fun w a n c n' c' => Lib.run_eql_slice_nil w _ _ a n c n' c' Tryz.underlying22
  have HROW := hid hrow
  have HND := hid hnd
  have HN := hid hn
  have hn2 : ((n : Int) == 2) = false := by simp; omega
  have hnb : n ≤ 200 := by omega
  clear hrow hnd hn
  go_enter Tryz.func61, Tryz.ntmps61
  go_wp2
  go_loopw [4, 5] (fun ab i wr => ∃ k m : Nat, k ≤ ps.length ∧ Hid (m = 2 * k) ∧ i = .int .i64 (m : Int) ∧ ((k = 0 ∧ ab = .bool true) ∨ (0 < k ∧ ab = .bool false)) ∧ w = wr) (fun _ i _ => 2 * ps.length - (intOf i).toNat)
  case atStart => exact ⟨0, 0, Nat.zero_le _, hid rfl, rfl, Or.inl ⟨rfl, rfl⟩, rfl⟩
  case round =>
    obtain ⟨k, m, hk, HM, rfl, hab, rfl⟩ := hrel
    have hmk := HM.out
    by_cases hlt : k < ps.length
    · obtain ⟨e0, e1⟩ := HROW.out k hlt
      rw [← hmk] at e0 e1
      have z0 := mkB_size [ps[k].1]
      have z1 := mkB_size [92, ps[k].2]
      obtain ⟨o, ho⟩ : ∃ z, mkB [ps[k].1] = z := ⟨_, rfl⟩
      obtain ⟨nw, hnw⟩ : ∃ z, mkB [92, ps[k].2] = z := ⟨_, rfl⟩
      rw [ho] at e0 z0
      rw [hnw] at e1 z1
      simp only [List.length_cons, List.length_nil, Nat.zero_add] at z0 z1
      clear ho hnw
      have hi1 : (0 : Int) ≤ (m : Int) := by omega
      have hi2 : (m : Int) < (n : Int) := by have := HN.out; omega
      have hi3 : (0 : Int) ≤ (m : Int) + 1 := by omega
      have hi4 : (m : Int) + 1 < (n : Int) := by have := HN.out; omega
      have hti : ((m : Int) + 1).toNat = m + 1 := by omega
      clear hmk
      have HK := hid hk
      rcases hab with ⟨h00, rfl⟩ | ⟨h00, rfl⟩
      all_goals
        go_wp2
        go_roundw
        case rel => exact ⟨k + 1, m + 2, by omega, hid (by have := HM.out; omega), by go_num, by simp⟩
        case measure => have := HM.out; simp [intOf]; omega
    · have hi2 : ¬ (m : Int) < (n : Int) := by have := HN.out; omega
      obtain ⟨h00, rfl⟩ : 0 < k ∧ _ := by
        rcases hab with ⟨h, _⟩ | h
        · omega
        · exact h
      obtain ⟨L, hLe⟩ : ∃ L, ps.length = L := ⟨_, rfl⟩
      have hquo : (n : Int).tdiv 2 = (L : Int) := by
        rw [HN.out, hLe, show ((2 * L : Nat) : Int) = 2 * (L : Int) by omega]
        exact Int.mul_tdiv_cancel_left _ (by decide)
      have HQ := hid hquo
      clear hmk hlt hk HM
      have hmks : ∀ w, (Instr.makeSlice 30 (.int .i64 0) (.int .i64 (L : Int))).run Tryz.prog w = .ok (.slice (some ⟨w.heap.size, 0, none⟩) 0 L) (w.alloc (.cells (madeCells #[.string ⟨#[]⟩] L) 9)) := by
        intro w
        have h := run_make (P := Tryz.prog) w 30 9 i0 (.string ⟨#[]⟩) Tryz.underlying30 hi hz0 .i64 .i64 0 L (Int.le_refl _) (by omega) (by rw [hz2]; omega) (by omega)
        rw [hz1] at h
        have e0 : (0 : Int).toNat = 0 := rfl
        rw [e0, Int.toNat_natCast, Nat.mul_one] at h
        exact h
      obtain ⟨MC, hMC⟩ : ∃ z, (Obj.cells (madeCells #[.string ⟨#[]⟩] L) 9) = z := ⟨_, rfl⟩
      have hN1 : (w.alloc MC).heap.size = w.heap.size + 1 := by simp
      have hs1 : ∀ o, ((w.alloc MC).alloc o).heap[w.heap.size + 1]? = some o := fun o => by
        have := heap_alloc_new (w.alloc MC) o
        rw [hN1] at this
        exact this
      have HO0 : Hid ((w.alloc MC).ownsRow w.heap.size 9 1 (.slice (some ⟨w.heap.size, 0, none⟩) 0 L) 0 []) := by
        rw [← hMC]
        exact World.ownsRow_made w _ L (Nat.le_refl _) (by unfold maxLen; omega) (by rw [size_madeCells]; omega)
      simp only [hMC] at hmks
      have HMC := hid hMC
      clear hMC hN1
      go_wp2_with (refine wpList_store_rowTo rfl 123 _ _ rfl rfl (w.heap.size + 1) (bsrC (.slice (some ⟨w.heap.size, 0, none⟩) 0 L)) rfl rfl 123 Tryz.zeroCells123 (hs1 _) bsr_size (by rw [bsrC_size, bsr_cells]; exact Array.size_replicate) (bsrC_one _ rfl) ?_)
      have HB0 := hid (bsr_new (n0 := w.heap.size) (hs1 (.cells Tryz.zeroCells123 123)) (HO0.out.alloc (.cells Tryz.zeroCells123 123)))
      have HW0 : Hid (Below w.heap.size w (((w.alloc MC).alloc (.cells Tryz.zeroCells123 123)).setRow (w.heap.size + 1) (bsrC (.slice (some ⟨w.heap.size, 0, none⟩) 0 L)))) := by
        have h1 := ext_trans (ext_alloc w MC) (ext_alloc (w.alloc MC) (.cells Tryz.zeroCells123 123))
        exact ⟨h1.os, h1.tape, h1.output, by simpa using h1.size, fun k hk => (setRow_other _ _ k _ (by omega)).trans (h1.block k hk)⟩
      obtain ⟨br, hbr⟩ : ∃ z, w.heap.size + 1 = z := ⟨_, rfl⟩
      have hbr0 : w.heap.size ≤ br := by omega
      rw [hbr] at HB0 HW0 ⊢
      obtain ⟨W0, hW0⟩ : ∃ z, (((w.alloc MC).alloc (.cells Tryz.zeroCells123 123)).setRow br (bsrC (.slice (some ⟨w.heap.size, 0, none⟩) 0 L))) = z := ⟨_, rfl⟩
      rw [hW0] at HB0 HW0 ⊢
      have hHR := hid hr
      clear hW0 hbr hmks hs1 HO0 HMC hquo hi2 hr
      go_loopw [12, 13, 14] (fun i _ _ W => ∃ (k : Nat) (j : Int), k ≤ L ∧ Hid (j = 2 * (k : Int) - 2) ∧ i = .int .i64 j ∧ Hid (Bsr w.heap.size (ps.drop k) br W) ∧ Below w.heap.size w W) (fun i _ _ _ => (intOf i + 2).toNat)
      case atStart => exact ⟨L, (n : Int) - 2, Nat.le_refl _, hid (by have := HN.out; omega), rfl, hid (by rw [← hLe, List.drop_length]; exact HB0.out), HW0.out⟩
      case round =>
        obtain ⟨k, j, hk, HJ, rfl, HB, hbW⟩ := hrel
        cases k with
        | zero =>
          have hj : ¬ (0 : Int) ≤ j := by have := HJ.out; omega
          go_wp2
          go_ret
          exact ⟨br, rfl, hbr0, HB.out, hbW⟩
        | succ k =>
          have hj : (0 : Int) ≤ j := by have := HJ.out; omega
          obtain ⟨m, rfl⟩ := Int.eq_ofNat_of_zero_le hj
          have hm : m = 2 * k := by have := HJ.out; omega
          have hlt : k < ps.length := by omega
          obtain ⟨e0, e1⟩ := HROW.out k hlt
          rw [← hm] at e0 e1
          have z0 := mkB_size [ps[k].1]
          have z1 := mkB_size [92, ps[k].2]
          have HP0 := hid (rep_drop hlt)
          have HP1 := hid (rep_nodup HND.out hlt)
          have hps : (ps.drop (k + 1)).length ≤ 100 := by rw [List.length_drop]; omega
          obtain ⟨q, hq⟩ : ∃ z, ps.drop (k + 1) = z := ⟨_, rfl⟩
          rw [hq] at HP0 HP1 HB hps
          obtain ⟨x, hx⟩ : ∃ z, ps[k].1 = z := ⟨_, rfl⟩
          obtain ⟨c, hc⟩ : ∃ z, ps[k].2 = z := ⟨_, rfl⟩
          rw [hx] at e0 z0 HP0 HP1
          rw [hc] at e1 z1 HP0
          have q0 : wr.cell? ⟨r, m, none⟩ = some (.string (mkB [x])) := (hbW.cell (p := ⟨r, m, none⟩) hHR.out).trans e0
          have q1 : wr.cell? ⟨r, m + 1, none⟩ = some (.string (mkB [92, c])) := (hbW.cell (p := ⟨r, m + 1, none⟩) hHR.out).trans e1
          have q2 : wr.cell? ⟨br, x.toNat, none⟩ = some (.slice none 0 0) := (HB.out.tab x).1 HP1.out
          obtain ⟨v, q3, ho⟩ := HB.out.row
          obtain ⟨va, vc, rfl⟩ := own_slice ho
          have hi0 : (0 : Int) ≤ (m : Int) := by omega
          have hi2 : (m : Int) < (n : Int) := by have := HN.out; omega
          have hi3 : (0 : Int) ≤ (m : Int) + 1 := by omega
          have hi4 : (m : Int) + 1 < (n : Int) := by have := HN.out; omega
          have hti : ((m : Int) + 1).toNat = m + 1 := by omega
          have hx256 : (x.toNat : Int) < 256 := by have := x.toNat_lt; omega
          have hx0 : (0 : Int) ≤ (x.toNat : Int) := by omega
          have hix : ∀ h, ((mkB [x])[0]'h : UInt8) = x := fun _ => rfl
          obtain ⟨o, hoe⟩ : ∃ z, mkB [x] = z := ⟨_, rfl⟩
          have HOE := hid hoe
          rw [hoe] at q0 z0 hix
          obtain ⟨nw, hnw⟩ : ∃ z, mkB [92, c] = z := ⟨_, rfl⟩
          have HNW := hid hnw
          rw [hnw] at q1 z1
          simp only [List.length_cons, List.length_nil, Nat.zero_add] at z0 z1
          have hcv : (convert 22 9 (.slice (some ⟨wr.heap.size, 0, none⟩) 1 1)).run Tryz.prog (wr.alloc (.cells #[.int .u8 (x.toNat : Int)] 5)) = .ok (.string o) (wr.alloc (.cells #[.int .u8 (x.toNat : Int)] 5)) := by
            rw [← hoe]
            exact own_string (l := [x]) (World.ownsRow_lit wr #[.int .u8 (x.toNat : Int)] 1 (Nat.le_refl _) (by decide) rfl) Tryz.underlying22 Tryz.underlying5 Tryz.underlying9
          have hbA := ext_trans (ext_alloc wr (.cells #[.int .u8 (x.toNat : Int)] 5)) (ext_alloc (wr.alloc (.cells #[.int .u8 (x.toNat : Int)] 5)) (.cells #[.string o] 9))
          have hcn := cells_new (wr.alloc (.cells #[.int .u8 (x.toNat : Int)] 5)) #[.string o] 9
          rw [show (wr.alloc (.cells #[.int .u8 (x.toNat : Int)] 5)).heap.size = wr.heap.size + 1 by simp] at hcn
          have hoA := own_later ho hbA
          have HBA := hid (HB.out.later hbA)
          have HCN := hid hcn
          have HBB := hid (ext_trans hbW hbA)
          clear hq hx hc hm hlt e0 e1 hab hj hLe hoe hnw hcn hbA ho
          go_wp2_with ((at_builtin; refine wpList_append_own _ rfl _ _ 30 rfl w.heap.size 9 i0 (.string ⟨#[]⟩) 1 16 Tryz.underlying30 hi hz0 hz1 hz2 rfl (by decide) _ _ _ rfl hoA ⟨wr.heap.size + 1, 0, none⟩ 1 1 [.string o] rfl rfl ?c1 ?c2 ?c3 ?c4 ?c5 ?_))
          case c2 => rfl
          case c3 => unfold maxLen; omega
          case c4 => omega
          case c5 => have := HBB.out.size; simpa using this
          intro v1 w2 hown2 hgrow _
          obtain ⟨ja, jc, rfl⟩ := own_slice hown2
          have hbk2 : ∀ u, w2.heap[br]? = some u ↔ ((wr.alloc (.cells #[.int .u8 (x.toNat : Int)] 5)).alloc (.cells #[.string o] 9)).heap[br]? = some u := fun u => by rw [hgrow.block br HBA.out.lt (fun e => row_ne HBA.out.blk hoA e.symm)]
          have hblk2 : ∃ cur, w2.heap[br]? = some (.cells cur 123 (0, 0)) ∧ cur.size = 257 := by
            obtain ⟨cur, h1, h2⟩ := HBA.out.blk
            exact ⟨cur, (hbk2 _).2 h1, h2⟩
          have hce : ∀ i, w2.cell? ⟨br, i, none⟩ = wr.cell? ⟨br, i, none⟩ := fun i => by
            have h1 := World.cell?_of_block (a := ⟨br, i, none⟩) (hgrow.block br HBA.out.lt (fun e => row_ne HBA.out.blk hoA e.symm))
            exact h1.trans ((ext_trans (ext_alloc wr (.cells #[.int .u8 (x.toNat : Int)] 5)) (ext_alloc _ (.cells #[.string o] 9))).cell (p := ⟨br, i, none⟩) HB.out.lt)
          have p3 := (hce 256).trans q3
          have q3A := ((ext_trans (ext_alloc wr (.cells #[.int .u8 (x.toNat : Int)] 5)) (ext_alloc _ (.cells #[.string o] 9))).cell (p := ⟨br, 256, none⟩) HB.out.lt).trans q3
          have p2 := (hce x.toNat).trans q2
          have hfz : ∀ i, w2.frozen? ⟨br, i, none⟩ = false := fun i => by
            obtain ⟨cur, h1, _⟩ := hblk2
            exact frozen_of_row w2 br i cur _ h1
          have pz := hfz 256
          have hltB : br < w2.heap.size := by
            obtain ⟨cur, h1, _⟩ := hblk2
            exact (Array.getElem?_eq_some_iff.1 h1).1
          have hB2 : Below w.heap.size w w2 := HBB.out.grown hgrow HBB.out.size (fun g hg => (hoA.lt g hg).1)
          -- the new bytes
          have hcs := Lib.run_convert_string_bytes (P := Tryz.prog) (w2.setCell ⟨br, 256, none⟩ (.slice ja (q.length + 1) jc)) 9 22 5 nw Tryz.underlying9 Tryz.underlying22 Tryz.underlying5
          have hO3 := OwnC.conv (w2.setCell ⟨br, 256, none⟩ (.slice ja (q.length + 1) jc)) (br + 1) 5 nw (by simp [World.setCell]; omega) (by rw [z1]; decide)
          have hB3 := Lib.bytesWorld_below (w2.setCell ⟨br, 256, none⟩ (.slice ja (q.length + 1) jc)) 5 nw
          have hsz : (w2.setCell ⟨br, 256, none⟩ (.slice ja (q.length + 1) jc)).heap.size = w2.heap.size := by simp [World.setCell]
          rw [show nw.data.toList = [92, c] by rw [← HNW.out]; rfl] at hO3
          obtain ⟨W3, hW3⟩ : ∃ z, Lib.bytesWorld (w2.setCell ⟨br, 256, none⟩ (.slice ja (q.length + 1) jc)) 5 nw = z := ⟨_, rfl⟩
          obtain ⟨g3, hg3⟩ : ∃ z, grownCap (w2.setCell ⟨br, 256, none⟩ (.slice ja (q.length + 1) jc)) nw.size 0 5 = z := ⟨_, rfl⟩
          rw [hW3, hg3, hsz, z1] at hcs
          rw [hW3, hg3, z1] at hO3
          rw [hW3] at hB3
          rw [hsz] at hB3 hO3
          have hb4 := blk_set (i := 256) (u := (.slice ja (q.length + 1) jc)) hblk2
          have r2 : W3.cell? ⟨br, x.toNat, none⟩ = some (.slice none 0 0) := (hB3.cell (p := ⟨br, x.toNat, none⟩) hltB).trans ((cell_set_ne (by omega)).trans p2)
          have rz : W3.frozen? ⟨br, x.toNat, none⟩ = false := by
            obtain ⟨cur, h1, _⟩ := hb4
            exact frozen_of_row W3 br _ cur _ ((hB3.block br hltB).trans h1)
          have HPUT := hid (HBA.out.put HP1.out q3A hoA (by rw [HOE.out]; exact hown2) hgrow W3 hB3 hO3)
          have HBW := hid (show Below w.heap.size w (W3.setCell ⟨br, x.toNat, none⟩ (.slice (some ⟨w2.heap.size, 0, none⟩) 2 g3)) from ((hB2.setCell (p := ⟨br, 256, none⟩) hbr0 (.slice ja (q.length + 1) jc)).trans (hB3.mono hB2.size)).setCell (p := ⟨br, x.toNat, none⟩) hbr0 _)
          clear hO3 hB3 hb4 hW3 hg3 hB2 hfz hce hbk2 hblk2 hown2 hgrow hoA q3A hcv
          go_wp2
          go_roundw
          case rel => exact ⟨k, (m : Int) - 2, by omega, hid (by have := HJ.out; omega), by go_num, hid (by rw [HP0.out]; exact HPUT.out), HBW.out⟩
          case measure => have := HJ.out; simp [intOf]; omega
end Go.Proofs.YtcebgmdcbdggeaaGreatDoor

namespace Go.Proofs.YtcebgmdcbdggeaaGreatDoor
open Go.RowKit
set_option linter.unusedVariables false
set_option linter.unusedSimpArgs false
theorem info_u8RR : (Tryz.prog.info? 5).map (fun i => (i.zero.isSome, i.size, i.bytes)) = some (true, 1, 1) := by kernel_rfl
theorem info_u8RS : (Tryz.prog.info? 5).map (·.size) = some 1 := by kernel_rfl
set_option maxHeartbeats 16000000 in
set_option maxRecDepth 100000 in
theorem bsrReplace {ps : List (UInt8 × UInt8)} {n0 br : Nat} {s : ByteArray} (w : World) (hnd : (ps.map (·.1)).Nodup) (hL : ps.length ≤ 100) (hB : Bsr n0 ps br w) (hs : s.size ≤ 1000000) :
    Calls Tryz.prog 123 #[.pointer (some ⟨br, 0, none⟩), .string s] w fun e w' => e = .returned (.string (mkB (replL ps s.data.toList))) ∧ Below w.heap.size w w' := by
  have qN : ∀ (w : World) (a : Option Addr) (n c n' c' : Nat), (binOp .neq 22 (.slice a n c) (.slice none n' c')).run Tryz.prog w = .ok (.bool (!a.isNone)) w := fun w a n c n' c' => run_neq_slice_nil_any w _ _ a n c n' c' Tryz.underlying22
  have hnot : ∀ (x : Bool) (w : World), (Op.unary .not (.bool x)).run Tryz.prog w = .ok (.bool (!x)) w := fun _ _ => rfl
  obtain ⟨l, hl⟩ : ∃ l, s.data.toList = l := ⟨_, rfl⟩
  have hsl : s.size = l.length := by rw [Lib.size_eq, hl]
  have HSL := hid hsl
  have HL := hid hl
  have hlen := replL_length hnd l
  have hle2 := replL_len ps l
  have HTK := hid (replL_take_le ps l)
  have HND := hid hnd
  rw [hl]
  obtain ⟨R, hR⟩ : ∃ R, replL ps l = R := ⟨_, rfl⟩
  have HID := hid (fun h : R.length = l.length => show R = l by rw [← hR]; exact replL_id ps (by rw [hR]; exact h))
  have HR := hid hR
  rw [hR] at hlen hle2 HTK ⊢
  have HLEN := hid hlen
  obtain ⟨v, hrow0, hown0⟩ := hB.row
  have HOWN := hid hown0
  obtain ⟨va, vc, rfl⟩ := own_slice hown0
  have HB := hid hB
  have hRb : R.length ≤ 2000000 := by omega
  have hmks : s.data.toList = l := hl
  have HS := hid (show mkB l = s by rw [← hl, mkB_of])
  clear hl hsl hR hlen hle2 hnd hB hown0 hmks

  by_cases hroad : ps.length * 8 ≤ s.size
  · have hr1 : (ps.length : Int) * 8 ≤ (s.size : Int) := by omega
    have HC := hid (fun (x : UInt8) (w : World) => Tryz.strings_Count_one s x w)
    go_enter Tryz.func123, Tryz.ntmps123
    go_wp2
    go_loopw [5, 6, 8, 9, 32] (fun ns any _ _ i wr => ∃ k : Nat, k ≤ ps.length ∧ i = .int .i64 (k : Int) ∧ ns = .int .i64 ((s.size + sumC (ps.drop (ps.length - k)) l : Nat) : Int) ∧ any = .bool (sumC (ps.drop (ps.length - k)) l != 0) ∧ Hid (Below w.heap.size w wr)) (fun _ _ _ _ i _ => ps.length - (intOf i).toNat)
    case atStart => exact ⟨0, Nat.zero_le _, rfl, by rw [Nat.sub_zero, List.drop_length]; rfl, by rw [Nat.sub_zero, List.drop_length]; rfl, hid (Below.refl _ _)⟩
    case round =>
      obtain ⟨k, hk, rfl, rfl, rfl, HBL⟩ := hrel
      have hbL := HBL.out
      have HBr : Hid (Bsr n0 ps br wr) := hid (HB.out.later hbL)
      by_cases hlt : k < ps.length
      · obtain ⟨j, hj⟩ : ∃ j, ps.length - 1 - k = j := ⟨_, rfl⟩
        have hjl : j < ps.length := by omega
        have hd1 : ps.drop (ps.length - k) = ps.drop (j + 1) := by congr 1; omega
        have hd2 : ps.drop (ps.length - (k + 1)) = ps.drop j := by congr 1; omega
        have hsum := sumC_pair ps[j] (ps.drop (j + 1)) l
        rw [← rep_drop hjl] at hsum
        have hold : (olds ps)[k]? = some (.string (mkB [ps[j].1])) := by
          unfold olds
          rw [List.getElem?_reverse (by simpa using hlt), List.length_map, hj, List.getElem?_map, List.getElem?_eq_getElem hjl]
          rfl
        have hcel : ∃ gb, va = some ⟨gb, 0, none⟩ ∧ wr.cell? ⟨gb, k, none⟩ = some (.string (mkB [ps[j].1])) := by
          have h1 := own_later HOWN.out hbL
          rcases h1.2 with ⟨h', h0⟩ | ⟨gb, cap, cur, h', hb, hg, hnc, hcm, hcs, htk⟩
          · omega
          · have e1 : va = some ⟨gb, 0, none⟩ := by injection h'
            refine ⟨gb, e1, ?_⟩
            subst e1
            rw [h1.cellAt k (by omega)]
            exact hold
        obtain ⟨gb, rfl, hce⟩ := hcel
        rw [hd1]
        obtain ⟨S0, hS0⟩ : ∃ z, sumC (ps.drop (j + 1)) l = z := ⟨_, rfl⟩
        obtain ⟨S1, hS1⟩ : ∃ z, sumC (ps.drop j) l = z := ⟨_, rfl⟩
        rw [hS0, hS1] at hsum
        rw [hS0]
        have HS1 := hid hS1
        have HD2 := hid hd2
        have hmem : rep ps ps[j].1 ≠ none := by
          intro e
          exact rep_mem (List.getElem_mem hjl) e
        obtain ⟨x, hx⟩ : ∃ z, ps[j].1 = z := ⟨_, rfl⟩
        rw [hx] at hsum hce hmem
        obtain ⟨C, hC⟩ : ∃ z, l.count x = z := ⟨_, rfl⟩
        have hCle : C ≤ l.length := by rw [← hC]; exact List.count_le_length
        have hS0le : S1 ≤ l.length := by
          rw [← hS1]
          have h1 := sumC_drop_le ps l j
          have h2 := HLEN.out
          have h3 : R.length ≤ 2 * l.length := by rw [← HR.out]; exact replL_len ps l
          omega
        have hsl := HSL.out
        rw [hC] at hsum
        have HCC : Hid (Lib.countByte s.data.toList x = C) := hid (by rw [HL.out]; exact hC)
        have HSUM := hid hsum
        have z0 := mkB_size [x]
        have hix : ∀ h, ((mkB [x])[0]'h : UInt8) = x := fun _ => rfl
        have HCX := hid (show mkB [x] = ⟨#[x]⟩ from rfl)
        obtain ⟨o, hoe⟩ : ∃ z, mkB [x] = z := ⟨_, rfl⟩
        rw [hoe] at hce z0 hix HCX
        simp only [List.length_cons, List.length_nil, Nat.zero_add] at z0
        have hi1 : (0 : Int) ≤ (k : Int) := by omega
        have hi2 : (k : Int) < (ps.length : Int) := by omega
        have hb0 : (0 : Int) ≤ (x.toNat : Int) := by omega
        have hb1 : (x.toNat : Int) < 256 := by have := x.toNat_lt; omega
        have hob : s.size + S1 ≤ 3000000 := by omega
        clear hj hd1 hd2 hold hS0 hS1 hx hC hoe hjl hsl
        go_wp2_with fail
        rw [HCX.out]
        refine (HC.out x _).mono ?_
        rintro e w1 ⟨rfl, rfl⟩
        rw [HCC.out]
        rw [← HCX.out]
        obtain ⟨c, hrep⟩ := Option.ne_none_iff_exists'.1 hmem
        by_cases hC0 : C = 0
        · have hcz : ((C : Int) != 0) = false := by simp [hC0]
          have hS : S1 = S0 := by omega
          have HSS := hid hS
          clear hC0 hS hsum hmem
          go_wp2
          go_roundw
          case rel => exact ⟨k + 1, by omega, by go_num, by rw [HD2.out, HS1.out, HSS.out]; simp, by rw [HD2.out, HS1.out, HSS.out], HBL⟩
          case measure => simp [intOf]; omega
        · have hcz : ((C : Int) != 0) = true := by simp [hC0]
          have hS : S1 = C + S0 := by omega
          have hS1n : (S1 != 0) = true := by simp; omega
          have HSN := hid hS1n
          have HSS := hid hS
          obtain ⟨v, c0, hv⟩ := (HBr.out.tab x).2 c hrep
          obtain ⟨g2, cp2, rfl, hg2b, hg2, hcl⟩ := hv.cells
          simp only [byteVals_length, List.length_cons, List.length_nil, Nat.zero_add] at c0 hv hcl
          have hC1 : C ≤ 1000000 := by have := HSL.out; omega
          clear hC0 hS hsum hmem hv hcl hg2 hg2b hS1n
          go_wp2

          refine wp_region_held_drew (S := fun w' => w'.cell? ⟨br, x.toNat, none⟩ = some (.slice (some ⟨g2, 0, none⟩) 2 cp2)) (by kernel_rfl) ?_ (fun hHeld => ?_)
          · simp [*]
          refine wpAnyH_take (i := 0) (v := ?_) rfl (by kernel_rfl) (by kernel_rfl) (by kernel_rfl) (fun _ _ _ h => h) (Or.inl ⟨by rfl, ?_⟩) (by assumption) ?_
          rotate_left
          · (intro w' hSw; (try dsimp only at hSw); go_simp; try (with_reducible rfl))
          change wpAnyH _ _ _ _ _ _ _ (Act.put _ (some 41) _) _
          try simp only [Act.put, List.setIfInBounds_toArray, List.set_cons_zero, List.set_cons_succ]
          refine wpAnyH_take (i := 1) (v := ?_) rfl (by kernel_rfl) (by kernel_rfl) (by kernel_rfl) (fun _ _ _ h => h) (Or.inl ⟨by rfl, ?_⟩) (by assumption) ?_
          rotate_left
          · (intro w' hSw; (try dsimp only at hSw); go_simp; try (with_reducible rfl))
          change wpAnyH _ _ _ _ _ _ _ (Act.put _ (some 42) _) _
          try simp only [Act.put, List.setIfInBounds_toArray, List.set_cons_zero, List.set_cons_succ]
          refine wpAnyH_take (i := 2) (v := ?_) rfl (by kernel_rfl) (by kernel_rfl) (by kernel_rfl) (fun _ _ _ h => h) (Or.inl ⟨by rfl, ?_⟩) (by assumption) ?_
          rotate_left
          · (intro w' hSw; (try dsimp only at hSw); go_simp; try (with_reducible rfl))
          change wpAnyH _ _ _ _ _ _ _ (Act.put _ (some 43) _) _
          try simp only [Act.put, List.setIfInBounds_toArray, List.set_cons_zero, List.set_cons_succ]
          refine wpAnyH_take (i := 3) (v := ?_) rfl (by kernel_rfl) (by kernel_rfl) (by kernel_rfl) (fun _ _ _ h => h) (Or.inl ⟨by rfl, ?_⟩) (by assumption) ?_
          rotate_left
          · (intro w' hSw; (try dsimp only at hSw); go_simp; try (with_reducible rfl))
          change wpAnyH _ _ _ _ _ _ _ (Act.put _ (some 44) _) _
          try simp only [Act.put, List.setIfInBounds_toArray, List.set_cons_zero, List.set_cons_succ]
          refine wpAnyH_take (i := 4) (v := ?_) rfl (by kernel_rfl) (by kernel_rfl) (by kernel_rfl) (fun _ _ _ h => h) (Or.inl ⟨by rfl, ?_⟩) (by assumption) ?_
          rotate_left
          · (intro w' hSw; (try dsimp only at hSw); go_simp; try (with_reducible rfl))
          change wpAnyH _ _ _ _ _ _ _ (Act.put _ (some 45) _) _
          try simp only [Act.put, List.setIfInBounds_toArray, List.set_cons_zero, List.set_cons_succ]
          refine wpAnyH_take (i := 5) (v := ?_) rfl (by kernel_rfl) (by kernel_rfl) (by kernel_rfl) (fun _ _ _ h => h) (Or.inl ⟨by rfl, ?_⟩) (by assumption) ?_
          rotate_left
          · (intro w' hSw; (try dsimp only at hSw); go_simp; try (with_reducible rfl))
          change wpAnyH _ _ _ _ _ _ _ (Act.put _ (some 46) _) _
          try simp only [Act.put, List.setIfInBounds_toArray, List.set_cons_zero, List.set_cons_succ]
          refine wpAnyH_take (i := 6) (v := ?_) rfl (by kernel_rfl) (by kernel_rfl) (by kernel_rfl) (fun _ _ _ h => h) (Or.inl ⟨by rfl, ?_⟩) (by assumption) ?_
          rotate_left
          · (intro w' hSw; (try dsimp only at hSw); go_simp; try (with_reducible rfl))
          change wpAnyH _ _ _ _ _ _ _ (Act.put _ (some 47) _) _
          try simp only [Act.put, List.setIfInBounds_toArray, List.set_cons_zero, List.set_cons_succ]
          refine wpAnyH_take (i := 7) (v := ?_) rfl (by kernel_rfl) (by kernel_rfl) (by kernel_rfl) (fun _ _ _ h => h) (Or.inl ⟨by rfl, ?_⟩) (by assumption) ?_
          rotate_left
          · (intro w' hSw; (try dsimp only at hSw); go_simp; try (with_reducible rfl))
          change wpAnyH _ _ _ _ _ _ _ (Act.put _ (some 48) _) _
          try simp only [Act.put, List.setIfInBounds_toArray, List.set_cons_zero, List.set_cons_succ]
          refine wpAnyH_take (i := 8) (v := ?_) rfl (by kernel_rfl) (by kernel_rfl) (by kernel_rfl) (fun _ _ _ h => h) (Or.inl ⟨by rfl, ?_⟩) (by assumption) ?_
          rotate_left
          · (intro w' hSw; (try dsimp only at hSw); go_simp; try (with_reducible rfl))
          change wpAnyH _ _ _ _ _ _ _ (Act.put _ (some 49) _) _
          try simp only [Act.put, List.setIfInBounds_toArray, List.set_cons_zero, List.set_cons_succ]
          refine wpAnyH_take (i := 9) (v := ?_) rfl (by kernel_rfl) (by kernel_rfl) (by kernel_rfl) (fun _ _ _ h => h) (Or.inl ⟨by rfl, ?_⟩) (by assumption) ?_
          rotate_left
          · (intro w' hSw; (try dsimp only at hSw); go_simp; try (with_reducible rfl))
          change wpAnyH _ _ _ _ _ _ _ (Act.put _ (some 50) _) _
          try simp only [Act.put, List.setIfInBounds_toArray, List.set_cons_zero, List.set_cons_succ]
          refine wpAnyH_take (i := 10) (v := ?_) rfl (by kernel_rfl) (by kernel_rfl) (by kernel_rfl) (fun _ _ _ h => h) (Or.inl ⟨by rfl, ?_⟩) (by assumption) ?_
          rotate_left
          · (intro w' hSw; (try dsimp only at hSw); go_simp; try (with_reducible rfl))
          change wpAnyH _ _ _ _ _ _ _ (Act.put _ (some 51) _) _
          try simp only [Act.put, List.setIfInBounds_toArray, List.set_cons_zero, List.set_cons_succ]
          refine wpAnyH_take (i := 11) (v := ?_) rfl (by kernel_rfl) (by kernel_rfl) (by kernel_rfl) (fun _ _ _ h => h) (Or.inl ⟨by rfl, ?_⟩) (by assumption) ?_
          rotate_left
          · (intro w' hSw; (try dsimp only at hSw); go_simp; try (with_reducible rfl))
          change wpAnyH _ _ _ _ _ _ _ (Act.put _ (some 52) _) _
          try simp only [Act.put, List.setIfInBounds_toArray, List.set_cons_zero, List.set_cons_succ]
          refine wpAnyH_take (i := 12) (v := ?_) rfl (by kernel_rfl) (by kernel_rfl) (by kernel_rfl) (fun _ _ _ h => h) (Or.inl ⟨by rfl, ?_⟩) (by assumption) ?_
          rotate_left
          · (intro w' hSw; (try dsimp only at hSw); go_simp; try (with_reducible rfl))
          change wpAnyH _ _ _ _ _ _ _ (Act.put _ (some 53) _) _
          try simp only [Act.put, List.setIfInBounds_toArray, List.set_cons_zero, List.set_cons_succ]
          refine wpAnyH_take (i := 13) (v := ?_) rfl (by kernel_rfl) (by kernel_rfl) (by kernel_rfl) (fun _ _ _ h => h) (Or.inl ⟨by rfl, ?_⟩) (by assumption) ?_
          rotate_left
          · (intro w' hSw; (try dsimp only at hSw); go_simp; try (with_reducible rfl))
          change wpAnyH _ _ _ _ _ _ _ (Act.put _ (some 5) _) _
          try simp only [Act.put, List.setIfInBounds_toArray, List.set_cons_zero, List.set_cons_succ]
          refine wpAnyH_done (by kernel_rfl) ?_ _
          go_wp2
          go_roundw
          case rel => exact ⟨k + 1, by omega, by go_num, by rw [HD2.out, HS1.out, HSS.out]; have e1 : IntKind.i64.wrap 1 = 1 := rfl; rw [e1, Int.mul_one]; rw [IntWalk.i64_in (C : Int) (by omega), IntWalk.i64_in _ (by have := HSS.out; omega)]; go_num, by rw [HD2.out, HS1.out, HSN.out], hid (Below.drew HBL.out)⟩
          case measure => simp [intOf]; omega
      · have hi2 : ¬ (k : Int) < (ps.length : Int) := by omega
        obtain rfl : k = ps.length := by omega
        have hd0 : ps.drop (ps.length - ps.length) = ps := by rw [Nat.sub_self]; rfl
        rw [hd0]
        have hRl := HLEN.out
        have hsl := HSL.out
        obtain ⟨SC, hSC⟩ : ∃ z, sumC ps l = z := ⟨_, rfl⟩
        rw [hSC] at hRl ⊢
        clear hSC hd0

        by_cases hch : R.length = s.size
        · have hany : (SC != 0) = false := by simp; omega
          rw [hany]
          have hRe : R = l := HID.out (by rw [hch]; exact HSL.out)
          have HE := hid (show s = mkB R by rw [hRe, HS.out])
          clear hRe hch hany hRl hsl
          go_wp2
          go_ret
          exact ⟨by rw [← HE.out]; rfl, hbL⟩
        · have hany : (SC != 0) = true := by simp; omega
          have hns : s.size + SC = R.length := by omega
          rw [hany, hns]
          obtain ⟨N, hN⟩ : ∃ N, R.length = N := ⟨_, rfl⟩
          have HN := hid hN
          have hN2 : N ≤ 2000000 := by omega
          have hbL1 := HBL.out
          obtain ⟨wl, hwl⟩ : ∃ z, wr = z := ⟨_, rfl⟩
          rw [hwl] at hbL hbL1 HBL HBr ⊢
          obtain ⟨zc, hzl, hmk⟩ := make_cells (P := Tryz.prog) (t := 22) (e := 5) (n := 1) (bytes := 1) Tryz.underlying22 info_u8RR N (by omega) (by omega)
          rw [hN]
          clear hany hns hch hN hwl hRl hsl
          go_wp2
          obtain ⟨g, hg⟩ : ∃ g, wl.heap.size = g := ⟨_, rfl⟩
          have hOw : (wl.alloc (.cells zc.toArray 5)).ownsRow wl.heap.size 5 1 (.slice (some ⟨wl.heap.size, 0, none⟩) N N) N zc := by
            have := World.ownsRow_lit (base := wl.heap.size) (e := 5) (size := 1) wl zc.toArray N (Nat.le_refl _) (by unfold maxLen; omega) (by simpa using hzl)
            simpa using this
          have hBA : Below wl.heap.size wl (wl.alloc (.cells zc.toArray 5)) := ext_alloc _ _
          rw [hg] at hOw hBA ⊢
          have HG := hid hg
          have hG1 : w.heap.size ≤ g := by rw [← hg]; exact hbL1.size
          have hGb : br < g := by rw [← hg]; exact HBr.out.lt
          clear hmk hg hzl
          go_loopw [13, 14, 15] (fun j i _ wr => ∃ (k : Nat) (rest : List Value), k ≤ s.size ∧ i = .int .i64 (k : Int) ∧ j = .int .i64 ((replL ps (l.take k)).length : Int) ∧ Hid (wr.ownsRow g 5 1 (.slice (some ⟨g, 0, none⟩) N N) N (byteVals (replL ps (l.take k)) ++ rest)) ∧ Hid (Below g wl wr)) (fun _ i _ _ => s.size - (intOf i).toNat)
          case atStart => exact ⟨0, zc, Nat.zero_le _, rfl, rfl, hid hOw, hid hBA⟩
          case round =>
            obtain ⟨k, rest, hk, rfl, rfl, HO, HBW⟩ := hrel
            by_cases hlt : k < s.size
            · obtain ⟨x, hx⟩ : ∃ x, s[k] = x := ⟨_, rfl⟩
              have hkl : k < l.length := by rw [← HSL.out]; exact hlt
              have hlx : l[k] = x := by
                rw [← hx]
                have := get_list s k hlt
                rw [← this]
                congr 1
                exact HL.out.symm
              have hstep := replL_succ ps hkl
              rw [hlx] at hstep
              have hpre := HTK.out (k + 1)
              have hxt : (s[k] : UInt8).toNat = x.toNat := by rw [hx]
              have hi1 : (0 : Int) ≤ (k : Int) := by omega
              have hi2 : (k : Int) < (s.size : Int) := by omega
              have hb0 : (0 : Int) ≤ (x.toNat : Int) := by omega
              have hb1 : (x.toNat : Int) < 256 := by have := x.toNat_lt; omega
              have HBrr : Hid (Bsr n0 ps br wr) := hid (HBr.out.later (HG.out ▸ HBW.out))
              have hROL := HO.out.1
              have hNR := HN.out
              obtain ⟨A, hA⟩ : ∃ A, replL ps (l.take k) = A := ⟨_, rfl⟩
              rw [hA] at hstep HO hROL ⊢
              rw [List.length_append, byteVals_length, Nat.mul_one] at hROL
              cases hrep : rep ps x with
              | none =>
                have hrb : replB ps x = [x] := by unfold replB; rw [hrep]
                rw [hrb] at hstep
                have hlA : (replL ps (l.take (k + 1))).length = A.length + 1 := by rw [hstep]; simp
                have hAN : A.length < N := by omega
                have c0 := (HBrr.out.tab x).1 hrep
                have c1 := HO.out.cellAt A.length (by omega)
                have c2 := HO.out.frozenAt A.length
                obtain ⟨r0, rest', hre⟩ : ∃ r0 rest', rest = r0 :: rest' := by
                  cases rest with
                  | nil => simp at hROL; omega
                  | cons a b => exact ⟨a, b, rfl⟩
                subst hre
                have hget : (byteVals A ++ r0 :: rest')[A.length]? = some r0 := by
                  rw [List.getElem?_append_right (by rw [byteVals_length]; exact Nat.le_refl _), byteVals_length, Nat.sub_self]
                  rfl
                rw [hget] at c1
                have hst := (HO.out.stored A.length (.int .u8 (x.toNat : Int))).1
                have hset : (byteVals A ++ r0 :: rest').set A.length (.int .u8 (x.toNat : Int)) = byteVals (A ++ [x]) ++ rest' := by
                  rw [List.set_append_right _ _ (by rw [byteVals_length]; exact Nat.le_refl _), byteVals_length, Nat.sub_self, byteVals_append]
                  simp [byteVals]
                rw [hset, ← hstep] at hst
                have HST := hid hst
                have HNB := hid (HBW.out.setCell (p := ⟨g, A.length, none⟩) (Nat.le_refl _) (.int .u8 (x.toNat : Int)))
                have HLA := hid hlA
                have hA0 : (0 : Int) ≤ (A.length : Int) := by omega
                have hA1 : (A.length : Int) < (N : Int) := by omega
                clear hx hlx hpre hROL hNR hA hstep hrb hget hst hset hlA hkl
                go_wp2
                go_roundw
                case rel => exact ⟨k + 1, rest', by omega, by go_num, by rw [HLA.out]; go_num, HST, HNB⟩
                case measure => simp [intOf]; omega
              | some c =>
                have hrb : replB ps x = [92, c] := by unfold replB; rw [hrep]
                rw [hrb] at hstep
                have hlA : (replL ps (l.take (k + 1))).length = A.length + 2 := by rw [hstep]; simp
                have hAN : A.length + 2 ≤ N := by omega
                obtain ⟨v, c0, hv⟩ := (HBrr.out.tab x).2 c hrep
                obtain ⟨g2, cp2, rfl, hg2b, hg2, hcl⟩ := hv.cells
                simp only [byteVals_length, List.length_cons, List.length_nil, Nat.zero_add] at c0 hv hcl
                obtain ⟨cur, hcg, hcs, hos, _⟩ := own_splice (cs := byteVals [92, c]) (J := A.length) HO.out (by rw [byteVals_length]; simpa using hAN)
                have hxs : (byteVals A ++ rest).take A.length ++ byteVals [92, c] ++ (byteVals A ++ rest).drop (A.length + (byteVals [92, c]).length) = byteVals (A ++ [92, c]) ++ rest.drop 2 := by
                  have e1 : (byteVals A ++ rest).take A.length = byteVals A := by
                    have := @List.take_left _ (byteVals A) rest
                    rwa [byteVals_length] at this
                  have e2 : (byteVals A ++ rest).drop (A.length + (byteVals [92, c]).length) = rest.drop 2 := by
                    rw [List.drop_append, byteVals_length, byteVals_length, show (A.length + [92, c].length) - A.length = 2 by simp, List.drop_of_length_le (by rw [byteVals_length]; omega)]
                    rfl
                  rw [e1, e2, byteVals_append]
                rw [hxs, ← hstep] at hos
                have hcp := run_copy_row (P := Tryz.prog) wr.drew 22 22 3 5 g A.length (N - A.length) (N - A.length) ⟨g2, 0, none⟩ 2 cp2 cur 5 (byteVals [92, c]) Tryz.underlying22 info_u8RS hcg (by rw [byteVals_length]; exact (show 2 = Nat.min 2 (N - A.length) from (Nat.min_eq_left (show 2 ≤ N - A.length by omega)).symm)) (fun j u hj => by rw [Addr.add_lit, Nat.zero_add]; exact hcl j u hj) hcs (fun u hu => by simp [byteVals] at hu; rcases hu with rfl | rfl <;> rfl)
                have hgo : goInt (byteVals [92, c]).length = .int .i64 2 := rfl
                rw [hgo] at hcp
                obtain ⟨W2, hW2⟩ : ∃ z, wr.drew.setRow g (cur.toList.take A.length ++ byteVals [92, c] ++ cur.toList.drop (A.length + (byteVals [92, c]).length)).toArray = z := ⟨_, rfl⟩
                have HOS : Hid (W2.ownsRow g 5 1 (.slice (some ⟨g, 0, none⟩) N N) N (byteVals (replL ps (l.take (k + 1))) ++ rest.drop 2)) := by rw [← hW2]; exact hos
                have HNB : Hid (Below g wl W2) := by
                  rw [← hW2]
                  exact ⟨HBW.out.os, HBW.out.tape, HBW.out.output, by simpa using HBW.out.size, fun k hk => (setRow_other _ g k _ (by omega)).trans (HBW.out.block k hk)⟩
                have hgc : W2.cell? ⟨br, x.toNat, none⟩ = some (.slice (some ⟨g2, 0, none⟩) 2 cp2) := by
                  rw [← hW2]
                  exact (World.cell?_of_block (a := ⟨br, x.toNat, none⟩) (setRow_other wr.drew g br _ (by omega))).trans c0
                rw [hW2] at hcp
                have HLA := hid hlA
                have hA0 : (0 : Int) ≤ (A.length : Int) := by omega
                have hA1 : (A.length : Int) ≤ (N : Int) := by omega
                have hAne : ¬ N = A.length := by omega
                have hA2 : ¬ (N : Int) < (A.length : Int) := by omega
                clear hx hlx hpre hROL hNR hA hstep hrb hlA hkl hos hxs hgo hW2 hcs hcg hcl hv hg2b hg2
                go_wp2_with fail
                refine wp_region_held_drew (S := fun w' => w'.cell? ⟨br, x.toNat, none⟩ = some (.slice (some ⟨g2, 0, none⟩) 2 cp2)) (by kernel_rfl) ?_ (fun hHeld => ?_)
                · simp [*]
                refine wpAnyH_take (i := 0) (v := ?_) rfl (by kernel_rfl) (by kernel_rfl) (by kernel_rfl) (fun _ _ _ h => h) (Or.inl ⟨by rfl, ?_⟩) (by assumption) ?_
                rotate_left
                · (intro w' hSw; (try dsimp only at hSw); go_simp; try (with_reducible rfl))
                change wpAnyH _ _ _ _ _ _ _ (Act.put _ (some 102) _) _
                try simp only [Act.put, List.setIfInBounds_toArray, List.set_cons_zero, List.set_cons_succ]
                refine wpAnyH_take (i := 1) (v := ?_) rfl (by kernel_rfl) (by kernel_rfl) (by kernel_rfl) (fun _ _ _ h => h) (Or.inl ⟨by rfl, ?_⟩) (by assumption) ?_
                rotate_left
                · (intro w' hSw; (try dsimp only at hSw); go_simp; try (with_reducible rfl))
                change wpAnyH _ _ _ _ _ _ _ (Act.put _ (some 103) _) _
                try simp only [Act.put, List.setIfInBounds_toArray, List.set_cons_zero, List.set_cons_succ]
                refine wpAnyH_take (i := 2) (v := ?_) rfl (by kernel_rfl) (by kernel_rfl) (by kernel_rfl) (fun _ _ _ h => h) (Or.inl ⟨by rfl, ?_⟩) (by assumption) ?_
                rotate_left
                · (intro w' hSw; (try dsimp only at hSw); go_simp; try (with_reducible rfl))
                change wpAnyH _ _ _ _ _ _ _ (Act.put _ (some 104) _) _
                try simp only [Act.put, List.setIfInBounds_toArray, List.set_cons_zero, List.set_cons_succ]
                refine wpAnyH_take (i := 3) (v := ?_) rfl (by kernel_rfl) (by kernel_rfl) (by kernel_rfl) (fun _ _ _ h => h) (Or.inl ⟨by rfl, ?_⟩) (by assumption) ?_
                rotate_left
                · (intro w' hSw; (try dsimp only at hSw); go_simp; try (with_reducible rfl))
                change wpAnyH _ _ _ _ _ _ _ (Act.put _ (some 105) _) _
                try simp only [Act.put, List.setIfInBounds_toArray, List.set_cons_zero, List.set_cons_succ]
                refine wpAnyH_take (i := 4) (v := ?_) rfl (by kernel_rfl) (by kernel_rfl) (by kernel_rfl) (fun _ _ _ h => h) (Or.inl ⟨by rfl, ?_⟩) (by assumption) ?_
                rotate_left
                · (intro w' hSw; (try dsimp only at hSw); go_simp; try (with_reducible rfl))
                change wpAnyH _ _ _ _ _ _ _ (Act.put _ (some 106) _) _
                try simp only [Act.put, List.setIfInBounds_toArray, List.set_cons_zero, List.set_cons_succ]
                refine wpAnyH_take (i := 5) (v := ?_) rfl (by kernel_rfl) (by kernel_rfl) (by kernel_rfl) (fun _ _ _ h => h) (Or.inl ⟨by rfl, ?_⟩) (by assumption) ?_
                rotate_left
                · (intro w' hSw; (try dsimp only at hSw); go_simp; try (with_reducible rfl))
                change wpAnyH _ _ _ _ _ _ _ (Act.put _ (some 107) _) _
                try simp only [Act.put, List.setIfInBounds_toArray, List.set_cons_zero, List.set_cons_succ]
                refine wpAnyH_take (i := 6) (v := ?_) rfl (by kernel_rfl) (by kernel_rfl) (by kernel_rfl) (fun _ _ _ h => h) (Or.inl ⟨by rfl, ?_⟩) (by assumption) ?_
                rotate_left
                · (intro w' hSw; (try dsimp only at hSw); go_simp; try (with_reducible rfl))
                change wpAnyH _ _ _ _ _ _ _ (Act.put _ (some 108) _) _
                try simp only [Act.put, List.setIfInBounds_toArray, List.set_cons_zero, List.set_cons_succ]
                refine wpAnyH_take (i := 7) (v := ?_) rfl (by kernel_rfl) (by kernel_rfl) (by kernel_rfl) (fun _ _ _ h => h) (Or.inl ⟨by rfl, ?_⟩) (by assumption) ?_
                rotate_left
                · (intro w' hSw; (try dsimp only at hSw); go_simp; try (with_reducible rfl))
                change wpAnyH _ _ _ _ _ _ _ (Act.put _ (some 109) _) _
                try simp only [Act.put, List.setIfInBounds_toArray, List.set_cons_zero, List.set_cons_succ]
                refine wpAnyH_take (i := 8) (v := ?_) rfl (by kernel_rfl) (by kernel_rfl) (by kernel_rfl) (fun _ _ _ h => h) (Or.inl ⟨by rfl, ?_⟩) (by assumption) ?_
                rotate_left
                · (intro w' hSw; (try dsimp only at hSw); go_simp; try (with_reducible rfl))
                change wpAnyH _ _ _ _ _ _ _ (Act.put _ (some 110) _) _
                try simp only [Act.put, List.setIfInBounds_toArray, List.set_cons_zero, List.set_cons_succ]
                refine wpAnyH_take (i := 9) (v := ?_) rfl (by kernel_rfl) (by kernel_rfl) (by kernel_rfl) (fun _ _ _ h => h) (Or.inl ⟨by rfl, ?_⟩) (by assumption) ?_
                rotate_left
                · (intro w' hSw; (try dsimp only at hSw); go_simp; try (with_reducible rfl))
                change wpAnyH _ _ _ _ _ _ _ (Act.put _ (some 111) _) _
                try simp only [Act.put, List.setIfInBounds_toArray, List.set_cons_zero, List.set_cons_succ]
                refine wpAnyH_ready (rs := [10]) (by kernel_rfl) (by simp) ?_
                refine AllReadyH.cons (i := 10) rfl (fun K hK => ?_) AllReadyH.nil
                simp only [List.getElem_toArray, List.getElem_cons_succ, List.getElem_cons_zero]
                rw [if_pos (by rfl)]
                have hr := hcp
                refine oper_copy rfl rfl rfl hr ?_
                simp only [Act.put, List.setIfInBounds_toArray, List.set_cons_zero, List.set_cons_succ]
                have hOld := hHeld
                clear hHeld
                refine hK.out _ _ ?_ (fun hHeld => ?_)
                · (try dsimp only); simp [*]
                clear hK K hOld
                try simp only [Act.put, List.setIfInBounds_toArray, List.set_cons_zero, List.set_cons_succ]
                refine wpAnyH_take (i := 11) (v := ?_) rfl (by kernel_rfl) (by kernel_rfl) (by kernel_rfl) (fun _ _ _ h => h) (Or.inl ⟨by rfl, ?_⟩) (by assumption) ?_
                rotate_left
                · (intro w' hSw; (try dsimp only at hSw); go_simp; try (with_reducible rfl))
                change wpAnyH _ _ _ _ _ _ _ (Act.put _ (some 113) _) _
                try simp only [Act.put, List.setIfInBounds_toArray, List.set_cons_zero, List.set_cons_succ]
                refine wpAnyH_take (i := 12) (v := ?_) rfl (by kernel_rfl) (by kernel_rfl) (by kernel_rfl) (fun _ _ _ h => h) (Or.inl ⟨by rfl, ?_⟩) (by assumption) ?_
                rotate_left
                · (intro w' hSw; (try dsimp only at hSw); go_simp; try (with_reducible rfl))
                change wpAnyH _ _ _ _ _ _ _ (Act.put _ (some 13) _) _
                try simp only [Act.put, List.setIfInBounds_toArray, List.set_cons_zero, List.set_cons_succ]
                refine wpAnyH_done (by kernel_rfl) ?_ _
                go_wp2
                go_roundw
                case rel => exact ⟨k + 1, rest.drop 2, by omega, by go_num, by rw [HLA.out]; first | go_num | (rw [IntWalk.i64_in _ (by omega)]; go_num), HOS, HNB⟩
                case measure => simp [intOf]; omega
            · have hi2 : ¬ (k : Int) < (s.size : Int) := by omega
              obtain rfl : k = s.size := by omega
              have hfull : replL ps (l.take s.size) = R := by rw [HSL.out, List.take_length]; exact HR.out
              have hown := HO.out
              rw [hfull] at hown ⊢
              have hr0 : rest = [] := by
                have h1 := hown.1
                rw [List.length_append, byteVals_length, Nat.mul_one, HN.out] at h1
                exact List.eq_nil_of_length_eq_zero (by omega)
              rw [hr0, List.append_nil, ← HN.out] at hown
              have hcv := own_string (P := Tryz.prog) (src := 22) (dst := 9) hown Tryz.underlying22 Tryz.underlying5 Tryz.underlying9
              rw [HN.out] at hcv
              have HFB := hid (HBL.out.trans (HBW.out.mono hG1))
              clear hfull hown hr0 hlt hk
              go_wp2
              go_ret
              exact ⟨rfl, HFB.out⟩
  · have hr1 : ¬ (ps.length : Int) * 8 ≤ (s.size : Int) := by omega
    go_enter Tryz.func123, Tryz.ntmps123
    go_wp2
    go_loopw [5, 6, 10, 11] (fun ns any i _ wr => ∃ k D : Nat, k ≤ s.size ∧ i = .int .i64 (k : Int) ∧ Hid (D + k = (replL ps (l.take k)).length) ∧ ns = .int .i64 ((s.size + D : Nat) : Int) ∧ any = .bool (D != 0) ∧ Hid (Below w.heap.size w wr)) (fun _ _ i _ _ => s.size - (intOf i).toNat)
    case atStart => exact ⟨0, 0, Nat.zero_le _, rfl, hid rfl, rfl, rfl, hid (Below.refl _ _)⟩
    case round =>
      obtain ⟨k, D, hk, rfl, HD, rfl, rfl, HBL⟩ := hrel
      have hbL := HBL.out
      have HBr : Hid (Bsr n0 ps br wr) := hid (HB.out.later hbL)
      by_cases hlt : k < s.size
      · obtain ⟨x, hx⟩ : ∃ x, s[k] = x := ⟨_, rfl⟩
        have hkl : k < l.length := by rw [← HSL.out]; exact hlt
        have hlx : l[k] = x := by
          rw [← hx]
          have := get_list s k hlt
          rw [← this]
          congr 1
          exact HL.out.symm
        have hstep := replL_succ ps hkl
        rw [hlx] at hstep
        have hxt : (s[k] : UInt8).toNat = x.toNat := by rw [hx]
        have hi1 : (0 : Int) ≤ (k : Int) := by omega
        have hi2 : (k : Int) < (s.size : Int) := by omega
        have hb0 : (0 : Int) ≤ (x.toNat : Int) := by omega
        have hb1 : (x.toNat : Int) < 256 := by have := x.toNat_lt; omega
        have hDle : D ≤ 2000000 := by have h1 := HD.out; have h2 := HTK.out k; omega
        cases hrep : rep ps x with
        | none =>
          have hrb : replB ps x = [x] := by unfold replB; rw [hrep]
          rw [hrb] at hstep
          have HD1 := hid (show D + (k + 1) = (replL ps (l.take (k + 1))).length by rw [hstep, List.length_append, ← HD.out]; simp; omega)
          have c0 := (HBr.out.tab x).1 hrep
          clear hx hlx hstep hrb hkl
          go_wp2
          go_roundw
          case rel => exact ⟨k + 1, D, by omega, by go_num, HD1, by go_num, rfl, HBL⟩
          case measure => simp [intOf]; omega
        | some c =>
          have hrb : replB ps x = [92, c] := by unfold replB; rw [hrep]
          rw [hrb] at hstep
          have HD1 := hid (show (D + 1) + (k + 1) = (replL ps (l.take (k + 1))).length by rw [hstep, List.length_append, ← HD.out]; simp; omega)
          obtain ⟨v, c0, hv⟩ := (HBr.out.tab x).2 c hrep
          obtain ⟨g2, cp2, rfl, hg2b, hg2, hcl⟩ := hv.cells
          simp only [byteVals_length, List.length_cons, List.length_nil, Nat.zero_add] at c0 hv hcl
          clear hx hlx hstep hrb hkl hv hg2b hg2 hcl
          go_wp2
          go_roundw
          case rel => exact ⟨k + 1, D + 1, by omega, by go_num, HD1, by go_num, by simp, HBL⟩
          case measure => simp [intOf]; omega
      · have hi2 : ¬ (k : Int) < (s.size : Int) := by omega
        obtain rfl : k = s.size := by omega
        have hRl : D + s.size = R.length := by rw [HD.out, HSL.out, List.take_length, HR.out]
        have hsl := HSL.out
        clear hlt hk

        by_cases hch : R.length = s.size
        · have hany : (D != 0) = false := by simp; omega
          rw [hany]
          have hRe : R = l := HID.out (by rw [hch]; exact HSL.out)
          have HE := hid (show s = mkB R by rw [hRe, HS.out])
          clear hRe hch hany hRl hsl
          go_wp2
          go_ret
          exact ⟨by rw [← HE.out]; rfl, hbL⟩
        · have hany : (D != 0) = true := by simp; omega
          have hns : s.size + D = R.length := by omega
          rw [hany, hns]
          obtain ⟨N, hN⟩ : ∃ N, R.length = N := ⟨_, rfl⟩
          have HN := hid hN
          have hN2 : N ≤ 2000000 := by omega
          have hbL1 := HBL.out
          obtain ⟨wl, hwl⟩ : ∃ z, wr = z := ⟨_, rfl⟩
          rw [hwl] at hbL hbL1 HBL HBr ⊢
          obtain ⟨zc, hzl, hmk⟩ := make_cells (P := Tryz.prog) (t := 22) (e := 5) (n := 1) (bytes := 1) Tryz.underlying22 info_u8RR N (by omega) (by omega)
          rw [hN]
          clear hany hns hch hN hwl hRl hsl
          go_wp2
          obtain ⟨g, hg⟩ : ∃ g, wl.heap.size = g := ⟨_, rfl⟩
          have hOw : (wl.alloc (.cells zc.toArray 5)).ownsRow wl.heap.size 5 1 (.slice (some ⟨wl.heap.size, 0, none⟩) N N) N zc := by
            have := World.ownsRow_lit (base := wl.heap.size) (e := 5) (size := 1) wl zc.toArray N (Nat.le_refl _) (by unfold maxLen; omega) (by simpa using hzl)
            simpa using this
          have hBA : Below wl.heap.size wl (wl.alloc (.cells zc.toArray 5)) := ext_alloc _ _
          rw [hg] at hOw hBA ⊢
          have HG := hid hg
          have hG1 : w.heap.size ≤ g := by rw [← hg]; exact hbL1.size
          have hGb : br < g := by rw [← hg]; exact HBr.out.lt
          clear hmk hg hzl
          go_loopw [13, 14, 15] (fun j i _ wr => ∃ (k : Nat) (rest : List Value), k ≤ s.size ∧ i = .int .i64 (k : Int) ∧ j = .int .i64 ((replL ps (l.take k)).length : Int) ∧ Hid (wr.ownsRow g 5 1 (.slice (some ⟨g, 0, none⟩) N N) N (byteVals (replL ps (l.take k)) ++ rest)) ∧ Hid (Below g wl wr)) (fun _ i _ _ => s.size - (intOf i).toNat)
          case atStart => exact ⟨0, zc, Nat.zero_le _, rfl, rfl, hid hOw, hid hBA⟩
          case round =>
            obtain ⟨k, rest, hk, rfl, rfl, HO, HBW⟩ := hrel
            by_cases hlt : k < s.size
            · obtain ⟨x, hx⟩ : ∃ x, s[k] = x := ⟨_, rfl⟩
              have hkl : k < l.length := by rw [← HSL.out]; exact hlt
              have hlx : l[k] = x := by
                rw [← hx]
                have := get_list s k hlt
                rw [← this]
                congr 1
                exact HL.out.symm
              have hstep := replL_succ ps hkl
              rw [hlx] at hstep
              have hpre := HTK.out (k + 1)
              have hxt : (s[k] : UInt8).toNat = x.toNat := by rw [hx]
              have hi1 : (0 : Int) ≤ (k : Int) := by omega
              have hi2 : (k : Int) < (s.size : Int) := by omega
              have hb0 : (0 : Int) ≤ (x.toNat : Int) := by omega
              have hb1 : (x.toNat : Int) < 256 := by have := x.toNat_lt; omega
              have HBrr : Hid (Bsr n0 ps br wr) := hid (HBr.out.later (HG.out ▸ HBW.out))
              have hROL := HO.out.1
              have hNR := HN.out
              obtain ⟨A, hA⟩ : ∃ A, replL ps (l.take k) = A := ⟨_, rfl⟩
              rw [hA] at hstep HO hROL ⊢
              rw [List.length_append, byteVals_length, Nat.mul_one] at hROL
              cases hrep : rep ps x with
              | none =>
                have hrb : replB ps x = [x] := by unfold replB; rw [hrep]
                rw [hrb] at hstep
                have hlA : (replL ps (l.take (k + 1))).length = A.length + 1 := by rw [hstep]; simp
                have hAN : A.length < N := by omega
                have c0 := (HBrr.out.tab x).1 hrep
                have c1 := HO.out.cellAt A.length (by omega)
                have c2 := HO.out.frozenAt A.length
                obtain ⟨r0, rest', hre⟩ : ∃ r0 rest', rest = r0 :: rest' := by
                  cases rest with
                  | nil => simp at hROL; omega
                  | cons a b => exact ⟨a, b, rfl⟩
                subst hre
                have hget : (byteVals A ++ r0 :: rest')[A.length]? = some r0 := by
                  rw [List.getElem?_append_right (by rw [byteVals_length]; exact Nat.le_refl _), byteVals_length, Nat.sub_self]
                  rfl
                rw [hget] at c1
                have hst := (HO.out.stored A.length (.int .u8 (x.toNat : Int))).1
                have hset : (byteVals A ++ r0 :: rest').set A.length (.int .u8 (x.toNat : Int)) = byteVals (A ++ [x]) ++ rest' := by
                  rw [List.set_append_right _ _ (by rw [byteVals_length]; exact Nat.le_refl _), byteVals_length, Nat.sub_self, byteVals_append]
                  simp [byteVals]
                rw [hset, ← hstep] at hst
                have HST := hid hst
                have HNB := hid (HBW.out.setCell (p := ⟨g, A.length, none⟩) (Nat.le_refl _) (.int .u8 (x.toNat : Int)))
                have HLA := hid hlA
                have hA0 : (0 : Int) ≤ (A.length : Int) := by omega
                have hA1 : (A.length : Int) < (N : Int) := by omega
                clear hx hlx hpre hROL hNR hA hstep hrb hget hst hset hlA hkl
                go_wp2
                go_roundw
                case rel => exact ⟨k + 1, rest', by omega, by go_num, by rw [HLA.out]; go_num, HST, HNB⟩
                case measure => simp [intOf]; omega
              | some c =>
                have hrb : replB ps x = [92, c] := by unfold replB; rw [hrep]
                rw [hrb] at hstep
                have hlA : (replL ps (l.take (k + 1))).length = A.length + 2 := by rw [hstep]; simp
                have hAN : A.length + 2 ≤ N := by omega
                obtain ⟨v, c0, hv⟩ := (HBrr.out.tab x).2 c hrep
                obtain ⟨g2, cp2, rfl, hg2b, hg2, hcl⟩ := hv.cells
                simp only [byteVals_length, List.length_cons, List.length_nil, Nat.zero_add] at c0 hv hcl
                obtain ⟨cur, hcg, hcs, hos, _⟩ := own_splice (cs := byteVals [92, c]) (J := A.length) HO.out (by rw [byteVals_length]; simpa using hAN)
                have hxs : (byteVals A ++ rest).take A.length ++ byteVals [92, c] ++ (byteVals A ++ rest).drop (A.length + (byteVals [92, c]).length) = byteVals (A ++ [92, c]) ++ rest.drop 2 := by
                  have e1 : (byteVals A ++ rest).take A.length = byteVals A := by
                    have := @List.take_left _ (byteVals A) rest
                    rwa [byteVals_length] at this
                  have e2 : (byteVals A ++ rest).drop (A.length + (byteVals [92, c]).length) = rest.drop 2 := by
                    rw [List.drop_append, byteVals_length, byteVals_length, show (A.length + [92, c].length) - A.length = 2 by simp, List.drop_of_length_le (by rw [byteVals_length]; omega)]
                    rfl
                  rw [e1, e2, byteVals_append]
                rw [hxs, ← hstep] at hos
                have hcp := run_copy_row (P := Tryz.prog) wr.drew 22 22 3 5 g A.length (N - A.length) (N - A.length) ⟨g2, 0, none⟩ 2 cp2 cur 5 (byteVals [92, c]) Tryz.underlying22 info_u8RS hcg (by rw [byteVals_length]; exact (show 2 = Nat.min 2 (N - A.length) from (Nat.min_eq_left (show 2 ≤ N - A.length by omega)).symm)) (fun j u hj => by rw [Addr.add_lit, Nat.zero_add]; exact hcl j u hj) hcs (fun u hu => by simp [byteVals] at hu; rcases hu with rfl | rfl <;> rfl)
                have hgo : goInt (byteVals [92, c]).length = .int .i64 2 := rfl
                rw [hgo] at hcp
                obtain ⟨W2, hW2⟩ : ∃ z, wr.drew.setRow g (cur.toList.take A.length ++ byteVals [92, c] ++ cur.toList.drop (A.length + (byteVals [92, c]).length)).toArray = z := ⟨_, rfl⟩
                have HOS : Hid (W2.ownsRow g 5 1 (.slice (some ⟨g, 0, none⟩) N N) N (byteVals (replL ps (l.take (k + 1))) ++ rest.drop 2)) := by rw [← hW2]; exact hos
                have HNB : Hid (Below g wl W2) := by
                  rw [← hW2]
                  exact ⟨HBW.out.os, HBW.out.tape, HBW.out.output, by simpa using HBW.out.size, fun k hk => (setRow_other _ g k _ (by omega)).trans (HBW.out.block k hk)⟩
                have hgc : W2.cell? ⟨br, x.toNat, none⟩ = some (.slice (some ⟨g2, 0, none⟩) 2 cp2) := by
                  rw [← hW2]
                  exact (World.cell?_of_block (a := ⟨br, x.toNat, none⟩) (setRow_other wr.drew g br _ (by omega))).trans c0
                rw [hW2] at hcp
                have HLA := hid hlA
                have hA0 : (0 : Int) ≤ (A.length : Int) := by omega
                have hA1 : (A.length : Int) ≤ (N : Int) := by omega
                have hAne : ¬ N = A.length := by omega
                have hA2 : ¬ (N : Int) < (A.length : Int) := by omega
                clear hx hlx hpre hROL hNR hA hstep hrb hlA hkl hos hxs hgo hW2 hcs hcg hcl hv hg2b hg2
                go_wp2_with fail
                refine wp_region_held_drew (S := fun w' => w'.cell? ⟨br, x.toNat, none⟩ = some (.slice (some ⟨g2, 0, none⟩) 2 cp2)) (by kernel_rfl) ?_ (fun hHeld => ?_)
                · simp [*]
                refine wpAnyH_take (i := 0) (v := ?_) rfl (by kernel_rfl) (by kernel_rfl) (by kernel_rfl) (fun _ _ _ h => h) (Or.inl ⟨by rfl, ?_⟩) (by assumption) ?_
                rotate_left
                · (intro w' hSw; (try dsimp only at hSw); go_simp; try (with_reducible rfl))
                change wpAnyH _ _ _ _ _ _ _ (Act.put _ (some 102) _) _
                try simp only [Act.put, List.setIfInBounds_toArray, List.set_cons_zero, List.set_cons_succ]
                refine wpAnyH_take (i := 1) (v := ?_) rfl (by kernel_rfl) (by kernel_rfl) (by kernel_rfl) (fun _ _ _ h => h) (Or.inl ⟨by rfl, ?_⟩) (by assumption) ?_
                rotate_left
                · (intro w' hSw; (try dsimp only at hSw); go_simp; try (with_reducible rfl))
                change wpAnyH _ _ _ _ _ _ _ (Act.put _ (some 103) _) _
                try simp only [Act.put, List.setIfInBounds_toArray, List.set_cons_zero, List.set_cons_succ]
                refine wpAnyH_take (i := 2) (v := ?_) rfl (by kernel_rfl) (by kernel_rfl) (by kernel_rfl) (fun _ _ _ h => h) (Or.inl ⟨by rfl, ?_⟩) (by assumption) ?_
                rotate_left
                · (intro w' hSw; (try dsimp only at hSw); go_simp; try (with_reducible rfl))
                change wpAnyH _ _ _ _ _ _ _ (Act.put _ (some 104) _) _
                try simp only [Act.put, List.setIfInBounds_toArray, List.set_cons_zero, List.set_cons_succ]
                refine wpAnyH_take (i := 3) (v := ?_) rfl (by kernel_rfl) (by kernel_rfl) (by kernel_rfl) (fun _ _ _ h => h) (Or.inl ⟨by rfl, ?_⟩) (by assumption) ?_
                rotate_left
                · (intro w' hSw; (try dsimp only at hSw); go_simp; try (with_reducible rfl))
                change wpAnyH _ _ _ _ _ _ _ (Act.put _ (some 105) _) _
                try simp only [Act.put, List.setIfInBounds_toArray, List.set_cons_zero, List.set_cons_succ]
                refine wpAnyH_take (i := 4) (v := ?_) rfl (by kernel_rfl) (by kernel_rfl) (by kernel_rfl) (fun _ _ _ h => h) (Or.inl ⟨by rfl, ?_⟩) (by assumption) ?_
                rotate_left
                · (intro w' hSw; (try dsimp only at hSw); go_simp; try (with_reducible rfl))
                change wpAnyH _ _ _ _ _ _ _ (Act.put _ (some 106) _) _
                try simp only [Act.put, List.setIfInBounds_toArray, List.set_cons_zero, List.set_cons_succ]
                refine wpAnyH_take (i := 5) (v := ?_) rfl (by kernel_rfl) (by kernel_rfl) (by kernel_rfl) (fun _ _ _ h => h) (Or.inl ⟨by rfl, ?_⟩) (by assumption) ?_
                rotate_left
                · (intro w' hSw; (try dsimp only at hSw); go_simp; try (with_reducible rfl))
                change wpAnyH _ _ _ _ _ _ _ (Act.put _ (some 107) _) _
                try simp only [Act.put, List.setIfInBounds_toArray, List.set_cons_zero, List.set_cons_succ]
                refine wpAnyH_take (i := 6) (v := ?_) rfl (by kernel_rfl) (by kernel_rfl) (by kernel_rfl) (fun _ _ _ h => h) (Or.inl ⟨by rfl, ?_⟩) (by assumption) ?_
                rotate_left
                · (intro w' hSw; (try dsimp only at hSw); go_simp; try (with_reducible rfl))
                change wpAnyH _ _ _ _ _ _ _ (Act.put _ (some 108) _) _
                try simp only [Act.put, List.setIfInBounds_toArray, List.set_cons_zero, List.set_cons_succ]
                refine wpAnyH_take (i := 7) (v := ?_) rfl (by kernel_rfl) (by kernel_rfl) (by kernel_rfl) (fun _ _ _ h => h) (Or.inl ⟨by rfl, ?_⟩) (by assumption) ?_
                rotate_left
                · (intro w' hSw; (try dsimp only at hSw); go_simp; try (with_reducible rfl))
                change wpAnyH _ _ _ _ _ _ _ (Act.put _ (some 109) _) _
                try simp only [Act.put, List.setIfInBounds_toArray, List.set_cons_zero, List.set_cons_succ]
                refine wpAnyH_take (i := 8) (v := ?_) rfl (by kernel_rfl) (by kernel_rfl) (by kernel_rfl) (fun _ _ _ h => h) (Or.inl ⟨by rfl, ?_⟩) (by assumption) ?_
                rotate_left
                · (intro w' hSw; (try dsimp only at hSw); go_simp; try (with_reducible rfl))
                change wpAnyH _ _ _ _ _ _ _ (Act.put _ (some 110) _) _
                try simp only [Act.put, List.setIfInBounds_toArray, List.set_cons_zero, List.set_cons_succ]
                refine wpAnyH_take (i := 9) (v := ?_) rfl (by kernel_rfl) (by kernel_rfl) (by kernel_rfl) (fun _ _ _ h => h) (Or.inl ⟨by rfl, ?_⟩) (by assumption) ?_
                rotate_left
                · (intro w' hSw; (try dsimp only at hSw); go_simp; try (with_reducible rfl))
                change wpAnyH _ _ _ _ _ _ _ (Act.put _ (some 111) _) _
                try simp only [Act.put, List.setIfInBounds_toArray, List.set_cons_zero, List.set_cons_succ]
                refine wpAnyH_ready (rs := [10]) (by kernel_rfl) (by simp) ?_
                refine AllReadyH.cons (i := 10) rfl (fun K hK => ?_) AllReadyH.nil
                simp only [List.getElem_toArray, List.getElem_cons_succ, List.getElem_cons_zero]
                rw [if_pos (by rfl)]
                have hr := hcp
                refine oper_copy rfl rfl rfl hr ?_
                simp only [Act.put, List.setIfInBounds_toArray, List.set_cons_zero, List.set_cons_succ]
                have hOld := hHeld
                clear hHeld
                refine hK.out _ _ ?_ (fun hHeld => ?_)
                · (try dsimp only); simp [*]
                clear hK K hOld
                try simp only [Act.put, List.setIfInBounds_toArray, List.set_cons_zero, List.set_cons_succ]
                refine wpAnyH_take (i := 11) (v := ?_) rfl (by kernel_rfl) (by kernel_rfl) (by kernel_rfl) (fun _ _ _ h => h) (Or.inl ⟨by rfl, ?_⟩) (by assumption) ?_
                rotate_left
                · (intro w' hSw; (try dsimp only at hSw); go_simp; try (with_reducible rfl))
                change wpAnyH _ _ _ _ _ _ _ (Act.put _ (some 113) _) _
                try simp only [Act.put, List.setIfInBounds_toArray, List.set_cons_zero, List.set_cons_succ]
                refine wpAnyH_take (i := 12) (v := ?_) rfl (by kernel_rfl) (by kernel_rfl) (by kernel_rfl) (fun _ _ _ h => h) (Or.inl ⟨by rfl, ?_⟩) (by assumption) ?_
                rotate_left
                · (intro w' hSw; (try dsimp only at hSw); go_simp; try (with_reducible rfl))
                change wpAnyH _ _ _ _ _ _ _ (Act.put _ (some 13) _) _
                try simp only [Act.put, List.setIfInBounds_toArray, List.set_cons_zero, List.set_cons_succ]
                refine wpAnyH_done (by kernel_rfl) ?_ _
                go_wp2
                go_roundw
                case rel => exact ⟨k + 1, rest.drop 2, by omega, by go_num, by rw [HLA.out]; first | go_num | (rw [IntWalk.i64_in _ (by omega)]; go_num), HOS, HNB⟩
                case measure => simp [intOf]; omega
            · have hi2 : ¬ (k : Int) < (s.size : Int) := by omega
              obtain rfl : k = s.size := by omega
              have hfull : replL ps (l.take s.size) = R := by rw [HSL.out, List.take_length]; exact HR.out
              have hown := HO.out
              rw [hfull] at hown ⊢
              have hr0 : rest = [] := by
                have h1 := hown.1
                rw [List.length_append, byteVals_length, Nat.mul_one, HN.out] at h1
                exact List.eq_nil_of_length_eq_zero (by omega)
              rw [hr0, List.append_nil, ← HN.out] at hown
              have hcv := own_string (P := Tryz.prog) (src := 22) (dst := 9) hown Tryz.underlying22 Tryz.underlying5 Tryz.underlying9
              rw [HN.out] at hcv
              have HFB := hid (HBL.out.trans (HBW.out.mono hG1))
              clear hfull hown hr0 hlt hk
              go_wp2
              go_ret
              exact ⟨rfl, HFB.out⟩
end Go.Proofs.YtcebgmdcbdggeaaGreatDoor

namespace Go.Proofs.YtcebgmdcbdggeaaGreatDoor
open Go.RowKit
set_option linter.unusedVariables false
set_option linter.unusedSimpArgs false
theorem race_disable (w : World) : (callFunc 75 #[]).run Tryz.prog w = .ok (.value (.tuple #[])) w := run_call_mark0 Tryz.func75 (by kernel_rfl) (by kernel_rfl) (by kernel_rfl) .disable (by kernel_rfl) w
theorem race_enable (w : World) : (callFunc 77 #[]).run Tryz.prog w = .ok (.value (.tuple #[])) w := run_call_mark0 Tryz.func77 (by kernel_rfl) (by kernel_rfl) (by kernel_rfl) .enable (by kernel_rfl) w
theorem race_acquire (a : Addr) (w : World) : (callFunc 78 #[.pointer (some a)]).run Tryz.prog w = .ok (.value (.tuple #[])) w := run_call_marked Tryz.func78 (by kernel_rfl) (by kernel_rfl) (by kernel_rfl) .acquire (by kernel_rfl) a w
theorem race_releaseMerge (a : Addr) (w : World) : (callFunc 80 #[.pointer (some a)]).run Tryz.prog w = .ok (.value (.tuple #[])) w := run_call_marked Tryz.func80 (by kernel_rfl) (by kernel_rfl) (by kernel_rfl) .releaseMerge (by kernel_rfl) a w

/-- '(*sync/atomic.Bool).Store(true)', entered as a deferred call -/
theorem store_deferred (a : Addr) (x : Value) (u : FrameMode) (w : World) (hc : w.cell? a = some x) (hz : w.frozen? a = false) :
    CallsD Tryz.prog 66 #[.pointer (some a), .bool true] u w fun e u' w' => u' = u ∧ (e = .returned (.tuple #[]) ∧ w' = w.drew.setCell a (.int .u32 1)) := by
  have hc' : w.drew.cell? a = some x := by go_simp
  have hz' : w.drew.frozen? a = false := by go_simp
  have hst := run_call_store (P := Tryz.prog) Tryz.func71 (by kernel_rfl) (by kernel_rfl) (by kernel_rfl) (by kernel_rfl) (k := .u32) (y := 1) hc' hz'
  go_enter_d Tryz.func66, Tryz.ntmps66
  go_wp2
  go_region_calls
  all_goals (go_end0; exact ⟨rfl, rfl⟩)

set_option maxRecDepth 100000 in
set_option maxHeartbeats 1600000 in
/-- '(*sync.Mutex).Unlock', entered as a deferred call, held and nobody waiting -/
theorem unlock_deferred (a : Addr) (u : FrameMode) (w : World) (hc : w.cell? a = some (.int .i32 1)) (hz : w.frozen? a = false) :
    CallsD Tryz.prog 65 #[.pointer (some a)] u w fun e u' w' => u' = u ∧ (e = .returned (.tuple #[]) ∧ w' = w.setCell a (.int .i32 0)) := by
  have hd := race_disable
  have he := race_enable
  have hr := race_releaseMerge
  have hadd := run_call_add (P := Tryz.prog) Tryz.func81 (by kernel_rfl) (by kernel_rfl) (by kernel_rfl) .i32 (by kernel_rfl) (y := -1) (s := 0) hc hz (by simp [go_sem]; rfl)
  have hcv := run_convert_to_unsafe (P := Tryz.prog) (src := 139) (dst := 105) Tryz.underlying139 Tryz.underlying105 (by kernel_rfl) hc
  go_enter_d Tryz.func65, Tryz.ntmps65
  go_wp2
  go_end0
  go_wp2
  go_end0
  exact ⟨rfl, rfl⟩

set_option maxRecDepth 100000 in
set_option maxHeartbeats 1600000 in
/-- '(*sync.Mutex).Lock', the lock free -/
theorem lock_free (a : Addr) (w : World) (hc : w.cell? a = some (.int .i32 0)) (hz : w.frozen? a = false) :
    Calls Tryz.prog 64 #[.pointer (some a)] w fun e w' => e = .returned (.tuple #[]) ∧ w' = w.setCell a (.int .i32 1) := by
  have hd := race_disable
  have he := race_enable
  have ha := race_acquire
  have hcas := run_call_cas_hit (P := Tryz.prog) Tryz.func76 (by kernel_rfl) (by kernel_rfl) (by kernel_rfl) .i32 (by kernel_rfl) (y := 1) hc hz
  have hc' : (w.setCell a (.int .i32 1)).cell? a = some (.int .i32 1) := World.cell?_setCell_same w a _ hc
  have hcv := run_convert_to_unsafe (P := Tryz.prog) (src := 139) (dst := 105) Tryz.underlying139 Tryz.underlying105 (by kernel_rfl) hc'
  go_enter Tryz.func64, Tryz.ntmps64
  go_wp2
  first | go_end0 | (simp only [Exit.inBlock, Exit.then]; refine bodyPost_ret (results_none rfl _ _ _) rfl ?_) | refine bodyPost_ret (results_none rfl _ _ _) rfl ?_
  go_wp2
  go_end0
  exact ⟨rfl, rfl⟩

set_option maxRecDepth 100000 in
set_option maxHeartbeats 1600000 in
/-- doSlow where the function that is handed on is (*strings.Replacer).buildOnce -/
theorem once_slow (b : Nat) (w : World) (Q : World → Prop)
    (hcl : Calls Tryz.prog 50 #[.pointer (some ⟨b, 0, none⟩)] (w.setCell ⟨b, 1, none⟩ (.int .i32 1)) fun e w' => e = .returned (.tuple #[]) ∧ Q w')
    (hQ : ∀ w1, Q w1 → w1.cell? ⟨b, 0, none⟩ = some (.int .u32 0) ∧ w1.cell? ⟨b, 1, none⟩ = some (.int .i32 1) ∧ w1.frozen? ⟨b, 0, none⟩ = false ∧ w1.frozen? ⟨b, 1, none⟩ = false)
    (h0 : w.cell? ⟨b, 0, none⟩ = some (.int .u32 0)) (h1 : w.cell? ⟨b, 1, none⟩ = some (.int .i32 0)) (f1 : w.frozen? ⟨b, 1, none⟩ = false) :
    Calls Tryz.prog 60 #[.pointer (some ⟨b, 0, none⟩), .func (.func 50) #[.pointer (some ⟨b, 0, none⟩)] #[]] w fun e w' => e = .returned (.tuple #[]) ∧
      ∃ w1, Q w1 ∧ w' = (w1.drew.setCell ⟨b, 0, none⟩ (.int .u32 1)).setCell ⟨b, 1, none⟩ (.int .i32 0) := by
  have hl := run_call_load (P := Tryz.prog) Tryz.func63 (by kernel_rfl) (by kernel_rfl) (by kernel_rfl) .u32 (by kernel_rfl) (w := w.setCell ⟨b, 1, none⟩ (.int .i32 1)) (a := ⟨b, 0, none⟩) (x := 0) ((World.cell?_setCell_other _ ⟨b, 1, none⟩ ⟨b, 0, none⟩ _ (by simp)).trans h0)
  have hnot : ∀ (x : Bool) (w : World), (Op.unary .not (.bool x)).run Tryz.prog w = .ok (.bool (!x)) w := fun _ _ => rfl
  have C := hid hcl
  have HQ := hid hQ
  clear hcl hQ
  go_enter_defers Tryz.func60, Tryz.ntmps60
  go_wp2_with (first | (go_at_call 64; refine (lock_free ⟨b, 1, none⟩ _ (by go_simp) (by go_simp)).mono ?_; rintro e w' ⟨rfl, rfl⟩) | (go_at_call 59; go_in))
  refine C.out.mono ?_
  rintro e w1 ⟨rfl, hq⟩
  obtain ⟨q0, q1, q2, q3⟩ := HQ.out w1 hq
  have HW := hid hq
  clear hq
  go_wp2
  refine leaves_cons (f := 66) (args := #[.pointer (some ⟨b, 0, none⟩), .bool true]) (by simp) (by simp [go_sem]) ?_
  refine (store_deferred ⟨b, 0, none⟩ (.int .u32 0) .returning _ q0 q2).mono ?_
  rintro e u' w'' ⟨rfl, rfl, rfl⟩
  refine leaves_cons (f := 65) (args := #[.pointer (some ⟨b, 1, none⟩)]) (by simp [settle]) (by simp [go_sem]) ?_
  refine (unlock_deferred ⟨b, 1, none⟩ _ _ ?_ (by simp [q3])).mono ?_
  · refine (World.cell?_setCell_other _ ⟨b, 0, none⟩ ⟨b, 1, none⟩ _ (by simp)).trans ?_
    rw [World.cell?_drew]
    exact q1
  rintro e u' w'' ⟨rfl, rfl, rfl⟩
  simp [Leaves, settle, results, Tryz.results60]
  exact ⟨_, HW.out, rfl⟩

set_option maxRecDepth 100000 in
set_option maxHeartbeats 1600000 in
/-- Do, not yet done, the lock free -/
theorem once_do (b : Nat) (w : World) (Q : World → Prop)
    (hcl : Calls Tryz.prog 50 #[.pointer (some ⟨b, 0, none⟩)] (w.setCell ⟨b, 1, none⟩ (.int .i32 1)) fun e w' => e = .returned (.tuple #[]) ∧ Q w')
    (hQ : ∀ w1, Q w1 → w1.cell? ⟨b, 0, none⟩ = some (.int .u32 0) ∧ w1.cell? ⟨b, 1, none⟩ = some (.int .i32 1) ∧ w1.frozen? ⟨b, 0, none⟩ = false ∧ w1.frozen? ⟨b, 1, none⟩ = false)
    (h0 : w.cell? ⟨b, 0, none⟩ = some (.int .u32 0)) (h1 : w.cell? ⟨b, 1, none⟩ = some (.int .i32 0)) (f1 : w.frozen? ⟨b, 1, none⟩ = false) :
    Calls Tryz.prog 49 #[.pointer (some ⟨b, 0, none⟩), .func (.func 50) #[.pointer (some ⟨b, 0, none⟩)] #[]] w fun e w' => e = .returned (.tuple #[]) ∧
      ∃ w1, Q w1 ∧ w' = (w1.drew.setCell ⟨b, 0, none⟩ (.int .u32 1)).setCell ⟨b, 1, none⟩ (.int .i32 0) := by
  have hl := run_call_load (P := Tryz.prog) Tryz.func63 (by kernel_rfl) (by kernel_rfl) (by kernel_rfl) .u32 (by kernel_rfl) h0
  have hnot : ∀ (x : Bool) (w : World), (Op.unary .not (.bool x)).run Tryz.prog w = .ok (.bool (!x)) w := fun _ _ => rfl
  have C := hid (once_slow b w Q hcl hQ h0 h1 f1)
  clear hcl hQ
  go_enter Tryz.func49, Tryz.ntmps49
  go_wp2_with (first | (go_at_call 60; refine C.out.mono ?_; rintro e w' ⟨rfl, w1, hq, rfl⟩) | (go_at_call 59; go_in))
  go_end0
  exact ⟨rfl, w1, hq, rfl⟩
end Go.Proofs.YtcebgmdcbdggeaaGreatDoor

namespace Go.Proofs.YtcebgmdcbdggeaaGreatDoor
open Go.RowKit
set_option linter.unusedVariables false
set_option linter.unusedSimpArgs false
theorem OwnC.other {w : World} {B b i : Nat} {e : TypeId} {v u : Value} {xs : List Value} (h : OwnC w B e v xs) (hb : b < B) : OwnC (w.setCell ⟨b, i, none⟩ u) B e v xs := by
  obtain ⟨g, cap, cur, fz, e2, hB, hgg, r⟩ := h
  exact ⟨g, cap, cur, fz, e2, hB, (Below.heap_setCell _ _ _ _ (show g ≠ b by omega)).trans hgg, r⟩
theorem Bsr.other {n0 br b i : Nat} {ps : List (UInt8 × UInt8)} {w : World} {u : Value} (h : Bsr n0 ps br w) (hb : b < n0) (hbr : b < br) : Bsr n0 ps br (w.setCell ⟨b, i, none⟩ u) := by
  obtain ⟨cur, hg, hs⟩ := h.blk
  obtain ⟨v, e1, e2⟩ := h.row
  have hc : ∀ k, (w.setCell ⟨b, i, none⟩ u).cell? ⟨br, k, none⟩ = w.cell? ⟨br, k, none⟩ := fun k => World.cell?_setCell_other _ ⟨b, i, none⟩ ⟨br, k, none⟩ _ (fun e => by injection e; omega)
  refine ⟨⟨cur, (Below.heap_setCell _ _ _ _ (show br ≠ b by omega)).trans hg, hs⟩, fun x => ?_, ⟨v, (hc 256).trans e1, ownsRow_setCell_below e2 hb u⟩⟩
  obtain ⟨h1, h2⟩ := h.tab x
  refine ⟨fun e => (hc _).trans (h1 e), fun c e => ?_⟩
  obtain ⟨v, a1, a2⟩ := h2 c e
  exact ⟨v, (hc _).trans a1, a2.other (by omega)⟩
theorem Bsr.drew {n0 br : Nat} {ps : List (UInt8 × UInt8)} {w : World} (h : Bsr n0 ps br w) : Bsr n0 ps br w.drew := ⟨h.blk, h.tab, h.row⟩
theorem Bsr.base {n0 n1 br : Nat} {ps : List (UInt8 × UInt8)} {w : World} (h : Bsr n0 ps br w) (hn : n1 ≤ n0) : Bsr n1 ps br w := by
  obtain ⟨v, e1, e2⟩ := h.row
  refine ⟨h.blk, h.tab, v, e1, e2.1, ?_⟩
  rcases e2.2 with h1 | ⟨b, cap, cur, h0, h1, h2⟩
  · exact Or.inl h1
  · exact Or.inr ⟨b, cap, cur, h0, Nat.le_trans hn h1, h2⟩

/-- the texts in a row: old, new, old, new .. -/
def rowV (ps : List (UInt8 × UInt8)) : List Value := ps.flatMap fun p => [.string (mkB [p.1]), .string (mkB [92, p.2])]
theorem rowV_len (ps : List (UInt8 × UInt8)) : (rowV ps).length = 2 * ps.length := by
  induction ps with
  | nil => rfl
  | cons p r ih =>
    have e : rowV (p :: r) = [.string (mkB [p.1]), .string (mkB [92, p.2])] ++ rowV r := rfl
    rw [e, List.length_append, ih]
    simp only [List.length_cons, List.length_nil]
    omega
theorem rowV_get : ∀ (ps : List (UInt8 × UInt8)) (k : Nat) (hk : k < ps.length), (rowV ps)[2 * k]? = some (.string (mkB [ps[k].1])) ∧ (rowV ps)[2 * k + 1]? = some (.string (mkB [92, ps[k].2]))
  | p :: r, 0, _ => ⟨rfl, rfl⟩
  | p :: r, k + 1, hk => by
    have e : rowV (p :: r) = .string (mkB [p.1]) :: .string (mkB [92, p.2]) :: rowV r := rfl
    have ih := rowV_get r k (by simpa using hk)
    rw [e, show 2 * (k + 1) = 2 * k + 1 + 1 by omega, List.getElem?_cons_succ, List.getElem?_cons_succ, List.getElem?_cons_succ, List.getElem?_cons_succ]
    exact ih
theorem rowV_one (ps : List (UInt8 × UInt8)) : ∀ u ∈ rowV ps, u.oneCell' = true := by
  intro u hu
  unfold rowV at hu
  rw [List.mem_flatMap] at hu
  obtain ⟨p, _, h⟩ := hu
  simp only [List.mem_cons, List.not_mem_nil, or_false] at h
  rcases h with rfl | rfl <;> rfl
/-- a Replacer that has not built its table: five cells and the row of its texts -/
structure Rpl (ps : List (UInt8 × UInt8)) (b r n cap : Nat) (w : World) : Prop where
  blk : w.heap[b]? = some (.cells #[.int .u32 0, .int .i32 0, .int .u32 0, .nilIface, .slice (some ⟨r, 0, none⟩) n cap] 94 (0, 0))
  rlt : r < w.heap.size
  rb : r ≠ b
  row : ∀ k (hk : k < ps.length), w.cell? ⟨r, 2 * k, none⟩ = some (.string (mkB [ps[k].1])) ∧ w.cell? ⟨r, 2 * k + 1, none⟩ = some (.string (mkB [92, ps[k].2]))
/-- what buildOnce leaves -/
def Built (ps : List (UInt8 × UInt8)) (b : Nat) (w w' : World) : Prop :=
  ∃ br w1, Below w.heap.size w w1 ∧ w.heap.size ≤ br ∧ Bsr w.heap.size ps br w1 ∧ w' = (w1.setCell ⟨b, 3, none⟩ (.iface 124 (.pointer (some ⟨br, 0, none⟩)))).setCell ⟨b, 4, none⟩ (.slice none 0 0)
set_option maxHeartbeats 8000000 in
set_option maxRecDepth 100000 in
theorem buildOnceR {ps : List (UInt8 × UInt8)} {b r n cap : Nat} (w : World) (hnd : (ps.map (·.1)).Nodup) (hL2 : 2 ≤ ps.length) (hL : ps.length ≤ 100) (hn : n = 2 * ps.length) (hr : r < w.heap.size)
    (h3 : w.cell? ⟨b, 3, none⟩ = some .nilIface) (h4 : w.cell? ⟨b, 4, none⟩ = some (.slice (some ⟨r, 0, none⟩) n cap)) (hfz : ∀ i, w.frozen? ⟨b, i, none⟩ = false) (hb : b < w.heap.size)
    (hrow : ∀ k (hk : k < ps.length), w.cell? ⟨r, 2 * k, none⟩ = some (.string (mkB [ps[k].1])) ∧ w.cell? ⟨r, 2 * k + 1, none⟩ = some (.string (mkB [92, ps[k].2]))) :
    Calls Tryz.prog 50 #[.pointer (some ⟨b, 0, none⟩)] w fun e w' => e = .returned (.tuple #[]) ∧ Built ps b w w' := by
  have C := hid (implBuild w hnd hL2 hL hn hr h4 hrow)
  have H3 := hid h3
  have H4 := hid h4
  have HF := hid hfz
  have HB := hid hb
  clear hnd hL2 hL hn hr hrow h3 h4 hfz hb
  go_enter Tryz.func50, Tryz.ntmps50
  go_wp2_with (go_at_call 61; refine C.out.mono ?_; rintro e w1 ⟨br, rfl, hbr, hB, hbel⟩; have c3 := (hbel.cell (p := ⟨b, 3, none⟩) HB.out).trans H3.out; have c4 := (hbel.cell (p := ⟨b, 4, none⟩) HB.out).trans H4.out; have f3 := (hbel.frozen (p := ⟨b, 3, none⟩) HB.out).trans (HF.out 3); have f4 := (hbel.frozen (p := ⟨b, 4, none⟩) HB.out).trans (HF.out 4))
  go_end0
  exact ⟨rfl, br, w1, hbel, hbr, hB, rfl⟩
theorem info_strN : (Tryz.prog.info? 9).map (fun i => (i.zero, i.size, i.bytes)) = some (some (.string ⟨#[]⟩), 1, 16) := by kernel_rfl
set_option maxHeartbeats 8000000 in
set_option maxRecDepth 100000 in
theorem newReplacer {ps : List (UInt8 × UInt8)} {r n cap : Nat} (w : World) (hL2 : 2 ≤ ps.length) (hL : ps.length ≤ 100) (hn : n = 2 * ps.length)
    (hrow : ∀ j u, (rowV ps)[j]? = some u → w.cell? ((⟨r, 0, none⟩ : Addr).add j) = some u) :
    Calls Tryz.prog 33 #[.slice (some ⟨r, 0, none⟩) n cap] w fun e w' => ∃ b r' cap', e = .returned (.pointer (some ⟨b, 0, none⟩)) ∧ w.heap.size ≤ b ∧ Rpl ps b r' n cap' w' ∧ Below w.heap.size w w' := by
  obtain ⟨i0, hi, hz0, hz1, hz2⟩ := info_parts info_strN
  have hmod : Int.tmod (n : Int) 2 = 0 := by rw [hn, Int.natCast_mul]; exact Int.mul_tmod_right 2 _
  have HROW := hid hrow
  have HN := hid hn
  have hlen : (rowV ps).length = n * 1 := by rw [rowV_len]; omega
  have HLEN := hid hlen
  have hnb : n ≤ 200 := by omega
  clear hrow hn hlen
  go_enter Tryz.func33, Tryz.ntmps33
  go_wp2_with ((at_builtin; refine wpList_append_own _ rfl _ _ 30 rfl w.heap.size 9 i0 (.string ⟨#[]⟩) 1 16 Tryz.underlying30 hi hz0 hz1 hz2 rfl (by decide) _ 0 [] rfl (World.ownsRow_nil _ _ _ _) ⟨r, 0, none⟩ n cap (rowV ps) rfl HLEN.out HROW.out (rowV_one ps) ?c3 ?c4 ?c5 ?_))
  case c3 => unfold maxLen; omega
  case c4 => omega
  case c5 => exact Nat.le_refl _
  intro v' w1 hown hgrow hnil
  rcases hown.2 with ⟨rfl, h0⟩ | ⟨g, cp, cur, rfl, hbg, hgg, hrest⟩
  · exact absurd h0 (by have := HN.out; omega)
  have HOWN := hid hown
  have HGR := hid (show Below w.heap.size w w1 from (Below.refl _ w).grown hgrow (Nat.le_refl _) (fun k hk => by cases hk))
  have HBG := hid hbg
  have HGL := hid (Array.getElem?_eq_some_iff.1 hgg).1
  clear hown hgrow hnil hbg hgg hrest
  go_wp2
  go_ret
  have hsz := HGR.out.size
  refine ⟨w1.heap.size, g, cp, rfl, hsz, ⟨heap_alloc_new _ _, ?_, ?_, fun k hk => ?_⟩, ext_trans HGR.out (ext_alloc _ _)⟩
  · have := HGL.out; simp; omega
  · have := HGL.out; omega
  · obtain ⟨a0, a1⟩ := rowV_get ps k hk
    have b0 := HOWN.out.cells (g := g) rfl _ _ a0
    have b1 := HOWN.out.cells (g := g) rfl _ _ a1
    rw [Addr.add_lit, Nat.zero_add] at b0 b1
    exact ⟨((ext_alloc w1 _).cell (p := ⟨g, 2 * k, none⟩) HGL.out).trans b0, ((ext_alloc w1 _).cell (p := ⟨g, 2 * k + 1, none⟩) HGL.out).trans b1⟩
/-- the table serves as what is behind the interface -/
theorem nilAhead_bsr (a : Addr) (w : World) : (nilAhead 282 124 (.pointer (some a)) "Replace").run Tryz.prog w = .ok (some false) w := by kernel_rfl
theorem method_bsr (a : Addr) (w : World) : (method 282 124 (.pointer (some a)) "Replace").run Tryz.prog w = .ok (123, .pointer (some a)) w := by kernel_rfl
set_option maxHeartbeats 8000000 in
set_option maxRecDepth 100000 in
theorem replacerReplace {ps : List (UInt8 × UInt8)} {b r n cap : Nat} {s : ByteArray} (w : World) (hnd : (ps.map (·.1)).Nodup) (hL2 : 2 ≤ ps.length) (hL : ps.length ≤ 100) (hn : n = 2 * ps.length) (hR : Rpl ps b r n cap w) (hs : s.size ≤ 1000000) :
    Calls Tryz.prog 34 #[.pointer (some ⟨b, 0, none⟩), .string s] w fun e w' => e = .returned (.string (mkB (replL ps s.data.toList))) ∧ Below b w w' := by
  have hb : b < w.heap.size := (Array.getElem?_eq_some_iff.1 hR.blk).1
  have c0 : w.cell? ⟨b, 0, none⟩ = some (.int .u32 0) := cell_of_row _ _ 0 _ _ _ hR.blk
  have c1 : w.cell? ⟨b, 1, none⟩ = some (.int .i32 0) := cell_of_row _ _ 1 _ _ _ hR.blk
  have c3 : w.cell? ⟨b, 3, none⟩ = some .nilIface := cell_of_row _ _ 3 _ _ _ hR.blk
  have c4 : w.cell? ⟨b, 4, none⟩ = some (.slice (some ⟨r, 0, none⟩) n cap) := cell_of_row _ _ 4 _ _ _ hR.blk
  have hfz : ∀ i, w.frozen? ⟨b, i, none⟩ = false := fun i => frozen_of_row _ _ i _ _ hR.blk
  have hne : ∀ {i j : Nat} {x : World} {u : Value}, i ≠ j → (x.setCell ⟨b, i, none⟩ u).cell? ⟨b, j, none⟩ = x.cell? ⟨b, j, none⟩ := fun h => cell_set_ne h
  have hbo : ∀ {i j : Nat} {x : World} {u : Value}, (x.setCell ⟨b, i, none⟩ u).cell? ⟨r, j, none⟩ = x.cell? ⟨r, j, none⟩ := fun {i j x u} => World.cell?_setCell_other _ ⟨b, i, none⟩ ⟨r, j, none⟩ _ (fun e => by injection e with h1; exact hR.rb h1.symm)
  obtain ⟨w1, hw1⟩ : ∃ x, w.setCell ⟨b, 1, none⟩ (.int .i32 1) = x := ⟨_, rfl⟩
  have hsz1 : w1.heap.size = w.heap.size := by rw [← hw1]; simp [World.setCell]
  have d0 : w1.cell? ⟨b, 0, none⟩ = some (.int .u32 0) := by rw [← hw1, hne (by decide)]; exact c0
  have d1 : w1.cell? ⟨b, 1, none⟩ = some (.int .i32 1) := by rw [← hw1]; exact World.cell?_setCell_same w ⟨b, 1, none⟩ _ c1
  have d3 : w1.cell? ⟨b, 3, none⟩ = some .nilIface := by rw [← hw1, hne (by decide)]; exact c3
  have d4 : w1.cell? ⟨b, 4, none⟩ = some (.slice (some ⟨r, 0, none⟩) n cap) := by rw [← hw1, hne (by decide)]; exact c4
  have dfz : ∀ i, w1.frozen? ⟨b, i, none⟩ = false := fun i => by rw [← hw1]; simpa using hfz i
  have B1 := buildOnceR w1 hnd hL2 hL hn (by rw [hsz1]; exact hR.rlt) d3 d4 dfz (by rw [hsz1]; exact hb) (fun k hk => by
    obtain ⟨a0, a1⟩ := hR.row k hk
    rw [← hw1, hbo, hbo]
    exact ⟨a0, a1⟩)
  have hQ : ∀ w2, Built ps b w1 w2 → w2.cell? ⟨b, 0, none⟩ = some (.int .u32 0) ∧ w2.cell? ⟨b, 1, none⟩ = some (.int .i32 1) ∧ w2.frozen? ⟨b, 0, none⟩ = false ∧ w2.frozen? ⟨b, 1, none⟩ = false := by
    rintro w2 ⟨br, x, hx, hbr, hB, rfl⟩
    have hb1 : b < w1.heap.size := by rw [hsz1]; exact hb
    refine ⟨?_, ?_, ?_, ?_⟩
    · rw [hne (by decide), hne (by decide)]; exact (hx.cell (p := ⟨b, 0, none⟩) hb1).trans d0
    · rw [hne (by decide), hne (by decide)]; exact (hx.cell (p := ⟨b, 1, none⟩) hb1).trans d1
    · have := (hx.frozen (p := ⟨b, 0, none⟩) hb1).trans (dfz 0); simpa using this
    · have := (hx.frozen (p := ⟨b, 1, none⟩) hb1).trans (dfz 1); simpa using this
  have CD := hid (once_do b w (Built ps b w1) (by rw [hw1]; exact B1) hQ c0 c1 (hfz 1))
  have hbw1 : Below b w w1 := by rw [← hw1]; exact (Below.refl b w).setCell (Nat.le_refl _) _
  have AFT := hid (show ∀ w2 w', Built ps b w1 w2 → w' = (w2.drew.setCell ⟨b, 0, none⟩ (.int .u32 1)).setCell ⟨b, 1, none⟩ (.int .i32 0) → ∃ br, w'.cell? ⟨b, 3, none⟩ = some (.iface 124 (.pointer (some ⟨br, 0, none⟩))) ∧ Bsr w1.heap.size ps br w' ∧ Below b w w' by
    rintro w2 w' ⟨br, x, hx, hbr, hB, rfl⟩ rfl
    have hb1 : b < w1.heap.size := by rw [hsz1]; exact hb
    have hbbr : b < br := Nat.lt_of_lt_of_le hb1 hbr
    refine ⟨br, ?_, ((((hB.other hb1 hbbr).other hb1 hbbr).drew).other hb1 hbbr).other hb1 hbbr, ?_⟩
    · rw [hne (by decide), hne (by decide), World.cell?_drew, hne (by decide)]
      exact World.cell?_setCell_same x ⟨b, 3, none⟩ _ ((hx.cell (p := ⟨b, 3, none⟩) hb1).trans d3)
    · exact (((((hbw1.trans (hx.mono (Nat.le_of_lt hb1))).setCell (Nat.le_refl _) _).setCell (Nat.le_refl _) _).drew).setCell (Nat.le_refl _) _).setCell (Nat.le_refl _) _)
  have CR := hid (fun (x : World) (br : Nat) (h : Bsr w1.heap.size ps br x) => bsrReplace (s := s) x hnd hL h hs)
  have HB := hid hb
  have hmf : ∀ (fn : Fn) (a b : Array Value) (w : World), (Instr.makeFunc fn a b).run Tryz.prog w = .ok (.func fn a b) w := fun _ _ _ _ => rfl
  have h1 := nilAhead_bsr
  have h2 := method_bsr
  clear hnd hL2 hL hn hR hs hne hbo hw1 hsz1 d0 d1 d3 d4 dfz B1 hQ c1 c3 c4 hfz hbw1 hb
  go_enter Tryz.func34, Tryz.ntmps34
  go_wp2_with (go_at_call 49; refine CD.out.mono ?_; rintro e w' ⟨rfl, w2, hq, hw⟩; obtain ⟨br, k3, kB, kw⟩ := AFT.out w2 w' hq hw; have KB := hid kB; have KW := hid kw; clear kB kw hq hw c0)
  refine (CR.out w' br KB.out).mono ?_
  rintro e w3 ⟨rfl, hb3⟩
  have HB3 := hid (hb3.mono (show b ≤ w'.heap.size from Nat.le_trans (Nat.le_of_lt HB.out) KW.out.size))
  clear hb3
  go_wp2
  go_ret
  exact ⟨rfl, KW.out.trans HB3.out⟩
end Go.Proofs.YtcebgmdcbdggeaaGreatDoor
