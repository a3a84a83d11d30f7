/-
  What is proved here: the reference's pattern reader: what it looks at, its errors, escapes, one end of an item. No condition but that the reader and its list lie in memory.
-/
import Derived.Test.YtomcoilmpkpoeaaGreatDoorQRxI5
import Derived.StillTactics
namespace Go.Proofs.YtomcoilmpkpoeaaGreatDoor
open Go.RowKit
set_option linter.unusedVariables false
set_option linter.unusedSimpArgs false

theorem blk6c {w : World} {g : Nat} {x0 x1 x2 x3 x4 x5 : Value} {t : TypeId} (h : w.heap[g]? = some (.cells #[x0, x1, x2, x3, x4, x5] t (0, 0))) :
    (w.cell? ⟨g, 0, none⟩ = some x0 ∧ w.cell? ⟨g, 1, none⟩ = some x1 ∧ w.cell? ⟨g, 2, none⟩ = some x2 ∧ w.cell? ⟨g, 3, none⟩ = some x3 ∧ w.cell? ⟨g, 4, none⟩ = some x4 ∧ w.cell? ⟨g, 5, none⟩ = some x5)
    ∧ (w.frozen? ⟨g, 1, none⟩ = false ∧ w.frozen? ⟨g, 2, none⟩ = false ∧ w.frozen? ⟨g, 3, none⟩ = false ∧ w.frozen? ⟨g, 4, none⟩ = false ∧ w.frozen? ⟨g, 5, none⟩ = false) ∧ g < w.heap.size := by
  have h' : w.heap[g]? = some (.cells ([x0, x1, x2, x3, x4, x5] : List Value).toArray t (0, 0)) := h
  exact ⟨⟨cell_of_block h', cell_of_block h', cell_of_block h', cell_of_block h', cell_of_block h', cell_of_block h'⟩, ⟨frozen_of_row w g _ _ _ h', frozen_of_row w g _ _ _ h', frozen_of_row w g _ _ _ h', frozen_of_row w g _ _ _ h', frozen_of_row w g _ _ _ h'⟩, (Array.getElem?_eq_some_iff.1 h).1⟩
theorem blk6_set {w : World} {g o : Nat} {x0 x1 x2 x3 x4 x5 : Value} {t : TypeId} (v : Value) (h : w.heap[g]? = some (.cells #[x0, x1, x2, x3, x4, x5] t (0, 0))) :
    (w.setCell ⟨g, o, none⟩ v).heap[g]? = some (.cells (#[x0, x1, x2, x3, x4, x5].setIfInBounds o v) t (0, 0)) := heap_setCell_same w g o _ _ v h
set_option maxHeartbeats 4000000 in
theorem specPeek {g cap i : Nat} {a : Option Addr} {l : List Nat} {x2 x3 x4 x5 : Value} (w : World) (hb : w.heap[g]? = some (.cells #[.slice a l.length cap, .int .i64 ((i : Nat) : Int), x2, x3, x4, x5] 87 (0, 0))) (hL : RxL w g a l) (hi : i ≤ 4000) :
    Calls Tryz.prog 115 #[.pointer (some ⟨g, 0, none⟩)] w fun e w' => e = .returned (.int .i64 ((gN l i : Nat) : Int)) ∧ Qt w w' := by
  obtain ⟨⟨c0, c1, c2, c3, c4, c5⟩, _, hl⟩ := blk6c hb
  clear hb
  have hlen := hL.len
  by_cases h : i < l.length
  · obtain ⟨lb, lo, rfl, hlb, hc⟩ := hL.cel (by omega)
    have hcell := hc i h
    have HE := hid (gN_at (l := l) (i := i) h)
    obtain ⟨c, hcc⟩ : ∃ c, l[i] = c := ⟨_, rfl⟩
    rw [hcc] at hcell HE
    have h1 : (i : Int) < (l.length : Int) := by omega
    have h0 : (0 : Int) ≤ (i : Int) := by omega
    clear hL hc hcc
    go_enter Tryz.func115, Tryz.ntmps115
    go_wp2_with fail
    go_quiet (fail)
    go_wp2_with fail
    go_quiet (fail)
    go_wp2
    go_ret
    rw [HE.out]
    exact ⟨rfl, by first | exact ⟨_, rfl⟩ | exact (Qt.one _ _).trans (Qt.one _ _)⟩
  · have HE := hid (gN_end (l := l) (i := i) (by omega))
    have h1 : ¬ (i : Int) < (l.length : Int) := by omega
    clear hL
    go_enter Tryz.func115, Tryz.ntmps115
    go_wp2_with fail
    go_quiet (fail)
    go_wp2
    go_ret
    rw [HE.out]
    exact ⟨rfl, _, rfl⟩
theorem specFail {g p d : Nat} {x0 x1 x5 : Value} (c q : Nat) (w : World) (hb : w.heap[g]? = some (.cells #[x0, x1, .int .i64 ((0 : Nat) : Int), .int .i64 ((p : Nat) : Int), .int .i64 ((d : Nat) : Int), x5] 87 (0, 0))) :
    Calls Tryz.prog 69 #[.pointer (some ⟨g, 0, none⟩), .int .i64 ((c : Nat) : Int), .int .i64 ((q : Nat) : Int)] w fun e w' => e = .returned (.int .i64 0) ∧ w'.heap[g]? = some (.cells #[x0, x1, .int .i64 ((c : Nat) : Int), .int .i64 ((q : Nat) : Int), .int .i64 ((d : Nat) : Int), x5] 87 (0, 0)) ∧ Kp g none w w' := by
  obtain ⟨⟨c0, c1, c2, c3, c4, c5⟩, ⟨y1, y2, y3, y4, y5⟩, hl⟩ := blk6c hb
  have HB := hid (blk6_set (o := 3) (.int .i64 ((q : Nat) : Int)) (blk6_set (o := 2) (.int .i64 ((c : Nat) : Int)) hb))
  clear hb
  go_enter Tryz.func69, Tryz.ntmps69
  go_wp2
  go_ret
  exact ⟨rfl, HB.out, ((Kp.refl g none w).set 2 _).set 3 _⟩
def letN (c : Nat) : Bool := decide (97 ≤ c ∧ c ≤ 122) || decide (65 ≤ c ∧ c ≤ 90) || decide (48 ≤ c ∧ c ≤ 57)
theorem specLetter (c : Nat) (w : World) : Calls Tryz.prog 219 #[.int .i64 ((c : Nat) : Int)] w fun e w' => e = .returned (.bool (letN c)) ∧ w = w' := by
  have h1 : letN c = (decide (97 ≤ c ∧ c ≤ 122) || decide (65 ≤ c ∧ c ≤ 90) || decide (48 ≤ c ∧ c ≤ 57)) := rfl
  obtain ⟨B, hB⟩ : ∃ b, letN c = b := ⟨_, rfl⟩
  rw [hB]
  rw [h1] at hB
  clear h1
  have HB := hid hB
  clear hB
  by_cases a1 : (97 : Int) ≤ (c : Int) <;> by_cases a2 : (c : Int) ≤ 122 <;> by_cases a3 : (65 : Int) ≤ (c : Int) <;> by_cases a4 : (c : Int) ≤ 90 <;> by_cases a5 : (48 : Int) ≤ (c : Int) <;> by_cases a6 : (c : Int) ≤ 57 <;> first | (exfalso; omega) | (
    have HF := hid HB.out.symm
    go_enter Tryz.func219, Tryz.ntmps219
    go_wp2
    go_ret
    refine ⟨end_bool ?_, rfl⟩
    rw [HF.out]
    simp only [Bool.true_eq, Bool.false_eq, Bool.or_eq_true, Bool.or_eq_false_iff, decide_eq_true_eq, decide_eq_false_iff_not]
    omega)
def OneS (w w' : World) (g cap d : Nat) (a : Option Addr) (l : List Nat) (nv : Value) (r : Option (Nat × Nat)) (i : Nat) (e : Ending) : Prop :=
  (∃ c j, r = some (c, j) ∧ e = .returned (.int .i64 ((c : Nat) : Int)) ∧ w'.heap[g]? = some (.cells #[.slice a l.length cap, .int .i64 ((j : Nat) : Int), .int .i64 ((0 : Nat) : Int), .int .i64 ((0 : Nat) : Int), .int .i64 ((d : Nat) : Int), nv] 87 (0, 0))) ∨ (∃ j, r = none ∧ e = .returned (.int .i64 0) ∧ j ≤ 4000 ∧ w'.heap[g]? = some (.cells #[.slice a l.length cap, .int .i64 ((j : Nat) : Int), .int .i64 ((6 : Nat) : Int), .int .i64 ((i : Nat) : Int), .int .i64 ((d : Nat) : Int), nv] 87 (0, 0)))
set_option maxHeartbeats 16000000 in
set_option maxRecDepth 100000 in
theorem specEscape {g cap i d : Nat} {a : Option Addr} {l : List Nat} {nv : Value} (w : World) (hb : w.heap[g]? = some (.cells #[.slice a l.length cap, .int .i64 ((i : Nat) : Int), .int .i64 ((0 : Nat) : Int), .int .i64 ((0 : Nat) : Int), .int .i64 ((d : Nat) : Int), nv] 87 (0, 0))) (hL : RxL w g a l) (hi : i ≤ 2000) :
    Calls Tryz.prog 202 #[.pointer (some ⟨g, 0, none⟩)] w fun e w' => OneS w w' g cap d a l nv (escR l i) i e ∧ Kp g none w w' := by
  have hlen := hL.len
  have HPT := hid hL.pts
  obtain ⟨⟨c0, c1, c2, c3, c4, c5⟩, ⟨y1, y2, y3, y4, y5⟩, hl⟩ := blk6c hb
  have hw : IntKind.i64.wrap ((i : Int) + 1) = (i : Int) + 1 := IntWalk.i64_in _ (by omega)
  have hw2 : IntKind.i64.wrap ((i : Int) + 1 + 1) = (i : Int) + 1 + 1 := IntWalk.i64_in _ (by omega)
  have hc1 : ((i + 1 : Nat) : Int) = (i : Int) + 1 := by omega
  have hc2 : ((i + 2 : Nat) : Int) = (i : Int) + 1 + 1 := by omega
  have hb1 := blk6_set (o := 1) (.int .i64 ((i + 1 : Nat) : Int)) hb
  have CP := hid (specPeek _ hb1 (hL.below ((Kp.refl g none w).set 1 _ |>.base hl)) (by omega))
  rw [hc1] at CP hb1
  have HB1 := hid hb1
  obtain ⟨R, hR⟩ : ∃ r, escR l i = r := ⟨_, rfl⟩
  rw [hR]
  unfold escR escAt at hR
  obtain ⟨c, hc⟩ : ∃ c, gN l (i + 1) = c := ⟨_, rfl⟩
  rw [hc] at hR CP
  have HC := hid hc
  clear hb hL hc hb1
  unfold OneS
  by_cases h110 : c = 110
  · subst h110
    have HR := hid (show R = some (10, i + 2) from hR.symm)
    clear hR
    go_enter Tryz.func202, Tryz.ntmps202
    go_wp2_with fail
    refine CP.out.mono ?_
    rintro e w1 ⟨rfl, hq1⟩
    have hb1 := hq1.at HB1.out
    obtain ⟨⟨c0, c1, c2, c3, c4, c5⟩, ⟨y1, y2, y3, y4, y5⟩, hl⟩ := blk6c hb1
    have HB2 := hid (blk6_set (o := 1) (.int .i64 ((i : Int) + 1 + 1)) hb1)
    clear hb1
    go_wp2
    go_ret
    exact ⟨Or.inl ⟨10, i + 2, HR.out, rfl, by rw [hc2]; exact HB2.out⟩, (((Kp.refl g none w).set 1 _).trans hq1.kp (RowOn.refl _ _)).set 1 _⟩
  have e110 : ((c : Int) == 110) = false := by rw [beq_eq_false_iff_ne]; omega
  by_cases h116 : c = 116
  · subst h116
    have HR := hid (show R = some (9, i + 2) from hR.symm)
    clear hR
    go_enter Tryz.func202, Tryz.ntmps202
    go_wp2_with fail
    refine CP.out.mono ?_
    rintro e w1 ⟨rfl, hq1⟩
    have hb1 := hq1.at HB1.out
    obtain ⟨⟨c0, c1, c2, c3, c4, c5⟩, ⟨y1, y2, y3, y4, y5⟩, hl⟩ := blk6c hb1
    have HB2 := hid (blk6_set (o := 1) (.int .i64 ((i : Int) + 1 + 1)) hb1)
    clear hb1
    go_wp2
    go_ret
    exact ⟨Or.inl ⟨9, i + 2, HR.out, rfl, by rw [hc2]; exact HB2.out⟩, (((Kp.refl g none w).set 1 _).trans hq1.kp (RowOn.refl _ _)).set 1 _⟩
  have e116 : ((c : Int) == 116) = false := by rw [beq_eq_false_iff_ne]; omega
  by_cases h114 : c = 114
  · subst h114
    have HR := hid (show R = some (13, i + 2) from hR.symm)
    clear hR
    go_enter Tryz.func202, Tryz.ntmps202
    go_wp2_with fail
    refine CP.out.mono ?_
    rintro e w1 ⟨rfl, hq1⟩
    have hb1 := hq1.at HB1.out
    obtain ⟨⟨c0, c1, c2, c3, c4, c5⟩, ⟨y1, y2, y3, y4, y5⟩, hl⟩ := blk6c hb1
    have HB2 := hid (blk6_set (o := 1) (.int .i64 ((i : Int) + 1 + 1)) hb1)
    clear hb1
    go_wp2
    go_ret
    exact ⟨Or.inl ⟨13, i + 2, HR.out, rfl, by rw [hc2]; exact HB2.out⟩, (((Kp.refl g none w).set 1 _).trans hq1.kp (RowOn.refl _ _)).set 1 _⟩
  have e114 : ((c : Int) == 114) = false := by rw [beq_eq_false_iff_ne]; omega
  have HR := hid hR
  clear hR
  go_enter Tryz.func202, Tryz.ntmps202
  go_wp2_with fail
  refine CP.out.mono ?_
  rintro e w1 ⟨rfl, hq1⟩
  have hb1 := hq1.at HB1.out
  obtain ⟨⟨c0, c1, c2, c3, c4, c5⟩, ⟨y1, y2, y3, y4, y5⟩, hl⟩ := blk6c hb1
  have HB2 := hid (blk6_set (o := 1) (.int .i64 ((i : Int) + 1 + 1)) hb1)
  clear hb1
  by_cases h0 : l.length < i + 2
  · have hgt : (l.length : Int) < (i : Int) + 1 + 1 := by omega
    have hz : c = 0 := by rw [← HC.out]; exact gN_end (by omega)
    have HF := hid (show R = none by rw [← HR.out, if_neg h110, if_neg h116, if_neg h114, if_pos (Or.inl hz)])
    go_wp2_with fail
    refine wp_region_still_lit (by kernel_rfl) (by kernel_rfl) ?_
    change wpStill _ _ (World.drew (w1.setCell ⟨g, 1, none⟩ (.int .i64 ((i : Int) + 1 + 1)))) _ _ _
    repeat still_step
    refine wpStill_nil ?_
    go_wp2_with fail
    refine (specFail (p := 0) 6 i _ (by exact HB2.out)).mono ?_
    rintro e w9 ⟨rfl, h1, h2⟩
    have H1 := hid h1
    have hk9 := Kp.trans (show Kp g none w _ from (((Kp.refl g none w).set 1 _).trans hq1.kp (RowOn.refl _ _)).set 1 _) (show Kp g none (w1.setCell ⟨g, 1, none⟩ (.int .i64 ((i : Int) + 1 + 1))) w9 from ⟨h2.os, h2.tape, h2.output, h2.size, h2.block⟩) (RowOn.refl _ _)
    clear h1
    go_wp2
    go_ret
    exact ⟨Or.inr ⟨i + 2, HF.out, rfl, by omega, by rw [hc2]; exact H1.out⟩, hk9⟩
  · have hgt : ¬ (l.length : Int) < (i : Int) + 1 + 1 := by omega
    cases hle : letN c with
    | true =>
      have HF := hid (show R = none by
        have hle2 : (97 ≤ c ∧ c ≤ 122) ∨ (65 ≤ c ∧ c ≤ 90) ∨ (48 ≤ c ∧ c ≤ 57) := by
          unfold letN at hle
          simp only [Bool.or_eq_true, decide_eq_true_eq] at hle
          omega
        rw [← HR.out, if_neg h110, if_neg h116, if_neg h114, if_pos (by omega)])
      have HLE := hid hle
      clear hle
      go_wp2_with fail
      refine wp_region_still_lit (by kernel_rfl) (by kernel_rfl) ?_
      change wpStill _ _ (World.drew (w1.setCell ⟨g, 1, none⟩ (.int .i64 ((i : Int) + 1 + 1)))) _ _ _
      repeat still_step
      still_call ((specLetter c _).mono fun e w' h => ⟨h.1, h.2.symm⟩)
      rw [HLE.out]
      repeat still_step
      refine wpStill_nil ?_
      go_wp2_with fail
      refine (specFail (p := 0) 6 i _ (by exact HB2.out)).mono ?_
      rintro e w9 ⟨rfl, h1, h2⟩
      have H1 := hid h1
      have hk9 := Kp.trans (show Kp g none w _ from (((Kp.refl g none w).set 1 _).trans hq1.kp (RowOn.refl _ _)).set 1 _) (show Kp g none (w1.setCell ⟨g, 1, none⟩ (.int .i64 ((i : Int) + 1 + 1))) w9 from ⟨h2.os, h2.tape, h2.output, h2.size, h2.block⟩) (RowOn.refl _ _)
      clear h1
      go_wp2
      go_ret
      exact ⟨Or.inr ⟨i + 2, HF.out, rfl, by omega, by rw [hc2]; exact H1.out⟩, hk9⟩
    | false =>
      have HF := hid (show R = some (c, i + 2) by
        have hle2 : ¬ ((97 ≤ c ∧ c ≤ 122) ∨ (65 ≤ c ∧ c ≤ 90) ∨ (48 ≤ c ∧ c ≤ 57)) := by
          unfold letN at hle
          simp only [Bool.or_eq_false_iff, decide_eq_false_iff_not] at hle
          omega
        have hnz : c ≠ 0 := by rw [← HC.out, gN_at (by omega)]; have := (HPT.out _ (List.getElem_mem (by omega : i + 1 < l.length))).1; omega
        rw [← HR.out, if_neg h110, if_neg h116, if_neg h114, if_neg (by omega)])
      have HLE := hid hle
      clear hle
      go_wp2_with fail
      refine wp_region_still_lit (by kernel_rfl) (by kernel_rfl) ?_
      change wpStill _ _ (World.drew (w1.setCell ⟨g, 1, none⟩ (.int .i64 ((i : Int) + 1 + 1)))) _ _ _
      repeat still_step
      still_call ((specLetter c _).mono fun e w' h => ⟨h.1, h.2.symm⟩)
      rw [HLE.out]
      repeat still_step
      refine wpStill_nil ?_
      go_wp2
      go_ret
      exact ⟨Or.inl ⟨c, i + 2, HF.out, rfl, by rw [hc2]; exact HB2.out⟩, ((((Kp.refl g none w).set 1 _).trans hq1.kp (RowOn.refl _ _)).set 1 _).drew⟩
set_option maxHeartbeats 16000000 in
theorem specOne {g cap i d : Nat} {a : Option Addr} {l : List Nat} {nv : Value} (w : World) (hb : w.heap[g]? = some (.cells #[.slice a l.length cap, .int .i64 ((i : Nat) : Int), .int .i64 ((0 : Nat) : Int), .int .i64 ((0 : Nat) : Int), .int .i64 ((d : Nat) : Int), nv] 87 (0, 0))) (hL : RxL w g a l) (hi : i < l.length) :
    Calls Tryz.prog 218 #[.pointer (some ⟨g, 0, none⟩)] w fun e w' => OneS w w' g cap d a l nv (oneAt l i) i e ∧ Kp g none w w' := by
  have hlen := hL.len
  have CP := hid (fun (w' : World) (hq : Qt w w') => specPeek w' (hq.at hb) (hL.qt hq) (by omega))
  have CE := hid (fun (w' : World) (hq : Qt w w') => specEscape w' (hq.at hb) (hL.qt hq) (by omega))
  have HB := hid hb
  obtain ⟨c, hc⟩ : ∃ c, gN l i = c := ⟨_, rfl⟩
  rw [hc] at CP
  have HC := hid hc
  have hw : IntKind.i64.wrap ((i : Int) + 1) = (i : Int) + 1 := IntWalk.i64_in _ (by omega)
  have hc1 : ((i + 1 : Nat) : Int) = (i : Int) + 1 := by omega
  clear hb hL hc
  unfold OneS at CE ⊢
  by_cases h92 : c = 92
  · subst h92
    have HF := hid (show oneAt l i = escR l i by unfold oneAt escR; rw [if_pos HC.out] <;> (cases escAt l i <;> rfl))
    go_enter Tryz.func218, Tryz.ntmps218
    go_wp2_with fail
    refine (CP.out _ (Qt.refl _)).mono ?_
    rintro e w1 ⟨rfl, hq1⟩
    go_wp2_with fail
    refine (CE.out _ hq1).mono ?_
    rintro e w2 ⟨he, hk2⟩
    have hk := hq1.kp.trans hk2 (RowOn.refl _ _)
    rw [← HF.out] at he
    rcases he with ⟨c, j, h1, rfl, h3⟩ | ⟨j, h1, rfl, h2, h3⟩
    · have H1 := hid h1
      have H3 := hid h3
      clear h1 h3
      go_wp2
      go_ret
      exact ⟨Or.inl ⟨c, j, H1.out, rfl, H3.out⟩, hk⟩
    · have H1 := hid h1
      have H3 := hid h3
      clear h1 h3
      go_wp2
      go_ret
      exact ⟨Or.inr ⟨j, H1.out, rfl, h2, H3.out⟩, hk⟩
  · have e92 : ((c : Int) == 92) = false := by rw [beq_eq_false_iff_ne]; omega
    have HF := hid (show oneAt l i = some (c, i + 1) by unfold oneAt; rw [if_neg (by rw [HC.out]; exact h92), HC.out])
    go_enter Tryz.func218, Tryz.ntmps218
    go_wp2_with fail
    refine (CP.out _ (Qt.refl _)).mono ?_
    rintro e w1 ⟨rfl, hq1⟩
    go_wp2_with fail
    refine (CP.out _ hq1).mono ?_
    rintro e w2 ⟨rfl, hq2⟩
    have hq := hq1.trans hq2
    have hb1 := hq.at HB.out
    obtain ⟨⟨c0, c1, c2, c3, c4, c5⟩, ⟨y1, y2, y3, y4, y5⟩, hl⟩ := blk6c hb1
    have HB2 := hid (blk6_set (o := 1) (.int .i64 ((i : Int) + 1)) hb1)
    clear hb1
    go_wp2
    go_ret
    exact ⟨Or.inl ⟨c, i + 1, HF.out, rfl, by rw [hc1]; exact HB2.out⟩, hq.kp.set 1 _⟩
theorem specSign (c : Nat) (w : World) : Calls Tryz.prog 201 #[.int .i64 ((c : Nat) : Int)] w fun e w' => e = .returned (.int .i64 (signOf c)) ∧ w = w' := by
  by_cases h1 : c = 46
  · subst h1
    go_enter Tryz.func201, Tryz.ntmps201
    go_wp2
    go_ret
    exact ⟨rfl, rfl⟩
  by_cases h2 : c = 94
  · subst h2
    go_enter Tryz.func201, Tryz.ntmps201
    go_wp2
    go_ret
    exact ⟨rfl, rfl⟩
  have e1 : ((c : Int) == 46) = false := by rw [beq_eq_false_iff_ne]; omega
  have e2 : ((c : Int) == 94) = false := by rw [beq_eq_false_iff_ne]; omega
  have HF := hid (show signOf c = 6 by unfold signOf; rw [if_neg h1, if_neg h2])
  rw [HF.out]
  go_enter Tryz.func201, Tryz.ntmps201
  go_wp2
  go_ret
  exact ⟨rfl, rfl⟩
end Go.Proofs.YtomcoilmpkpoeaaGreatDoor
