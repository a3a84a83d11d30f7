/-
  What is proved here: the pattern reader's escapes and ends of items in impl. No condition but that the reader and its list lie in memory.
-/
import Derived.Test.YtkmkencodcfloaaGreatDoorRxI1
namespace Go.Proofs.YtkmkencodcfloaaGreatDoor
open Go.RowKit
set_option linter.unusedVariables false
set_option linter.unusedSimpArgs false

theorem Kp.weak {g : Nat} {r : Option Nat} {w w' : World} (h : Kp g none w w') : Kp g r w w' := ⟨h.os, h.tape, h.output, h.size, fun b hb hg _ => h.block b hb hg (by simp)⟩
theorem blk4_set {w : World} {g o : Nat} {x0 x1 x2 x3 : Value} {t : TypeId} (v : Value) (h : w.heap[g]? = some (.cells #[x0, x1, x2, x3] t (0, 0))) :
    (w.setCell ⟨g, o, none⟩ v).heap[g]? = some (.cells (#[x0, x1, x2, x3].setIfInBounds o v) t (0, 0)) := heap_setCell_same w g o _ _ v h
/-- a reader that has come on, and an answer of two ints -/
def OneE (w w' : World) (g cap d : Nat) (a : Option Addr) (l : List Nat) (nv : Value) (i : Nat) (r : Option (Nat × Nat)) (e : Ending) : Prop :=
  (∃ c j, r = some (c, j) ∧ e = .returned (.tuple #[.int .i64 (c : Int), .int .i64 0]) ∧ w'.heap[g]? = some (.cells #[.slice a l.length cap, .int .i64 ((j : Nat) : Int), .int .i64 (d : Int), nv] 108 (0, 0))) ∨ (r = none ∧ (∃ x : Int, e = .returned (.tuple #[.int .i64 x, .int .i64 6])) ∧ w'.heap[g]? = some (.cells #[.slice a l.length cap, .int .i64 ((i : Nat) : Int), .int .i64 (d : Int), nv] 108 (0, 0)))
def escR (l : List Nat) (i : Nat) : Option (Nat × Nat) := match escAt l i with | none => none | some c => some (c, i + 2)
set_option maxHeartbeats 8000000 in
theorem implEscape {g cap i d : Nat} {a : Option Addr} {l : List Nat} {nv : Value} (w : World) (hb : w.heap[g]? = some (.cells #[.slice a l.length cap, .int .i64 (i : Int), .int .i64 (d : Int), nv] 108 (0, 0)))
    (hL : RxL w g a l) (hi : i ≤ 1000) :
    Calls Tryz.prog 164 #[.pointer (some ⟨g, 0, none⟩)] w fun e w' => OneE w w' g cap d a l nv i (escR l i) e ∧ Kp g none w w' := by
  have CA := hid (fun (w' : World) (hq : Qt w w') => implAhead (k := 1) w' (hq.at hb) (hL.qt hq) (by omega) (by decide))
  have HB := hid hb
  have hc4 := gN_le hL.pts (i + 1)
  obtain ⟨R, hR⟩ : ∃ r, escR l i = r := ⟨_, rfl⟩
  rw [hR]
  unfold escR escAt at hR
  obtain ⟨c, hc⟩ : ∃ c, gN l (i + 1) = c := ⟨_, rfl⟩
  rw [hc] at hR CA hc4
  have hw : IntKind.i64.wrap ((i : Int) + 2) = (i : Int) + 2 := IntWalk.i64_in _ (by omega)
  clear hb hL hc
  unfold OneE
  by_cases h1 : c = 110
  · subst h1
    have HR := hid (show R = some (10, i + 2) from hR.symm)
    clear hR
    go_enter Tryz.func164, Tryz.ntmps164
    go_wp2_with fail
    refine (CA.out _ (Qt.refl _)).mono ?_
    rintro e w1 ⟨rfl, hq1⟩
    have hb1 := hq1.at HB.out
    obtain ⟨c0, c1, c2, c3, y0, y1, y2, y3, hl⟩ := blk4 hb1
    have HN := hid (blk4_set (o := 1) (.int .i64 ((i + 2 : Nat) : Int)) hb1)
    rw [show ((i + 2 : Nat) : Int) = (i : Int) + 2 by omega] at HN
    clear hb1
    go_wp2_with (go_at_call 51; refine (within_any _ _ _ _).mono ?_; rintro e wi ⟨rfl, rfl⟩)
    go_ret2
    exact ⟨Or.inl ⟨10, i + 2, HR.out, rfl, by rw [show ((i + 2 : Nat) : Int) = (i : Int) + 2 by omega]; exact HN.out⟩, (hq1.kp).set 1 _⟩
  by_cases h2 : c = 116
  · subst h2
    have HR := hid (show R = some (9, i + 2) from hR.symm)
    clear hR
    go_enter Tryz.func164, Tryz.ntmps164
    go_wp2_with fail
    refine (CA.out _ (Qt.refl _)).mono ?_
    rintro e w1 ⟨rfl, hq1⟩
    have hb1 := hq1.at HB.out
    obtain ⟨c0, c1, c2, c3, y0, y1, y2, y3, hl⟩ := blk4 hb1
    have HN := hid (blk4_set (o := 1) (.int .i64 ((i + 2 : Nat) : Int)) hb1)
    rw [show ((i + 2 : Nat) : Int) = (i : Int) + 2 by omega] at HN
    clear hb1
    go_wp2_with (go_at_call 51; refine (within_any _ _ _ _).mono ?_; rintro e wi ⟨rfl, rfl⟩)
    go_ret2
    exact ⟨Or.inl ⟨9, i + 2, HR.out, rfl, by rw [show ((i + 2 : Nat) : Int) = (i : Int) + 2 by omega]; exact HN.out⟩, (hq1.kp).set 1 _⟩
  by_cases h3 : c = 114
  · subst h3
    have HR := hid (show R = some (13, i + 2) from hR.symm)
    clear hR
    go_enter Tryz.func164, Tryz.ntmps164
    go_wp2_with fail
    refine (CA.out _ (Qt.refl _)).mono ?_
    rintro e w1 ⟨rfl, hq1⟩
    have hb1 := hq1.at HB.out
    obtain ⟨c0, c1, c2, c3, y0, y1, y2, y3, hl⟩ := blk4 hb1
    have HN := hid (blk4_set (o := 1) (.int .i64 ((i + 2 : Nat) : Int)) hb1)
    rw [show ((i + 2 : Nat) : Int) = (i : Int) + 2 by omega] at HN
    clear hb1
    go_wp2_with (go_at_call 51; refine (within_any _ _ _ _).mono ?_; rintro e wi ⟨rfl, rfl⟩)
    go_ret2
    exact ⟨Or.inl ⟨13, i + 2, HR.out, rfl, by rw [show ((i + 2 : Nat) : Int) = (i : Int) + 2 by omega]; exact HN.out⟩, (hq1.kp).set 1 _⟩
  rw [if_neg h1, if_neg h2, if_neg h3] at hR
  have g1 : ((c : Int) == 110) = false := by rw [beq_eq_false_iff_ne]; omega
  have g2 : ((c : Int) == 116) = false := by rw [beq_eq_false_iff_ne]; omega
  have g3 : ((c : Int) == 114) = false := by rw [beq_eq_false_iff_ne]; omega
  have hB1 : (48 ≤ c ∧ c ≤ 57 → inB 48 (c : Int) 57 = true) ∧ (¬ (48 ≤ c ∧ c ≤ 57) → inB 48 (c : Int) 57 = false) := ⟨fun h => inB_true (by omega), fun h => inB_false (by omega)⟩
  have hB2 : (65 ≤ c ∧ c ≤ 90 → inB 65 (c : Int) 90 = true) ∧ (¬ (65 ≤ c ∧ c ≤ 90) → inB 65 (c : Int) 90 = false) := ⟨fun h => inB_true (by omega), fun h => inB_false (by omega)⟩
  have hB3 : (97 ≤ c ∧ c ≤ 122 → inB 97 (c : Int) 122 = true) ∧ (¬ (97 ≤ c ∧ c ≤ 122) → inB 97 (c : Int) 122 = false) := ⟨fun h => inB_true (by omega), fun h => inB_false (by omega)⟩
  by_cases hz : c = 0
  · subst hz
    have HR := hid (show R = none from hR.symm)
    clear hR hB1 hB2 hB3
    go_enter Tryz.func164, Tryz.ntmps164
    go_wp2_with fail
    refine (CA.out _ (Qt.refl _)).mono ?_
    rintro e w1 ⟨rfl, hq1⟩
    have hb1 := hq1.at HB.out
    obtain ⟨c0, c1, c2, c3, y0, y1, y2, y3, hl⟩ := blk4 hb1
    have HN := hid hb1
    clear hb1
    go_wp2_with (go_at_call 51; refine (within_any _ _ _ _).mono ?_; rintro e wi ⟨rfl, rfl⟩)
    go_ret2
    exact ⟨Or.inr ⟨HR.out, ⟨_, rfl⟩, HN.out⟩, hq1.kp⟩
  have g4 : ((c : Int) == 0) = false := by rw [beq_eq_false_iff_ne]; omega
  by_cases hd1 : 48 ≤ c ∧ c ≤ 57
  · have HR := hid (show R = none by rw [← hR, if_pos (Or.inr (Or.inl hd1))])
    have b1 := hB1.1 hd1
    clear hR hB1 hB2 hB3 hd1
    go_enter Tryz.func164, Tryz.ntmps164
    go_wp2_with fail
    refine (CA.out _ (Qt.refl _)).mono ?_
    rintro e w1 ⟨rfl, hq1⟩
    have hb1 := hq1.at HB.out
    obtain ⟨c0, c1, c2, c3, y0, y1, y2, y3, hl⟩ := blk4 hb1
    have HN := hid hb1
    clear hb1
    go_wp2_with (go_at_call 51; refine (within_any _ _ _ _).mono ?_; rintro e wi ⟨rfl, rfl⟩)
    go_ret2
    exact ⟨Or.inr ⟨HR.out, ⟨_, rfl⟩, HN.out⟩, hq1.kp⟩
  have b1 := hB1.2 hd1
  by_cases hd2 : 65 ≤ c ∧ c ≤ 90
  · have HR := hid (show R = none by rw [← hR, if_pos (Or.inr (Or.inr (Or.inl hd2)))])
    have b2 := hB2.1 hd2
    clear hR hB1 hB2 hB3 hd1 hd2
    go_enter Tryz.func164, Tryz.ntmps164
    go_wp2_with fail
    refine (CA.out _ (Qt.refl _)).mono ?_
    rintro e w1 ⟨rfl, hq1⟩
    have hb1 := hq1.at HB.out
    obtain ⟨c0, c1, c2, c3, y0, y1, y2, y3, hl⟩ := blk4 hb1
    have HN := hid hb1
    clear hb1
    go_wp2_with (go_at_call 51; refine (within_any _ _ _ _).mono ?_; rintro e wi ⟨rfl, rfl⟩)
    go_ret2
    exact ⟨Or.inr ⟨HR.out, ⟨_, rfl⟩, HN.out⟩, hq1.kp⟩
  have b2 := hB2.2 hd2
  by_cases hd3 : 97 ≤ c ∧ c ≤ 122
  · have HR := hid (show R = none by rw [← hR, if_pos (Or.inr (Or.inr (Or.inr hd3)))])
    have b3 := hB3.1 hd3
    clear hR hB1 hB2 hB3 hd1 hd2 hd3
    go_enter Tryz.func164, Tryz.ntmps164
    go_wp2_with fail
    refine (CA.out _ (Qt.refl _)).mono ?_
    rintro e w1 ⟨rfl, hq1⟩
    have hb1 := hq1.at HB.out
    obtain ⟨c0, c1, c2, c3, y0, y1, y2, y3, hl⟩ := blk4 hb1
    have HN := hid hb1
    clear hb1
    go_wp2_with (go_at_call 51; refine (within_any _ _ _ _).mono ?_; rintro e wi ⟨rfl, rfl⟩)
    go_ret2
    exact ⟨Or.inr ⟨HR.out, ⟨_, rfl⟩, HN.out⟩, hq1.kp⟩
  have b3 := hB3.2 hd3
  have HR := hid (show R = some (c, i + 2) by rw [← hR, if_neg (by simp only [not_or]; exact ⟨hz, hd1, hd2, hd3⟩)])
  clear hR hB1 hB2 hB3 hd1 hd2 hd3 h1 h2 h3 hz
  go_enter Tryz.func164, Tryz.ntmps164
  go_wp2_with fail
  refine (CA.out _ (Qt.refl _)).mono ?_
  rintro e w1 ⟨rfl, hq1⟩
  have hb1 := hq1.at HB.out
  obtain ⟨c0, c1, c2, c3, y0, y1, y2, y3, hl⟩ := blk4 hb1
  have HN := hid (blk4_set (o := 1) (.int .i64 ((i + 2 : Nat) : Int)) hb1)
  rw [show ((i + 2 : Nat) : Int) = (i : Int) + 2 by omega] at HN
  clear hb1
  go_wp2_with (go_at_call 51; refine (within_any _ _ _ _).mono ?_; rintro e wi ⟨rfl, rfl⟩)
  go_ret2
  exact ⟨Or.inl ⟨c, i + 2, HR.out, rfl, by rw [show ((i + 2 : Nat) : Int) = (i : Int) + 2 by omega]; exact HN.out⟩, (hq1.kp).set 1 _⟩
set_option maxHeartbeats 8000000 in
theorem implEnd {g cap i d : Nat} {a : Option Addr} {l : List Nat} {nv : Value} (w : World) (hb : w.heap[g]? = some (.cells #[.slice a l.length cap, .int .i64 (i : Int), .int .i64 (d : Int), nv] 108 (0, 0)))
    (hL : RxL w g a l) (hi : i < l.length) :
    Calls Tryz.prog 170 #[.pointer (some ⟨g, 0, none⟩)] w fun e w' => OneE w w' g cap d a l nv i (oneAt l i) e ∧ Kp g none w w' := by
  have hlen := hL.len
  have CX := hid (implNext w hb hL (by omega))
  have CE := hid (fun (w' : World) (hq : Qt w w') => implEscape w' (hq.at hb) (hL.qt hq) (by omega))
  have HB := hid hb
  by_cases h : gN l i = 92
  · have HR := hid (show oneAt l i = escR l i by unfold oneAt escR; rw [if_pos h]; cases escAt l i <;> rfl)
    rw [h] at CX
    rw [HR.out]
    clear hb h
    unfold OneE at CE
    unfold OneE
    go_enter Tryz.func170, Tryz.ntmps170
    go_wp2_with fail
    refine CX.out.mono ?_
    rintro e w1 ⟨rfl, hq1⟩
    go_wp2_with fail
    refine (CE.out _ hq1).mono ?_
    rintro e w2 ⟨he, hk2⟩
    rcases he with ⟨c, j, h1, rfl, h2⟩ | ⟨h1, ⟨x, rfl⟩, h2⟩
    · have H1 := hid h1
      have H2 := hid h2
      clear h1 h2
      go_wp2
      go_ret2
      exact ⟨Or.inl ⟨c, j, H1.out, rfl, H2.out⟩, (hq1.kp).trans hk2 (RowOn.refl _ _)⟩
    · have H1 := hid h1
      have H2 := hid h2
      clear h1 h2
      go_wp2
      go_ret2
      exact ⟨Or.inr ⟨H1.out, ⟨x, rfl⟩, H2.out⟩, (hq1.kp).trans hk2 (RowOn.refl _ _)⟩
  · have HR := hid (show oneAt l i = some (gN l i, i + 1) by unfold oneAt; rw [if_neg h])
    rw [HR.out]
    have g1 : ((gN l i : Int) == 92) = false := by rw [beq_eq_false_iff_ne]; omega
    have hcle := gN_le hL.pts i
    obtain ⟨lb, lo, rfl, hlb, hcl⟩ := hL.cel (by omega)
    have hcell := hcl i hi
    rw [← gN_at hi] at hcell
    obtain ⟨c, hc⟩ : ∃ c, gN l i = c := ⟨_, rfl⟩
    rw [hc] at CX g1 hcle hcell ⊢
    have hw : IntKind.i64.wrap ((i : Int) + 1) = (i : Int) + 1 := IntWalk.i64_in _ (by omega)
    have hw2 : IntKind.i64.wrap ((i : Int) + 1 - 1) = (i : Int) := by rw [show (i : Int) + 1 - 1 = (i : Int) by omega]; exact IntWalk.i64_in _ (by omega)
    have hw3 : IntKind.i64.wrap (i : Int) = (i : Int) := IntWalk.i64_in _ (by omega)
    have hi0 : (0 : Int) ≤ (i : Int) := by omega
    have hi1 : (i : Int) < (l.length : Int) := by omega
    have hlg : ¬ lb = g := by omega
    have HCELL := hid hcell
    clear hb h hc hcl hL CE hcell
    unfold OneE
    go_enter Tryz.func170, Tryz.ntmps170
    go_wp2_with fail
    refine CX.out.mono ?_
    rintro e w1 ⟨rfl, hq1⟩
    have hb1 := hq1.at HB.out
    have hcell1 : w1.cell? ⟨lb, lo + i, none⟩ = some (.int .i64 (c : Int)) := by
      obtain ⟨m, rfl⟩ := hq1
      exact HCELL.out
    obtain ⟨c0, c1, c2, c3, y0, y1, y2, y3, hl⟩ := blk4 hb1
    have HN := hid (blk4_set (o := 1) (.int .i64 ((i + 1 : Nat) : Int)) hb1)
    rw [show ((i + 1 : Nat) : Int) = (i : Int) + 1 by omega] at HN
    clear hb1
    go_wp2_with fail
    go_quiet (fail)
    go_wp2
    go_ret2
    refine ⟨Or.inl ⟨c, i + 1, rfl, rfl, ?_⟩, ((hq1.kp).set 1 _).drewN _⟩
    rw [show ((i + 1 : Nat) : Int) = (i : Int) + 1 by omega]
    exact HN.out
end Go.Proofs.YtkmkencodcfloaaGreatDoor
