/-
  What is proved here: the pattern reader's numbers, repetitions, escapes and ends of items in impl. No condition but that the reader and its list lie in memory.
-/
import Derived.Test.YtkmkencodcfloaaGreatDoorRxI0
import Derived.Test.YtkmkencodcfloaaGreatDoorRxNum
namespace Go.Proofs.YtkmkencodcfloaaGreatDoor
open Go.RowKit
set_option linter.unusedVariables false
set_option linter.unusedSimpArgs false

def NumE (l : List Nat) (i k : Nat) (e : Ending) : Prop :=
  (∃ n q, numAt l (i + k) = some (n, i + q) ∧ e = .returned (.tuple #[.int .i64 (n : Int), .int .i64 (q : Int)])) ∨ (numAt l (i + k) = none ∧ ∃ b : Int, e = .returned (.tuple #[.int .i64 (-1), .int .i64 b]))
def TimesE (l : List Nat) (i : Nat) (e : Ending) : Prop :=
  (∃ lo hi q, timesAt l i = some (lo, hi, i + q) ∧ 0 < q ∧ e = .returned (.tuple #[.int .i64 lo, .int .i64 hi, .int .i64 (q : Int)])) ∨ (timesAt l i = none ∧ e = .returned (.tuple #[.int .i64 0, .int .i64 0, .int .i64 0]))
set_option maxHeartbeats 8000000 in
theorem implNumber {g cap i d : Nat} {a : Option Addr} {l : List Nat} {nv : Value} (k : Nat) (w : World) (hb : w.heap[g]? = some (.cells #[.slice a l.length cap, .int .i64 (i : Int), .int .i64 (d : Int), nv] 108 (0, 0)))
    (hL : RxL w g a l) (hi : i ≤ 1000) (hk : k ≤ 1200) :
    Calls Tryz.prog 165 #[.pointer (some ⟨g, 0, none⟩), .int .i64 (k : Int)] w fun e w' => NumE l i k e ∧ Qt w w' := by
  have CA := hid (fun (m : Nat) (w' : World) (hq : Qt w w') (hm : m ≤ 2000) => implAhead (k := m) w' (hq.at hb) (hL.qt hq) (by omega) hm)
  have hpt := fun m => gN_le hL.pts m
  have HPT := hid hpt
  clear hb hL hpt
  obtain ⟨p, hp⟩ : ∃ p, i + k = p := ⟨_, rfl⟩
  have HP := hid hp
  have HPJ := hid (fun j => show i + (k + j) = p + j by omega)
  unfold NumE
  rw [hp]
  obtain ⟨R, hR⟩ : ∃ r, numAt l p = r := ⟨_, rfl⟩
  rw [hR]
  have HR := hid hR
  clear hp hR
  go_enter Tryz.func165, Tryz.ntmps165
  go_wp2_with fail
  refine (CA.out k _ (Qt.refl _) (by omega)).mono ?_
  rintro e w1 ⟨rfl, hq1⟩
  go_wp2
  go_loopw [1, 7, 8] (fun bv nv cv wr => ∃ j : Nat, j ≤ 3 ∧ j ≤ (runD l p).length ∧ bv = .int .i64 ((k + j : Nat) : Int) ∧ nv = .int .i64 (valNd ((runD l p).take j) : Int) ∧ cv = .int .i64 (gN l (p + j) : Int) ∧ Qt w wr) (fun bv _ _ _ => 1300 - (intOf bv).toNat)
  case atStart => exact ⟨0, by omega, Nat.zero_le _, rfl, rfl, by rw [HP.out]; rfl, hq1⟩
  case round =>
    obtain ⟨j, hj3, hjl, rfl, rfl, rfl, hq⟩ := hrel
    have hkj : ((k + j : Nat) : Int) = (k : Int) + (j : Int) := by omega
    have hvs := valNd_small hj3 hjl
    have hcle := HPT.out (p + j)
    by_cases hgo : j < 3 ∧ j < (runD l p).length
    · obtain ⟨e1, d1⟩ := run_take l p j hgo.2
      rw [digN_iff] at d1
      have hb : inB 48 (gN l (p + j) : Int) 57 = true := inB_true (by omega)
      have hlt : ((k + j : Nat) : Int) < (k : Int) + 3 := by omega
      have HV := hid (show valNd ((runD l p).take (j + 1)) = 10 * valNd ((runD l p).take j) + (gN l (p + j) - 48) by rw [e1, valNd_snoc])
      have hv2 := hvs.2 (by omega)
      obtain ⟨v, hv⟩ : ∃ v, valNd ((runD l p).take j) = v := ⟨_, rfl⟩
      obtain ⟨c, hc⟩ : ∃ c, gN l (p + j) = c := ⟨_, rfl⟩
      rw [hv] at HV hv2 ⊢
      rw [hc] at HV hb d1 ⊢
      have hj2 : j < (runD l p).length := hgo.2
      obtain ⟨m, hm⟩ : ∃ m, k + j = m := ⟨_, rfl⟩
      rw [hm] at hlt ⊢
      have hm3 : m ≤ 1300 := by omega
      have HM := hid (show k + (j + 1) = m + 1 by omega)
      have HA := hid (HPJ.out (j + 1))
      have hj33 : j < 3 := hgo.1
      have hw1 : IntKind.i64.wrap (10 * (v : Int)) = 10 * (v : Int) := IntWalk.i64_in _ (by omega)
      have hw2 : IntKind.i64.wrap (10 * (v : Int) + (c : Int)) = 10 * (v : Int) + (c : Int) := IntWalk.i64_in _ (by omega)
      have hw3 : IntKind.i64.wrap (10 * (v : Int) + (c : Int) - 48) = 10 * (v : Int) + (c : Int) - 48 := IntWalk.i64_in _ (by omega)
      have HL := hid (And.intro hj2 hj33)
      have CA1 := hid (fun (w' : World) (hq : Qt w w') => CA.out (m + 1) w' hq (by omega))
      rw [show ((m + 1 : Nat) : Int) = (m : Int) + 1 by omega] at CA1
      have d11 := d1.1
      clear hgo hjl hj3 hv hc e1 hkj hvs hm hj2 hj33 d1
      go_wp2_with (go_at_call 51; refine (within_any _ _ _ _).mono ?_; rintro e wi ⟨rfl, rfl⟩)
      refine (CA1.out _ hq).mono ?_
      rintro e w2 ⟨rfl, hq2⟩
      go_wp2
      go_roundw
      case rel =>
        refine ⟨j + 1, by have := HL.out; omega, by have := HL.out; omega, by rw [HM.out]; go_num, by rw [HV.out]; congr 1; omega, ?_, hq.trans hq2⟩
        rw [← HA.out, HM.out]
      case measure => simp [intOf]; omega
    · have hje : j = 3 ∨ j = (runD l p).length := by omega
      have hnum := num_three hj3 hjl hje
      rw [HR.out] at hnum
      have hstop : (j < 3 ∧ inB 48 (gN l (p + j) : Int) 57 = false) ∨ (j = 3) := by
        by_cases h3 : j = 3
        · exact Or.inr h3
        · left
          have h4 : j = (runD l p).length := by omega
          refine ⟨by omega, inB_false ?_⟩
          have := run_stop l p
          rw [← h4] at this
          have h5 : ¬ (48 ≤ gN l (p + j) ∧ gN l (p + j) ≤ 57) := fun h => by rw [digN_iff.2 h] at this; cases this
          omega
      obtain ⟨v, hv⟩ : ∃ v, valNd ((runD l p).take j) = v := ⟨_, rfl⟩
      obtain ⟨c, hc⟩ : ∃ c, gN l (p + j) = c := ⟨_, rfl⟩
      obtain ⟨c0, hc0⟩ : ∃ c, gN l p = c := ⟨_, rfl⟩
      rw [hv] at hnum ⊢
      rw [hc] at hstop ⊢
      rw [hc0] at hnum
      have HNUM := hid hnum
      have CA0 := hid (fun (w' : World) (hq : Qt w w') => CA.out k w' hq (by omega))
      rw [HP.out, hc0] at CA0
      obtain ⟨m, hm⟩ : ∃ m, k + j = m := ⟨_, rfl⟩
      rw [hm]
      have HMM := hid (show p + j = i + m by have := HP.out; omega)
      have hbt : ∀ c : Int, inB 48 c 57 = true ∨ inB 48 c 57 = false := fun c => by cases inB 48 c 57 <;> simp
      have hkj2 : m = k + j := hm.symm
      have hvv := hvs.1
      rw [hv] at hvv
      clear hgo hjl hv hc hc0 hkj hvs hm hje hnum
      rcases hstop with ⟨h3, hbf⟩ | h3
      · rcases HNUM.out with ⟨hbad, hnone⟩ | ⟨hgood, hsome⟩
        · have HE := hid hnone
          by_cases h0 : j = 0
          · have g0 : ((m : Int) == (k : Int)) = true := by rw [beq_iff_eq]; omega
            clear hbad hnone h0 HNUM hkj2
            go_wp2_with (go_at_call 51; refine (within_any _ _ _ _).mono ?_; rintro e wi ⟨rfl, rfl⟩)
            go_wp2
            go_ret2
            exact ⟨Or.inr ⟨HE.out, _, rfl⟩, hq⟩
          · have g0 : ((m : Int) == (k : Int)) = false := by rw [beq_eq_false_iff_ne]; omega
            by_cases h60 : 60 < v
            · have g60 : (60 : Int) < (v : Int) := by omega
              clear hbad hnone h0 HNUM hkj2
              go_wp2_with (go_at_call 51; refine (within_any _ _ _ _).mono ?_; rintro e wi ⟨rfl, rfl⟩)
              go_wp2
              go_ret2
              exact ⟨Or.inr ⟨HE.out, _, rfl⟩, hq⟩
            · have g60 : ¬ (60 : Int) < (v : Int) := by omega
              have hb2 : c0 = 48 ∧ 1 < j := by omega
              have g48 : ((c0 : Int) == 48) = true := by rw [beq_iff_eq]; omega
              have gk : (k : Int) + 1 < (m : Int) := by omega
              clear hbad hnone h0 HNUM hkj2 hb2
              go_wp2_with (go_at_call 51; refine (within_any _ _ _ _).mono ?_; rintro e wi ⟨rfl, rfl⟩)
              refine (CA0.out _ hq).mono ?_
              rintro e w5 ⟨rfl, hq5⟩
              go_wp2
              go_ret2
              exact ⟨Or.inr ⟨HE.out, _, rfl⟩, hq.trans hq5⟩
        · have HE := hid hsome
          have g0 : ((m : Int) == (k : Int)) = false := by rw [beq_eq_false_iff_ne]; omega
          have g60 : ¬ (60 : Int) < (v : Int) := by omega
          by_cases h48 : c0 = 48
          · have g48 : ((c0 : Int) == 48) = true := by rw [beq_iff_eq]; omega
            have gk : ¬ (k : Int) + 1 < (m : Int) := by omega
            clear hgood hsome HNUM hkj2 h48
            go_wp2_with (go_at_call 51; refine (within_any _ _ _ _).mono ?_; rintro e wi ⟨rfl, rfl⟩)
            refine (CA0.out _ hq).mono ?_
            rintro e w5 ⟨rfl, hq5⟩
            go_wp2
            go_ret2
            exact ⟨Or.inl ⟨v, m, by rw [HE.out, HMM.out], rfl⟩, hq.trans hq5⟩
          · have g48 : ((c0 : Int) == 48) = false := by rw [beq_eq_false_iff_ne]; omega
            clear hgood hsome HNUM hkj2 h48
            go_wp2_with (go_at_call 51; refine (within_any _ _ _ _).mono ?_; rintro e wi ⟨rfl, rfl⟩)
            refine (CA0.out _ hq).mono ?_
            rintro e w5 ⟨rfl, hq5⟩
            go_wp2
            go_ret2
            exact ⟨Or.inl ⟨v, m, by rw [HE.out, HMM.out], rfl⟩, hq.trans hq5⟩
      · have hlt3 : ¬ (m : Int) < (k : Int) + 3 := by omega
        rcases hbt (c : Int) with hbf | hbf
        · rcases HNUM.out with ⟨hbad, hnone⟩ | ⟨hgood, hsome⟩
          · have HE := hid hnone
            by_cases h0 : j = 0
            · have g0 : ((m : Int) == (k : Int)) = true := by rw [beq_iff_eq]; omega
              clear hbad hnone h0 HNUM hkj2
              go_wp2_with (go_at_call 51; refine (within_any _ _ _ _).mono ?_; rintro e wi ⟨rfl, rfl⟩)
              go_wp2
              go_ret2
              exact ⟨Or.inr ⟨HE.out, _, rfl⟩, hq⟩
            · have g0 : ((m : Int) == (k : Int)) = false := by rw [beq_eq_false_iff_ne]; omega
              by_cases h60 : 60 < v
              · have g60 : (60 : Int) < (v : Int) := by omega
                clear hbad hnone h0 HNUM hkj2
                go_wp2_with (go_at_call 51; refine (within_any _ _ _ _).mono ?_; rintro e wi ⟨rfl, rfl⟩)
                go_wp2
                go_ret2
                exact ⟨Or.inr ⟨HE.out, _, rfl⟩, hq⟩
              · have g60 : ¬ (60 : Int) < (v : Int) := by omega
                have hb2 : c0 = 48 ∧ 1 < j := by omega
                have g48 : ((c0 : Int) == 48) = true := by rw [beq_iff_eq]; omega
                have gk : (k : Int) + 1 < (m : Int) := by omega
                clear hbad hnone h0 HNUM hkj2 hb2
                go_wp2_with (go_at_call 51; refine (within_any _ _ _ _).mono ?_; rintro e wi ⟨rfl, rfl⟩)
                refine (CA0.out _ hq).mono ?_
                rintro e w5 ⟨rfl, hq5⟩
                go_wp2
                go_ret2
                exact ⟨Or.inr ⟨HE.out, _, rfl⟩, hq.trans hq5⟩
          · have HE := hid hsome
            have g0 : ((m : Int) == (k : Int)) = false := by rw [beq_eq_false_iff_ne]; omega
            have g60 : ¬ (60 : Int) < (v : Int) := by omega
            by_cases h48 : c0 = 48
            · exfalso
              omega
            · have g48 : ((c0 : Int) == 48) = false := by rw [beq_eq_false_iff_ne]; omega
              clear hgood hsome HNUM hkj2 h48
              go_wp2_with (go_at_call 51; refine (within_any _ _ _ _).mono ?_; rintro e wi ⟨rfl, rfl⟩)
              refine (CA0.out _ hq).mono ?_
              rintro e w5 ⟨rfl, hq5⟩
              go_wp2
              go_ret2
              exact ⟨Or.inl ⟨v, m, by rw [HE.out, HMM.out], rfl⟩, hq.trans hq5⟩
        · rcases HNUM.out with ⟨hbad, hnone⟩ | ⟨hgood, hsome⟩
          · have HE := hid hnone
            by_cases h0 : j = 0
            · have g0 : ((m : Int) == (k : Int)) = true := by rw [beq_iff_eq]; omega
              clear hbad hnone h0 HNUM hkj2
              go_wp2_with (go_at_call 51; refine (within_any _ _ _ _).mono ?_; rintro e wi ⟨rfl, rfl⟩)
              go_wp2
              go_ret2
              exact ⟨Or.inr ⟨HE.out, _, rfl⟩, hq⟩
            · have g0 : ((m : Int) == (k : Int)) = false := by rw [beq_eq_false_iff_ne]; omega
              by_cases h60 : 60 < v
              · have g60 : (60 : Int) < (v : Int) := by omega
                clear hbad hnone h0 HNUM hkj2
                go_wp2_with (go_at_call 51; refine (within_any _ _ _ _).mono ?_; rintro e wi ⟨rfl, rfl⟩)
                go_wp2
                go_ret2
                exact ⟨Or.inr ⟨HE.out, _, rfl⟩, hq⟩
              · have g60 : ¬ (60 : Int) < (v : Int) := by omega
                have hb2 : c0 = 48 ∧ 1 < j := by omega
                have g48 : ((c0 : Int) == 48) = true := by rw [beq_iff_eq]; omega
                have gk : (k : Int) + 1 < (m : Int) := by omega
                clear hbad hnone h0 HNUM hkj2 hb2
                go_wp2_with (go_at_call 51; refine (within_any _ _ _ _).mono ?_; rintro e wi ⟨rfl, rfl⟩)
                refine (CA0.out _ hq).mono ?_
                rintro e w5 ⟨rfl, hq5⟩
                go_wp2
                go_ret2
                exact ⟨Or.inr ⟨HE.out, _, rfl⟩, hq.trans hq5⟩
          · have HE := hid hsome
            have g0 : ((m : Int) == (k : Int)) = false := by rw [beq_eq_false_iff_ne]; omega
            have g60 : ¬ (60 : Int) < (v : Int) := by omega
            by_cases h48 : c0 = 48
            · exfalso
              omega
            · have g48 : ((c0 : Int) == 48) = false := by rw [beq_eq_false_iff_ne]; omega
              clear hgood hsome HNUM hkj2 h48
              go_wp2_with (go_at_call 51; refine (within_any _ _ _ _).mono ?_; rintro e wi ⟨rfl, rfl⟩)
              refine (CA0.out _ hq).mono ?_
              rintro e w5 ⟨rfl, hq5⟩
              go_wp2
              go_ret2
              exact ⟨Or.inl ⟨v, m, by rw [HE.out, HMM.out], rfl⟩, hq.trans hq5⟩
/-- what stands behind a curly bracket -/
def timesB (l : List Nat) (i : Nat) : Option (Int × Int × Nat) :=
  match numAt l (i + 1) with
    | none => none
    | some (lo, k) =>
      if gN l k = 44 then
        if gN l (k + 1) = 125 then some (lo, -1, k + 2)
        else match numAt l (k + 1) with
          | none => none
          | some (hi, m) => if hi < lo then none else if gN l m = 125 then some (lo, hi, m + 1) else none
      else if gN l k = 125 then some (lo, lo, k + 1) else none
theorem timesB_none {l : List Nat} {i : Nat} (h : numAt l (i + 1) = none) : timesB l i = none := by unfold timesB; rw [h]
theorem timesB_open {l : List Nat} {i lo q : Nat} (h : numAt l (i + 1) = some (lo, i + q)) (h1 : gN l (i + q) = 44) (h2 : gN l (i + q + 1) = 125) : timesB l i = some ((lo : Int), -1, i + (q + 2)) := by
  unfold timesB; rw [h]; simp only; rw [if_pos h1, if_pos h2]; rfl
theorem timesB_hi_none {l : List Nat} {i lo q : Nat} (h : numAt l (i + 1) = some (lo, i + q)) (h1 : gN l (i + q) = 44) (h2 : gN l (i + q + 1) ≠ 125) (h3 : numAt l (i + q + 1) = none) : timesB l i = none := by
  unfold timesB; rw [h]; simp only; rw [if_pos h1, if_neg h2, h3]
theorem timesB_hi_less {l : List Nat} {i lo q hi m : Nat} (h : numAt l (i + 1) = some (lo, i + q)) (h1 : gN l (i + q) = 44) (h2 : gN l (i + q + 1) ≠ 125) (h3 : numAt l (i + q + 1) = some (hi, m)) (h4 : hi < lo) : timesB l i = none := by
  unfold timesB; rw [h]; simp only; rw [if_pos h1, if_neg h2, h3]; simp only; rw [if_pos h4]
theorem timesB_hi_ok {l : List Nat} {i lo q hi r : Nat} (h : numAt l (i + 1) = some (lo, i + q)) (h1 : gN l (i + q) = 44) (h2 : gN l (i + q + 1) ≠ 125) (h3 : numAt l (i + q + 1) = some (hi, i + r)) (h4 : ¬ hi < lo) (h5 : gN l (i + r) = 125) : timesB l i = some ((lo : Int), (hi : Int), i + (r + 1)) := by
  unfold timesB; rw [h]; simp only; rw [if_pos h1, if_neg h2, h3]; simp only; rw [if_neg h4, if_pos h5]; rfl
theorem timesB_hi_bad {l : List Nat} {i lo q hi r : Nat} (h : numAt l (i + 1) = some (lo, i + q)) (h1 : gN l (i + q) = 44) (h2 : gN l (i + q + 1) ≠ 125) (h3 : numAt l (i + q + 1) = some (hi, i + r)) (h4 : ¬ hi < lo) (h5 : ¬ gN l (i + r) = 125) : timesB l i = none := by
  unfold timesB; rw [h]; simp only; rw [if_pos h1, if_neg h2, h3]; simp only; rw [if_neg h4, if_neg h5]
theorem timesB_one {l : List Nat} {i lo q : Nat} (h : numAt l (i + 1) = some (lo, i + q)) (h1 : gN l (i + q) = 125) : timesB l i = some ((lo : Int), (lo : Int), i + (q + 1)) := by
  unfold timesB; rw [h]; simp only; rw [if_neg (by omega), if_pos h1]; rfl
theorem timesB_bad {l : List Nat} {i lo q : Nat} (h : numAt l (i + 1) = some (lo, i + q)) (h1 : ¬ gN l (i + q) = 44) (h2 : ¬ gN l (i + q) = 125) : timesB l i = none := by
  unfold timesB; rw [h]; simp only; rw [if_neg h1, if_neg h2]
set_option maxHeartbeats 8000000 in
theorem implTimes {g cap i d : Nat} {a : Option Addr} {l : List Nat} {nv : Value} (w : World) (hb : w.heap[g]? = some (.cells #[.slice a l.length cap, .int .i64 (i : Int), .int .i64 (d : Int), nv] 108 (0, 0)))
    (hL : RxL w g a l) (hi : i ≤ 1000) (ht : timesN (gN l i) = true) :
    Calls Tryz.prog 149 #[.pointer (some ⟨g, 0, none⟩)] w fun e w' => TimesE l i e ∧ Qt w w' := by
  have CA := hid (fun (m : Nat) (w' : World) (hq : Qt w w') (hm : m ≤ 2000) => implAhead (k := m) w' (hq.at hb) (hL.qt hq) (by omega) hm)
  have CX := hid (fun (w' : World) (hq : Qt w w') => implNext w' (hq.at hb) (hL.qt hq) (by omega))
  have CN := hid (fun (m : Nat) (w' : World) (hq : Qt w w') (hm : m ≤ 1200) => implNumber m w' (hq.at hb) (hL.qt hq) (by omega) hm)
  have hlen := hL.len
  have hcase : gN l i = 42 ∨ gN l i = 43 ∨ gN l i = 63 ∨ gN l i = 123 := by
    unfold timesN at ht
    simp only [Bool.or_eq_true, beq_iff_eq] at ht
    omega
  clear hb hL ht
  unfold TimesE
  rcases hcase with h | h | h | h
  · have HR := hid (show timesAt l i = some (0, -1, i + 1) by unfold timesAt; rw [if_pos h])
    rw [HR.out]
    rw [h] at CX
    clear h
    go_enter Tryz.func149, Tryz.ntmps149
    go_wp2_with fail
    refine (CX.out _ (Qt.refl _)).mono ?_
    rintro e w1 ⟨rfl, hq1⟩
    go_wp2
    go_ret3
    exact ⟨Or.inl ⟨0, -1, 1, rfl, by decide, rfl⟩, hq1⟩
  · have HR := hid (show timesAt l i = some (1, -1, i + 1) by unfold timesAt; rw [if_neg (by omega), if_pos h])
    rw [HR.out]
    rw [h] at CX
    clear h
    go_enter Tryz.func149, Tryz.ntmps149
    go_wp2_with fail
    refine (CX.out _ (Qt.refl _)).mono ?_
    rintro e w1 ⟨rfl, hq1⟩
    go_wp2
    go_ret3
    exact ⟨Or.inl ⟨1, -1, 1, rfl, by decide, rfl⟩, hq1⟩
  · have HR := hid (show timesAt l i = some (0, 1, i + 1) by unfold timesAt; rw [if_neg (by omega), if_neg (by omega), if_pos h])
    rw [HR.out]
    rw [h] at CX
    clear h
    go_enter Tryz.func149, Tryz.ntmps149
    go_wp2_with fail
    refine (CX.out _ (Qt.refl _)).mono ?_
    rintro e w1 ⟨rfl, hq1⟩
    go_wp2
    go_ret3
    exact ⟨Or.inl ⟨0, 1, 1, rfl, by decide, rfl⟩, hq1⟩
  · have hR : timesAt l i = timesB l i := by unfold timesAt; rw [if_neg (by omega), if_neg (by omega), if_neg (by omega)]; rfl
    rw [hR]
    have HU := hid (show timesB l i = timesB l i from rfl)
    rw [h] at CX
    clear h hR
    go_enter Tryz.func149, Tryz.ntmps149
    go_wp2_with fail
    refine (CX.out _ (Qt.refl _)).mono ?_
    rintro e w1 ⟨rfl, hq1⟩
    go_wp2_with fail
    refine (CN.out 1 _ hq1 (by decide)).mono ?_
    rintro e w2 ⟨he, hq2⟩
    have hqA := hq1.trans hq2
    clear hq1 hq2
    rcases he with ⟨lo, q, hn, rfl⟩ | ⟨hn, b, rfl⟩
    rotate_left
    · have HR := hid (timesB_none hn)
      clear hn
      go_wp2
      go_ret3
      exact ⟨Or.inr ⟨HR.out, rfl⟩, hqA⟩
    · have hin := numAt_in hn
      have h1 : ¬ (lo : Int) < 0 := by omega
      have hq200 : q ≤ 1000 := by omega
      have hq0 : 0 < q := by omega
      have HN := hid hn
      have CAq := hid (fun (w' : World) (hq : Qt w w') => CA.out q w' hq (by omega))
      have CAq1 := hid (fun (w' : World) (hq : Qt w w') => CA.out (q + 1) w' hq (by omega))
      rw [show ((q + 1 : Nat) : Int) = (q : Int) + 1 by omega] at CAq1
      clear hn hin
      by_cases h44 : gN l (i + q) = 44
      · rw [h44] at CAq
        by_cases h125 : gN l (i + (q + 1)) = 125
        · rw [h125] at CAq1
          have HR := hid (timesB_open HN.out h44 (by rw [Nat.add_assoc]; exact h125))
          clear h44 h125
          go_wp2_with fail
          refine (CAq.out _ hqA).mono ?_
          rintro e w3 ⟨rfl, hq3⟩
          go_wp2_with fail
          refine (CAq1.out _ (hqA.trans hq3)).mono ?_
          rintro e w4 ⟨rfl, hq4⟩
          go_wp2_with fail
          refine (CAq1.out _ ((hqA.trans hq3).trans hq4)).mono ?_
          rintro e w5 ⟨rfl, hq5⟩
          go_wp2
          go_ret3
          exact ⟨Or.inl ⟨lo, -1, q + 2, HR.out, by omega, by first | rfl | (congr 4; omega)⟩, ((hqA.trans hq3).trans hq4).trans hq5⟩
        · have g125 : ((gN l (i + (q + 1)) : Int) == 125) = false := by rw [beq_eq_false_iff_ne]; omega
          have g125b : ((gN l (i + (q + 1)) : Int) != 125) = true := by rw [bne, g125]; rfl
          have CNq := hid (fun (w' : World) (hq : Qt w w') => CN.out (q + 1) w' hq (by omega))
          rw [show ((q + 1 : Nat) : Int) = (q : Int) + 1 by omega] at CNq
          obtain ⟨c, hc⟩ : ∃ c, gN l (i + (q + 1)) = c := ⟨_, rfl⟩
          rw [hc] at CAq1 g125 g125b
          have HC := hid (show gN l (i + q + 1) ≠ 125 by rw [Nat.add_assoc]; exact h125)
          have H44 := hid h44
          clear h44 h125 hc
          go_wp2_with fail
          refine (CAq.out _ hqA).mono ?_
          rintro e w3 ⟨rfl, hq3⟩
          go_wp2_with fail
          refine (CAq1.out _ (hqA.trans hq3)).mono ?_
          rintro e w4 ⟨rfl, hq4⟩
          have hqB := (hqA.trans hq3).trans hq4
          clear hqA hq3 hq4
          go_wp2_with fail
          refine (CNq.out _ hqB).mono ?_
          rintro e w5 ⟨he, hq5⟩
          have hqC := hqB.trans hq5
          clear hqB hq5
          rcases he with ⟨hi2, r, hn, rfl⟩ | ⟨hn, b, rfl⟩
          rotate_left
          · have HR := hid (timesB_hi_none HN.out H44.out HC.out (by rw [Nat.add_assoc]; exact hn))
            have hlt : (-1 : Int) < (lo : Int) := by omega
            clear hn
            go_wp2
            go_ret3
            exact ⟨Or.inr ⟨HR.out, rfl⟩, hqC⟩
          · have hin := numAt_in hn
            by_cases hlt : hi2 < lo
            · have HR := hid (timesB_hi_less HN.out H44.out HC.out (by rw [Nat.add_assoc]; exact hn) hlt)
              have hlti : (hi2 : Int) < (lo : Int) := by omega
              clear hn hin hlt
              go_wp2
              go_ret3
              exact ⟨Or.inr ⟨HR.out, rfl⟩, hqC⟩
            · have hlti : ¬ (hi2 : Int) < (lo : Int) := by omega
              have CAr := hid (fun (w' : World) (hq : Qt w w') => CA.out r w' hq (by omega))
              have hr1 : r ≤ 1000 := by omega
              have hr0 : 0 < r := by omega
              by_cases hend : gN l (i + r) = 125
              · have HR := hid (timesB_hi_ok HN.out H44.out HC.out (by rw [Nat.add_assoc]; exact hn) hlt hend)
                rw [hend] at CAr
                clear hn hin hlt hend
                go_wp2_with fail
                refine (CAr.out _ hqC).mono ?_
                rintro e w6 ⟨rfl, hq6⟩
                go_wp2
                go_ret3
                exact ⟨Or.inl ⟨lo, hi2, r + 1, HR.out, by omega, by first | rfl | (congr 4; omega)⟩, hqC.trans hq6⟩
              · have HR := hid (timesB_hi_bad HN.out H44.out HC.out (by rw [Nat.add_assoc]; exact hn) hlt hend)
                have gb : ((gN l (i + r) : Int) == 125) = false := by rw [beq_eq_false_iff_ne]; omega
                have gb2 : ((gN l (i + r) : Int) != 125) = true := by rw [bne, gb]; rfl
                clear hn hin hlt hend
                go_wp2_with fail
                refine (CAr.out _ hqC).mono ?_
                rintro e w6 ⟨rfl, hq6⟩
                go_wp2
                go_ret3
                exact ⟨Or.inr ⟨HR.out, rfl⟩, hqC.trans hq6⟩
      · have g44 : ((gN l (i + q) : Int) == 44) = false := by rw [beq_eq_false_iff_ne]; omega
        by_cases hend : gN l (i + q) = 125
        · have HR := hid (timesB_one HN.out hend)
          rw [hend] at CAq
          clear hend h44 g44
          go_wp2_with fail
          refine (CAq.out _ hqA).mono ?_
          rintro e w3 ⟨rfl, hq3⟩
          go_wp2_with fail
          refine (CAq.out _ (hqA.trans hq3)).mono ?_
          rintro e w4 ⟨rfl, hq4⟩
          go_wp2
          go_ret3
          exact ⟨Or.inl ⟨lo, lo, q + 1, HR.out, by omega, by first | rfl | (congr 4; omega)⟩, (hqA.trans hq3).trans hq4⟩
        · have HR := hid (timesB_bad HN.out h44 hend)
          have gb : ((gN l (i + q) : Int) == 125) = false := by rw [beq_eq_false_iff_ne]; omega
          have gb2 : ((gN l (i + q) : Int) != 125) = true := by rw [bne, gb]; rfl
          clear hend h44
          go_wp2_with fail
          refine (CAq.out _ hqA).mono ?_
          rintro e w3 ⟨rfl, hq3⟩
          go_wp2_with fail
          refine (CAq.out _ (hqA.trans hq3)).mono ?_
          rintro e w4 ⟨rfl, hq4⟩
          go_wp2
          go_ret3
          exact ⟨Or.inr ⟨HR.out, rfl⟩, (hqA.trans hq3).trans hq4⟩
end Go.Proofs.YtkmkencodcfloaaGreatDoor
