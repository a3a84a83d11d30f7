/-
  What is proved here: the texts of a repetition (impl and reference), of a bracket and of a kid (impl). The condition 'PT' says that the library's table of powers of ten lies in the world.
-/
import Derived.Test.YtomcoilmpkpoeaaGreatDoorQRxTI1
import Derived.Test.YtomcoilmpkpoeaaGreatDoorQNum
import Derived.Test.YtomcoilmpkpoeaaGreatDoorQIdxF
import Derived.Test.YtomcoilmpkpoeaaGreatDoorQRxSzI
import Derived.Test.YtomcoilmpkpoeaaGreatDoorQInts
import Derived.Laws.Slices
namespace Go.Proofs.YtomcoilmpkpoeaaGreatDoor
open Go.RowKit
set_option linter.unusedVariables false
set_option linter.unusedSimpArgs false

theorem bel_dn2 {B : Nat} {a w : World} (h : Below B a w) (n : Nat) : Below B a (w.drewN n) := h.trans ⟨rfl, rfl, rfl, Nat.le_refl _, fun _ _ => rfl⟩
theorem timesP_len {lo hi : Int} (h1 : (numB lo).size ≤ 21) (h2 : (numB hi).size ≤ 21) : (timesP lo hi).length ≤ 50 := by
  unfold numB at h1 h2
  rw [mkB_size] at h1 h2
  unfold timesP
  repeat' split
  all_goals simp only [List.length_cons, List.length_append, List.length_nil]
  all_goals omega
theorem dat_app2 (a b : ByteArray) : (a ++ b).data.toList = a.data.toList ++ b.data.toList := by rw [ByteArray.data_append, Array.toList_append]
set_option maxHeartbeats 4000000 in
theorem implTimesText (lo hi : Int) (w : World) (hP : PT w) (hl : -9223372036854775808 ≤ lo ∧ lo ≤ 9223372036854775807) (hh : -9223372036854775808 ≤ hi ∧ hi ≤ 9223372036854775807) (h0 : 0 ≤ lo) :
    Calls Tryz.prog 155 #[.int .i64 lo, .int .i64 hi] w fun e w' => e = .returned (.string (mkB (timesP lo hi))) ∧ Below w.heap.size w w' := by
  have n1 := numB_size hl
  have n2 := numB_size hh
  have C1 := hid (fun (w : World) (h : PT w) => implItoa lo w h hl)
  have C2 := hid (fun (w : World) (h : PT w) => implItoa hi w h hh)
  have E1 := hid (show numB lo = mkB (Lib.itoa lo) from rfl)
  have E2 := hid (show numB hi = mkB (Lib.itoa hi) from rfl)
  obtain ⟨N1, e1⟩ : ∃ z, numB lo = z := ⟨_, rfl⟩
  obtain ⟨N2, e2⟩ : ∃ z, numB hi = z := ⟨_, rfl⟩
  rw [e1] at n1 C1 E1
  rw [e2] at n2 C2 E2
  clear e1 e2 hl hh
  have q1 : ¬ 9223372036854775807 < 1 + N1.size := by omega
  have q2 : ¬ 9223372036854775807 < 1 + N1.size + 1 := by omega
  have q3 : ¬ 9223372036854775807 < 1 + N1.size + 2 := by omega
  have q4 : ¬ 9223372036854775807 < 1 + N1.size + 1 + N2.size := by omega
  have q5 : ¬ 9223372036854775807 < 1 + N1.size + 1 + N2.size + 1 := by omega
  by_cases p_lo0 : lo = 0
  · skip
    by_cases p_him : hi = -1
    · skip
      have b_lo0 : (lo == 0) = true := by rw [beq_iff_eq]; exact p_lo0
      have b_him : (hi == -1) = true := by rw [beq_iff_eq]; exact p_him
      have HT := hid (show timesP lo hi = [42] by
        unfold timesP
        rw [if_pos (by omega)])
      clear p_lo0 p_him
      go_enter Tryz.func155, Tryz.ntmps155
      go_wp2
      go_ret
      rw [HT.out]
      exact ⟨rfl, Below.refl _ _⟩
    · skip
      by_cases p_lo1 : lo = 1
      · exfalso; omega
      · skip
        by_cases p_hi1 : hi = 1
        · skip
          have b_lo0 : (lo == 0) = true := by rw [beq_iff_eq]; exact p_lo0
          have b_him : (hi == -1) = false := by rw [beq_eq_false_iff_ne]; exact p_him
          have b_lo1 : (lo == 1) = false := by rw [beq_eq_false_iff_ne]; exact p_lo1
          have b_hi1 : (hi == 1) = true := by rw [beq_iff_eq]; exact p_hi1
          have HT := hid (show timesP lo hi = [63] by
            unfold timesP
            rw [if_neg (by omega)]
            rw [if_neg (by omega)]
            rw [if_pos (by omega)])
          clear p_lo0 p_him p_lo1 p_hi1
          go_enter Tryz.func155, Tryz.ntmps155
          go_wp2
          go_ret
          rw [HT.out]
          exact ⟨rfl, Below.refl _ _⟩
        · skip
          by_cases p_eq : lo = hi
          · skip
            have b_lo0 : (lo == 0) = true := by rw [beq_iff_eq]; exact p_lo0
            have b_him : (hi == -1) = false := by rw [beq_eq_false_iff_ne]; exact p_him
            have b_lo1 : (lo == 1) = false := by rw [beq_eq_false_iff_ne]; exact p_lo1
            have b_hi1 : (hi == 1) = false := by rw [beq_eq_false_iff_ne]; exact p_hi1
            have b_eq : (lo == hi) = true := by rw [beq_iff_eq]; exact p_eq
            have HT := hid (show timesP lo hi = 123 :: (Lib.itoa lo ++ [125]) by
              unfold timesP
              rw [if_neg (by omega)]
              rw [if_neg (by omega)]
              rw [if_neg (by omega)]
              rw [if_pos (by omega)])
            clear p_lo0 p_him p_lo1 p_hi1 p_eq
            go_enter Tryz.func155, Tryz.ntmps155
            go_wp2_with fail
            refine (C1.out _ (pt_below hP (Below.refl _ _))).mono ?_
            rintro e w1 ⟨rfl, hb1⟩
            go_wp2
            go_ret
            rw [HT.out]
            exact ⟨end_string (by apply ba_list; simp only [dat_app2, E1.out, E2.out, mkB_data]; simp), hb1⟩
          · skip
            have b_lo0 : (lo == 0) = true := by rw [beq_iff_eq]; exact p_lo0
            have b_him : (hi == -1) = false := by rw [beq_eq_false_iff_ne]; exact p_him
            have b_lo1 : (lo == 1) = false := by rw [beq_eq_false_iff_ne]; exact p_lo1
            have b_hi1 : (hi == 1) = false := by rw [beq_eq_false_iff_ne]; exact p_hi1
            have b_eq : (lo == hi) = false := by rw [beq_eq_false_iff_ne]; exact p_eq
            have HT := hid (show timesP lo hi = 123 :: (Lib.itoa lo ++ 44 :: (Lib.itoa hi ++ [125])) by
              unfold timesP
              rw [if_neg (by omega)]
              rw [if_neg (by omega)]
              rw [if_neg (by omega)]
              rw [if_neg (by omega)]
              rw [if_neg (by omega)])
            clear p_lo0 p_him p_lo1 p_hi1 p_eq
            go_enter Tryz.func155, Tryz.ntmps155
            go_wp2_with fail
            refine (C1.out _ (pt_below hP (Below.refl _ _))).mono ?_
            rintro e w1 ⟨rfl, hb1⟩
            go_wp2_with fail
            refine (C2.out _ (pt_below hP hb1)).mono ?_
            rintro e w2 ⟨rfl, hb2⟩
            go_wp2
            go_ret
            rw [HT.out]
            exact ⟨end_string (by apply ba_list; simp only [dat_app2, E1.out, E2.out, mkB_data]; simp), ext_trans hb1 hb2⟩
  · skip
    by_cases p_lo1 : lo = 1
    · skip
      by_cases p_him : hi = -1
      · skip
        have b_lo0 : (lo == 0) = false := by rw [beq_eq_false_iff_ne]; exact p_lo0
        have b_lo1 : (lo == 1) = true := by rw [beq_iff_eq]; exact p_lo1
        have b_him : (hi == -1) = true := by rw [beq_iff_eq]; exact p_him
        have HT := hid (show timesP lo hi = [43] by
          unfold timesP
          rw [if_neg (by omega)]
          rw [if_pos (by omega)])
        clear p_lo0 p_lo1 p_him
        go_enter Tryz.func155, Tryz.ntmps155
        go_wp2
        go_ret
        rw [HT.out]
        exact ⟨rfl, Below.refl _ _⟩
      · skip
        by_cases p_eq : lo = hi
        · skip
          have b_lo0 : (lo == 0) = false := by rw [beq_eq_false_iff_ne]; exact p_lo0
          have b_lo1 : (lo == 1) = true := by rw [beq_iff_eq]; exact p_lo1
          have b_him : (hi == -1) = false := by rw [beq_eq_false_iff_ne]; exact p_him
          have b_eq : (lo == hi) = true := by rw [beq_iff_eq]; exact p_eq
          have HT := hid (show timesP lo hi = 123 :: (Lib.itoa lo ++ [125]) by
            unfold timesP
            rw [if_neg (by omega)]
            rw [if_neg (by omega)]
            rw [if_neg (by omega)]
            rw [if_pos (by omega)])
          clear p_lo0 p_lo1 p_him p_eq
          go_enter Tryz.func155, Tryz.ntmps155
          go_wp2_with fail
          refine (C1.out _ (pt_below hP (Below.refl _ _))).mono ?_
          rintro e w1 ⟨rfl, hb1⟩
          go_wp2
          go_ret
          rw [HT.out]
          exact ⟨end_string (by apply ba_list; simp only [dat_app2, E1.out, E2.out, mkB_data]; simp), hb1⟩
        · skip
          have b_lo0 : (lo == 0) = false := by rw [beq_eq_false_iff_ne]; exact p_lo0
          have b_lo1 : (lo == 1) = true := by rw [beq_iff_eq]; exact p_lo1
          have b_him : (hi == -1) = false := by rw [beq_eq_false_iff_ne]; exact p_him
          have b_eq : (lo == hi) = false := by rw [beq_eq_false_iff_ne]; exact p_eq
          have HT := hid (show timesP lo hi = 123 :: (Lib.itoa lo ++ 44 :: (Lib.itoa hi ++ [125])) by
            unfold timesP
            rw [if_neg (by omega)]
            rw [if_neg (by omega)]
            rw [if_neg (by omega)]
            rw [if_neg (by omega)]
            rw [if_neg (by omega)])
          clear p_lo0 p_lo1 p_him p_eq
          go_enter Tryz.func155, Tryz.ntmps155
          go_wp2_with fail
          refine (C1.out _ (pt_below hP (Below.refl _ _))).mono ?_
          rintro e w1 ⟨rfl, hb1⟩
          go_wp2_with fail
          refine (C2.out _ (pt_below hP hb1)).mono ?_
          rintro e w2 ⟨rfl, hb2⟩
          go_wp2
          go_ret
          rw [HT.out]
          exact ⟨end_string (by apply ba_list; simp only [dat_app2, E1.out, E2.out, mkB_data]; simp), ext_trans hb1 hb2⟩
    · skip
      by_cases p_him : hi = -1
      · skip
        by_cases p_eq : lo = hi
        · skip
          have b_lo0 : (lo == 0) = false := by rw [beq_eq_false_iff_ne]; exact p_lo0
          have b_lo1 : (lo == 1) = false := by rw [beq_eq_false_iff_ne]; exact p_lo1
          have b_him : (hi == -1) = true := by rw [beq_iff_eq]; exact p_him
          have b_eq : (lo == hi) = true := by rw [beq_iff_eq]; exact p_eq
          have HT := hid (show timesP lo hi = 123 :: (Lib.itoa lo ++ [125]) by
            unfold timesP
            rw [if_neg (by omega)]
            rw [if_neg (by omega)]
            rw [if_neg (by omega)]
            rw [if_pos (by omega)])
          clear p_lo0 p_lo1 p_him p_eq
          go_enter Tryz.func155, Tryz.ntmps155
          go_wp2_with fail
          refine (C1.out _ (pt_below hP (Below.refl _ _))).mono ?_
          rintro e w1 ⟨rfl, hb1⟩
          go_wp2
          go_ret
          rw [HT.out]
          exact ⟨end_string (by apply ba_list; simp only [dat_app2, E1.out, E2.out, mkB_data]; simp), hb1⟩
        · skip
          have b_lo0 : (lo == 0) = false := by rw [beq_eq_false_iff_ne]; exact p_lo0
          have b_lo1 : (lo == 1) = false := by rw [beq_eq_false_iff_ne]; exact p_lo1
          have b_him : (hi == -1) = true := by rw [beq_iff_eq]; exact p_him
          have b_eq : (lo == hi) = false := by rw [beq_eq_false_iff_ne]; exact p_eq
          have HT := hid (show timesP lo hi = 123 :: (Lib.itoa lo ++ [44, 125]) by
            unfold timesP
            rw [if_neg (by omega)]
            rw [if_neg (by omega)]
            rw [if_neg (by omega)]
            rw [if_neg (by omega)]
            rw [if_pos (by omega)])
          clear p_lo0 p_lo1 p_him p_eq
          go_enter Tryz.func155, Tryz.ntmps155
          go_wp2_with fail
          refine (C1.out _ (pt_below hP (Below.refl _ _))).mono ?_
          rintro e w1 ⟨rfl, hb1⟩
          go_wp2
          go_ret
          rw [HT.out]
          exact ⟨end_string (by apply ba_list; simp only [dat_app2, E1.out, E2.out, mkB_data]; simp), hb1⟩
      · skip
        by_cases p_eq : lo = hi
        · skip
          have b_lo0 : (lo == 0) = false := by rw [beq_eq_false_iff_ne]; exact p_lo0
          have b_lo1 : (lo == 1) = false := by rw [beq_eq_false_iff_ne]; exact p_lo1
          have b_him : (hi == -1) = false := by rw [beq_eq_false_iff_ne]; exact p_him
          have b_eq : (lo == hi) = true := by rw [beq_iff_eq]; exact p_eq
          have HT := hid (show timesP lo hi = 123 :: (Lib.itoa lo ++ [125]) by
            unfold timesP
            rw [if_neg (by omega)]
            rw [if_neg (by omega)]
            rw [if_neg (by omega)]
            rw [if_pos (by omega)])
          clear p_lo0 p_lo1 p_him p_eq
          go_enter Tryz.func155, Tryz.ntmps155
          go_wp2_with fail
          refine (C1.out _ (pt_below hP (Below.refl _ _))).mono ?_
          rintro e w1 ⟨rfl, hb1⟩
          go_wp2
          go_ret
          rw [HT.out]
          exact ⟨end_string (by apply ba_list; simp only [dat_app2, E1.out, E2.out, mkB_data]; simp), hb1⟩
        · skip
          have b_lo0 : (lo == 0) = false := by rw [beq_eq_false_iff_ne]; exact p_lo0
          have b_lo1 : (lo == 1) = false := by rw [beq_eq_false_iff_ne]; exact p_lo1
          have b_him : (hi == -1) = false := by rw [beq_eq_false_iff_ne]; exact p_him
          have b_eq : (lo == hi) = false := by rw [beq_eq_false_iff_ne]; exact p_eq
          have HT := hid (show timesP lo hi = 123 :: (Lib.itoa lo ++ 44 :: (Lib.itoa hi ++ [125])) by
            unfold timesP
            rw [if_neg (by omega)]
            rw [if_neg (by omega)]
            rw [if_neg (by omega)]
            rw [if_neg (by omega)]
            rw [if_neg (by omega)])
          clear p_lo0 p_lo1 p_him p_eq
          go_enter Tryz.func155, Tryz.ntmps155
          go_wp2_with fail
          refine (C1.out _ (pt_below hP (Below.refl _ _))).mono ?_
          rintro e w1 ⟨rfl, hb1⟩
          go_wp2_with fail
          refine (C2.out _ (pt_below hP hb1)).mono ?_
          rintro e w2 ⟨rfl, hb2⟩
          go_wp2
          go_ret
          rw [HT.out]
          exact ⟨end_string (by apply ba_list; simp only [dat_app2, E1.out, E2.out, mkB_data]; simp), ext_trans hb1 hb2⟩
set_option maxHeartbeats 4000000 in
theorem specOften (lo hi : Int) (w : World) (hl : -9223372036854775808 ≤ lo ∧ lo ≤ 9223372036854775807) (hh : -9223372036854775808 ≤ hi ∧ hi ≤ 9223372036854775807) (h0 : 0 ≤ lo) :
    Calls Tryz.prog 73 #[.int .i64 lo, .int .i64 hi] w fun e w' => e = .returned (.string (mkB (timesP lo hi))) ∧ Below w.heap.size w w' := by
  have n1 := numB_size hl
  have n2 := numB_size hh
  have C1 := hid (fun (w : World) => specNumText lo w hl)
  have C2 := hid (fun (w : World) => specNumText hi w hh)
  have E1 := hid (show numB lo = mkB (Lib.itoa lo) from rfl)
  have E2 := hid (show numB hi = mkB (Lib.itoa hi) from rfl)
  obtain ⟨N1, e1⟩ : ∃ z, numB lo = z := ⟨_, rfl⟩
  obtain ⟨N2, e2⟩ : ∃ z, numB hi = z := ⟨_, rfl⟩
  rw [e1] at n1 C1 E1
  rw [e2] at n2 C2 E2
  clear e1 e2 hl hh
  have q1 : ¬ 9223372036854775807 < 1 + N1.size := by omega
  have q2 : ¬ 9223372036854775807 < 1 + N1.size + 1 := by omega
  have q3 : ¬ 9223372036854775807 < 1 + N1.size + 2 := by omega
  have q4 : ¬ 9223372036854775807 < 1 + N1.size + 1 + N2.size := by omega
  have q5 : ¬ 9223372036854775807 < 1 + N1.size + 1 + N2.size + 1 := by omega
  by_cases p_lo0 : lo = 0
  · skip
    by_cases p_him : hi = -1
    · skip
      have b_lo0 : (lo == 0) = true := by rw [beq_iff_eq]; exact p_lo0
      have b_him : (hi == -1) = true := by rw [beq_iff_eq]; exact p_him
      have HT := hid (show timesP lo hi = [42] by
        unfold timesP
        rw [if_pos (by omega)])
      clear p_lo0 p_him
      go_enter Tryz.func73, Tryz.ntmps73
      go_wp2
      go_ret
      rw [HT.out]
      exact ⟨rfl, Below.refl _ _⟩
    · skip
      by_cases p_lo1 : lo = 1
      · exfalso; omega
      · skip
        by_cases p_hi1 : hi = 1
        · skip
          have b_lo0 : (lo == 0) = true := by rw [beq_iff_eq]; exact p_lo0
          have b_him : (hi == -1) = false := by rw [beq_eq_false_iff_ne]; exact p_him
          have b_lo1 : (lo == 1) = false := by rw [beq_eq_false_iff_ne]; exact p_lo1
          have b_hi1 : (hi == 1) = true := by rw [beq_iff_eq]; exact p_hi1
          have HT := hid (show timesP lo hi = [63] by
            unfold timesP
            rw [if_neg (by omega)]
            rw [if_neg (by omega)]
            rw [if_pos (by omega)])
          clear p_lo0 p_him p_lo1 p_hi1
          go_enter Tryz.func73, Tryz.ntmps73
          go_wp2
          go_ret
          rw [HT.out]
          exact ⟨rfl, Below.refl _ _⟩
        · skip
          by_cases p_eq : lo = hi
          · skip
            have b_lo0 : (lo == 0) = true := by rw [beq_iff_eq]; exact p_lo0
            have b_him : (hi == -1) = false := by rw [beq_eq_false_iff_ne]; exact p_him
            have b_lo1 : (lo == 1) = false := by rw [beq_eq_false_iff_ne]; exact p_lo1
            have b_hi1 : (hi == 1) = false := by rw [beq_eq_false_iff_ne]; exact p_hi1
            have b_eq : (lo == hi) = true := by rw [beq_iff_eq]; exact p_eq
            have HT := hid (show timesP lo hi = 123 :: (Lib.itoa lo ++ [125]) by
              unfold timesP
              rw [if_neg (by omega)]
              rw [if_neg (by omega)]
              rw [if_neg (by omega)]
              rw [if_pos (by omega)])
            clear p_lo0 p_him p_lo1 p_hi1 p_eq
            go_enter Tryz.func73, Tryz.ntmps73
            go_wp2_with fail
            refine (C1.out _).mono ?_
            rintro e w1 ⟨rfl, hb1⟩
            go_wp2
            go_ret
            rw [HT.out]
            exact ⟨end_string (by apply ba_list; simp only [dat_app2, E1.out, E2.out, mkB_data]; simp), hb1⟩
          · skip
            have b_lo0 : (lo == 0) = true := by rw [beq_iff_eq]; exact p_lo0
            have b_him : (hi == -1) = false := by rw [beq_eq_false_iff_ne]; exact p_him
            have b_lo1 : (lo == 1) = false := by rw [beq_eq_false_iff_ne]; exact p_lo1
            have b_hi1 : (hi == 1) = false := by rw [beq_eq_false_iff_ne]; exact p_hi1
            have b_eq : (lo == hi) = false := by rw [beq_eq_false_iff_ne]; exact p_eq
            have HT := hid (show timesP lo hi = 123 :: (Lib.itoa lo ++ 44 :: (Lib.itoa hi ++ [125])) by
              unfold timesP
              rw [if_neg (by omega)]
              rw [if_neg (by omega)]
              rw [if_neg (by omega)]
              rw [if_neg (by omega)]
              rw [if_neg (by omega)])
            clear p_lo0 p_him p_lo1 p_hi1 p_eq
            go_enter Tryz.func73, Tryz.ntmps73
            go_wp2_with fail
            refine (C1.out _).mono ?_
            rintro e w1 ⟨rfl, hb1⟩
            go_wp2_with fail
            refine (C2.out _).mono ?_
            rintro e w2 ⟨rfl, hb2⟩
            go_wp2
            go_ret
            rw [HT.out]
            exact ⟨end_string (by apply ba_list; simp only [dat_app2, E1.out, E2.out, mkB_data]; simp), ext_trans hb1 hb2⟩
  · skip
    by_cases p_lo1 : lo = 1
    · skip
      by_cases p_him : hi = -1
      · skip
        have b_lo0 : (lo == 0) = false := by rw [beq_eq_false_iff_ne]; exact p_lo0
        have b_lo1 : (lo == 1) = true := by rw [beq_iff_eq]; exact p_lo1
        have b_him : (hi == -1) = true := by rw [beq_iff_eq]; exact p_him
        have HT := hid (show timesP lo hi = [43] by
          unfold timesP
          rw [if_neg (by omega)]
          rw [if_pos (by omega)])
        clear p_lo0 p_lo1 p_him
        go_enter Tryz.func73, Tryz.ntmps73
        go_wp2
        go_ret
        rw [HT.out]
        exact ⟨rfl, Below.refl _ _⟩
      · skip
        by_cases p_eq : lo = hi
        · skip
          have b_lo0 : (lo == 0) = false := by rw [beq_eq_false_iff_ne]; exact p_lo0
          have b_lo1 : (lo == 1) = true := by rw [beq_iff_eq]; exact p_lo1
          have b_him : (hi == -1) = false := by rw [beq_eq_false_iff_ne]; exact p_him
          have b_eq : (lo == hi) = true := by rw [beq_iff_eq]; exact p_eq
          have HT := hid (show timesP lo hi = 123 :: (Lib.itoa lo ++ [125]) by
            unfold timesP
            rw [if_neg (by omega)]
            rw [if_neg (by omega)]
            rw [if_neg (by omega)]
            rw [if_pos (by omega)])
          clear p_lo0 p_lo1 p_him p_eq
          go_enter Tryz.func73, Tryz.ntmps73
          go_wp2_with fail
          refine (C1.out _).mono ?_
          rintro e w1 ⟨rfl, hb1⟩
          go_wp2
          go_ret
          rw [HT.out]
          exact ⟨end_string (by apply ba_list; simp only [dat_app2, E1.out, E2.out, mkB_data]; simp), hb1⟩
        · skip
          have b_lo0 : (lo == 0) = false := by rw [beq_eq_false_iff_ne]; exact p_lo0
          have b_lo1 : (lo == 1) = true := by rw [beq_iff_eq]; exact p_lo1
          have b_him : (hi == -1) = false := by rw [beq_eq_false_iff_ne]; exact p_him
          have b_eq : (lo == hi) = false := by rw [beq_eq_false_iff_ne]; exact p_eq
          have HT := hid (show timesP lo hi = 123 :: (Lib.itoa lo ++ 44 :: (Lib.itoa hi ++ [125])) by
            unfold timesP
            rw [if_neg (by omega)]
            rw [if_neg (by omega)]
            rw [if_neg (by omega)]
            rw [if_neg (by omega)]
            rw [if_neg (by omega)])
          clear p_lo0 p_lo1 p_him p_eq
          go_enter Tryz.func73, Tryz.ntmps73
          go_wp2_with fail
          refine (C1.out _).mono ?_
          rintro e w1 ⟨rfl, hb1⟩
          go_wp2_with fail
          refine (C2.out _).mono ?_
          rintro e w2 ⟨rfl, hb2⟩
          go_wp2
          go_ret
          rw [HT.out]
          exact ⟨end_string (by apply ba_list; simp only [dat_app2, E1.out, E2.out, mkB_data]; simp), ext_trans hb1 hb2⟩
    · skip
      by_cases p_him : hi = -1
      · skip
        have b_lo0 : (lo == 0) = false := by rw [beq_eq_false_iff_ne]; exact p_lo0
        have b_lo1 : (lo == 1) = false := by rw [beq_eq_false_iff_ne]; exact p_lo1
        have b_him : (hi == -1) = true := by rw [beq_iff_eq]; exact p_him
        have HT := hid (show timesP lo hi = 123 :: (Lib.itoa lo ++ [44, 125]) by
          unfold timesP
          rw [if_neg (by omega)]
          rw [if_neg (by omega)]
          rw [if_neg (by omega)]
          rw [if_neg (by omega)]
          rw [if_pos (by omega)])
        clear p_lo0 p_lo1 p_him
        go_enter Tryz.func73, Tryz.ntmps73
        go_wp2_with fail
        refine (C1.out _).mono ?_
        rintro e w1 ⟨rfl, hb1⟩
        go_wp2
        go_ret
        rw [HT.out]
        exact ⟨end_string (by apply ba_list; simp only [dat_app2, E1.out, E2.out, mkB_data]; simp), hb1⟩
      · skip
        by_cases p_eq : lo = hi
        · skip
          have b_lo0 : (lo == 0) = false := by rw [beq_eq_false_iff_ne]; exact p_lo0
          have b_lo1 : (lo == 1) = false := by rw [beq_eq_false_iff_ne]; exact p_lo1
          have b_him : (hi == -1) = false := by rw [beq_eq_false_iff_ne]; exact p_him
          have b_eq : (lo == hi) = true := by rw [beq_iff_eq]; exact p_eq
          have HT := hid (show timesP lo hi = 123 :: (Lib.itoa lo ++ [125]) by
            unfold timesP
            rw [if_neg (by omega)]
            rw [if_neg (by omega)]
            rw [if_neg (by omega)]
            rw [if_pos (by omega)])
          clear p_lo0 p_lo1 p_him p_eq
          go_enter Tryz.func73, Tryz.ntmps73
          go_wp2_with fail
          refine (C1.out _).mono ?_
          rintro e w1 ⟨rfl, hb1⟩
          go_wp2
          go_ret
          rw [HT.out]
          exact ⟨end_string (by apply ba_list; simp only [dat_app2, E1.out, E2.out, mkB_data]; simp), hb1⟩
        · skip
          have b_lo0 : (lo == 0) = false := by rw [beq_eq_false_iff_ne]; exact p_lo0
          have b_lo1 : (lo == 1) = false := by rw [beq_eq_false_iff_ne]; exact p_lo1
          have b_him : (hi == -1) = false := by rw [beq_eq_false_iff_ne]; exact p_him
          have b_eq : (lo == hi) = false := by rw [beq_eq_false_iff_ne]; exact p_eq
          have HT := hid (show timesP lo hi = 123 :: (Lib.itoa lo ++ 44 :: (Lib.itoa hi ++ [125])) by
            unfold timesP
            rw [if_neg (by omega)]
            rw [if_neg (by omega)]
            rw [if_neg (by omega)]
            rw [if_neg (by omega)]
            rw [if_neg (by omega)])
          clear p_lo0 p_lo1 p_him p_eq
          go_enter Tryz.func73, Tryz.ntmps73
          go_wp2_with fail
          refine (C1.out _).mono ?_
          rintro e w1 ⟨rfl, hb1⟩
          go_wp2_with fail
          refine (C2.out _).mono ?_
          rintro e w2 ⟨rfl, hb2⟩
          go_wp2
          go_ret
          rw [HT.out]
          exact ⟨end_string (by apply ba_list; simp only [dat_app2, E1.out, E2.out, mkB_data]; simp), ext_trans hb1 hb2⟩
set_option maxHeartbeats 2000000 in
theorem idxIntF (p : Int → Bool) (g : Nat) (lb : Array Value) (eg : ∀ args w, (callFunc g args).run Tryz.prog w = .ok (.enter g args) w) {v : Value} {xs : List Int} (w : World) (h : Rd.rd (Old w) w [v] xs) (hn : xs.length ≤ 9223372036854775807)
    (hp : ∀ (x : Int) (W : World), Below w.heap.size w W → Calls Tryz.prog g (#[.int .i64 x] ++ lb) W fun e W' => e = .returned (.bool (p x)) ∧ Below W.heap.size W W') :
    Calls Tryz.prog 204 #[v, .func (.func g) #[] lb] w fun e w' => e = .returned (.int .i64 (idxP p xs)) ∧ Below w.heap.size w w' := by
  obtain ⟨a, cap, hv, h1, h2, hF⟩ := h
  obtain rfl : v = .slice a xs.length cap := by simpa using hv
  have HP := hid hp
  clear hv hp
  go_enter Tryz.func204, Tryz.ntmps204
  go_wp2
  go_loopw [5, 8] (fun _ i wr => ∃ k : Nat, k ≤ xs.length ∧ i = .int .i64 (k : Int) ∧ Hid (∀ j (hj : j < xs.length), j < k → p xs[j] = false) ∧ Below w.heap.size w wr) (fun _ i _ => xs.length - (intOf i).toNat)
  case atStart => exact ⟨0, Nat.zero_le _, rfl, hid (fun j _ hj => absurd hj (Nat.not_lt_zero _)), Below.refl _ _⟩
  case round =>
    obtain ⟨k, hk, rfl, HA, hb⟩ := hrel
    by_cases hlt : k < xs.length
    · obtain ⟨b, off, rfl, hB, hrow⟩ := hF (by omega)
      obtain ⟨cs, hcell, hx⟩ := hrow k hlt
      have hx0 := hx; obtain ⟨hcs, f0⟩ := hx0
      subst hcs
      have t0 : wr.cell? ⟨b, off + k, none⟩ = some (.int .i64 xs[k]) := (hb.cell (p := ⟨b, off + k, none⟩) hB).trans (by have h9 := hcell 0 (by decide); rw [show off + k * Rd.n Int + 0 = off + k from by show off + k * 1 + 0 = _; omega] at h9; exact h9)
      obtain ⟨x, hxe⟩ : ∃ x, xs[k] = x := ⟨_, rfl⟩
      rw [hxe] at t0
      have HX := hid hxe
      have CP := HP.out x wr hb
      obtain ⟨q, hq⟩ : ∃ q, p x = q := ⟨_, rfl⟩
      rw [hq] at CP
      have HQ := hid hq
      have hki : (k : Int) < (xs.length : Int) := by omega
      have hk0 : (0 : Int) ≤ (k : Int) := by omega
      clear hrow hcell hx hq hxe hF
      cases q with
      | true =>
        go_wp2_with fail
        refine CP.mono ?_
        rintro e w1 ⟨rfl, hb1⟩
        clear CP
        go_wp2
        go_ret
        exact ⟨end_int (idxP_hit hlt (by rw [HX.out]; exact HQ.out) (fun j hj hjk => HA.out j hj hjk)).symm, ext_trans hb hb1⟩
      | false =>
        go_wp2_with fail
        refine CP.mono ?_
        rintro e w1 ⟨rfl, hb1⟩
        clear CP
        go_wp2
        go_roundw
        case rel =>
          refine ⟨k + 1, by omega, by go_num, hid (fun j hj hjk => ?_), ext_trans hb hb1⟩
          by_cases e : j = k
          · subst e; rw [HX.out]; exact HQ.out
          · exact HA.out j hj (by omega)
        case measure => simp [intOf]; omega
    · have hki : ¬ (k : Int) < (xs.length : Int) := by omega
      clear hF
      go_wp2
      go_ret
      exact ⟨end_int (idxP_miss (fun j hj => HA.out j hj (by omega))).symm, hb⟩
set_option maxHeartbeats 1000000 in
theorem anyIntF (p : Int → Bool) (g : Nat) (lb : Array Value) (eg : ∀ args w, (callFunc g args).run Tryz.prog w = .ok (.enter g args) w) {v : Value} {xs : List Int} (w : World) (h : Rd.rd (Old w) w [v] xs) (hn : xs.length ≤ 9223372036854775807)
    (hp : ∀ (x : Int) (W : World), Below w.heap.size w W → Calls Tryz.prog g (#[.int .i64 x] ++ lb) W fun e W' => e = .returned (.bool (p x)) ∧ Below W.heap.size W W') :
    Calls Tryz.prog 185 #[v, .func (.func g) #[] lb] w fun e w' => e = .returned (.bool (xs.any p)) ∧ Below w.heap.size w w' := by
  have CI := idxIntF p g lb eg w h hn hp
  obtain ⟨z, hz⟩ : ∃ z, idxP p xs = z := ⟨_, rfl⟩
  rw [← idxP_nonneg, hz]
  rw [hz] at CI
  clear hz hp h
  go_enter Tryz.func185, Tryz.ntmps185
  go_wp2_with fail
  refine CI.mono ?_
  rintro e w1 ⟨rfl, hb1⟩
  go_wp2
  go_ret
  exact ⟨rfl, hb1⟩
set_option maxHeartbeats 2000000 in
theorem implIndexInt {v : Value} {xs : List Int} (c : Int) (w : World) (h : Rd.rd (Old w) w [v] xs) :
    Calls Tryz.prog 205 #[v, .int .i64 c] w fun e w' => e = .returned (.int .i64 (idxP (fun x => c == x) xs)) ∧ w = w' := by
  obtain ⟨a, cap, rfl, h1, h2, hF⟩ := rdIntsL h
  clear h
  go_enter Tryz.func205, Tryz.ntmps205
  go_wp2
  go_loop [5, 8] (fun _ i => ∃ k : Nat, k ≤ xs.length ∧ i = .int .i64 (k : Int) ∧ Hid (∀ j (hj : j < xs.length), j < k → (c == xs[j]) = false)) (fun _ i => xs.length - (intOf i).toNat)
  case atStart => exact ⟨0, Nat.zero_le _, rfl, hid (fun j _ hj => absurd hj (Nat.not_lt_zero _))⟩
  case round =>
    obtain ⟨k, hk, rfl, HA⟩ := hrel
    by_cases hlt : k < xs.length
    · obtain ⟨b, off, rfl, hB, hcell⟩ := hF (by omega)
      have t0 := (hcell k hlt).1
      obtain ⟨x, hxe⟩ : ∃ x, xs[k] = x := ⟨_, rfl⟩
      rw [hxe] at t0
      have HX := hid hxe
      obtain ⟨q, hq⟩ : ∃ q, (c == x) = q := ⟨_, rfl⟩
      have HQ := hid hq
      have hki : (k : Int) < (xs.length : Int) := by omega
      have hk0 : (0 : Int) ≤ (k : Int) := by omega
      clear hcell hxe hF
      cases q with
      | true =>
        go_wp2
        go_ret
        exact ⟨end_int (idxP_hit (p := fun x => c == x) hlt (by rw [HX.out]; exact HQ.out) (fun j hj hjk => HA.out j hj hjk)).symm, rfl⟩
      | false =>
        go_wp2
        go_round
        case rel =>
          refine ⟨k + 1, by omega, by go_num, hid (fun j hj hjk => ?_)⟩
          by_cases e : j = k
          · subst e; rw [HX.out]; exact HQ.out
          · exact HA.out j hj (by omega)
        case measure => simp [intOf]; omega
    · have hki : ¬ (k : Int) < (xs.length : Int) := by omega
      clear hF
      go_wp2
      go_ret
      exact ⟨end_int (idxP_miss (p := fun x => c == x) (fun j hj => HA.out j hj (by omega))).symm, rfl⟩
theorem any_contains (c : Int) (xs : List Int) : (xs.any fun x => c == x) = xs.contains c := by
  induction xs with
  | nil => rfl
  | cons a r ih => rw [List.any_cons, ih, List.contains_cons]
theorem implContainsInt {v : Value} {xs : List Int} (c : Int) (w : World) (h : Rd.rd (Old w) w [v] xs) :
    Calls Tryz.prog 187 #[v, .int .i64 c] w fun e w' => e = .returned (.bool (xs.contains c)) ∧ w = w' := by
  have CI := implIndexInt c w h
  rw [← any_contains, ← idxP_nonneg]
  obtain ⟨z, hz⟩ : ∃ z, idxP (fun x => c == x) xs = z := ⟨_, rfl⟩
  rw [hz] at CI ⊢
  clear hz h
  go_enter Tryz.func187, Tryz.ntmps187
  go_wp2_with fail
  refine CI.mono ?_
  rintro e w1 ⟨rfl, rfl⟩
  go_wp2
  go_ret
  exact ⟨rfl, rfl⟩
set_option maxHeartbeats 4000000 in
theorem implKidText {na : Option Addr} {nc tb tc k m : Nat} {ka : Option Addr} {kc : Nat} {ns : List RxNode} {ks : List Int} {t : ByteArray} (w : World)
    (hn : Rd.rd (Old w) w [.slice na ns.length nc] ns) (hk : k < ns.length) (hkm : k < m) (ht : w.cell? ⟨tb, k, none⟩ = some (.string t)) (hks : Rd.rd (Old w) w [.slice ka ks.length kc] ks) (hts : t.size ≤ 1000) :
    Calls Tryz.prog 153 #[.agg #[.slice na ns.length nc], .slice (some ⟨tb, 0, none⟩) m tc, .int .i64 (k : Int), .slice ka ks.length kc] w
      fun e w' => e = .returned (.string (mkB (kidP ks ns[k].kind t.data.toList))) ∧ Below w.heap.size w w' := by
  obtain ⟨a, cap, hv, h1, h2, hF⟩ := hn
  obtain ⟨rfl, rfl⟩ : na = a ∧ nc = cap := by simpa using hv
  obtain ⟨b, off, rfl, hB, hrow⟩ := hF (by omega)
  obtain ⟨cs, hcell, hx⟩ := hrow k hk
  obtain ⟨us, uk, hcs, _⟩ := rdNode hx
  subst hcs
  have t0 : w.cell? ⟨b, off + k * 6, none⟩ = some (.int .i64 ns[k].kind) := hcell 0 (by decide)
  have hBl : b < w.heap.size := hB
  have hbl : b ≠ w.heap.size := by omega
  have htl : tb < w.heap.size := cell_lt ht
  have htn : tb ≠ w.heap.size := by omega
  obtain ⟨kd, hkd⟩ : ∃ z, ns[k].kind = z := ⟨_, rfl⟩
  rw [hkd] at t0 ⊢
  have CC := hid (implContainsInt (v := .slice ka ks.length kc) kd (w.alloc (.cells #[.slice (some ⟨b, off, none⟩) ns.length nc] 29)) (Rd.later (ext_alloc w _) hks))
  obtain ⟨q, hq⟩ : ∃ q, ks.contains kd = q := ⟨_, rfl⟩
  have HK := hid (show kidP ks kd t.data.toList = if q = true then 40 :: (t.data.toList ++ [41]) else t.data.toList by unfold kidP; rw [hq])
  rw [hq] at CC
  have hki : (k : Int) < (ns.length : Int) := by omega
  have hkmi : (k : Int) < (m : Int) := by omega
  have hk0 : (0 : Int) ≤ (k : Int) := by omega
  have q1 : ¬ 9223372036854775807 < 1 + t.size := by omega
  have q2 : ¬ 9223372036854775807 < 1 + t.size + 1 := by omega
  clear hv hF hrow hcell hx hkd hq hks
  cases q with
  | false =>
    go_enter Tryz.func153, Tryz.ntmps153
    go_wp2_with fail
    refine CC.out.mono ?_
    rintro e w1 ⟨rfl, rfl⟩
    go_wp2
    go_ret
    rw [HK.out]
    exact ⟨end_string (by apply ba_list; rw [mkB_data]; rfl), ext_alloc _ _⟩
  | true =>
    go_enter Tryz.func153, Tryz.ntmps153
    go_wp2_with fail
    refine CC.out.mono ?_
    rintro e w1 ⟨rfl, rfl⟩
    go_wp2
    go_ret
    rw [HK.out]
    exact ⟨end_string (by apply ba_list; rw [mkB_data]; simp only [dat_app2]; rfl), ext_alloc _ _⟩
end Go.Proofs.YtomcoilmpkpoeaaGreatDoor
