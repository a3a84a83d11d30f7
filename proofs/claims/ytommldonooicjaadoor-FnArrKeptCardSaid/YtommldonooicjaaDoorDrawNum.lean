/-
  What is proved here: the draw of a number's text. No condition but that the cursor lies in memory.
-/
import Derived.Test.YtommldonooicjaaDoorCurT
import Derived.Test.YtommldonooicjaaDoorCurAny
import Derived.Test.YtommldonooicjaaDoorDrw
import Derived.Deep.Cut
namespace Go.Proofs.YtommldonooicjaaDoor
open Go.RowKit
set_option linter.unusedVariables false
set_option linter.unusedSimpArgs false

set_option maxHeartbeats 16000000 in
set_option maxRecDepth 100000 in
theorem curNumText {B p k : Nat} (w : World) (hc : Cur B w p k) (hk : k ≤ 700000000000) :
    Calls Tryd.prog 84 #[.pointer (some ⟨p, 0, none⟩)] w fun e w' => ∃ s : ByteArray, e = .returned (.string s) ∧ s.size ≤ 100 ∧ ∃ k', k' ≤ k + 50 ∧ Cur B w' p k' ∧ w.grownBy w' (some p) := by
  go_enter Tryd.func84, Tryd.ntmps84
  go_wp2_with fail
  refine (curPick 4 _ (hc.alloc _) (by omega) (by omega)).mono ?_
  rintro e w1 ⟨q, rfl, hq, k1, hk1, hc1, hg1⟩
  have hq1 : (q : Int) < 4 := by omega
  have hq0 : (0 : Int) ≤ (q : Int) := by omega
  obtain ⟨t, ht, htc⟩ := lit_str' (m := 1) (r := q) hg1 hc.lt.2 (by decide) (by show q < 4; omega)
  have HC1 := hid hc1
  have HG1 := hid (grown_trans (grown_alloc (grown_refl w (some p)) _) hg1)
  clear hc1 hg1 hc hq
  go_wp2_with fail
  refine (curSize 8 _ HC1.out (by omega) (by omega) (by omega)).mono ?_
  rintro e w2 ⟨r, rfl, hr, k2, hk2, hc2, hg2⟩
  have HC2 := hid hc2
  have HG2 := hid (grown_trans HG1.out hg2)
  have hr8 : r ≤ 8 := by omega
  have hrw : IntKind.i64.wrap (1 + (r : Int)) = ((1 + r : Nat) : Int) := by rw [IntWalk.i64_in _ (by omega)]; omega
  clear hc2 hg2 HC1 HG1 htc hr
  go_wp2
  go_loopw [3, 4] (fun out kk wr => ∃ (j : Nat) (o : ByteArray) (k3 : Nat), out = .string o ∧ kk = .int .i64 (j : Int) ∧ j ≤ 9 ∧ o.size ≤ 1 + 2 * (9 - j) ∧ k3 ≤ k + 2 + (9 - j) ∧ Cur B wr p k3 ∧ w.grownBy wr (some p)) (fun _ kk _ => (intOf kk).toNat)
  case atStart => exact ⟨1 + r, t, k2, rfl, rfl, by omega, by omega, by omega, HC2.out, HG2.out⟩
  case round =>
    obtain ⟨j, o, k3, rfl, rfl, hj, ho, hk3, hc3, hg3⟩ := hrel
    by_cases hz : (0 : Int) < (j : Int)
    · go_wp2_with fail
      refine (curPick 6 _ (hc3.alloc _) (by omega) (by omega)).mono ?_
      rintro e w5 ⟨q5, rfl, hq5, k5, hk5, hc5, hg5⟩
      have hq1 : (q5 : Int) < 6 := by omega
      have hq0 : (0 : Int) ≤ (q5 : Int) := by omega
      have hlt := hc3.lt
      obtain ⟨t5, ht5, htc⟩ := lit_str' (m := 2) (r := q5) hg5 hlt.2 (by decide) (by show q5 < 6; omega)
      have hsum : ¬ 9223372036854775807 < o.size + t5.size := by omega
      go_wp2
      go_roundw
      case rel => exact ⟨j - 1, o ++ t5, k5, rfl, by first | go_num | (congr 1; omega), by omega, by rw [ByteArray.size_append]; omega, by omega, hc5, grown_trans (grown_alloc hg3 _) hg5⟩
      case measure => simp [intOf]; omega
    · have ho2 : o.size ≤ 19 := by omega
      have hk4 : k3 ≤ k + 11 := by omega
      have HC3 := hid hc3
      have HG3 := hid hg3
      clear ho hk3 hc3 hg3 HC2 HG2 ht
      go_wp2_with fail
      refine (curPick 2 _ HC3.out (by omega) (by omega)).mono ?_
      rintro e w6 ⟨q6, rfl, hq6, k6, hk6, hc6, hg6⟩
      have HC6 := hid hc6
      have HG6 := hid (grown_trans HG3.out hg6)
      clear hc6 hg6 HC3 HG3
      go_upto_if 27 with fail
      go_cut [3, 5] from 6 (fun v3 _ wx => ∃ (o' : ByteArray) (k' : Nat), v3 = .string o' ∧ o'.size ≤ 40 ∧ k' ≤ k + 25 ∧ Cur B wx p k' ∧ w.grownBy wx (some p))
      case first =>
        by_cases hq60 : q6 = 0
        · have hqb : ((q6 : Int) == 0) = true := by rw [hq60]; rfl
          have hqp : (q6 : Int) = 0 := by omega
          have hsum : ¬ 9223372036854775807 < o.size + 1 := by omega
          clear hq60
          rw [hqb]
          go_wp2_with fail
          refine (curSize 8 _ HC6.out (by omega) (by omega) (by omega)).mono ?_
          rintro e w7 ⟨r7, rfl, hr7, k7, hk7, hc7, hg7⟩
          have HC7 := hid hc7
          have HG7 := hid (grown_trans HG6.out hg7)
          have hr78 : r7 ≤ 8 := by omega
          clear hc7 hg7 HC6 HG6 hr7 hz
          go_wp2
          go_loopw [3, 5] (fun out kk wr => ∃ (j : Nat) (o : ByteArray) (k3 : Nat), out = .string o ∧ kk = .int .i64 (j : Int) ∧ j ≤ 8 ∧ o.size ≤ 20 + 2 * (8 - j) ∧ k3 ≤ k + 14 + (8 - j) ∧ Cur B wr p k3 ∧ w.grownBy wr (some p)) (fun _ kk _ => (intOf kk).toNat)
          case atStart => exact ⟨r7, o ++ ⟨#[46]⟩, k7, rfl, rfl, hr78, by rw [ByteArray.size_append, show (⟨#[46]⟩ : ByteArray).size = 1 from rfl]; omega, by omega, HC7.out, HG7.out⟩
          case round =>
            obtain ⟨j, o, k3, rfl, rfl, hj, ho, hk3, hc3, hg3⟩ := hrel
            by_cases hz : (0 : Int) < (j : Int)
            · go_wp2_with fail
              refine (curPick 4 _ (hc3.alloc _) (by omega) (by omega)).mono ?_
              rintro e w5 ⟨q5, rfl, hq5, k5, hk5, hc5, hg5⟩
              have hq1 : (q5 : Int) < 4 := by omega
              have hq0 : (0 : Int) ≤ (q5 : Int) := by omega
              have hlt := hc3.lt
              obtain ⟨t5, ht5, htc⟩ := lit_str' (m := 2) (r := q5) hg5 hlt.2 (by decide) (by show q5 < 4; omega)
              have hsum : ¬ 9223372036854775807 < o.size + t5.size := by omega
              go_wp2
              go_roundw
              case rel => exact ⟨j - 1, o ++ t5, k5, rfl, by first | go_num | (congr 1; omega), by omega, by rw [ByteArray.size_append]; omega, by omega, hc5, grown_trans (grown_alloc hg3 _) hg5⟩
              case measure => simp [intOf]; omega
            · go_wp2
              go_meet
              case rel => exact ⟨o, k3, rfl, by omega, by omega, hc3, hg3⟩
        · have hqb : ((q6 : Int) == 0) = false := by rw [beq_eq_false_iff_ne]; omega
          have hqp : ¬ (q6 : Int) = 0 := by omega
          rw [hqb]
          go_wp2
          go_meet
          case rel => exact ⟨o, k6, rfl, by omega, by omega, HC6.out, HG6.out⟩
      case rest =>
      obtain ⟨o7, k7, rfl, ho7, hk7, hc7, hg7⟩ := hcut
      have HC7 := hid hc7
      have HG7 := hid hg7
      clear hc7 hg7 HC6 HG6 hq6 ho2 hk6
      go_wp2_with fail
      refine (curPick 4 _ HC7.out (by omega) (by omega)).mono ?_
      rintro e w8 ⟨q8, rfl, hq8, k8, hk8, hc8, hg8⟩
      have HC8 := hid hc8
      have HG8 := hid (grown_trans HG7.out hg8)
      clear hc8 hg8 HC7 HG7
      go_upto_if 45 with fail
      go_cut [3] from 6 (fun v3 wx => ∃ (o' : ByteArray) (k' : Nat), v3 = .string o' ∧ o'.size ≤ 90 ∧ k' ≤ k + 30 ∧ Cur B wx p k' ∧ w.grownBy wx (some p))
      case first =>
        by_cases hq80 : q8 = 0
        · have hqb : ((q8 : Int) == 0) = true := by rw [hq80]; rfl
          have hqp : (q8 : Int) = 0 := by omega
          clear hq80
          rw [hqb]
          go_wp2_with fail
          refine (curPick 10 _ (HC8.out.alloc _) (by omega) (by omega)).mono ?_
          rintro e w5 ⟨q5, rfl, hq5, k5, hk5, hc5, hg5⟩
          have hq1 : (q5 : Int) < 10 := by omega
          have hq0 : (0 : Int) ≤ (q5 : Int) := by omega
          obtain ⟨t5, ht5, htc⟩ := lit_str' (m := 22) (r := q5) hg5 HC8.out.lt.2 (by decide) (by show q5 < 10; omega)
          have hsum : ¬ 9223372036854775807 < o7.size + t5.size := by omega
          go_wp2
          go_meet
          case rel => exact ⟨o7 ++ t5, k5, rfl, by rw [ByteArray.size_append]; omega, by omega, hc5, grown_trans (grown_alloc HG8.out _) hg5⟩
        · have hqb : ((q8 : Int) == 0) = false := by rw [beq_eq_false_iff_ne]; omega
          have hqp : ¬ (q8 : Int) = 0 := by omega
          rw [hqb]
          go_wp2
          go_meet
          case rel => exact ⟨o7, k8, rfl, by omega, by omega, HC8.out, HG8.out⟩
      case rest =>
      obtain ⟨o9, k9, rfl, ho9, hk9, hc9, hg9⟩ := hcut
      have HC9 := hid hc9
      have HG9 := hid hg9
      clear hc9 hg9 HC8 HG8 hq8 ho7 hk8
      go_wp2_with fail
      refine (curOnce 10 _ HC9.out (by omega) (by omega) (by omega)).mono ?_
      rintro e w10 ⟨b, rfl, k10, hk10, hc10, hg10⟩
      have HC10 := hid hc10
      have HG10 := hid (grown_trans HG9.out hg10)
      clear hc10 hg10 HC9 HG9
      cases b with
      | false =>
        go_wp2
        go_ret
        exact ⟨o9, rfl, by omega, k10, by omega, HC10.out, HG10.out⟩
      | true =>
        go_wp2_with fail
        refine (curPick 12 _ (HC10.out.alloc _) (by omega) (by omega)).mono ?_
        rintro e w5 ⟨q5, rfl, hq5, k5, hk5, hc5, hg5⟩
        have hq1 : (q5 : Int) < 12 := by omega
        have hq0 : (0 : Int) ≤ (q5 : Int) := by omega
        obtain ⟨t5, ht5, htc⟩ := lit_str' (m := 5) (r := q5) hg5 HC10.out.lt.2 (by decide) (by show q5 < 12; omega)
        go_wp2
        go_ret
        exact ⟨t5, rfl, by omega, k5, by omega, hc5, grown_trans (grown_alloc HG10.out _) hg5⟩
end Go.Proofs.YtommldonooicjaaDoor
