/-
  What is proved here: spec.l04Start, spec.l03Scan, impl.decEnd and what they call: how far the text of a number goes. No condition but sizes.
-/
import Derived.Test.YtomcoilmpkpoeaaGreatDoorVScan
import Derived.Deep.Cut
import Derived.Deep.CutRange
namespace Go.Proofs.YtomcoilmpkpoeaaGreatDoor
open Go.RowKit
set_option linter.unusedVariables false
set_option linter.unusedSimpArgs false

theorem drop_get {s : ByteArray} {k : Nat} (h : k < s.size) : s.data.toList.drop k = s[k] :: s.data.toList.drop (k + 1) := by
  rw [← get_list s k h]
  exact List.drop_eq_getElem_cons (by rw [← Lib.size_eq]; exact h)
theorem drop_end {s : ByteArray} {k : Nat} (h : ¬ k < s.size) : s.data.toList.drop k = [] := List.drop_of_length_le (by rw [← Lib.size_eq]; omega)
/-- the byte at a place is of the kind -/
def atB (p : UInt8 → Bool) (s : ByteArray) (k : Nat) : Bool := decide (hd1 p (s.data.toList.drop k) = 1)
theorem atB_get {p : UInt8 → Bool} {s : ByteArray} {k : Nat} (h : k < s.size) {c : UInt8} (hc : s[k] = c) : atB p s k = p c := by
  unfold atB
  rw [drop_get h, hc]
  rw [hd1_cons]
  cases p c <;> rfl
theorem atB_end {p : UInt8 → Bool} {s : ByteArray} {k : Nat} (h : ¬ k < s.size) : atB p s k = false := by
  unfold atB
  rw [drop_end h]
  rfl
theorem atB_true {p : UInt8 → Bool} {s : ByteArray} {k : Nat} (h : atB p s k = true) : hd1 p (s.data.toList.drop k) = 1 ∧ ∃ hk : k < s.size, p s[k] = true := by
  refine ⟨of_decide_eq_true h, ?_⟩
  by_cases hk : k < s.size
  · exact ⟨hk, by rw [← atB_get (p := p) hk rfl]; exact h⟩
  · rw [atB_end hk] at h; cases h
theorem atB_false {p : UInt8 → Bool} {s : ByteArray} {k : Nat} (h : atB p s k = false) : hd1 p (s.data.toList.drop k) = 0 := by
  have h1 := of_decide_eq_false h
  have := (hd1_le p (s.data.toList.drop k)).1
  omega
theorem isBlkN_iff {c : Nat} : isBlkN c = true ↔ c = 32 ∨ c = 9 ∨ c = 10 ∨ c = 13 := by simp [isBlkN, or_assoc]
theorem isSg_iff {c : UInt8} : isSg c = true ↔ c.toNat = 43 ∨ c.toNat = 45 := by simp [isSg]
theorem isEx_iff {c : UInt8} : isEx c = true ↔ c.toNat = 101 ∨ c.toNat = 69 := by simp [isEx]
theorem isSg_no {c : UInt8} (h1 : ¬ c.toNat = 43) (h2 : ¬ c.toNat = 45) : isSg c = false := by
  rw [← Bool.not_eq_true, isSg_iff]; omega
theorem isEx_no {c : UInt8} (h1 : ¬ c.toNat = 101) (h2 : ¬ c.toNat = 69) : isEx c = false := by
  rw [← Bool.not_eq_true, isEx_iff]; omega
theorem isDig_no {c : UInt8} (h : ¬ (48 ≤ c.toNat ∧ c.toNat ≤ 57)) : isDig c = false := by
  rw [← Bool.not_eq_true, isDig_iff]; exact h
theorem expL_no {s : ByteArray} {k : Nat} (h : atB isEx s k = false) : expL (s.data.toList.drop k) = 0 := by
  by_cases hk : k < s.size
  · rw [drop_get hk]
    rw [atB_get hk rfl] at h
    rw [expL_cons, if_neg (by rw [h]; simp)]
  · rw [drop_end hk]; rfl
theorem expL_yes {s : ByteArray} {k : Nat} (h : atB isEx s k = true) :
    expL (s.data.toList.drop k) = if 0 < dgs (s.data.toList.drop (k + 1 + hd1 isSg (s.data.toList.drop (k + 1)))) then 1 + hd1 isSg (s.data.toList.drop (k + 1)) + dgs (s.data.toList.drop (k + 1 + hd1 isSg (s.data.toList.drop (k + 1)))) else 0 := by
  obtain ⟨_, hk, hc⟩ := atB_true h
  rw [drop_get hk]
  rw [expL_cons, List.drop_drop]
  simp only [hc, true_and]
theorem specDigitB (c : UInt8) (w : World) : Calls Tryz.prog 111 #[.int .u8 (c.toNat : Int)] w fun e w' => e = .returned (.bool (isDig c)) ∧ w = w' := by
  by_cases h1 : 48 ≤ c.toNat
  · by_cases h2 : c.toNat ≤ 57
    · have HR := hid (isDig_iff.2 ⟨h1, h2⟩)
      have g1 : ¬ (c.toNat : Int) < 48 := by omega
      have g2 : (c.toNat : Int) ≤ 57 := by omega
      go_enter Tryz.func111, Tryz.ntmps111
      go_wp2
      go_ret
      rw [HR.out]
      exact ⟨rfl, rfl⟩
    · have HR := hid (isDig_no (c := c) (by omega))
      have g1 : ¬ (c.toNat : Int) < 48 := by omega
      have g2 : ¬ (c.toNat : Int) ≤ 57 := by omega
      go_enter Tryz.func111, Tryz.ntmps111
      go_wp2
      go_ret
      rw [HR.out]
      exact ⟨rfl, rfl⟩
  · have HR := hid (isDig_no (c := c) (by omega))
    have g1 : (c.toNat : Int) < 48 := by omega
    go_enter Tryz.func111, Tryz.ntmps111
    go_wp2
    go_ret
    rw [HR.out]
    exact ⟨rfl, rfl⟩
set_option maxHeartbeats 8000000 in
set_option maxRecDepth 100000 in
theorem specScan (s : ByteArray) (a : Nat) (w : World) (ha : a ≤ s.size) (hs : s.size ≤ 1000000) :
    Calls Tryz.prog 64 #[.string s, .int .i64 (a : Int)] w fun e w' => e = .returned (.int .i64 ((a + scanL (s.data.toList.drop a) : Nat) : Int)) ∧ w = w' := by
  obtain ⟨sg, hsg⟩ : ∃ n, hd1 isSg (s.data.toList.drop a) = n := ⟨_, rfl⟩
  obtain ⟨M, hM⟩ : ∃ m, mant false (s.data.toList.drop (a + sg)) = m := ⟨_, rfl⟩
  obtain ⟨M1, M2⟩ := M
  have hsc : scanL (s.data.toList.drop a) = if M2 = 0 then 0 else sg + M1 + expL (s.data.toList.drop (a + sg + M1)) := by
    unfold scanL
    rw [hsg, List.drop_drop, hM, List.drop_drop]
    simp only [Nat.add_assoc]
  have hsl : sg ≤ 1 ∧ a + sg ≤ s.size := by
    have := hd1_le isSg (s.data.toList.drop a)
    rw [hsg, List.length_drop, ← Lib.size_eq] at this
    omega
  have hml : a + sg + M1 ≤ s.size ∧ M2 ≤ M1 := by
    have := mant_le false (s.data.toList.drop (a + sg))
    rw [hM, List.length_drop, ← Lib.size_eq] at this
    simp only at this
    omega
  obtain ⟨R, hR⟩ : ∃ r, a + scanL (s.data.toList.drop a) = r := ⟨_, rfl⟩
  rw [hR]
  rw [hsc] at hR
  have HSC := hid hR
  have HM := hid hM
  have HSG := hid hsg
  clear hsc hM hsg hR
  go_enter Tryz.func64, Tryz.ntmps64
  go_upto_region 2 with fail
  go_cut [26] from 11 (fun v wr => v = .bool (atB isSg s a) ∧ w = wr)
  case first =>
    by_cases hlt : a < s.size
    · obtain ⟨c, hc⟩ : ∃ c : UInt8, s[a] = c := ⟨_, rfl⟩
      have HA := hid (atB_get (p := isSg) hlt hc)
      have hi1 : (a : Int) < (s.size : Int) := by omega
      have hix : (s[a] : UInt8).toNat = c.toNat := by rw [hc]
      clear hc
      by_cases h1 : c.toNat = 43
      · have HB := hid (isSg_iff.2 (Or.inl h1))
        have g1 : ((c.toNat : Int) == 43) = true := by rw [beq_iff_eq]; omega
        clear h1
        go_wp2
        go_meet
        case rel => exact ⟨by rw [HA.out, HB.out], rfl⟩
      · by_cases h2 : c.toNat = 45
        · have HB := hid (isSg_iff.2 (Or.inr h2))
          have g1 : ((c.toNat : Int) == 43) = false := by rw [beq_eq_false_iff_ne]; omega
          have g2 : ((c.toNat : Int) == 45) = true := by rw [beq_iff_eq]; omega
          clear h1 h2
          go_wp2
          go_meet
          case rel => exact ⟨by rw [HA.out, HB.out], rfl⟩
        · have HB := hid (isSg_no h1 h2)
          have g1 : ((c.toNat : Int) == 43) = false := by rw [beq_eq_false_iff_ne]; omega
          have g2 : ((c.toNat : Int) == 45) = false := by rw [beq_eq_false_iff_ne]; omega
          clear h1 h2
          go_wp2
          go_meet
          case rel => exact ⟨by rw [HA.out, HB.out], rfl⟩
    · have HA := hid (atB_end (p := isSg) hlt)
      have hi1 : ¬ (a : Int) < (s.size : Int) := by omega
      go_wp2
      go_meet
      case rel => exact ⟨by rw [HA.out], rfl⟩
  case rest =>
  obtain ⟨rfl, rfl⟩ := hcut
  obtain ⟨b, hb⟩ : ∃ b, atB isSg s a = b := ⟨_, rfl⟩
  have HB := hid hb
  rw [hb]
  clear hb
  go_upto_if 26 with fail
  go_cut [5] from 11 (fun v wr => v = .int .i64 ((a + sg : Nat) : Int) ∧ w = wr)
  case first =>
    cases b
    · have HE := hid (show sg = 0 from HSG.out.symm.trans (atB_false HB.out))
      go_wp2
      go_meet
      case rel => exact ⟨by rw [HE.out, Nat.add_zero], rfl⟩
    · have HE := hid (show sg = 1 from HSG.out.symm.trans (atB_true HB.out).1)
      go_wp2
      go_meet
      case rel => exact ⟨by rw [HE.out]; go_num, rfl⟩
  case rest =>
  obtain ⟨rfl, rfl⟩ := hcut
  go_wp2
  go_loopw [5, 6, 7] (fun k d p wr => ∃ (kn dn pn : Nat), kn ≤ s.size ∧ dn ≤ kn ∧ pn ≤ 1 ∧ k = .int .i64 (kn : Int) ∧ d = .int .i64 (dn : Int) ∧ p = .int .i64 (pn : Int) ∧ Hid (kn + (mant (decide (pn = 1)) (s.data.toList.drop kn)).1 = a + sg + M1 ∧ dn + (mant (decide (pn = 1)) (s.data.toList.drop kn)).2 = M2) ∧ w = wr) (fun k _ _ _ => s.size - (intOf k).toNat)
  case atStart => exact ⟨a + sg, 0, 0, hsl.2, Nat.zero_le _, Nat.zero_le _, rfl, rfl, rfl, hid (by rw [show decide (0 = 1) = false from rfl, HM.out]; exact ⟨rfl, Nat.zero_add _⟩), rfl⟩
  case round =>
    obtain ⟨kn, dn, pn, hk, hdk, hpn, rfl, rfl, rfl, HK, rfl⟩ := hrel
    go_upto_region 6 with fail
    go_cut [48] from 29 to 58 (fun v wr => ∃ b : Bool, v = .bool b ∧ Hid (b = true → ∃ (h : kn < s.size), isDig s[kn] = true ∨ s[kn].toNat = 46 ∧ pn = 0) ∧ Hid (b = false → mant (decide (pn = 1)) (s.data.toList.drop kn) = (0, 0)) ∧ w = wr)
    case first =>
      by_cases hlt : kn < s.size
      · obtain ⟨c, hc⟩ : ∃ c : UInt8, s[kn] = c := ⟨_, rfl⟩
        have HC := hid hc
        have HD := hid (show s.data.toList.drop kn = c :: s.data.toList.drop (kn + 1) by rw [← hc]; exact drop_get hlt)
        have hi1 : (kn : Int) < (s.size : Int) := by omega
        have hix : (s[kn] : UInt8).toNat = c.toNat := by rw [hc]
        have CB := hid (fun (w : World) => specDigitB c w)
        obtain ⟨b, hb⟩ : ∃ b, isDig c = b := ⟨_, rfl⟩
        have HB := hid hb
        rw [hb] at CB
        clear hb hc
        cases b
        · by_cases h1 : c.toNat = 46
          · have g1 : ((c.toNat : Int) == 46) = true := by rw [beq_iff_eq]; omega
            have H1 := hid h1
            clear h1
            by_cases hp : pn = 0
            · have gp : ((pn : Int) == 0) = true := by rw [beq_iff_eq]; omega
              have HP := hid hp
              clear hp
              go_wp2_with (go_at_call 111; refine (CB.out _).mono ?_; rintro e w1 ⟨rfl, rfl⟩)
              go_meet
              case rel => exact ⟨true, rfl, hid (fun _ => ⟨hlt, Or.inr ⟨by rw [HC.out, H1.out], by first | exact HP.out | rfl⟩⟩), hid (fun h => by cases h), by first | rfl | trivial⟩
            · have gp : ((pn : Int) == 0) = false := by rw [beq_eq_false_iff_ne]; omega
              have HP := hid (show decide (pn = 1) = true by rw [decide_eq_true_eq]; omega)
              clear hp
              go_wp2_with (go_at_call 111; refine (CB.out _).mono ?_; rintro e w1 ⟨rfl, rfl⟩)
              go_meet
              case rel => exact ⟨false, rfl, hid (fun h => by cases h), hid (fun _ => by rw [HP.out, HD.out, mant_no HB.out (by simp)]), by first | rfl | trivial⟩
          · have g1 : ((c.toNat : Int) == 46) = false := by rw [beq_eq_false_iff_ne]; omega
            have H1 := hid h1
            clear h1
            go_wp2_with (go_at_call 111; refine (CB.out _).mono ?_; rintro e w1 ⟨rfl, rfl⟩)
            go_meet
            case rel => exact ⟨false, rfl, hid (fun h => by cases h), hid (fun _ => by rw [HD.out, mant_no HB.out (fun h' => H1.out h'.1)]), by first | rfl | trivial⟩
        · go_wp2_with (go_at_call 111; refine (CB.out _).mono ?_; rintro e w1 ⟨rfl, rfl⟩)
          go_meet
          case rel => exact ⟨true, rfl, hid (fun _ => ⟨hlt, Or.inl (by rw [HC.out, HB.out])⟩), hid (fun h => by cases h), by first | rfl | trivial⟩
      · have hi1 : ¬ (kn : Int) < (s.size : Int) := by omega
        have HD := hid (drop_end hlt)
        go_wp2
        go_meet
        case rel => exact ⟨false, rfl, hid (fun h => by cases h), hid (fun _ => by rw [HD.out, mant_nil]), by first | rfl | trivial⟩
    case rest =>
    obtain ⟨b, rfl, HT, HF, rfl⟩ := hcut
    cases b
    · -- the digits have ended
      have hM0 := HF.out rfl
      have h1 := HK.out
      rw [hM0] at h1
      simp only [Nat.add_zero] at h1
      obtain ⟨rfl, rfl⟩ := h1
      clear HT HF hM0
      obtain ⟨K, hK⟩ : ∃ k, a + sg + M1 = k := ⟨_, rfl⟩
      rw [hK] at HSC hk hdk HK
      try rw [hK]
      have HKE := hid hK
      clear hK HK
      by_cases hz : dn = 0
      · have HZ := hid hz
        have g1 : ((dn : Int) == 0) = true := by rw [beq_iff_eq]; omega
        have HRR := hid (show R = a by have := HSC.out; rw [if_pos HZ.out] at this; omega)
        clear hz
        go_wp2
        go_ret
        rw [HRR.out]
        exact ⟨rfl, by first | rfl | trivial⟩
      · have HZ := hid hz
        have g1 : ((dn : Int) == 0) = false := by rw [beq_eq_false_iff_ne]; omega
        clear hz
        have HRR := hid (show R = K + expL (s.data.toList.drop K) by have := HSC.out; rw [if_neg HZ.out] at this; have := HKE.out; omega)
        clear HSC
        go_upto_region 14 with fail
        go_cut [78] from 63 (fun v wr => v = .bool (atB isEx s K) ∧ w = wr)
        case first =>
          by_cases hlt : K < s.size
          · obtain ⟨c, hc⟩ : ∃ c : UInt8, s[K] = c := ⟨_, rfl⟩
            have HA := hid (atB_get (p := isEx) hlt hc)
            have hi1 : (K : Int) < (s.size : Int) := by omega
            have hix : (s[K] : UInt8).toNat = c.toNat := by rw [hc]
            clear hc
            by_cases h1 : c.toNat = 101
            · have HB := hid (isEx_iff.2 (Or.inl h1))
              have g1 : ((c.toNat : Int) == 101) = true := by rw [beq_iff_eq]; omega
              clear h1
              go_wp2
              go_meet
              case rel => exact ⟨by rw [HA.out, HB.out], rfl⟩
            · by_cases h2 : c.toNat = 69
              · have HB := hid (isEx_iff.2 (Or.inr h2))
                have g1 : ((c.toNat : Int) == 101) = false := by rw [beq_eq_false_iff_ne]; omega
                have g2 : ((c.toNat : Int) == 69) = true := by rw [beq_iff_eq]; omega
                clear h1 h2
                go_wp2
                go_meet
                case rel => exact ⟨by rw [HA.out, HB.out], rfl⟩
              · have HB := hid (isEx_no h1 h2)
                have g1 : ((c.toNat : Int) == 101) = false := by rw [beq_eq_false_iff_ne]; omega
                have g2 : ((c.toNat : Int) == 69) = false := by rw [beq_eq_false_iff_ne]; omega
                clear h1 h2
                go_wp2
                go_meet
                case rel => exact ⟨by rw [HA.out, HB.out], rfl⟩
          · have HA := hid (atB_end (p := isEx) hlt)
            have hi1 : ¬ (K : Int) < (s.size : Int) := by omega
            go_wp2
            go_meet
            case rel => exact ⟨by rw [HA.out], rfl⟩
        case rest =>
        obtain ⟨rfl, rfl⟩ := hcut
        obtain ⟨b, hb⟩ : ∃ b, atB isEx s K = b := ⟨_, rfl⟩
        have HX := hid hb
        rw [hb]
        clear hb
        cases b
        · have HR := hid (show R = K by rw [HRR.out, expL_no HX.out, Nat.add_zero])
          go_wp2
          go_ret
          rw [HR.out]
          exact ⟨rfl, by first | rfl | trivial⟩
        · obtain ⟨h2, hKl, _⟩ := atB_true HX.out
          obtain ⟨s2, hs2⟩ : ∃ n, hd1 isSg (s.data.toList.drop (K + 1)) = n := ⟨_, rfl⟩
          obtain ⟨D, hD⟩ : ∃ n, dgs (s.data.toList.drop (K + 1 + s2)) = n := ⟨_, rfl⟩
          have HR := hid (show R = if 0 < D then K + 1 + s2 + D else K by
            rw [HRR.out, expL_yes HX.out, hs2, hD]; split <;> omega)
          have hsl2 : s2 ≤ 1 ∧ K + 1 + s2 ≤ s.size := by
            have := hd1_le isSg (s.data.toList.drop (K + 1))
            rw [hs2, List.length_drop, ← Lib.size_eq] at this
            omega
          have HS2 := hid hs2
          have HDD := hid hD
          clear hs2 hD h2 HX HRR
          go_upto_region 16 with fail
          go_cut [96] from 79 (fun v wr => v = .bool (atB isSg s (K + 1)) ∧ w = wr)
          case first =>
            by_cases hlt : K + 1 < s.size
            · obtain ⟨c, hc⟩ : ∃ c : UInt8, s[K + 1] = c := ⟨_, rfl⟩
              have HA := hid (atB_get (p := isSg) hlt hc)
              have hi1 : (K : Int) + 1 < (s.size : Int) := by omega
              have hix : (s[K + 1] : UInt8).toNat = c.toNat := by rw [hc]
              clear hc
              by_cases h1 : c.toNat = 43
              · have HB := hid (isSg_iff.2 (Or.inl h1))
                have g1 : ((c.toNat : Int) == 43) = true := by rw [beq_iff_eq]; omega
                clear h1
                go_wp2
                go_meet
                case rel => exact ⟨by rw [HA.out, HB.out], rfl⟩
              · by_cases h2 : c.toNat = 45
                · have HB := hid (isSg_iff.2 (Or.inr h2))
                  have g1 : ((c.toNat : Int) == 43) = false := by rw [beq_eq_false_iff_ne]; omega
                  have g2 : ((c.toNat : Int) == 45) = true := by rw [beq_iff_eq]; omega
                  clear h1 h2
                  go_wp2
                  go_meet
                  case rel => exact ⟨by rw [HA.out, HB.out], rfl⟩
                · have HB := hid (isSg_no h1 h2)
                  have g1 : ((c.toNat : Int) == 43) = false := by rw [beq_eq_false_iff_ne]; omega
                  have g2 : ((c.toNat : Int) == 45) = false := by rw [beq_eq_false_iff_ne]; omega
                  clear h1 h2
                  go_wp2
                  go_meet
                  case rel => exact ⟨by rw [HA.out, HB.out], rfl⟩
            · have HA := hid (atB_end (p := isSg) hlt)
              have hi1 : ¬ (K : Int) + 1 < (s.size : Int) := by omega
              go_wp2
              go_meet
              case rel => exact ⟨by rw [HA.out], rfl⟩
          case rest =>
          obtain ⟨rfl, rfl⟩ := hcut
          obtain ⟨b, hb⟩ : ∃ b, atB isSg s (K + 1) = b := ⟨_, rfl⟩
          have HB := hid hb
          rw [hb]
          clear hb
          go_upto_if 96 with fail
          go_cut [5] from 79 (fun v wr => v = .int .i64 ((K + 1 + s2 : Nat) : Int) ∧ w = wr)
          case first =>
            cases b
            · have HE := hid (show s2 = 0 from HS2.out.symm.trans (atB_false HB.out))
              go_wp2
              go_meet
              case rel => exact ⟨by rw [HE.out]; go_num, rfl⟩
            · have HE := hid (show s2 = 1 from HS2.out.symm.trans (atB_true HB.out).1)
              go_wp2
              go_meet
              case rel => exact ⟨by rw [HE.out]; go_num, rfl⟩
          case rest =>
          obtain ⟨rfl, rfl⟩ := hcut
          obtain ⟨F, hF⟩ : ∃ f, K + 1 + s2 = f := ⟨_, rfl⟩
          rw [hF] at hsl2 HDD HR
          try rw [hF]
          have HFF := hid hF
          have hdl : F + D ≤ s.size := by
            have := dgs_le (s.data.toList.drop F)
            rw [HDD.out, List.length_drop, ← Lib.size_eq] at this
            omega
          clear hF
          go_wp2
          go_loopw [5] (fun k wr => ∃ m : Nat, m ≤ s.size ∧ k = .int .i64 (m : Int) ∧ Hid (m + dgs (s.data.toList.drop m) = F + D) ∧ w = wr) (fun k _ => s.size - (intOf k).toNat)
          case atStart => exact ⟨F, hsl2.2, rfl, hid (by rw [HDD.out]), rfl⟩
          case round =>
            obtain ⟨m, hm, rfl, HK, rfl⟩ := hrel
            go_upto_region 19 with fail
            go_cut [109] from 100 to 111 (fun v wr => ∃ b : Bool, v = .bool b ∧ Hid (b = true → m < s.size ∧ dgs (s.data.toList.drop m) = dgs (s.data.toList.drop (m + 1)) + 1) ∧ Hid (b = false → dgs (s.data.toList.drop m) = 0) ∧ w = wr)
            case first =>
              by_cases hlt : m < s.size
              · obtain ⟨c, hc⟩ : ∃ c : UInt8, s[m] = c := ⟨_, rfl⟩
                have HD := hid (show dgs (s.data.toList.drop m) = if isDig c then dgs (s.data.toList.drop (m + 1)) + 1 else 0 by rw [drop_get hlt, hc, dgs_cons])
                have hi1 : (m : Int) < (s.size : Int) := by omega
                have hix : (s[m] : UInt8).toNat = c.toNat := by rw [hc]
                have CB := hid (fun (w : World) => specDigitB c w)
                obtain ⟨b, hb⟩ : ∃ b, isDig c = b := ⟨_, rfl⟩
                rw [hb] at CB HD
                clear hb hc
                cases b
                · go_wp2_with (go_at_call 111; refine (CB.out _).mono ?_; rintro e w1 ⟨rfl, rfl⟩)
                  go_meet
                  case rel => exact ⟨false, rfl, hid (fun h => by cases h), hid (fun _ => by rw [HD.out]; rfl), rfl⟩
                · go_wp2_with (go_at_call 111; refine (CB.out _).mono ?_; rintro e w1 ⟨rfl, rfl⟩)
                  go_meet
                  case rel => exact ⟨true, rfl, hid (fun _ => ⟨hlt, by rw [HD.out]; rfl⟩), hid (fun h => by cases h), rfl⟩
              · have hi1 : ¬ (m : Int) < (s.size : Int) := by omega
                have HD := hid (drop_end hlt)
                go_wp2
                go_meet
                case rel => exact ⟨false, rfl, hid (fun h => by cases h), hid (fun _ => by rw [HD.out, dgs_nil]), rfl⟩
            case rest =>
            obtain ⟨b, rfl, HT, HF, rfl⟩ := hcut
            cases b
            · have h1 := HK.out
              rw [HF.out rfl, Nat.add_zero] at h1
              subst h1
              clear HT HF HK
              by_cases hpos : 0 < D
              · have g1 : (F : Int) < (F : Int) + (D : Int) := by omega
                have HP := hid hpos
                clear hpos
                have HR2 := hid (show R = F + D by rw [HR.out, if_pos HP.out])
                go_wp2
                go_ret
                rw [HR2.out]
                exact ⟨by first | rfl | (congr 2; omega), by first | rfl | trivial⟩
              · have g1 : ¬ (F : Int) < (F : Int) + (D : Int) := by omega
                have HP := hid hpos
                clear hpos
                have HR2 := hid (show R = K by rw [HR.out, if_neg HP.out])
                go_wp2
                go_ret
                rw [HR2.out]
                exact ⟨rfl, by first | rfl | trivial⟩
            · obtain ⟨hlt, hdd⟩ := HT.out rfl
              have HE := hid (show m + 1 + dgs (s.data.toList.drop (m + 1)) = F + D by have := HK.out; omega)
              clear hdd HT HF HK
              go_wp2
              go_roundw
              case rel =>
                first
                  | exact ⟨m + 1, by omega, by go_num, HE, by first | rfl | trivial⟩
                  | ((repeat apply Exists.intro); exact ⟨⟨m + 1, by omega, by go_num, HE, by first | rfl | trivial⟩, rfl⟩)
              case measure => simp [intOf]; omega
    · -- one more byte
      obtain ⟨hlt, hor⟩ := HT.out rfl
      obtain ⟨c, hc⟩ : ∃ c : UInt8, s[kn] = c := ⟨_, rfl⟩
      have HD := hid (show s.data.toList.drop kn = c :: s.data.toList.drop (kn + 1) by rw [← hc]; exact drop_get hlt)
      have hi1 : (kn : Int) < (s.size : Int) := by omega
      have hix : (s[kn] : UInt8).toNat = c.toNat := by rw [hc]
      rw [hc] at hor
      have HO := hid hor
      have HK2 := hid HK.out
      clear hc hor HT HF HK
      by_cases hdg : isDig c = true
      · have g1 : ((c.toNat : Int) == 46) = false := by rw [beq_eq_false_iff_ne]; have := isDig_iff.1 hdg; omega
        have HE := hid (show kn + 1 + (mant (decide (pn = 1)) (s.data.toList.drop (kn + 1))).1 = a + sg + M1 ∧ dn + 1 + (mant (decide (pn = 1)) (s.data.toList.drop (kn + 1))).2 = M2 by
          have h := HK2.out
          rw [HD.out, mant_dig hdg] at h
          simp only at h
          omega)
        clear hdg
        go_wp2
        go_roundw
        case rel =>
          first
            | exact ⟨kn + 1, dn + 1, pn, by omega, by omega, by omega, by go_num, by go_num, rfl, HE, by first | rfl | trivial⟩
            | ((repeat apply Exists.intro); exact ⟨⟨kn + 1, dn + 1, pn, by omega, by omega, by omega, by go_num, by go_num, rfl, HE, rfl⟩, rfl⟩)
        case measure => simp [intOf]; omega
      · obtain ⟨h46, hp0⟩ := HO.out.resolve_left hdg
        have g1 : ((c.toNat : Int) == 46) = true := by rw [beq_iff_eq]; omega
        have HE := hid (show kn + 1 + (mant true (s.data.toList.drop (kn + 1))).1 = a + sg + M1 ∧ dn + (mant true (s.data.toList.drop (kn + 1))).2 = M2 by
          have h := HK2.out
          rw [show decide (pn = 1) = false by rw [decide_eq_false_iff_not]; omega, HD.out, mant_pt h46] at h
          simp only at h
          omega)
        have hp1 : (pn : Int) + 1 = ((1 : Nat) : Int) := by omega
        clear hdg h46 hp0
        go_wp2
        go_roundw
        case rel =>
          first
            | exact ⟨kn + 1, dn, 1, by omega, by omega, Nat.le_refl _, by go_num, rfl, by first | rfl | go_num, HE, by first | rfl | trivial⟩
            | ((repeat apply Exists.intro); exact ⟨⟨kn + 1, dn, 1, by omega, by omega, Nat.le_refl _, by go_num, rfl, by first | rfl | go_num, HE, rfl⟩, rfl⟩)
        case measure => simp [intOf]; omega
end Go.Proofs.YtomcoilmpkpoeaaGreatDoor
