/-
  What is proved here: impl.decEnd (with impl.isSign and impl.digitsEnd) finds the end of the text of a number. No condition but sizes.
-/
import Derived.Test.YtomcoilmpkpoeaaGreatDoorVPre
namespace Go.Proofs.YtomcoilmpkpoeaaGreatDoor
open Go.RowKit
set_option linter.unusedVariables false
set_option linter.unusedSimpArgs false

set_option maxHeartbeats 1000000 in
theorem implSign (s : ByteArray) (k : Nat) (w : World) (hk : k ≤ s.size) (hs : s.size ≤ 1000000) :
    Calls Tryz.prog 101 #[.string s, .int .i64 (k : Int)] w fun e w' => e = .returned (.bool (atB isSg s k)) ∧ w = w' := by
  by_cases hlt : k < s.size
  · obtain ⟨c, hc⟩ : ∃ c : UInt8, s[k] = c := ⟨_, rfl⟩
    have HA := hid (atB_get (p := isSg) hlt hc)
    have hi1 : (k : Int) < (s.size : Int) := by omega
    have hix : (s[k] : UInt8).toNat = c.toNat := by rw [hc]
    clear hc
    by_cases h1 : c.toNat = 43
    · have HB := hid (isSg_iff.2 (Or.inl h1))
      have g1 : ((c.toNat : Int) == 43) = true := by rw [beq_iff_eq]; omega
      clear h1
      go_enter Tryz.func101, Tryz.ntmps101
      go_wp2
      go_ret
      rw [HA.out, HB.out]
      exact ⟨rfl, rfl⟩
    · by_cases h2 : c.toNat = 45
      · have HB := hid (isSg_iff.2 (Or.inr h2))
        have g1 : ((c.toNat : Int) == 43) = false := by rw [beq_eq_false_iff_ne]; omega
        have g2 : ((c.toNat : Int) == 45) = true := by rw [beq_iff_eq]; omega
        clear h1 h2
        go_enter Tryz.func101, Tryz.ntmps101
        go_wp2
        go_ret
        rw [HA.out, HB.out]
        exact ⟨rfl, rfl⟩
      · have HB := hid (isSg_no h1 h2)
        have g1 : ((c.toNat : Int) == 43) = false := by rw [beq_eq_false_iff_ne]; omega
        have g2 : ((c.toNat : Int) == 45) = false := by rw [beq_eq_false_iff_ne]; omega
        clear h1 h2
        go_enter Tryz.func101, Tryz.ntmps101
        go_wp2
        go_ret
        rw [HA.out, HB.out]
        exact ⟨rfl, rfl⟩
  · have HA := hid (atB_end (p := isSg) hlt)
    have hi1 : ¬ (k : Int) < (s.size : Int) := by omega
    go_enter Tryz.func101, Tryz.ntmps101
    go_wp2
    go_ret
    rw [HA.out]
    exact ⟨rfl, rfl⟩
set_option maxHeartbeats 1000000 in
theorem implDigEnd (s : ByteArray) (a : Nat) (w : World) (ha : a ≤ s.size) (hs : s.size ≤ 1000000) :
    Calls Tryz.prog 102 #[.string s, .int .i64 (a : Int)] w fun e w' => e = .returned (.int .i64 ((a + dgs (s.data.toList.drop a) : Nat) : Int)) ∧ w = w' := by
  obtain ⟨R, hR⟩ : ∃ r, a + dgs (s.data.toList.drop a) = r := ⟨_, rfl⟩
  rw [hR]
  have HR := hid hR
  clear hR
  go_enter Tryz.func102, Tryz.ntmps102
  go_wp2
  go_loopw [1] (fun k wr => ∃ m : Nat, m ≤ s.size ∧ k = .int .i64 (m : Int) ∧ Hid (m + dgs (s.data.toList.drop m) = R) ∧ w = wr) (fun k _ => s.size - (intOf k).toNat)
  case atStart => exact ⟨a, ha, rfl, HR, rfl⟩
  case round =>
    obtain ⟨m, hm, rfl, HK, rfl⟩ := hrel
    go_upto_region 1 with fail
    go_cut [20] from 5 to 22 (fun v wr => ∃ b : Bool, v = .bool b ∧ Hid (b = true → m < s.size ∧ dgs (s.data.toList.drop m) = dgs (s.data.toList.drop (m + 1)) + 1) ∧ Hid (b = false → dgs (s.data.toList.drop m) = 0) ∧ w = wr)
    case first =>
      by_cases hlt : m < s.size
      · obtain ⟨c, hc⟩ : ∃ c : UInt8, s[m] = c := ⟨_, rfl⟩
        have HD := hid (show dgs (s.data.toList.drop m) = if isDig c then dgs (s.data.toList.drop (m + 1)) + 1 else 0 by rw [drop_get hlt, hc, dgs_cons])
        have hi1 : (m : Int) < (s.size : Int) := by omega
        have hix : (s[m] : UInt8).toNat = c.toNat := by rw [hc]
        clear hc
        by_cases h1 : 48 ≤ c.toNat
        · by_cases h2 : c.toNat ≤ 57
          · have HB := hid (isDig_iff.2 ⟨h1, h2⟩)
            have g1 : (48 : Int) ≤ (c.toNat : Int) := by omega
            have g2 : (c.toNat : Int) ≤ 57 := by omega
            clear h1 h2
            go_wp2
            go_meet
            case rel => exact ⟨true, rfl, hid (fun _ => ⟨hlt, by rw [HD.out, HB.out]; rfl⟩), hid (fun h => by cases h), by first | rfl | trivial⟩
          · have HB := hid (isDig_no (c := c) (by omega))
            have g1 : (48 : Int) ≤ (c.toNat : Int) := by omega
            have g2 : ¬ (c.toNat : Int) ≤ 57 := by omega
            clear h1 h2
            go_wp2
            go_meet
            case rel => exact ⟨false, rfl, hid (fun h => by cases h), hid (fun _ => by rw [HD.out, HB.out]; rfl), by first | rfl | trivial⟩
        · have HB := hid (isDig_no (c := c) (by omega))
          have g1 : ¬ (48 : Int) ≤ (c.toNat : Int) := by omega
          clear h1
          go_wp2
          go_meet
          case rel => exact ⟨false, rfl, hid (fun h => by cases h), hid (fun _ => by rw [HD.out, HB.out]; rfl), by first | rfl | trivial⟩
      · have hi1 : ¬ (m : Int) < (s.size : Int) := by omega
        have HD := hid (drop_end hlt)
        go_wp2
        go_meet
        case rel => exact ⟨false, rfl, hid (fun h => by cases h), hid (fun _ => by rw [HD.out, dgs_nil]), by first | rfl | trivial⟩
    case rest =>
    obtain ⟨b, rfl, HT, HF, rfl⟩ := hcut
    cases b
    · have HE := hid (show R = m by have := HK.out; rw [HF.out rfl] at this; omega)
      clear HT HF HK
      go_wp2
      go_ret
      rw [HE.out]
      exact ⟨rfl, by first | rfl | trivial⟩
    · obtain ⟨hlt, hdd⟩ := HT.out rfl
      have HE := hid (show m + 1 + dgs (s.data.toList.drop (m + 1)) = R by have := HK.out; omega)
      clear hdd HT HF HK
      go_wp2
      go_roundw
      case rel =>
        first
          | exact ⟨m + 1, by omega, by go_num, HE, by first | rfl | trivial⟩
          | ((repeat apply Exists.intro); exact ⟨⟨m + 1, by omega, by go_num, HE, by first | rfl | trivial⟩, rfl⟩)
      case measure => simp [intOf]; omega
def isPer (c : UInt8) : Bool := c.toNat == 46
theorem mantF_no {s : ByteArray} {k D : Nat} {M : Nat × Nat} (h : atB isPer s k = false) (hM : M = (match s.data.toList.drop k with | [] => (D, D) | c :: r => if c.toNat = 46 then (D + 1 + dgs r, D + dgs r) else (D, D))) : M = (D, D) := by
  by_cases hk : k < s.size
  · rw [atB_get hk rfl] at h
    rw [drop_get hk] at hM
    simp only at hM
    rw [if_neg (by unfold isPer at h; simpa using h)] at hM
    exact hM
  · rw [drop_end hk] at hM; exact hM
theorem mantF_yes {s : ByteArray} {k D : Nat} {M : Nat × Nat} (h : atB isPer s k = true) (hM : M = (match s.data.toList.drop k with | [] => (D, D) | c :: r => if c.toNat = 46 then (D + 1 + dgs r, D + dgs r) else (D, D))) : M = (D + 1 + dgs (s.data.toList.drop (k + 1)), D + dgs (s.data.toList.drop (k + 1))) := by
  obtain ⟨_, hk, hc⟩ := atB_true h
  rw [drop_get hk] at hM
  simp only at hM
  rw [if_pos (by unfold isPer at hc; simpa using hc)] at hM
  exact hM
set_option maxHeartbeats 4000000 in
set_option maxRecDepth 100000 in
theorem implDecEnd (s : ByteArray) (w : World) (hs : s.size ≤ 1000000) :
    Calls Tryz.prog 60 #[.string s] w fun e w' => e = .returned (.int .i64 (scanL s.data.toList : Int)) ∧ w = w' := by
  obtain ⟨sg, hsg⟩ : ∃ n, hd1 isSg s.data.toList = n := ⟨_, rfl⟩
  obtain ⟨D1, hD1⟩ : ∃ n, dgs (s.data.toList.drop sg) = n := ⟨_, rfl⟩
  have hsl : sg ≤ 1 ∧ sg ≤ s.size := by
    have := hd1_le isSg s.data.toList
    rw [hsg, ← Lib.size_eq] at this
    omega
  have hdl : sg + D1 ≤ s.size := by
    have := dgs_le (s.data.toList.drop sg)
    rw [hD1, List.length_drop, ← Lib.size_eq] at this
    omega
  have hmf := mant_false (s.data.toList.drop sg)
  rw [hD1, List.drop_drop] at hmf
  obtain ⟨R, hR⟩ : ∃ r, scanL s.data.toList = r := ⟨_, rfl⟩
  rw [hR]
  unfold scanL at hR
  rw [hsg] at hR
  have HR := hid hR
  have HM := hid hmf
  have HSG := hid (show hd1 isSg (s.data.toList.drop 0) = sg by rw [List.drop_zero]; exact hsg)
  have HD1 := hid hD1
  have CS := hid (fun (k : Nat) (w : World) (hk : k ≤ s.size) => implSign s k w hk hs)
  have CD := hid (fun (k : Nat) (w : World) (hk : k ≤ s.size) => implDigEnd s k w hk hs)
  clear hsg hD1 hmf hR
  go_enter Tryz.func60, Tryz.ntmps60
  go_wp2_with fail
  refine (CS.out 0 _ (Nat.zero_le _)).mono ?_
  rintro e w1 ⟨rfl, rfl⟩
  obtain ⟨b, hb⟩ : ∃ b, atB isSg s 0 = b := ⟨_, rfl⟩
  have HB := hid hb
  rw [hb]
  clear hb
  go_upto_if 10 with fail
  go_cut [3] from 9 (fun v wr => v = .int .i64 (sg : Int) ∧ w = wr)
  case first =>
    cases b
    · have HE := hid (show sg = 0 from HSG.out.symm.trans (atB_false HB.out))
      go_wp2
      go_meet
      case rel => exact ⟨by rw [HE.out]; rfl, by first | rfl | trivial⟩
    · have HE := hid (show sg = 1 from HSG.out.symm.trans (atB_true HB.out).1)
      go_wp2
      go_meet
      case rel => exact ⟨by rw [HE.out]; rfl, by first | rfl | trivial⟩
  case rest =>
  obtain ⟨rfl, rfl⟩ := hcut
  go_wp2_with fail
  refine (CD.out sg _ hsl.2).mono ?_
  rintro e w1 ⟨rfl, rfl⟩
  rw [HD1.out]
  obtain ⟨E1, hE1⟩ : ∃ n, sg + D1 = n := ⟨_, rfl⟩
  have HE1 := hid hE1
  rw [hE1] at hdl HM
  rw [hE1]
  have hcount : (E1 : Int) - (sg : Int) = (D1 : Int) := by omega
  clear hE1
  -- the period
  obtain ⟨M, hM⟩ : ∃ m, mant false (s.data.toList.drop sg) = m := ⟨_, rfl⟩
  rw [hM] at HM HR
  obtain ⟨M1, M2⟩ := M
  go_upto_region 6 with fail
  go_cut [26] from 9 (fun v wr => v = .bool (atB isPer s E1) ∧ w = wr)
  case first =>
    by_cases hlt : E1 < s.size
    · obtain ⟨c, hc⟩ : ∃ c : UInt8, s[E1] = c := ⟨_, rfl⟩
      have HA := hid (atB_get (p := isPer) hlt hc)
      have hi1 : (E1 : Int) < (s.size : Int) := by omega
      have hix : (s[E1] : UInt8).toNat = c.toNat := by rw [hc]
      clear hc
      by_cases h1 : c.toNat = 46
      · have HB := hid (show isPer c = true by unfold isPer; rw [h1]; rfl)
        have g1 : ((c.toNat : Int) == 46) = true := by rw [beq_iff_eq]; omega
        clear h1
        go_wp2
        go_meet
        case rel => exact ⟨by rw [HA.out, HB.out], by first | rfl | trivial⟩
      · have HB := hid (show isPer c = false by unfold isPer; rw [beq_eq_false_iff_ne]; exact h1)
        have g1 : ((c.toNat : Int) == 46) = false := by rw [beq_eq_false_iff_ne]; omega
        clear h1
        go_wp2
        go_meet
        case rel => exact ⟨by rw [HA.out, HB.out], by first | rfl | trivial⟩
    · have HA := hid (atB_end (p := isPer) hlt)
      have hi1 : ¬ (E1 : Int) < (s.size : Int) := by omega
      go_wp2
      go_meet
      case rel => exact ⟨by rw [HA.out], by first | rfl | trivial⟩
  case rest =>
  obtain ⟨rfl, rfl⟩ := hcut
  obtain ⟨b, hb⟩ : ∃ b, atB isPer s E1 = b := ⟨_, rfl⟩
  have HP := hid hb
  rw [hb]
  clear hb
  go_upto_if 26 with fail
  go_cut [4, 5] from 9 (fun v4 v5 wr => v4 = .int .i64 ((sg + M1 : Nat) : Int) ∧ v5 = .int .i64 (M2 : Int) ∧ w = wr)
  case first =>
    cases b
    · have HE := hid (mantF_no HP.out HM.out)
      have HE2 := hid (show sg + M1 = E1 ∧ M2 = D1 by have := HE.out; injection this with h1 h2; have := HE1.out; omega)
      go_wp2
      go_meet
      case rel => exact ⟨by rw [HE2.out.1], by rw [HE2.out.2] <;> first | rfl | exact congrArg _ hcount, by first | rfl | trivial⟩
    · have HE := hid (mantF_yes HP.out HM.out)
      have hlt : E1 + 1 ≤ s.size := by obtain ⟨_, h, _⟩ := atB_true HP.out; omega
      obtain ⟨D2, hD2⟩ : ∃ n, dgs (s.data.toList.drop (E1 + 1)) = n := ⟨_, rfl⟩
      have hd2 : E1 + 1 + D2 ≤ s.size := by
        have := dgs_le (s.data.toList.drop (E1 + 1))
        rw [hD2, List.length_drop, ← Lib.size_eq] at this
        omega
      have CDX := hid (fun (w : World) => CD.out (E1 + 1) w hlt)
      rw [hD2] at HE CDX
      have HE2 := hid (show sg + M1 = E1 + 1 + D2 ∧ M2 = D1 + D2 by have := HE.out; injection this with h1 h2; have := HE1.out; omega)
      clear hD2
      go_wp2_with fail
      refine (CDX.out _).mono ?_
      rintro e w1 ⟨rfl, rfl⟩
      go_wp2
      go_meet
      case rel => exact ⟨by rw [HE2.out.1]; go_num, by rw [HE2.out.2]; first | (go_num; done) | (congr 1; omega), by first | rfl | trivial⟩
  case rest =>
  obtain ⟨rfl, rfl, rfl⟩ := hcut
  have hml : sg + M1 ≤ s.size ∧ M2 ≤ M1 := by
    have := mant_le false (s.data.toList.drop sg)
    rw [hM, List.length_drop, ← Lib.size_eq] at this
    simp only at this
    omega
  obtain ⟨K, hK⟩ : ∃ k, sg + M1 = k := ⟨_, rfl⟩
  have HR1 := hid (show R = if M2 = 0 then 0 else K + expL (s.data.toList.drop K) by have := HR.out; rw [hK] at this; exact this.symm)
  rw [hK] at hml
  try rw [hK]
  clear hK hM HM HP HR HSG HD1 hcount HE1
  by_cases hz : M2 = 0
  · have g1 : ((M2 : Int) == 0) = true := by rw [beq_iff_eq]; omega
    have HRR := hid (show R = 0 by rw [HR1.out, if_pos hz])
    clear hz
    go_wp2
    go_ret
    rw [HRR.out]
    exact ⟨rfl, by first | rfl | trivial⟩
  have g1 : ((M2 : Int) == 0) = false := by rw [beq_eq_false_iff_ne]; omega
  have HRR := hid (show R = K + expL (s.data.toList.drop K) by rw [HR1.out, if_neg hz])
  clear hz HR1
  go_upto_region 12 with fail
  go_cut [55] from 38 (fun v wr => v = .bool (atB isEx s K) ∧ w = wr)
  case first =>
    by_cases hlt : K < s.size
    · obtain ⟨c, hc⟩ : ∃ c : UInt8, s[K] = c := ⟨_, rfl⟩
      have HA := hid (atB_get (p := isEx) hlt hc)
      have hi1 : (K : Int) < (s.size : Int) := by omega
      have hix : (s[K] : UInt8).toNat = c.toNat := by rw [hc]
      clear hc
      by_cases h1 : c.toNat = 101
      · have HB := hid (isEx_iff.2 (Or.inl h1))
        have g1 : ((c.toNat : Int) == 101) = true := by rw [beq_iff_eq]; omega
        clear h1
        go_wp2
        go_meet
        case rel => exact ⟨by rw [HA.out, HB.out], rfl⟩
      · by_cases h2 : c.toNat = 69
        · have HB := hid (isEx_iff.2 (Or.inr h2))
          have g1 : ((c.toNat : Int) == 101) = false := by rw [beq_eq_false_iff_ne]; omega
          have g2 : ((c.toNat : Int) == 69) = true := by rw [beq_iff_eq]; omega
          clear h1 h2
          go_wp2
          go_meet
          case rel => exact ⟨by rw [HA.out, HB.out], rfl⟩
        · have HB := hid (isEx_no h1 h2)
          have g1 : ((c.toNat : Int) == 101) = false := by rw [beq_eq_false_iff_ne]; omega
          have g2 : ((c.toNat : Int) == 69) = false := by rw [beq_eq_false_iff_ne]; omega
          clear h1 h2
          go_wp2
          go_meet
          case rel => exact ⟨by rw [HA.out, HB.out], rfl⟩
    · have HA := hid (atB_end (p := isEx) hlt)
      have hi1 : ¬ (K : Int) < (s.size : Int) := by omega
      go_wp2
      go_meet
      case rel => exact ⟨by rw [HA.out], rfl⟩
  case rest =>
  obtain ⟨rfl, rfl⟩ := hcut
  obtain ⟨b, hb⟩ : ∃ b, atB isEx s K = b := ⟨_, rfl⟩
  have HX := hid hb
  rw [hb]
  clear hb
  cases b
  · have HR := hid (show R = K by rw [HRR.out, expL_no HX.out, Nat.add_zero])
    go_wp2
    go_ret
    rw [HR.out]
    exact ⟨rfl, by first | rfl | trivial⟩
  · obtain ⟨h2, hKl, _⟩ := atB_true HX.out
    obtain ⟨s2, hs2⟩ : ∃ n, hd1 isSg (s.data.toList.drop (K + 1)) = n := ⟨_, rfl⟩
    obtain ⟨D, hD⟩ : ∃ n, dgs (s.data.toList.drop (K + 1 + s2)) = n := ⟨_, rfl⟩
    have HR := hid (show R = if 0 < D then K + 1 + s2 + D else K by
      rw [HRR.out, expL_yes HX.out, hs2, hD]; split <;> omega)
    have hsl2 : s2 ≤ 1 ∧ K + 1 + s2 ≤ s.size := by
      have := hd1_le isSg (s.data.toList.drop (K + 1))
      rw [hs2, List.length_drop, ← Lib.size_eq] at this
      omega
    have HS2 := hid hs2
    have HDD := hid hD
    clear hs2 hD h2 HX HRR
    have CSX := hid (fun (w : World) => CS.out (K + 1) w hKl)
    obtain ⟨b, hb⟩ : ∃ b, atB isSg s (K + 1) = b := ⟨_, rfl⟩
    have HB := hid hb
    rw [hb] at CSX
    clear hb
    go_wp2_with fail
    refine (CSX.out _).mono ?_
    rintro e w1 ⟨rfl, rfl⟩
    go_upto_if 60 with fail
    go_cut [7] from 38 (fun v wr => v = .int .i64 ((K + 1 + s2 : Nat) : Int) ∧ w = wr)
    case first =>
      cases b
      · have HE := hid (show s2 = 0 from HS2.out.symm.trans (atB_false HB.out))
        go_wp2
        go_meet
        case rel => exact ⟨by rw [HE.out]; go_num, by first | rfl | trivial⟩
      · have HE := hid (show s2 = 1 from HS2.out.symm.trans (atB_true HB.out).1)
        go_wp2
        go_meet
        case rel => exact ⟨by rw [HE.out]; go_num, by first | rfl | trivial⟩
    case rest =>
    obtain ⟨rfl, rfl⟩ := hcut
    obtain ⟨F, hF⟩ : ∃ f, K + 1 + s2 = f := ⟨_, rfl⟩
    rw [hF] at hsl2 HDD HR
    try rw [hF]
    have CDX := hid (fun (w : World) => CD.out F w hsl2.2)
    rw [HDD.out] at CDX
    have hdl2 : F + D ≤ s.size := by
      have := dgs_le (s.data.toList.drop F)
      rw [HDD.out, List.length_drop, ← Lib.size_eq] at this
      omega
    clear hF
    by_cases hpos : 0 < D
    · have g1 : (F : Int) < (F : Int) + (D : Int) := by omega
      have HR2 := hid (show R = F + D by rw [HR.out, if_pos hpos])
      clear hpos
      go_wp2_with fail
      refine (CDX.out _).mono ?_
      rintro e w1 ⟨rfl, rfl⟩
      go_wp2
      go_ret
      rw [HR2.out]
      exact ⟨by first | rfl | (congr 2; omega), by first | rfl | trivial⟩
    · have g1 : ¬ (F : Int) < (F : Int) + (D : Int) := by omega
      have HR2 := hid (show R = K by rw [HR.out, if_neg hpos])
      clear hpos
      go_wp2_with fail
      refine (CDX.out _).mono ?_
      rintro e w1 ⟨rfl, rfl⟩
      go_wp2
      go_ret
      rw [HR2.out]
      exact ⟨rfl, by first | rfl | trivial⟩
end Go.Proofs.YtomcoilmpkpoeaaGreatDoor
