/-
  What is proved here: Looks of both packages: whether a text is a number with blanks around it. The conditions 'Tabs' and 'Mx' speak of the library's tables and of its MaxLen.
-/
import Derived.Test.YthfmhenphnllfaaGreatDoorPrefix
namespace Go.Proofs.YthfmhenphnllfaaGreatDoor
open Go.RowKit
set_option linter.unusedVariables false
set_option linter.unusedSimpArgs false

def tailL (s : ByteArray) : List UInt8 := s.data.toList.drop (startL s.data.toList + scanL (bodyL s))
noncomputable def looksB (s : ByteArray) : Bool := okText s && !decide (scanL (bodyL s) = 0) && (tailL s).all isBlk && decide ((prefixR s).2 = 0)
theorem all_blk (l : List UInt8) : l.drop (startL l) = [] ↔ l.all isBlk = true := by
  induction l with
  | nil => simp [startL_nil]
  | cons c r ih =>
    by_cases h : isBlk c = true
    · rw [startL_cons, if_pos h, List.drop_succ_cons, ih, List.all_cons, h, Bool.true_and]
    · rw [startL_cons, if_neg h, List.drop_zero, List.all_cons]
      simp [h]
set_option maxHeartbeats 4000000 in
theorem specLooks (s : ByteArray) (w : World) :
    Calls Tryz.prog 87 #[.string s] w fun e w' => e = .returned (.bool (looksB s)) ∧ Below w.heap.size w w' := by
  have CE := hid (fun (w : World) => specPrefEnd s w)
  by_cases hok : okText s = true
  rotate_left
  · have hok : okText s = false := by simpa using hok
    have HR := hid (show looksB s = false by unfold looksB; rw [hok]; rfl)
    rw [show prefEnd s = -1 by unfold prefEnd; rw [if_pos hok]] at CE
    clear hok
    go_enter Tryz.func87, Tryz.ntmps87
    go_wp2_with fail
    refine (CE.out _).mono ?_
    rintro e w1 ⟨rfl, hb1⟩
    go_wp2
    go_ret
    rw [HR.out]
    exact ⟨rfl, hb1⟩
  by_cases hz : scanL (bodyL s) = 0
  · have HR := hid (show looksB s = false by unfold looksB; rw [hz]; simp)
    rw [show prefEnd s = 0 by unfold prefEnd; rw [if_neg (by rw [hok]; decide), if_pos hz]] at CE
    clear hok hz
    go_enter Tryz.func87, Tryz.ntmps87
    go_wp2_with fail
    refine (CE.out _).mono ?_
    rintro e w1 ⟨rfl, hb1⟩
    go_wp2
    go_ret
    rw [HR.out]
    exact ⟨rfl, hb1⟩
  have hbl := body_len s
  have hsz := ok_size hok
  have hpe : prefEnd s = ((startL s.data.toList + scanL (bodyL s) : Nat) : Int) := by unfold prefEnd; rw [if_neg (by rw [hok]; decide), if_neg hz]
  rw [hpe] at CE
  obtain ⟨R, hR⟩ : ∃ r, prefixR s = r := ⟨_, rfl⟩
  obtain ⟨m, hm⟩ : ∃ m, startL s.data.toList + scanL (bodyL s) = m := ⟨_, rfl⟩
  have hlk : looksB s = ((s.data.toList.drop m).all isBlk && decide (R.2 = 0)) := by
    unfold looksB tailL
    rw [hok, decide_eq_false hz, hm, hR]
    rfl
  have CP := hid (fun (w : World) => show Calls Tryz.prog 66 #[.string s] w fun e w' => e = .returned (.tuple #[.agg #[.bool R.1.neg, .string R.1.dig, .int .i64 R.1.exp], .int .i64 R.2]) ∧ Below w.heap.size w w' by
    have h := specPrefix s w
    rw [hR] at h
    exact h)
  rw [hm] at CE hbl
  have hm0 : 1 ≤ m := by omega
  have HLK := hid hlk
  have g1 : ¬ (m : Int) < 1 := by omega
  clear hpe hR hm hlk hz hok
  go_enter Tryz.func87, Tryz.ntmps87
  go_wp2_with fail
  refine (CE.out _).mono ?_
  rintro e w1 ⟨rfl, hb1⟩
  go_wp2_with fail
  refine (CP.out _).mono ?_
  rintro e w2 ⟨rfl, hb2⟩
  have hbw : Below w.heap.size w w2 := ext_trans hb1 hb2
  go_upto_region 5 with fail
  go_cut [6] from 7 (fun v6 wr => v6 = .int .i64 (m : Int) ∧ Below w.heap.size w wr)
  case first =>
    go_wp2
    go_meet
    case rel => refine ⟨rfl, ?_⟩; repeat' (first | (with_reducible exact hbw) | (with_reducible refine ext_trans ?_ (ext_alloc _ _)) | (with_reducible refine Below.setCell ?_ ?_ _) | (simp; done) | (simp; omega) | omega)
  case rest =>
  obtain ⟨rfl, hcut⟩ := hcut
  go_wp2
  go_loopw [6] (fun k wr => ∃ n : Nat, n ≤ s.size ∧ k = .int .i64 (n : Int) ∧ Hid ((s.data.toList.drop m).all isBlk = (s.data.toList.drop n).all isBlk) ∧ wc = wr) (fun k _ => s.size - (intOf k).toNat)
  case atStart => exact ⟨m, hbl, rfl, hid (by first | rfl | trivial), by first | rfl | trivial⟩
  case round =>
    obtain ⟨n, hn, rfl, HK, rfl⟩ := hrel
    by_cases hlt : n < s.size
    · obtain ⟨c, hc⟩ : ∃ c : UInt8, s[n] = c := ⟨_, rfl⟩
      have HD := hid (show s.data.toList.drop n = c :: s.data.toList.drop (n + 1) by rw [← hc]; exact drop_get hlt)
      have hi1 : (n : Int) < (s.size : Int) := by omega
      have hix : (s[n] : UInt8).toNat = c.toNat := by rw [hc]
      have CB := hid (fun (w : World) => specIsBlk c.toNat w)
      obtain ⟨b, hb⟩ : ∃ b, isBlkN c.toNat = b := ⟨_, rfl⟩
      rw [hb] at CB
      have HB := hid (show isBlk c = b from hb)
      have hw2 : IntKind.i64.wrap (c.toNat : Int) = (c.toNat : Int) := IntWalk.i64_in _ (by have := UInt8.toNat_lt c; omega)
      clear hb hc
      cases b
      · have HR := hid (show looksB s = false by rw [HLK.out, HK.out, HD.out, List.all_cons, HB.out]; rfl)
        go_wp2_with (go_at_call 139; refine (CB.out _).mono ?_; rintro e w1 ⟨rfl, rfl⟩)
        go_ret
        rw [HR.out]
        exact ⟨rfl, hcut⟩
      · have HE := hid (show (s.data.toList.drop m).all isBlk = (s.data.toList.drop (n + 1)).all isBlk by rw [HK.out, HD.out, List.all_cons, HB.out]; rfl)
        go_wp2_with (go_at_call 139; refine (CB.out _).mono ?_; rintro e w1 ⟨rfl, rfl⟩)
        go_roundw
        case rel => exact ⟨n + 1, by omega, by go_num, HE, by first | rfl | trivial⟩
        case measure => simp [intOf]; omega
    · have hi1 : ¬ (n : Int) < (s.size : Int) := by omega
      have HR := hid (show looksB s = decide (R.2 = 0) by rw [HLK.out, HK.out, drop_end hlt]; rfl)
      by_cases h0 : R.2 = 0
      · have g2 : (R.2 == 0) = true := by rw [beq_iff_eq]; exact h0
        have HR2 := hid (show looksB s = true by rw [HR.out, decide_eq_true h0])
        clear h0
        go_wp2
        go_ret
        rw [HR2.out]
        exact ⟨rfl, hcut⟩
      · have g2 : (R.2 == 0) = false := by rw [beq_eq_false_iff_ne]; exact h0
        have HR2 := hid (show looksB s = false by rw [HR.out, decide_eq_false h0])
        clear h0
        go_wp2
        go_ret
        rw [HR2.out]
        exact ⟨rfl, hcut⟩
set_option maxHeartbeats 4000000 in
theorem implLooks (s : ByteArray) (w : World) (hT : Tabs w) (hM : Mx w) :
    Calls Tryz.prog 89 #[.string s] w fun e w' => e = .returned (.bool (looksB s)) ∧ Below w.heap.size w w' := by
  have CE := hid (fun (w : World) (h : Tabs w) => implPrefEnd s w h)
  obtain ⟨R, hR⟩ : ∃ r, prefixR s = r := ⟨_, rfl⟩
  have CP := hid (fun (w : World) (h : Tabs w) (hm : Mx w) => show Calls Tryz.prog 79 #[.string s] w fun e w' => e = .returned (.tuple #[.agg #[.bool R.1.neg, .string R.1.dig, .int .i64 R.1.exp], .int .i64 R.2]) ∧ Below w.heap.size w w' by
    have h2 := implPrefix s w h hm
    rw [hR] at h2
    exact h2)
  by_cases hok : okText s = true
  rotate_left
  · have hok : okText s = false := by simpa using hok
    have HR := hid (show looksB s = false by unfold looksB; rw [hok]; rfl)
    rw [show prefEnd s = -1 by unfold prefEnd; rw [if_pos hok]] at CE
    clear hok
    go_enter Tryz.func89, Tryz.ntmps89
    go_wp2_with fail
    refine (CE.out _ hT).mono ?_
    rintro e w1 ⟨rfl, hb1⟩
    go_wp2_with fail
    refine (CP.out _ (tabs_below hT hb1) (mx_below hM hb1)).mono ?_
    rintro e w2 ⟨rfl, hb2⟩
    go_wp2
    go_ret
    rw [HR.out]
    exact ⟨rfl, by repeat' (first | (with_reducible exact ext_trans hb1 hb2) | (with_reducible refine ext_trans ?_ (ext_alloc _ _)) | (with_reducible refine Below.setCell ?_ ?_ _) | (simp; done) | (simp; omega) | omega)⟩
  by_cases hz : scanL (bodyL s) = 0
  · have HR := hid (show looksB s = false by unfold looksB; rw [hz]; simp)
    rw [show prefEnd s = 0 by unfold prefEnd; rw [if_neg (by rw [hok]; decide), if_pos hz]] at CE
    clear hok hz
    go_enter Tryz.func89, Tryz.ntmps89
    go_wp2_with fail
    refine (CE.out _ hT).mono ?_
    rintro e w1 ⟨rfl, hb1⟩
    go_wp2_with fail
    refine (CP.out _ (tabs_below hT hb1) (mx_below hM hb1)).mono ?_
    rintro e w2 ⟨rfl, hb2⟩
    go_wp2
    go_ret
    rw [HR.out]
    exact ⟨rfl, by repeat' (first | (with_reducible exact ext_trans hb1 hb2) | (with_reducible refine ext_trans ?_ (ext_alloc _ _)) | (with_reducible refine Below.setCell ?_ ?_ _) | (simp; done) | (simp; omega) | omega)⟩
  have hbl := body_len s
  have hsz := ok_size hok
  have hpe : prefEnd s = ((startL s.data.toList + scanL (bodyL s) : Nat) : Int) := by unfold prefEnd; rw [if_neg (by rw [hok]; decide), if_neg hz]
  rw [hpe] at CE
  obtain ⟨m, hm⟩ : ∃ m, startL s.data.toList + scanL (bodyL s) = m := ⟨_, rfl⟩
  have hlk : looksB s = ((s.data.toList.drop m).all isBlk && decide (R.2 = 0)) := by
    unfold looksB tailL
    rw [hok, decide_eq_false hz, hm, hR]
    rfl
  rw [hm] at CE hbl
  have hm0 : 1 ≤ m := by omega
  have HLK := hid hlk
  have g1 : (0 : Int) < (m : Int) := by omega
  by_cases h0 : R.2 = 0
  rotate_left
  · have g2 : (R.2 == 0) = false := by rw [beq_eq_false_iff_ne]; exact h0
    have HR2 := hid (show looksB s = false by rw [HLK.out, decide_eq_false h0, Bool.and_false])
    clear h0 hpe hR hm hlk hz hok
    go_enter Tryz.func89, Tryz.ntmps89
    go_wp2_with fail
    refine (CE.out _ hT).mono ?_
    rintro e w1 ⟨rfl, hb1⟩
    go_wp2_with fail
    refine (CP.out _ (tabs_below hT hb1) (mx_below hM hb1)).mono ?_
    rintro e w2 ⟨rfl, hb2⟩
    go_wp2
    go_ret
    rw [HR2.out]
    exact ⟨rfl, by repeat' (first | (with_reducible exact ext_trans hb1 hb2) | (with_reducible refine ext_trans ?_ (ext_alloc _ _)) | (with_reducible refine Below.setCell ?_ ?_ _) | (simp; done) | (simp; omega) | omega)⟩
  have g2 : (R.2 == 0) = true := by rw [beq_iff_eq]; exact h0
  have HR2 := hid (show looksB s = (s.data.toList.drop m).all isBlk by rw [HLK.out, decide_eq_true h0, Bool.and_true])
  obtain ⟨t, ht⟩ : ∃ t, mkB ((s.data.toList.drop m).drop (startL (s.data.toList.drop m))) = t := ⟨_, rfl⟩
  have CS : Hid (∀ w, Calls Tryz.prog 126 #[.string (s.extract m s.size), .string ⟨#[32, 9, 10, 13]⟩] w fun e w' => e = .returned (.string t) ∧ Below w.heap.size w w') := hid (fun w => by
    have h := Any.strings_TrimLeft_laid Tryz.lays161 (by kernel_rfl) (s.extract m s.size) ⟨#[32, 9, 10, 13]⟩ w (by decide) (ascii_of_all (by decide))
    rw [show (⟨#[32, 9, 10, 13]⟩ : ByteArray).data.toList = [32, 9, 10, 13] from rfl, extL, List.take_of_length_le (by rw [List.length_drop, ← Lib.size_eq]; exact Nat.le_refl _), trim_bl] at h
    rw [← ht]
    exact h)
  obtain ⟨b, hb⟩ : ∃ b, (s.data.toList.drop m).all isBlk = b := ⟨_, rfl⟩
  have gt : (t.toList == []) = b := by
    rw [← hb, ← ht, Lib.toList_data, mkB_data, Bool.eq_iff_iff, beq_iff_eq]
    exact all_blk _
  rw [hb] at HR2
  have hle : (m : Int) ≤ (s.size : Int) := by omega
  clear h0 hpe hR hm hlk hz hok ht hb
  go_enter Tryz.func89, Tryz.ntmps89
  go_wp2_with fail
  refine (CE.out _ hT).mono ?_
  rintro e w1 ⟨rfl, hb1⟩
  go_wp2_with fail
  refine (CP.out _ (tabs_below hT hb1) (mx_below hM hb1)).mono ?_
  rintro e w2 ⟨rfl, hb2⟩
  go_wp2_with fail
  refine (CS.out _).mono ?_
  rintro e w3 ⟨rfl, hb3⟩
  go_wp2
  go_ret
  rw [HR2.out]
  exact ⟨rfl, by repeat' (first | (with_reducible exact ext_trans hb1 hb2) | (with_reducible refine ext_trans ?_ hb3) | (with_reducible refine ext_trans ?_ (ext_alloc _ _)) | (with_reducible refine Below.setCell ?_ ?_ _) | (simp; done) | (simp; omega) | omega)⟩
end Go.Proofs.YthfmhenphnllfaaGreatDoor
