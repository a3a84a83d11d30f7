/-
  What is proved here: Looks of both packages: whether a text is a number with blanks around it. The conditions 'Tabs' and 'Mx' speak of the library's tables and of its MaxLen.
-/
import Derived.Test.YtomcoilmpkpoeaaGreatDoorVPrefix
namespace Go.Proofs.YtomcoilmpkpoeaaGreatDoor
open Go.RowKit
set_option linter.unusedVariables false
set_option linter.unusedSimpArgs false

def tailL (s : ByteArray) : List UInt8 := s.data.toList.drop (startL s.data.toList + scanL (bodyL s))
noncomputable def looksB (s : ByteArray) : Bool := okText s && !decide (scanL (bodyL s) = 0) && (tailL s).all isBlk && decide ((prefixR s).2 = 0)
theorem all_blk (l : List UInt8) : l.drop (startL l) = [] ↔ l.all isBlk = true := by
  induction l with
  | nil => simp [startL_nil]
  | cons c r ih =>
    by_cases h : isBlk c = true
    · rw [startL_cons, if_pos h, List.drop_succ_cons, ih, List.all_cons, h, Bool.true_and]
    · rw [startL_cons, if_neg h, List.drop_zero, List.all_cons]
      simp [h]
set_option maxHeartbeats 4000000 in
theorem implLooks (s : ByteArray) (w : World) (hT : Tabs w) (hM : Mx w) :
    Calls Tryz.prog 50 #[.string s] w fun e w' => e = .returned (.bool (looksB s)) ∧ Below w.heap.size w w' := by
  have CE := hid (fun (w : World) (h : Tabs w) => implPrefEnd s w h)
  obtain ⟨R, hR⟩ : ∃ r, prefixR s = r := ⟨_, rfl⟩
  have CP := hid (fun (w : World) (h : Tabs w) (hm : Mx w) => show Calls Tryz.prog 51 #[.string s] w fun e w' => e = .returned (.tuple #[.agg #[.bool R.1.neg, .string R.1.dig, .int .i64 R.1.exp], .int .i64 R.2]) ∧ Below w.heap.size w w' by
    have h2 := implPrefix s w h hm
    rw [hR] at h2
    exact h2)
  by_cases hok : okText s = true
  rotate_left
  · have hok : okText s = false := by simpa using hok
    have HR := hid (show looksB s = false by unfold looksB; rw [hok]; rfl)
    rw [show prefEnd s = -1 by unfold prefEnd; rw [if_pos hok]] at CE
    clear hok
    go_enter Tryz.func50, Tryz.ntmps50
    go_wp2_with fail
    refine (CE.out _ hT).mono ?_
    rintro e w1 ⟨rfl, hb1⟩
    go_wp2_with fail
    refine (CP.out _ (tabs_below hT hb1) (mx_below hM hb1)).mono ?_
    rintro e w2 ⟨rfl, hb2⟩
    go_wp2
    go_ret
    rw [HR.out]
    exact ⟨rfl, by repeat' (first | (with_reducible exact ext_trans hb1 hb2) | (with_reducible refine ext_trans ?_ (ext_alloc _ _)) | (with_reducible refine Below.setCell ?_ ?_ _) | (simp; done) | (simp; omega) | omega)⟩
  by_cases hz : scanL (bodyL s) = 0
  · have HR := hid (show looksB s = false by unfold looksB; rw [hz]; simp)
    rw [show prefEnd s = 0 by unfold prefEnd; rw [if_neg (by rw [hok]; decide), if_pos hz]] at CE
    clear hok hz
    go_enter Tryz.func50, Tryz.ntmps50
    go_wp2_with fail
    refine (CE.out _ hT).mono ?_
    rintro e w1 ⟨rfl, hb1⟩
    go_wp2_with fail
    refine (CP.out _ (tabs_below hT hb1) (mx_below hM hb1)).mono ?_
    rintro e w2 ⟨rfl, hb2⟩
    go_wp2
    go_ret
    rw [HR.out]
    exact ⟨rfl, by repeat' (first | (with_reducible exact ext_trans hb1 hb2) | (with_reducible refine ext_trans ?_ (ext_alloc _ _)) | (with_reducible refine Below.setCell ?_ ?_ _) | (simp; done) | (simp; omega) | omega)⟩
  have hbl := body_len s
  have hsz := ok_size hok
  have hpe : prefEnd s = ((startL s.data.toList + scanL (bodyL s) : Nat) : Int) := by unfold prefEnd; rw [if_neg (by rw [hok]; decide), if_neg hz]
  rw [hpe] at CE
  obtain ⟨m, hm⟩ : ∃ m, startL s.data.toList + scanL (bodyL s) = m := ⟨_, rfl⟩
  have hlk : looksB s = ((s.data.toList.drop m).all isBlk && decide (R.2 = 0)) := by
    unfold looksB tailL
    rw [hok, decide_eq_false hz, hm, hR]
    rfl
  rw [hm] at CE hbl
  have hm0 : 1 ≤ m := by omega
  have HLK := hid hlk
  have g1 : (0 : Int) < (m : Int) := by omega
  by_cases h0 : R.2 = 0
  rotate_left
  · have g2 : (R.2 == 0) = false := by rw [beq_eq_false_iff_ne]; exact h0
    have HR2 := hid (show looksB s = false by rw [HLK.out, decide_eq_false h0, Bool.and_false])
    clear h0 hpe hR hm hlk hz hok
    go_enter Tryz.func50, Tryz.ntmps50
    go_wp2_with fail
    refine (CE.out _ hT).mono ?_
    rintro e w1 ⟨rfl, hb1⟩
    go_wp2_with fail
    refine (CP.out _ (tabs_below hT hb1) (mx_below hM hb1)).mono ?_
    rintro e w2 ⟨rfl, hb2⟩
    go_wp2
    go_ret
    rw [HR2.out]
    exact ⟨rfl, by repeat' (first | (with_reducible exact ext_trans hb1 hb2) | (with_reducible refine ext_trans ?_ (ext_alloc _ _)) | (with_reducible refine Below.setCell ?_ ?_ _) | (simp; done) | (simp; omega) | omega)⟩
  have g2 : (R.2 == 0) = true := by rw [beq_iff_eq]; exact h0
  have HR2 := hid (show looksB s = (s.data.toList.drop m).all isBlk by rw [HLK.out, decide_eq_true h0, Bool.and_true])
  obtain ⟨t, ht⟩ : ∃ t, mkB ((s.data.toList.drop m).drop (startL (s.data.toList.drop m))) = t := ⟨_, rfl⟩
  have CS : Hid (∀ w, Calls Tryz.prog 94 #[.string (s.extract m s.size), .string ⟨#[32, 9, 10, 13]⟩] w fun e w' => e = .returned (.string t) ∧ Below w.heap.size w w') := hid (fun w => by
    have h := Any.strings_TrimLeft_laid Tryz.lays161 (by kernel_rfl) (s.extract m s.size) ⟨#[32, 9, 10, 13]⟩ w (by decide) (ascii_of_all (by decide))
    rw [show (⟨#[32, 9, 10, 13]⟩ : ByteArray).data.toList = [32, 9, 10, 13] from rfl, extL, List.take_of_length_le (by rw [List.length_drop, ← Lib.size_eq]; exact Nat.le_refl _), trim_bl] at h
    rw [← ht]
    exact h)
  obtain ⟨b, hb⟩ : ∃ b, (s.data.toList.drop m).all isBlk = b := ⟨_, rfl⟩
  have gt : (t.toList == []) = b := by
    rw [← hb, ← ht, Lib.toList_data, mkB_data, Bool.eq_iff_iff, beq_iff_eq]
    exact all_blk _
  rw [hb] at HR2
  have hle : (m : Int) ≤ (s.size : Int) := by omega
  clear h0 hpe hR hm hlk hz hok ht hb
  go_enter Tryz.func50, Tryz.ntmps50
  go_wp2_with fail
  refine (CE.out _ hT).mono ?_
  rintro e w1 ⟨rfl, hb1⟩
  go_wp2_with fail
  refine (CP.out _ (tabs_below hT hb1) (mx_below hM hb1)).mono ?_
  rintro e w2 ⟨rfl, hb2⟩
  go_wp2_with fail
  refine (CS.out _).mono ?_
  rintro e w3 ⟨rfl, hb3⟩
  go_wp2
  go_ret
  rw [HR2.out]
  exact ⟨rfl, by repeat' (first | (with_reducible exact ext_trans hb1 hb2) | (with_reducible refine ext_trans ?_ hb3) | (with_reducible refine ext_trans ?_ (ext_alloc _ _)) | (with_reducible refine Below.setCell ?_ ?_ _) | (simp; done) | (simp; omega) | omega)⟩
end Go.Proofs.YtomcoilmpkpoeaaGreatDoor
