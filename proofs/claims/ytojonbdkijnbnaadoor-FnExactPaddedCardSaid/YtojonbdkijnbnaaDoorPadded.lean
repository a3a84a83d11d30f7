/-
  What is proved here: Padded on both sides. The condition 'Tabs' says that the library's tables for UTF-8 lie in the world.
-/
import Derived.Test.YtojonbdkijnbnaaDoorLen
import Derived.Deep.QuietTactic
import Derived.BigQuiet
namespace Go.Proofs.YtojonbdkijnbnaaDoor
open Go.RowKit
set_option linter.unusedVariables false
set_option linter.unusedSimpArgs false

def mkB (l : List UInt8) : ByteArray := ⟨l.toArray⟩
theorem mkB_data (l : List UInt8) : (mkB l).data.toList = l := rfl
theorem mkB_of (s : ByteArray) : mkB s.data.toList = s := by cases s; simp [mkB]
theorem mkB_append (a b : List UInt8) : mkB a ++ mkB b = mkB (a ++ b) := by
  have : (mkB a ++ mkB b).data.toList = (mkB (a ++ b)).data.toList := by simp [mkB]
  rw [← mkB_of (mkB a ++ mkB b), this, mkB_of]
theorem mkB_size (l : List UInt8) : (mkB l).size = l.length := by rw [Lib.size_eq]; rfl
theorem repeat_snoc (l : List UInt8) : ∀ k, Lib.repeatL l k ++ l = Lib.repeatL l (k + 1)
  | 0 => by simp [Lib.repeatL]
  | k + 1 => by
    show (l ++ Lib.repeatL l k) ++ l = l ++ Lib.repeatL l (k + 1)
    rw [List.append_assoc, repeat_snoc l k]
theorem more_snoc (l : List UInt8) (k : Nat) : mkB (Lib.repeatL l k) ++ mkB l = mkB (Lib.repeatL l (k + 1)) := by rw [mkB_append, repeat_snoc]

theorem more_size (c : UInt8) (k : Nat) : (mkB (Lib.repeatL [c] k)).size = k := by rw [mkB_size, Lib.repeatL_length]; simp
/-- does the text begin with a sign -/
def signed (s : ByteArray) : Bool := match s.data.toList with | c :: _ => c == 45 || c == 43 | [] => false
theorem signed_nil {s : ByteArray} (h : s.size = 0) : signed s = false := by
  have : s.data.toList = [] := List.eq_nil_of_length_eq_zero (by rw [← Lib.size_eq]; exact h)
  unfold signed; rw [this]
theorem signed_at {s : ByteArray} (h : 0 < s.size) : signed s = (decide (s[0].toNat = 45) || decide (s[0].toNat = 43)) := by
  have he := head_list s h
  unfold signed
  cases hl : s.data.toList with
  | nil => rw [hl] at he; cases he
  | cons c r =>
    rw [hl] at he
    obtain rfl : c = s[0] := by simpa using he
    show (s[0] == 45 || s[0] == 43) = _
    have e1 : (s[0] == 45) = decide (s[0].toNat = 45) := by rw [Bool.eq_iff_iff]; simp [← UInt8.toNat_inj]
    have e2 : (s[0] == 43) = decide (s[0].toNat = 43) := by rw [Bool.eq_iff_iff]; simp [← UInt8.toNat_inj]
    rw [e1, e2]
def padT (s : ByteArray) (width : Int) (left : Bool) (sign : ByteArray) : ByteArray :=
  if left then s ++ mkB (Lib.repeatL [32] (width - lenOf s).toNat)
  else if sign.data.toList = [48] ∧ signed s = true then s.extract 0 1 ++ mkB (Lib.repeatL [48] (width - lenOf s).toNat) ++ s.extract 1 s.size
  else mkB (Lib.repeatL sign.data.toList (width - lenOf s).toNat) ++ s
def padOk (s : ByteArray) (width : Int) (sign : ByteArray) : Prop := okText s = true ∧ (sign = ⟨#[32]⟩ ∨ sign = ⟨#[48]⟩) ∧ 0 ≤ width ∧ width ≤ 200
open Classical in
noncomputable def paddedOf (s : ByteArray) (width : Int) (left : Bool) (sign : ByteArray) : ByteArray := if padOk s width sign then padT s width left sign else ⟨#[]⟩
theorem padded_ok {s : ByteArray} {width : Int} {left : Bool} {sign : ByteArray} (h : padOk s width sign) : paddedOf s width left sign = padT s width left sign := by unfold paddedOf; rw [if_pos h]
theorem padded_no {s : ByteArray} {width : Int} {left : Bool} {sign : ByteArray} (h : ¬ padOk s width sign) : paddedOf s width left sign = ⟨#[]⟩ := by unfold paddedOf; rw [if_neg h]

set_option maxHeartbeats 8000000 in
set_option maxRecDepth 100000 in
theorem specPadded (s : ByteArray) (width : Int) (left : Bool) (sign : ByteArray) (w : World) (hw0 : -9223372036854775808 ≤ width ∧ width ≤ 9223372036854775807) :
    Calls Tryd.prog 18 #[.string s, .int .i64 width, .bool left, .string sign] w fun e w' => e = .returned (.string (paddedOf s width left sign)) ∧ Below w.heap.size w w' := by
  cases ho : okText s
  · have HZ := hid (padded_no (s := s) (width := width) (left := left) (sign := sign) (fun h => absurd (ho.symm.trans h.1) (by decide)))
    have HL := hid (lenOf_no ho)
    clear ho
    go_enter Tryd.func18, Tryd.ntmps18
    go_wp2_with (go_at_call 35; refine (specLength _ _).mono ?_; rintro e w1 ⟨rfl, hb1⟩; rw [HL.out])
    go_ret
    exact ⟨end_string HZ.out.symm, hb1⟩
  have hnz := lenOf_zero ho
  have hsz := ok_size ho
  obtain ⟨n, hn⟩ : ∃ n, (runesN s.data.toList).length = n := ⟨_, rfl⟩
  have hln : lenOf s = (n : Int) := by rw [lenOf_ok ho, hn]
  have hns : n ≤ 1000 := by have := (ok_runes ho).2.2; omega
  have HO := hid ho
  have HL := hid hln
  have HNZ := hid hnz
  clear ho hln hn hnz
  by_cases hsg : sign = ⟨#[32]⟩ ∨ sign = ⟨#[48]⟩
  rotate_left
  · have HZ := hid (padded_no (s := s) (width := width) (left := left) (sign := sign) (fun h => hsg h.2.1))
    have t1 : (sign.toList == [32]) = false := by rw [beq_eq_false_iff_ne]; intro h; exact hsg (Or.inl (ba_toList_inj (by rw [h]; rw [Lib.toList_data])))
    have t2 : (sign.toList == [48]) = false := by rw [beq_eq_false_iff_ne]; intro h; exact hsg (Or.inr (ba_toList_inj (by rw [h]; rw [Lib.toList_data])))
    have t3 : (sign.toList != [32]) = true := by simp only [bne, t1]; rfl
    have t4 : (sign.toList != [48]) = true := by simp only [bne, t2]; rfl
    clear hsg
    go_enter Tryd.func18, Tryd.ntmps18
    go_wp2_with (go_at_call 35; refine (specLength _ _).mono ?_; rintro e w1 ⟨rfl, hb1⟩; rw [HL.out])
    go_ret
    exact ⟨end_string HZ.out.symm, hb1⟩
  by_cases hwd : 0 ≤ width ∧ width ≤ 200
  rotate_left
  · have HZ := hid (padded_no (s := s) (width := width) (left := left) (sign := sign) (fun h => hwd h.2.2))
    have hb := inB_false hwd
    clear hwd
    rcases hsg with rfl | rfl
    all_goals
      go_enter Tryd.func18, Tryd.ntmps18
      go_wp2_with (first | (go_at_call 35; refine (specLength _ _).mono ?_; rintro e w1 ⟨rfl, hb1⟩; rw [HL.out]) | (go_at_call 50; refine (between_any _ _ _ _).mono ?_; rintro e w2 ⟨rfl, rfl⟩))
      go_ret
      exact ⟨end_string HZ.out.symm, hb1⟩
  have HZ := hid (padded_ok (s := s) (width := width) (left := left) (sign := sign) ⟨HO.out, hsg, hwd⟩)
  have hb := inB_true hwd
  have hwd1 := hwd.1
  have hwd2 := hwd.2
  clear hwd
  rcases hsg with rfl | rfl
  · cases left
    · go_enter Tryd.func18, Tryd.ntmps18
      go_wp2_with (first | (go_at_call 35; refine (specLength _ _).mono ?_; rintro e w1 ⟨rfl, hb1⟩; rw [HL.out]) | (go_at_call 50; refine (between_any _ _ _ _).mono ?_; rintro e w2 ⟨rfl, rfl⟩))
      go_loop [10, 11] (fun more k => ∃ j m : Nat, more = .string (mkB (Lib.repeatL [32] j)) ∧ k = .int .i64 (m : Int) ∧ m = n + j ∧ (j = 0 ∨ (m : Int) ≤ width)) (fun _ k => width.toNat - (intOf k).toNat)
      case atStart => exact ⟨0, n, rfl, rfl, rfl, Or.inl rfl⟩
      case round =>
        obtain ⟨j, m, rfl, rfl, hm, hj⟩ := hrel
        have hjl : j ≤ 200 := by omega
        have HM := hid hm
        have hzz := more_size 32 j
        clear hm
        by_cases hlt : (m : Int) < width
        · have HS := hid (more_snoc [32] j)
          go_wp2
          go_round
          case rel => exact ⟨j + 1, m + 1, by rw [← HS.out]; rfl, by go_num, by rw [HM.out]; omega, Or.inr (by omega)⟩
          case measure => simp [intOf]; omega
        · have hj' : j = (width - lenOf s).toNat := by rw [HL.out]; have := HM.out; omega
          have HJ := hid hj'
          clear hj'
          go_wp2
          go_ret
          exact ⟨end_string (by rw [HZ.out, HJ.out]; rfl), hb1⟩
    · go_enter Tryd.func18, Tryd.ntmps18
      go_wp2_with (first | (go_at_call 35; refine (specLength _ _).mono ?_; rintro e w1 ⟨rfl, hb1⟩; rw [HL.out]) | (go_at_call 50; refine (between_any _ _ _ _).mono ?_; rintro e w2 ⟨rfl, rfl⟩))
      go_loop [10, 11] (fun more k => ∃ j m : Nat, more = .string (mkB (Lib.repeatL [32] j)) ∧ k = .int .i64 (m : Int) ∧ m = n + j ∧ (j = 0 ∨ (m : Int) ≤ width)) (fun _ k => width.toNat - (intOf k).toNat)
      case atStart => exact ⟨0, n, rfl, rfl, rfl, Or.inl rfl⟩
      case round =>
        obtain ⟨j, m, rfl, rfl, hm, hj⟩ := hrel
        have hjl : j ≤ 200 := by omega
        have HM := hid hm
        have hzz := more_size 32 j
        clear hm
        by_cases hlt : (m : Int) < width
        · have HS := hid (more_snoc [32] j)
          go_wp2
          go_round
          case rel => exact ⟨j + 1, m + 1, by rw [← HS.out]; rfl, by go_num, by rw [HM.out]; omega, Or.inr (by omega)⟩
          case measure => simp [intOf]; omega
        · have hj' : j = (width - lenOf s).toNat := by rw [HL.out]; have := HM.out; omega
          have HJ := hid hj'
          clear hj'
          go_wp2
          go_ret
          exact ⟨end_string (by rw [HZ.out, HJ.out]; rfl), hb1⟩
  · cases left
    · go_enter Tryd.func18, Tryd.ntmps18
      go_wp2_with (first | (go_at_call 35; refine (specLength _ _).mono ?_; rintro e w1 ⟨rfl, hb1⟩; rw [HL.out]) | (go_at_call 50; refine (between_any _ _ _ _).mono ?_; rintro e w2 ⟨rfl, rfl⟩))
      go_loop [10, 11] (fun more k => ∃ j m : Nat, more = .string (mkB (Lib.repeatL [48] j)) ∧ k = .int .i64 (m : Int) ∧ m = n + j ∧ (j = 0 ∨ (m : Int) ≤ width)) (fun _ k => width.toNat - (intOf k).toNat)
      case atStart => exact ⟨0, n, rfl, rfl, rfl, Or.inl rfl⟩
      case round =>
        obtain ⟨j, m, rfl, rfl, hm, hj⟩ := hrel
        have hjl : j ≤ 200 := by omega
        have HM := hid hm
        have hzz := more_size 48 j
        clear hm
        by_cases hlt : (m : Int) < width
        · have HS := hid (more_snoc [48] j)
          go_wp2
          go_round
          case rel => exact ⟨j + 1, m + 1, by rw [← HS.out]; rfl, by go_num, by rw [HM.out]; omega, Or.inr (by omega)⟩
          case measure => simp [intOf]; omega
        · have hj' : j = (width - lenOf s).toNat := by rw [HL.out]; have := HM.out; omega
          have HJ := hid hj'
          clear hj'
          by_cases hn0 : n = 0
          · subst hn0
            have hs0 : s.size = 0 := HNZ.out.1 HL.out
            have HSG := hid (signed_nil hs0)
            go_wp2
            go_ret
            exact ⟨end_string (by rw [HZ.out, HJ.out]; unfold padT; rw [HSG.out]; rfl), hb1⟩
          · have hpos : 0 < s.size := by
              have := HNZ.out
              rw [HL.out] at this
              omega
            have hn1 : (0 : Int) < (n : Int) := by omega
            obtain ⟨x, hx⟩ : ∃ x, s[0].toNat = x := ⟨_, rfl⟩
            have HSG := hid (signed_at hpos)
            have HX := hid hx
            by_cases h45 : x = 45
            · subst h45
              have HQ := hid (show signed s = true by rw [HSG.out, HX.out]; rfl)
              go_wp2_with fail
              go_quiet (fail)
              go_wp2
              go_ret
              exact ⟨end_string (by rw [HZ.out, HJ.out]; unfold padT; rw [HQ.out]; rfl), by first | exact hb1 | exact Below.drew hb1 | exact below_drewN' hb1 _⟩
            · have t45 : ((x : Int) == 45) = false := by rw [beq_eq_false_iff_ne]; omega
              by_cases h43 : x = 43
              · subst h43
                have HQ := hid (show signed s = true by rw [HSG.out, HX.out]; rfl)
                go_wp2_with fail
                go_quiet (fail)
                go_wp2
                go_ret
                exact ⟨end_string (by rw [HZ.out, HJ.out]; unfold padT; rw [HQ.out]; rfl), by first | exact hb1 | exact Below.drew hb1 | exact below_drewN' hb1 _⟩
              · have t43 : ((x : Int) == 43) = false := by rw [beq_eq_false_iff_ne]; omega
                have HQ := hid (show signed s = false by rw [HSG.out, HX.out, decide_eq_false h45, decide_eq_false h43]; rfl)
                go_wp2
                go_ret
                exact ⟨end_string (by rw [HZ.out, HJ.out]; unfold padT; rw [HQ.out]; rfl), hb1⟩
    · go_enter Tryd.func18, Tryd.ntmps18
      go_wp2_with (first | (go_at_call 35; refine (specLength _ _).mono ?_; rintro e w1 ⟨rfl, hb1⟩; rw [HL.out]) | (go_at_call 50; refine (between_any _ _ _ _).mono ?_; rintro e w2 ⟨rfl, rfl⟩))
      go_loop [10, 11] (fun more k => ∃ j m : Nat, more = .string (mkB (Lib.repeatL [32] j)) ∧ k = .int .i64 (m : Int) ∧ m = n + j ∧ (j = 0 ∨ (m : Int) ≤ width)) (fun _ k => width.toNat - (intOf k).toNat)
      case atStart => exact ⟨0, n, rfl, rfl, rfl, Or.inl rfl⟩
      case round =>
        obtain ⟨j, m, rfl, rfl, hm, hj⟩ := hrel
        have hjl : j ≤ 200 := by omega
        have HM := hid hm
        have hzz := more_size 32 j
        clear hm
        by_cases hlt : (m : Int) < width
        · have HS := hid (more_snoc [32] j)
          go_wp2
          go_round
          case rel => exact ⟨j + 1, m + 1, by rw [← HS.out]; rfl, by go_num, by rw [HM.out]; omega, Or.inr (by omega)⟩
          case measure => simp [intOf]; omega
        · have hj' : j = (width - lenOf s).toNat := by rw [HL.out]; have := HM.out; omega
          have HJ := hid hj'
          clear hj'
          go_wp2
          go_ret
          exact ⟨end_string (by rw [HZ.out, HJ.out]; rfl), hb1⟩


theorem sRepeat (c : UInt8) (m : Nat) (w : World) (hm : m ≤ 200) : Calls Tryd.prog 78 #[.string ⟨#[c]⟩, .int .i64 m] w fun e w' => e = .returned (.string (mkB (Lib.repeatL [c] m))) ∧ Below w.heap.size w w' :=
  Tryd.strings_Repeat ⟨#[c]⟩ m w (by omega) (by show 1 * m ≤ _; omega)
set_option maxHeartbeats 8000000 in
set_option maxRecDepth 100000 in
theorem implPadded0 (s : ByteArray) (width : Int) (left : Bool) (sign : ByteArray) (w : World) (hT : Tabs w) (ho : okText s = true) (hsg : sign = ⟨#[32]⟩ ∨ sign = ⟨#[48]⟩) (h0 : 0 ≤ width) (h2 : width ≤ 200) :
    Calls Tryd.prog 52 #[.string s, .int .i64 width, .bool left, .string sign] w fun e w' => e = .returned (.string (padT s width left sign)) ∧ Below w.heap.size w w' := by
  have hsz := ok_size ho
  obtain ⟨n, hn⟩ : ∃ n, (runesN s.data.toList).length = n := ⟨_, rfl⟩
  have hln : lenOf s = (n : Int) := by rw [lenOf_ok ho, hn]
  have hns : n ≤ 1000 := by have := (ok_runes ho).2.2; omega
  have HL := hid hln
  have hmx : ∃ m : Nat, (width - lenOf s).toNat = m ∧ max 0 (width - (n : Int)) = (m : Int) := ⟨(width - lenOf s).toNat, rfl, by rw [hln]; omega⟩
  obtain ⟨m, hm1, hm2⟩ := hmx
  have hm200 : m ≤ 200 := by rw [hln] at hm1; omega
  have HM := hid hm1
  have hz32 := more_size 32 m
  have hz48 := more_size 48 m
  clear ho hln hn hm1
  rcases hsg with rfl | rfl
  · cases left
    · go_enter Tryd.func52, Tryd.ntmps52
      go_wp2_with (first | (go_at_call 30; refine (implLength _ _ hT).mono ?_; rintro e w1 ⟨rfl, hb1⟩; rw [HL.out]) | (go_at_call 78; refine (sRepeat 32 m _ hm200).mono ?_; rintro e w3 ⟨rfl, hb3⟩))
      go_ret
      exact ⟨end_string (by unfold padT; rw [HM.out]; rfl), ext_trans hb1 hb3⟩
    · go_enter Tryd.func52, Tryd.ntmps52
      go_wp2_with (first | (go_at_call 30; refine (implLength _ _ hT).mono ?_; rintro e w1 ⟨rfl, hb1⟩; rw [HL.out]) | (go_at_call 78; refine (sRepeat 32 m _ hm200).mono ?_; rintro e w3 ⟨rfl, hb3⟩))
      go_ret
      exact ⟨end_string (by unfold padT; rw [HM.out]; rfl), ext_trans hb1 hb3⟩
  · cases left
    · by_cases hs0 : s.size = 0
      · have HSG := hid (signed_nil hs0)
        have he : s = ⟨#[]⟩ := ba_nil hs0
        subst he
        go_enter Tryd.func52, Tryd.ntmps52
        go_wp2_with (first | (go_at_call 30; refine (implLength _ _ hT).mono ?_; rintro e w1 ⟨rfl, hb1⟩; rw [HL.out]) | (go_at_call 78; refine (sRepeat 48 m _ hm200).mono ?_; rintro e w3 ⟨rfl, hb3⟩))
        go_ret
        exact ⟨end_string (by unfold padT; rw [HM.out, HSG.out]; rfl), ext_trans hb1 hb3⟩
      · have hpos : 0 < s.size := by omega
        have hpz : (0 : Int) < (s.size : Int) := by omega
        have hpz1 : (1 : Int) ≤ (s.size : Int) := by omega
        have hem : s.toList.isEmpty = false := ba_nil_empty hs0
        have hem2 : (s.toList == []) = false := ba_nil_beq hs0
        have hem3 : (s.toList != []) = true := by simp only [bne, hem2]; rfl
        obtain ⟨x, hx⟩ : ∃ x, s[0].toNat = x := ⟨_, rfl⟩
        have HSG := hid (signed_at hpos)
        have HX := hid hx
        have hx1 : (s.extract 0 1).size = 1 := by rw [ByteArray.size_extract]; omega
        have hx2 : (s.extract 1 s.size).size = s.size - 1 := by rw [ByteArray.size_extract]; omega
        have hq1 : ¬ 9223372036854775807 < 1 + m := by omega
        have hq2 : ¬ 9223372036854775807 < 1 + m + (s.size - 1) := by omega
        by_cases hyes : x = 45 ∨ x = 43
        · have HQ := hid (show signed s = true by rw [HSG.out, HX.out]; rcases hyes with rfl | rfl <;> rfl)
          rcases hyes with rfl | rfl
          all_goals
            go_enter Tryd.func52, Tryd.ntmps52
            go_wp2_with (first | (go_at_call 30; refine (implLength _ _ hT).mono ?_; rintro e w1 ⟨rfl, hb1⟩; rw [HL.out]) | (go_at_call 78; refine (sRepeat 48 m _ hm200).mono ?_; rintro e w3 ⟨rfl, hb3⟩))
            refine wp_region_held_drew (S := fun w' => True) (by kernel_rfl) ?_ (fun hHeld => ?_)
            · trivial
            refine wpAnyH_take (i := 0) (v := ?_) rfl (by kernel_rfl) (by kernel_rfl) (by kernel_rfl) (fun _ _ _ h => h) (Or.inl ⟨by rfl, ?_⟩) (by assumption) ?_
            rotate_left
            · (intro w' hSw; (try dsimp only at hSw); go_simp; try (with_reducible rfl))
            change wpAnyH _ _ _ _ _ _ _ (Act.put _ (some 38) _) _
            try simp only [Act.put, List.setIfInBounds_toArray, List.set_cons_zero, List.set_cons_succ]
            refine wpAnyH_take (i := 1) (v := ?_) rfl (by kernel_rfl) (by kernel_rfl) (by kernel_rfl) (fun _ _ _ h => h) (Or.inl ⟨by rfl, ?_⟩) (by assumption) ?_
            rotate_left
            · (intro w' hSw; (try dsimp only at hSw); go_simp; try (with_reducible rfl))
            change wpAnyH _ _ _ _ _ _ _ (Act.put _ (some 39) _) _
            try simp only [Act.put, List.setIfInBounds_toArray, List.set_cons_zero, List.set_cons_succ]
            refine wpAnyH_take (i := 2) (v := ?_) rfl (by kernel_rfl) (by kernel_rfl) (by kernel_rfl) (fun _ _ _ h => h) (Or.inl ⟨by rfl, ?_⟩) (by assumption) ?_
            rotate_left
            · (intro w' hSw; (try dsimp only at hSw); go_simp; try (with_reducible rfl))
            change wpAnyH _ _ _ _ _ _ _ (Act.put _ (some 40) _) _
            try simp only [Act.put, List.setIfInBounds_toArray, List.set_cons_zero, List.set_cons_succ]
            refine wpAnyH_take (i := 5) (v := ?_) rfl (by kernel_rfl) (by kernel_rfl) (by kernel_rfl) (fun _ _ _ h => h) (Or.inl ⟨by rfl, ?_⟩) (by assumption) ?_
            rotate_left
            · (intro w' hSw; (try dsimp only at hSw); go_simp; try (with_reducible rfl))
            change wpAnyH _ _ _ _ _ _ _ (Act.put _ (some 43) _) _
            try simp only [Act.put, List.setIfInBounds_toArray, List.set_cons_zero, List.set_cons_succ]
            refine wpAnyH_take (i := 6) (v := ?_) rfl (by kernel_rfl) (by kernel_rfl) (by kernel_rfl) (fun _ _ _ h => h) (Or.inl ⟨by rfl, ?_⟩) (by assumption) ?_
            rotate_left
            · (intro w' hSw; (try dsimp only at hSw); go_simp; try (with_reducible rfl))
            change wpAnyH _ _ _ _ _ _ _ (Act.put _ (some 44) _) _
            try simp only [Act.put, List.setIfInBounds_toArray, List.set_cons_zero, List.set_cons_succ]
            refine wpAnyH_ready (rs := [3]) (by kernel_rfl) (by simp) ?_
            refine AllReadyH.cons (i := 3) rfl (fun K hK => ?_) AllReadyH.nil
            simp only [List.getElem_toArray, List.getElem_cons_succ, List.getElem_cons_zero]
            rw [if_pos (by rfl)]
            go_simp
            (go_at_call 78; refine (sRepeat 48 m _ hm200).mono ?_; rintro e w3 ⟨rfl, hb3⟩; go_wp2_with fail)
            refine hK.out _ _ ?_ (fun hHeld => ?_)
            · (try dsimp only); try trivial
            clear hK K
            try simp only [Act.put, List.setIfInBounds_toArray, List.set_cons_zero, List.set_cons_succ]
            refine wpAnyH_take (i := 4) (v := ?_) rfl (by kernel_rfl) (by kernel_rfl) (by kernel_rfl) (fun _ _ _ h => h) (Or.inl ⟨by rfl, ?_⟩) (by assumption) ?_
            rotate_left
            · (intro w' hSw; (try dsimp only at hSw); go_simp; try (with_reducible rfl))
            change wpAnyH _ _ _ _ _ _ _ (Act.put _ (some 42) _) _
            try simp only [Act.put, List.setIfInBounds_toArray, List.set_cons_zero, List.set_cons_succ]
            refine wpAnyH_take (i := 7) (v := ?_) rfl (by kernel_rfl) (by kernel_rfl) (by kernel_rfl) (fun _ _ _ h => h) (Or.inl ⟨by rfl, ?_⟩) (by assumption) ?_
            rotate_left
            · (intro w' hSw; (try dsimp only at hSw); go_simp; try (with_reducible rfl))
            change wpAnyH _ _ _ _ _ _ _ (Act.put _ (some 45) _) _
            try simp only [Act.put, List.setIfInBounds_toArray, List.set_cons_zero, List.set_cons_succ]
            refine wpAnyH_take (i := 8) (v := ?_) rfl (by kernel_rfl) (by kernel_rfl) (by kernel_rfl) (fun _ _ _ h => h) (Or.inl ⟨by rfl, ?_⟩) (by assumption) ?_
            rotate_left
            · (intro w' hSw; (try dsimp only at hSw); go_simp; try (with_reducible rfl))
            change wpAnyH _ _ _ _ _ _ _ (Act.put _ (some 8) _) _
            try simp only [Act.put, List.setIfInBounds_toArray, List.set_cons_zero, List.set_cons_succ]
            refine wpAnyH_done (by kernel_rfl) ?_ _
            go_wp2
            go_ret
            exact ⟨end_string (by unfold padT; rw [HM.out, HQ.out]; rfl), by first | exact ext_trans hb1 hb3 | exact ext_trans hb1 (ext_trans (Below.drew (Below.refl _ _)) hb3)⟩
        · have t45 : ((x : Int) == 45) = false := by rw [beq_eq_false_iff_ne]; omega
          have t43 : ((x : Int) == 43) = false := by rw [beq_eq_false_iff_ne]; omega
          have HQ := hid (show signed s = false by rw [HSG.out, HX.out, decide_eq_false (fun h => hyes (Or.inl h)), decide_eq_false (fun h => hyes (Or.inr h))]; rfl)
          clear hyes
          go_enter Tryd.func52, Tryd.ntmps52
          go_wp2_with (first | (go_at_call 30; refine (implLength _ _ hT).mono ?_; rintro e w1 ⟨rfl, hb1⟩; rw [HL.out]) | (go_at_call 78; refine (sRepeat 48 m _ hm200).mono ?_; rintro e w3 ⟨rfl, hb3⟩))
          go_ret
          exact ⟨end_string (by unfold padT; rw [HM.out, HQ.out]; rfl), ext_trans hb1 hb3⟩
    · go_enter Tryd.func52, Tryd.ntmps52
      go_wp2_with (first | (go_at_call 30; refine (implLength _ _ hT).mono ?_; rintro e w1 ⟨rfl, hb1⟩; rw [HL.out]) | (go_at_call 78; refine (sRepeat 32 m _ hm200).mono ?_; rintro e w3 ⟨rfl, hb3⟩))
      go_ret
      exact ⟨end_string (by unfold padT; rw [HM.out]; rfl), ext_trans hb1 hb3⟩

set_option maxHeartbeats 8000000 in
set_option maxRecDepth 100000 in
theorem implPadded (s : ByteArray) (width : Int) (left : Bool) (sign : ByteArray) (w : World) (hw0 : -9223372036854775808 ≤ width ∧ width ≤ 9223372036854775807) (hT : Tabs w) :
    Calls Tryd.prog 19 #[.string s, .int .i64 width, .bool left, .string sign] w fun e w' => e = .returned (.string (paddedOf s width left sign)) ∧ Below w.heap.size w w' := by
  cases ho : okText s
  · have HZ := hid (padded_no (s := s) (width := width) (left := left) (sign := sign) (fun h => absurd (ho.symm.trans h.1) (by decide)))
    have HO := hid ho
    clear ho
    go_enter Tryd.func19, Tryd.ntmps19
    go_wp2_with (go_at_call 29; refine (implTextOk _ _ hT).mono ?_; rintro e w1 ⟨rfl, hb1⟩; rw [HO.out])
    go_ret
    exact ⟨end_string HZ.out.symm, hb1⟩
  have HO := hid ho
  clear ho
  by_cases hsg : sign = ⟨#[32]⟩ ∨ sign = ⟨#[48]⟩
  rotate_left
  · have HZ := hid (padded_no (s := s) (width := width) (left := left) (sign := sign) (fun h => hsg h.2.1))
    have t1 : (sign.toList == [32]) = false := by rw [beq_eq_false_iff_ne]; intro h; exact hsg (Or.inl (ba_toList_inj (by rw [h]; rw [Lib.toList_data])))
    have t2 : (sign.toList == [48]) = false := by rw [beq_eq_false_iff_ne]; intro h; exact hsg (Or.inr (ba_toList_inj (by rw [h]; rw [Lib.toList_data])))
    have t3 : (sign.toList != [32]) = true := by simp only [bne, t1]; rfl
    have t4 : (sign.toList != [48]) = true := by simp only [bne, t2]; rfl
    clear hsg
    go_enter Tryd.func19, Tryd.ntmps19
    go_wp2_with (go_at_call 29; refine (implTextOk _ _ hT).mono ?_; rintro e w1 ⟨rfl, hb1⟩; rw [HO.out])
    go_ret
    exact ⟨end_string HZ.out.symm, hb1⟩
  by_cases hwd : 0 ≤ width ∧ width ≤ 200
  rotate_left
  · have HZ := hid (padded_no (s := s) (width := width) (left := left) (sign := sign) (fun h => hwd h.2.2))
    have hb := inB_false hwd
    clear hwd
    rcases hsg with rfl | rfl
    all_goals
      go_enter Tryd.func19, Tryd.ntmps19
      go_wp2_with (first | (go_at_call 29; refine (implTextOk _ _ hT).mono ?_; rintro e w1 ⟨rfl, hb1⟩; rw [HO.out]) | (go_at_call 51; refine (within_any _ _ _ _).mono ?_; rintro e w2 ⟨rfl, rfl⟩))
      go_ret
      exact ⟨end_string HZ.out.symm, hb1⟩
  have HZ := hid (padded_ok (s := s) (width := width) (left := left) (sign := sign) ⟨HO.out, hsg, hwd⟩)
  have hb := inB_true hwd
  have hwd1 := hwd.1
  have hwd2 := hwd.2
  have HSG := hid hsg
  clear hwd
  rcases hsg with rfl | rfl
  all_goals
    go_enter Tryd.func19, Tryd.ntmps19
    go_wp2_with (first | (go_at_call 29; refine (implTextOk _ _ hT).mono ?_; rintro e w1 ⟨rfl, hb1⟩; rw [HO.out]) | (go_at_call 51; refine (within_any _ _ _ _).mono ?_; rintro e w2 ⟨rfl, rfl⟩) | (go_at_call 52; refine (implPadded0 s width left _ _ (tabs_below hT hb1) HO.out (by first | exact Or.inl rfl | exact Or.inr rfl) hwd1 hwd2).mono ?_; rintro e w3 ⟨rfl, hb3⟩))
    go_ret
    exact ⟨end_string HZ.out.symm, ext_trans hb1 hb3⟩
end Go.Proofs.YtojonbdkijnbnaaDoor
