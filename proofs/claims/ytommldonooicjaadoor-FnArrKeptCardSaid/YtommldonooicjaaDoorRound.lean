/-
  What is proved here: spec.l02Round and impl.natRound round a row of digits. No condition but that the bytes are digits.
-/
import Derived.Test.YtommldonooicjaaDoorAdd
namespace Go.Proofs.YtommldonooicjaaDoor
open Go.RowKit
set_option linter.unusedVariables false
set_option linter.unusedSimpArgs false

def upB (q r h : List UInt8) : Bool := !(Op.bytesLess r h || r == h) || ((r == h) && decide (dgA q 0 % 2 = 1))
def finL (q r h : List UInt8) : List UInt8 := if upB q r h then addL q [49] else q
def halfL (n : Nat) : List UInt8 := 53 :: zeroL (n - 1)
def roundL (l : List UInt8) (n : Nat) : List UInt8 :=
  if l.length < n then [48] else finL (trimL (l.take (l.length - n))) (l.drop (l.length - n)) (halfL n)
theorem trimL_zeros (x : List UInt8) : ∀ n, trimL (zeroL n ++ x) = trimL x
  | 0 => rfl
  | n + 1 => by
    show trimL (48 :: (zeroL n ++ x)) = _
    rw [trimL_zero, trimL_zeros x n]
theorem zeroL_take (k : Nat) : ∀ n, k ≤ n → (zeroL n).take k = zeroL k := by
  intro n h
  unfold zeroL
  rw [List.take_replicate, Nat.min_eq_left h]
theorem zeroL_drop (n k : Nat) : (zeroL n).drop k = zeroL (n - k) := by
  unfold zeroL
  rw [List.drop_replicate]
theorem spec_round (l : List UInt8) {n : Nat} (h1 : 1 ≤ n) : finL (trimL ((zeroL n ++ l).take l.length)) ((zeroL n ++ l).drop l.length) (halfL n) = roundL l n := by
  unfold roundL
  by_cases h : l.length < n
  · rw [if_pos h, List.take_append_of_le_length (by rw [zeroL_len]; omega), zeroL_take _ _ (by omega), List.drop_append_of_le_length (by rw [zeroL_len]; omega), zeroL_drop]
    have e1 : trimL (zeroL l.length) = [48] := by
      have := trimL_zeros [] l.length
      rw [List.append_nil] at this
      rw [this]; rfl
    obtain ⟨m, hm⟩ : ∃ m, n - l.length = m + 1 := ⟨n - l.length - 1, by omega⟩
    rw [e1, hm]
    have hr : zeroL (m + 1) ++ l = 48 :: (zeroL m ++ l) := rfl
    have hb : Op.bytesLess (zeroL (m + 1) ++ l) (halfL n) = true := by
      rw [hr]; unfold halfL Op.bytesLess; rfl
    have he : ((zeroL (m + 1) ++ l) == halfL n) = false := by
      rw [hr, beq_eq_false_iff_ne]; unfold halfL; intro h'; injection h' with h1 h2; exact absurd h1 (by decide)
    unfold finL upB
    rw [hb, he]
    rfl
  · rw [if_neg h, List.take_append, List.drop_append, zeroL_len, List.take_of_length_le (by rw [zeroL_len]; omega), List.drop_of_length_le (by rw [zeroL_len]; omega), trimL_zeros]
    rfl
theorem digits_trim {l : List UInt8} (h : digits l) : digits (trimL l) := by
  intro c hc
  unfold trimL at hc
  split at hc
  · rw [List.mem_singleton.1 hc]; decide
  · exact h c ((List.dropWhile_sublist _).subset hc)
theorem digits_take {l : List UInt8} (h : digits l) (k : Nat) : digits (l.take k) := fun c hc => h c (List.mem_of_mem_take hc)
theorem digits_zeros (n : Nat) : digits (zeroL n) := by
  intro c hc
  unfold zeroL at hc
  rw [(List.mem_replicate.1 hc).2]; decide
theorem digits_one : digits [49] := by intro c hc; rw [List.mem_singleton.1 hc]; decide
theorem digits_append {a b : List UInt8} (ha : digits a) (hb : digits b) : digits (a ++ b) := fun c hc => (List.mem_append.1 hc).elim (ha c) (hb c)
theorem mkB_toList (l : List UInt8) : (mkB l).toList = l := by rw [Lib.toList_data]; rfl
theorem beq_toList (a b : ByteArray) : (a.toList == b.toList) = (a.data.toList == b.data.toList) := by rw [Lib.toList_data, Lib.toList_data]
theorem less_toList (a b : ByteArray) : Op.bytesLess a.toList b.toList = Op.bytesLess a.data.toList b.data.toList := by rw [Lib.toList_data, Lib.toList_data]

set_option maxHeartbeats 8000000 in
set_option maxRecDepth 100000 in
theorem specRound (s : ByteArray) (n : Nat) (w : World) (hd : digits s.data.toList) (hs : s.size ≤ 2000) (h1 : 1 ≤ n) (hn : n ≤ 1900) :
    Calls Tryd.prog 101 #[.string s, .int .i64 (n : Int)] w fun e w' => e = .returned (.string (mkB (roundL s.data.toList n))) ∧ Below w.heap.size w w' := by
  obtain ⟨l, hl⟩ : ∃ l, s.data.toList = l := ⟨_, rfl⟩
  have hsl : s.size = l.length := by rw [Lib.size_eq, hl]
  rw [hl] at hd
  rw [hl, ← spec_round l h1]
  have hz := zeroB_size n
  have hz2 := zeroB_size (n - 1)
  obtain ⟨A, hA⟩ : ∃ A, zeroB n ++ s = A := ⟨_, rfl⟩
  have hAs : A.size = n + s.size := by rw [← hA, ByteArray.size_append, hz]
  have hAd : A.data.toList = zeroL n ++ l := by rw [← hA, ByteArray.data_append, Array.toList_append, hl]; rfl
  obtain ⟨X, hX⟩ : ∃ X, A.extract 0 s.size = X := ⟨_, rfl⟩
  obtain ⟨R, hR⟩ : ∃ X, A.extract s.size A.size = X := ⟨_, rfl⟩
  have hXd : X.data.toList = (zeroL n ++ l).take l.length := by rw [← hX, extL, hAd, ← hsl]; rfl
  have hRd : R.data.toList = (zeroL n ++ l).drop l.length := by rw [← hR, extL, hAd, hAs, ← hsl, List.take_of_length_le (by rw [List.length_drop, List.length_append, zeroL_len, ← hsl]; omega)]
  have hXs : X.size ≤ 1000000 := by rw [← hX, ByteArray.size_extract]; omega
  obtain ⟨Q, hQ⟩ : ∃ Q, trimB X = Q := ⟨_, rfl⟩
  have hQd : Q.data.toList = trimL ((zeroL n ++ l).take l.length) := by rw [← hQ]; unfold trimB; rw [mkB_data, hXd]
  have hQg : digits Q.data.toList := by rw [hQd]; exact digits_trim (digits_take (digits_append (digits_zeros n) hd) _)
  have hQs : Q.size ≤ 4500 := by
    rw [Lib.size_eq, hQd]
    have := (trimL_len ((zeroL n ++ l).take l.length)).1
    rw [List.length_take, List.length_append, zeroL_len] at this
    omega
  obtain ⟨Z, hZ⟩ : ∃ Z, zeroB (n - 1) = Z := ⟨_, rfl⟩
  obtain ⟨HF, hHF⟩ : ∃ Z', (⟨#[53]⟩ : ByteArray) ++ Z = Z' := ⟨_, rfl⟩
  have hHd : HF.data.toList = halfL n := by rw [← hHF, ← hZ, ByteArray.data_append, Array.toList_append]; rfl
  rw [hZ] at hz2
  obtain ⟨lt, hlt⟩ : ∃ b, Op.bytesLess R.toList HF.toList = b := ⟨_, rfl⟩
  obtain ⟨eq, heq⟩ : ∃ b, (R.toList == HF.toList) = b := ⟨_, rfl⟩
  obtain ⟨od, hod⟩ : ∃ m, dgA Q.data.toList 0 = m := ⟨_, rfl⟩
  have hod9 : od ≤ 9 := by rw [← hod]; exact dgA_le hQg 0
  have HFIN := hid (show finL (trimL ((zeroL n ++ l).take l.length)) ((zeroL n ++ l).drop l.length) (halfL n) = if (!(lt || eq) || (eq && decide (od % 2 = 1))) then addL Q.data.toList [49] else Q.data.toList by
    unfold finL upB
    rw [← hQd, ← hRd, ← hHd, ← less_toList, ← beq_toList, hlt, heq, hod])
  have CT := hid (fun w => specTrim X w hXs)
  rw [hQ] at CT
  have CD := hid (fun w => specDigit Q 0 w hQg (by omega) (by omega))
  rw [hod] at CD
  have CA := hid (fun w => specAdd Q ⟨#[49]⟩ w hQg digits_one (by omega) (by decide))
  have CZ := hid (fun w => specZeros n w (by omega))
  have CZ2 := hid (fun w => specZeros (n - 1) w (by omega))
  rw [hZ] at CZ2
  have HA := hid hA
  have hnz : ((n : Int) == 0) = false := by rw [beq_eq_false_iff_ne]; omega
  have hni : (n : Int) - 1 = ((n - 1 : Nat) : Int) := by omega
  have hsub : (A.size : Int) - (n : Int) = (s.size : Int) := by omega
  have hle : (s.size : Int) ≤ (A.size : Int) := by omega
  have hq1 : ¬ 9223372036854775807 < n + s.size := by omega
  have hq2 : ¬ 9223372036854775807 < 1 + (n - 1) := by omega
  have hzn : (zeroB n).size = n := hz
  have HQB := hid (show mkB Q.data.toList = Q from mkB_of Q)
  have hA2 : A.size ≤ 4500 := by omega
  have hws : IntKind.i64.wrap (s.size : Int) = (s.size : Int) := IntWalk.i64_in _ (by omega)
  clear hAs hA hAd hXd hRd hQ hQd hZ hHd hl hsl hd hXs hod hz
  go_enter Tryd.func101, Tryd.ntmps101
  go_wp2_with fail
  refine (CZ.out _).mono ?_
  rintro e w1 ⟨rfl, hb1⟩
  go_wp2_with fail
  rw [HA.out]
  refine wp_region_held_drew (S := fun w' => True) (by kernel_rfl) ?_ (fun hHeld => ?_)
  · trivial
  refine wpAnyH_take (i := 0) (v := ?_) rfl (by kernel_rfl) (by kernel_rfl) (by kernel_rfl) (fun _ _ _ h => h) (Or.inl ⟨by rfl, ?_⟩) (by assumption) ?_
  rotate_left
  · (intro w' hSw; (try dsimp only at hSw); go_simp; try (with_reducible rfl))
  change wpAnyH _ _ _ _ _ _ _ (Act.put _ (some 16) _) _
  try simp only [Act.put, List.setIfInBounds_toArray, List.set_cons_zero, List.set_cons_succ]
  refine wpAnyH_take (i := 1) (v := ?_) rfl (by kernel_rfl) (by kernel_rfl) (by kernel_rfl) (fun _ _ _ h => h) (Or.inl ⟨by rfl, ?_⟩) (by assumption) ?_
  rotate_left
  · (intro w' hSw; (try dsimp only at hSw); go_simp; try (with_reducible rfl))
  change wpAnyH _ _ _ _ _ _ _ (Act.put _ (some 17) _) _
  try simp only [Act.put, List.setIfInBounds_toArray, List.set_cons_zero, List.set_cons_succ]
  refine wpAnyH_take (i := 2) (v := ?_) rfl (by kernel_rfl) (by kernel_rfl) (by kernel_rfl) (fun _ _ _ h => h) (Or.inl ⟨by rfl, ?_⟩) (by assumption) ?_
  rotate_left
  · (intro w' hSw; (try dsimp only at hSw); go_simp; try (with_reducible rfl))
  change wpAnyH _ _ _ _ _ _ _ (Act.put _ (some 18) _) _
  try simp only [Act.put, List.setIfInBounds_toArray, List.set_cons_zero, List.set_cons_succ]
  refine wpAnyH_take (i := 3) (v := ?_) rfl (by kernel_rfl) (by kernel_rfl) (by kernel_rfl) (fun _ _ _ h => h) (Or.inl ⟨by rfl, ?_⟩) (by assumption) ?_
  rotate_left
  · (intro w' hSw; (try dsimp only at hSw); go_simp; try (with_reducible rfl))
  change wpAnyH _ _ _ _ _ _ _ (Act.put _ (some 19) _) _
  try simp only [Act.put, List.setIfInBounds_toArray, List.set_cons_zero, List.set_cons_succ]
  refine wpAnyH_take (i := 4) (v := ?_) rfl (by kernel_rfl) (by kernel_rfl) (by kernel_rfl) (fun _ _ _ h => h) (Or.inl ⟨by rfl, ?_⟩) (by assumption) ?_
  rotate_left
  · (intro w' hSw; (try dsimp only at hSw); go_simp; try (with_reducible rfl))
  change wpAnyH _ _ _ _ _ _ _ (Act.put _ (some 20) _) _
  try simp only [Act.put, List.setIfInBounds_toArray, List.set_cons_zero, List.set_cons_succ]
  refine wpAnyH_take (i := 5) (v := ?_) rfl (by kernel_rfl) (by kernel_rfl) (by kernel_rfl) (fun _ _ _ h => h) (Or.inl ⟨by rfl, ?_⟩) (by assumption) ?_
  rotate_left
  · (intro w' hSw; (try dsimp only at hSw); go_simp; try (with_reducible rfl))
  change wpAnyH _ _ _ _ _ _ _ (Act.put _ (some 21) _) _
  try simp only [Act.put, List.setIfInBounds_toArray, List.set_cons_zero, List.set_cons_succ]
  refine wpAnyH_take (i := 7) (v := ?_) rfl (by kernel_rfl) (by kernel_rfl) (by kernel_rfl) (fun _ _ _ h => h) (Or.inl ⟨by rfl, ?_⟩) (by assumption) ?_
  rotate_left
  · (intro w' hSw; (try dsimp only at hSw); go_simp; try (with_reducible rfl))
  change wpAnyH _ _ _ _ _ _ _ (Act.put _ (some 23) _) _
  try simp only [Act.put, List.setIfInBounds_toArray, List.set_cons_zero, List.set_cons_succ]
  refine wpAnyH_take (i := 8) (v := ?_) rfl (by kernel_rfl) (by kernel_rfl) (by kernel_rfl) (fun _ _ _ h => h) (Or.inl ⟨by rfl, ?_⟩) (by assumption) ?_
  rotate_left
  · (intro w' hSw; (try dsimp only at hSw); go_simp; try (with_reducible rfl))
  change wpAnyH _ _ _ _ _ _ _ (Act.put _ (some 24) _) _
  try simp only [Act.put, List.setIfInBounds_toArray, List.set_cons_zero, List.set_cons_succ]
  refine wpAnyH_take (i := 9) (v := ?_) rfl (by kernel_rfl) (by kernel_rfl) (by kernel_rfl) (fun _ _ _ h => h) (Or.inl ⟨by rfl, ?_⟩) (by assumption) ?_
  rotate_left
  · (intro w' hSw; (try dsimp only at hSw); go_simp; try (with_reducible rfl))
  change wpAnyH _ _ _ _ _ _ _ (Act.put _ (some 25) _) _
  try simp only [Act.put, List.setIfInBounds_toArray, List.set_cons_zero, List.set_cons_succ]
  refine wpAnyH_take (i := 10) (v := ?_) rfl (by kernel_rfl) (by kernel_rfl) (by kernel_rfl) (fun _ _ _ h => h) (Or.inl ⟨by rfl, ?_⟩) (by assumption) ?_
  rotate_left
  · (intro w' hSw; (try dsimp only at hSw); go_simp; try (with_reducible rfl))
  change wpAnyH _ _ _ _ _ _ _ (Act.put _ (some 26) _) _
  try simp only [Act.put, List.setIfInBounds_toArray, List.set_cons_zero, List.set_cons_succ]
  refine wpAnyH_take (i := 11) (v := ?_) rfl (by kernel_rfl) (by kernel_rfl) (by kernel_rfl) (fun _ _ _ h => h) (Or.inl ⟨by rfl, ?_⟩) (by assumption) ?_
  rotate_left
  · (intro w' hSw; (try dsimp only at hSw); go_simp; try (with_reducible rfl))
  change wpAnyH _ _ _ _ _ _ _ (Act.put _ (some 27) _) _
  try simp only [Act.put, List.setIfInBounds_toArray, List.set_cons_zero, List.set_cons_succ]
  refine wpAnyH_take (i := 12) (v := ?_) rfl (by kernel_rfl) (by kernel_rfl) (by kernel_rfl) (fun _ _ _ h => h) (Or.inl ⟨by rfl, ?_⟩) (by assumption) ?_
  rotate_left
  · (intro w' hSw; (try dsimp only at hSw); go_simp; try (with_reducible rfl))
  change wpAnyH _ _ _ _ _ _ _ (Act.put _ (some 28) _) _
  try simp only [Act.put, List.setIfInBounds_toArray, List.set_cons_zero, List.set_cons_succ]
  refine wpAnyH_ready (rs := [6]) (by kernel_rfl) (by simp) ?_
  refine AllReadyH.cons (i := 6) rfl (fun K hK => ?_) AllReadyH.nil
  simp only [List.getElem_toArray, List.getElem_cons_succ, List.getElem_cons_zero]
  rw [if_pos (by rfl)]
  go_simp
  (go_at_call 100; refine (CT.out _).mono ?_; rintro e' w3 ⟨rfl, rfl⟩; go_wp2_with fail)
  have hOld := hHeld
  clear hHeld
  refine hK.out _ _ ?_ (fun hHeld => ?_)
  · (try dsimp only); try trivial
  clear hK K hOld
  try simp only [Act.put, List.setIfInBounds_toArray, List.set_cons_zero, List.set_cons_succ]
  refine wpAnyH_take (i := 13) (v := ?_) rfl (by kernel_rfl) (by kernel_rfl) (by kernel_rfl) (fun _ _ _ h => h) (Or.inl ⟨by rfl, ?_⟩) (by assumption) ?_
  rotate_left
  · (intro w' hSw; (try dsimp only at hSw); go_simp; try (with_reducible rfl))
  change wpAnyH _ _ _ _ _ _ _ (Act.put _ (some 5) _) _
  try simp only [Act.put, List.setIfInBounds_toArray, List.set_cons_zero, List.set_cons_succ]
  refine wpAnyH_take (i := 14) (v := ?_) rfl (by kernel_rfl) (by kernel_rfl) (by kernel_rfl) (fun _ _ _ h => h) (Or.inl ⟨by rfl, ?_⟩) (by assumption) ?_
  rotate_left
  · (intro w' hSw; (try dsimp only at hSw); go_simp; try (with_reducible rfl))
  change wpAnyH _ _ _ _ _ _ _ (Act.put _ (some 6) _) _
  try simp only [Act.put, List.setIfInBounds_toArray, List.set_cons_zero, List.set_cons_succ]
  refine wpAnyH_done (by kernel_rfl) ?_ _
  go_wp2_with fail
  refine (CZ2.out _).mono ?_
  rintro e w4 ⟨rfl, hb4⟩
  cases lt <;> cases eq
  · go_wp2_with fail
    refine (CA.out _).mono ?_
    rintro e w5 ⟨rfl, hb5⟩
    go_wp2
    go_ret
    rw [HFIN.out]
    exact ⟨rfl, (by repeat' (first | (with_reducible exact Below.refl _ _) | (with_reducible refine ext_trans ?_ hb5) | (with_reducible refine ext_trans ?_ hb4) | (with_reducible refine ext_trans ?_ hb1) | (with_reducible refine Below.drew ?_)))⟩
  · rcases Nat.mod_two_eq_zero_or_one od with hr | hr
    · have hr1 : (od : Int).tmod 2 = 0 := by rw [Int.tmod_eq_emod_of_nonneg (by omega)]; omega
      have hr2 : (od : Int) % 2 = 0 := by omega
      rw [hr] at HFIN
      go_wp2_with fail
      refine (CD.out _).mono ?_
      rintro e w5 ⟨rfl, rfl⟩
      go_wp2
      go_ret
      rw [HFIN.out]
      exact ⟨end_string HQB.out.symm, (by repeat' (first | (with_reducible exact Below.refl _ _) | (with_reducible refine ext_trans ?_ hb5) | (with_reducible refine ext_trans ?_ hb4) | (with_reducible refine ext_trans ?_ hb1) | (with_reducible refine Below.drew ?_)))⟩
    · have hr1 : (od : Int).tmod 2 = 1 := by rw [Int.tmod_eq_emod_of_nonneg (by omega)]; omega
      have hr2 : (od : Int) % 2 = 1 := by omega
      rw [hr] at HFIN
      go_wp2_with fail
      refine (CD.out _).mono ?_
      rintro e w5 ⟨rfl, rfl⟩
      go_wp2_with fail
      refine (CA.out _).mono ?_
      rintro e w6 ⟨rfl, hb5⟩
      go_wp2
      go_ret
      rw [HFIN.out]
      exact ⟨rfl, (by repeat' (first | (with_reducible exact Below.refl _ _) | (with_reducible refine ext_trans ?_ hb5) | (with_reducible refine ext_trans ?_ hb4) | (with_reducible refine ext_trans ?_ hb1) | (with_reducible refine Below.drew ?_)))⟩
  · go_wp2
    go_ret
    rw [HFIN.out]
    exact ⟨end_string HQB.out.symm, (by repeat' (first | (with_reducible exact Below.refl _ _) | (with_reducible refine ext_trans ?_ hb5) | (with_reducible refine ext_trans ?_ hb4) | (with_reducible refine ext_trans ?_ hb1) | (with_reducible refine Below.drew ?_)))⟩
  · rcases Nat.mod_two_eq_zero_or_one od with hr | hr
    · have hr1 : (od : Int).tmod 2 = 0 := by rw [Int.tmod_eq_emod_of_nonneg (by omega)]; omega
      have hr2 : (od : Int) % 2 = 0 := by omega
      rw [hr] at HFIN
      go_wp2_with fail
      refine (CD.out _).mono ?_
      rintro e w5 ⟨rfl, rfl⟩
      go_wp2
      go_ret
      rw [HFIN.out]
      exact ⟨end_string HQB.out.symm, (by repeat' (first | (with_reducible exact Below.refl _ _) | (with_reducible refine ext_trans ?_ hb5) | (with_reducible refine ext_trans ?_ hb4) | (with_reducible refine ext_trans ?_ hb1) | (with_reducible refine Below.drew ?_)))⟩
    · have hr1 : (od : Int).tmod 2 = 1 := by rw [Int.tmod_eq_emod_of_nonneg (by omega)]; omega
      have hr2 : (od : Int) % 2 = 1 := by omega
      rw [hr] at HFIN
      go_wp2_with fail
      refine (CD.out _).mono ?_
      rintro e w5 ⟨rfl, rfl⟩
      go_wp2_with fail
      refine (CA.out _).mono ?_
      rintro e w6 ⟨rfl, hb5⟩
      go_wp2
      go_ret
      rw [HFIN.out]
      exact ⟨rfl, (by repeat' (first | (with_reducible exact Below.refl _ _) | (with_reducible refine ext_trans ?_ hb5) | (with_reducible refine ext_trans ?_ hb4) | (with_reducible refine ext_trans ?_ hb1) | (with_reducible refine Below.drew ?_)))⟩
end Go.Proofs.YtommldonooicjaaDoor
