/-
  What is proved here: spec.l03Level and impl.aligned bring two numbers to one exponent. The conditions are on sizes alone.
-/
import Derived.Test.YthfmhenphnllfaaGreatDoorNatCmp
import Derived.Test.YthfmhenphnllfaaGreatDoorFix
namespace Go.Proofs.YthfmhenphnllfaaGreatDoor
open Go.RowKit
set_option linter.unusedVariables false
set_option linter.unusedSimpArgs false

def lowE (x y : Int) : Int := if y < x then y else x
theorem lowE_le (x y : Int) : lowE x y ≤ x ∧ lowE x y ≤ y ∧ (lowE x y = x ∨ lowE x y = y) := by unfold lowE; split <;> omega
def levB (dig : ByteArray) (n : Nat) : ByteArray := dgB dig ++ zeroB n
def shfB (dig : ByteArray) (n : Nat) : ByteArray := if dig.size = 0 then ⟨#[48]⟩ else dgB dig ++ zeroB n
theorem dgB_size (dig : ByteArray) : (dgB dig).size ≤ dig.size + 1 := by
  unfold dgB
  split
  · rename_i h; rw [h]; decide
  · omega

set_option maxHeartbeats 8000000 in
set_option maxRecDepth 100000 in
theorem specLevel (na nb : Bool) (da db : ByteArray) (ea eb : Int) (w : World) (hda : da.size ≤ 2000) (hdb : db.size ≤ 2000) (hea : -2000 ≤ ea ∧ ea ≤ 2000) (heb : -2000 ≤ eb ∧ eb ≤ 2000) :
    Calls Tryz.prog 75 #[.agg #[.bool na, .string da, .int .i64 ea], .agg #[.bool nb, .string db, .int .i64 eb]] w fun e w' => e = .returned (.tuple #[.string (levB da (ea - lowE ea eb).toNat), .string (levB db (eb - lowE ea eb).toNat), .int .i64 (lowE ea eb)]) ∧ Below w.heap.size w w' := by
  obtain ⟨e, he⟩ : ∃ e, lowE ea eb = e := ⟨_, rfl⟩
  have hle := lowE_le ea eb
  rw [he] at hle
  obtain ⟨n1, hn1⟩ : ∃ n : Nat, ea - e = (n : Int) := ⟨(ea - e).toNat, by omega⟩
  obtain ⟨n2, hn2⟩ : ∃ n : Nat, eb - e = (n : Int) := ⟨(eb - e).toNat, by omega⟩
  have e1 : (ea - e).toNat = n1 := by omega
  have e2 : (eb - e).toNat = n2 := by omega
  rw [he, e1, e2]
  have hb1 : n1 ≤ 4000 := by omega
  have hb2 : n2 ≤ 4000 := by omega
  have hz1 := zeroB_size n1
  have hz2 := zeroB_size n2
  have hd1 := dgB_size da
  have hd2 := dgB_size db
  have hw1 : IntKind.i64.wrap (ea - e) = (n1 : Int) := by rw [hn1]; exact IntWalk.i64_in _ (by omega)
  have hw2 : IntKind.i64.wrap (eb - e) = (n2 : Int) := by rw [hn2]; exact IntWalk.i64_in _ (by omega)
  have CD1 := hid (fun (w : World) => specDig na da ea w)
  have CD2 := hid (fun (w : World) => specDig nb db eb w)
  have CZ1 := hid (fun (w : World) => specZeros n1 w (by omega))
  have CZ2 := hid (fun (w : World) => specZeros n2 w (by omega))
  have HL1 := hid (show levB da n1 = dgB da ++ zeroB n1 from rfl)
  have HL2 := hid (show levB db n2 = dgB db ++ zeroB n2 from rfl)
  obtain ⟨A, hA⟩ : ∃ x, dgB da = x := ⟨_, rfl⟩
  obtain ⟨B, hB⟩ : ∃ x, dgB db = x := ⟨_, rfl⟩
  obtain ⟨Z1, hZ1⟩ : ∃ x, zeroB n1 = x := ⟨_, rfl⟩
  obtain ⟨Z2, hZ2⟩ : ∃ x, zeroB n2 = x := ⟨_, rfl⟩
  rw [hA] at CD1 HL1 hd1
  rw [hB] at CD2 HL2 hd2
  rw [hZ1] at CZ1 HL1 hz1
  rw [hZ2] at CZ2 HL2 hz2
  have q1 : ¬ 9223372036854775807 < A.size + Z1.size := by omega
  have q2 : ¬ 9223372036854775807 < B.size + Z2.size := by omega
  have HLE := hid hle
  have HE := hid he
  clear hA hB hZ1 hZ2 hz1 hz2 hd1 hd2 hle he e1 e2 hn1 hn2
  go_enter Tryz.func75, Tryz.ntmps75
  go_upto_if 13 with fail
  go_cut [7] from 8 (fun v wr => v = .int .i64 e ∧ (w.alloc (.cells #[.bool na, .string da, .int .i64 ea] 27)).alloc (.cells #[.bool nb, .string db, .int .i64 eb] 27) = wr)
  case first =>
    by_cases hlt : eb < ea
    · have HE2 := hid (show e = eb by rw [← HE.out]; unfold lowE; rw [if_pos hlt])
      go_wp2
      go_meet
      case rel => exact ⟨by rw [HE2.out], rfl⟩
    · have HE2 := hid (show e = ea by rw [← HE.out]; unfold lowE; rw [if_neg hlt])
      go_wp2
      go_meet
      case rel => exact ⟨by rw [HE2.out], rfl⟩
  case rest =>
  obtain ⟨rfl, hwc⟩ := hcut
  have hbw : Below w.heap.size w wc := by subst hwc; exact ext_trans (ext_alloc _ _) (ext_alloc _ _)
  have k0 : wc.cell? ⟨w.heap.size, 0, none⟩ = some (.bool na) := by subst hwc; go_simp
  have k1 : wc.cell? ⟨w.heap.size, 1, none⟩ = some (.string da) := by subst hwc; go_simp
  have k2 : wc.cell? ⟨w.heap.size, 2, none⟩ = some (.int .i64 ea) := by subst hwc; go_simp
  have k3 : wc.cell? ⟨w.heap.size + 1, 0, none⟩ = some (.bool nb) := by subst hwc; go_simp
  have k4 : wc.cell? ⟨w.heap.size + 1, 1, none⟩ = some (.string db) := by subst hwc; go_simp
  have k5 : wc.cell? ⟨w.heap.size + 1, 2, none⟩ = some (.int .i64 eb) := by subst hwc; go_simp
  clear hwc
  go_wp2_with fail
  refine wp_region_held_drew (S := fun w' => w'.cell? ⟨w.heap.size, 0, none⟩ = some (.bool na) ∧ w'.cell? ⟨w.heap.size, 1, none⟩ = some (.string da) ∧ w'.cell? ⟨w.heap.size, 2, none⟩ = some (.int .i64 ea) ∧ w'.cell? ⟨w.heap.size + 1, 0, none⟩ = some (.bool nb) ∧ w'.cell? ⟨w.heap.size + 1, 1, none⟩ = some (.string db) ∧ w'.cell? ⟨w.heap.size + 1, 2, none⟩ = some (.int .i64 eb)) (by kernel_rfl) ?_ (fun hHeld => ?_)
  · simp [*]
  refine wpAnyH_take (i := 0) (v := ?_) rfl (by kernel_rfl) (by kernel_rfl) (by kernel_rfl) (fun _ _ _ h => h) (Or.inl ⟨by rfl, ?_⟩) (by assumption) ?_
  rotate_left
  · (intro w' hSw; (try dsimp only at hSw); go_simp; try (with_reducible rfl))
  change wpAnyH _ _ _ _ _ _ _ (Act.put _ (some 16) _) _
  try simp only [Act.put, List.setIfInBounds_toArray, List.set_cons_zero, List.set_cons_succ]
  refine wpAnyH_take (i := 2) (v := ?_) rfl (by kernel_rfl) (by kernel_rfl) (by kernel_rfl) (fun _ _ _ h => h) (Or.inl ⟨by rfl, ?_⟩) (by assumption) ?_
  rotate_left
  · (intro w' hSw; (try dsimp only at hSw); go_simp; try (with_reducible rfl))
  change wpAnyH _ _ _ _ _ _ _ (Act.put _ (some 18) _) _
  try simp only [Act.put, List.setIfInBounds_toArray, List.set_cons_zero, List.set_cons_succ]
  refine wpAnyH_take (i := 3) (v := ?_) rfl (by kernel_rfl) (by kernel_rfl) (by kernel_rfl) (fun _ _ _ h => h) (Or.inl ⟨by rfl, ?_⟩) (by assumption) ?_
  rotate_left
  · (intro w' hSw; (try dsimp only at hSw); go_simp; try (with_reducible rfl))
  change wpAnyH _ _ _ _ _ _ _ (Act.put _ (some 19) _) _
  try simp only [Act.put, List.setIfInBounds_toArray, List.set_cons_zero, List.set_cons_succ]
  refine wpAnyH_take (i := 4) (v := ?_) rfl (by kernel_rfl) (by kernel_rfl) (by kernel_rfl) (fun _ _ _ h => h) (Or.inl ⟨by rfl, ?_⟩) (by assumption) ?_
  rotate_left
  · (intro w' hSw; (try dsimp only at hSw); go_simp; try (with_reducible rfl))
  change wpAnyH _ _ _ _ _ _ _ (Act.put _ (some 20) _) _
  try simp only [Act.put, List.setIfInBounds_toArray, List.set_cons_zero, List.set_cons_succ]
  refine wpAnyH_take (i := 5) (v := ?_) rfl (by kernel_rfl) (by kernel_rfl) (by kernel_rfl) (fun _ _ _ h => h) (Or.inl ⟨by rfl, ?_⟩) (by assumption) ?_
  rotate_left
  · (intro w' hSw; (try dsimp only at hSw); go_simp; try (with_reducible rfl))
  change wpAnyH _ _ _ _ _ _ _ (Act.put _ (some 21) _) _
  try simp only [Act.put, List.setIfInBounds_toArray, List.set_cons_zero, List.set_cons_succ]
  refine wpAnyH_take (i := 8) (v := ?_) rfl (by kernel_rfl) (by kernel_rfl) (by kernel_rfl) (fun _ _ _ h => h) (Or.inl ⟨by rfl, ?_⟩) (by assumption) ?_
  rotate_left
  · (intro w' hSw; (try dsimp only at hSw); go_simp; try (with_reducible rfl))
  change wpAnyH _ _ _ _ _ _ _ (Act.put _ (some 24) _) _
  try simp only [Act.put, List.setIfInBounds_toArray, List.set_cons_zero, List.set_cons_succ]
  refine wpAnyH_take (i := 10) (v := ?_) rfl (by kernel_rfl) (by kernel_rfl) (by kernel_rfl) (fun _ _ _ h => h) (Or.inl ⟨by rfl, ?_⟩) (by assumption) ?_
  rotate_left
  · (intro w' hSw; (try dsimp only at hSw); go_simp; try (with_reducible rfl))
  change wpAnyH _ _ _ _ _ _ _ (Act.put _ (some 26) _) _
  try simp only [Act.put, List.setIfInBounds_toArray, List.set_cons_zero, List.set_cons_succ]
  refine wpAnyH_take (i := 11) (v := ?_) rfl (by kernel_rfl) (by kernel_rfl) (by kernel_rfl) (fun _ _ _ h => h) (Or.inl ⟨by rfl, ?_⟩) (by assumption) ?_
  rotate_left
  · (intro w' hSw; (try dsimp only at hSw); go_simp; try (with_reducible rfl))
  change wpAnyH _ _ _ _ _ _ _ (Act.put _ (some 27) _) _
  try simp only [Act.put, List.setIfInBounds_toArray, List.set_cons_zero, List.set_cons_succ]
  refine wpAnyH_take (i := 12) (v := ?_) rfl (by kernel_rfl) (by kernel_rfl) (by kernel_rfl) (fun _ _ _ h => h) (Or.inl ⟨by rfl, ?_⟩) (by assumption) ?_
  rotate_left
  · (intro w' hSw; (try dsimp only at hSw); go_simp; try (with_reducible rfl))
  change wpAnyH _ _ _ _ _ _ _ (Act.put _ (some 28) _) _
  try simp only [Act.put, List.setIfInBounds_toArray, List.set_cons_zero, List.set_cons_succ]
  refine wpAnyH_take (i := 13) (v := ?_) rfl (by kernel_rfl) (by kernel_rfl) (by kernel_rfl) (fun _ _ _ h => h) (Or.inl ⟨by rfl, ?_⟩) (by assumption) ?_
  rotate_left
  · (intro w' hSw; (try dsimp only at hSw); go_simp; try (with_reducible rfl))
  change wpAnyH _ _ _ _ _ _ _ (Act.put _ (some 29) _) _
  try simp only [Act.put, List.setIfInBounds_toArray, List.set_cons_zero, List.set_cons_succ]
  refine wpAnyH_take (i := 16) (v := ?_) rfl (by kernel_rfl) (by kernel_rfl) (by kernel_rfl) (fun _ _ _ h => h) (Or.inl ⟨by rfl, ?_⟩) (by assumption) ?_
  rotate_left
  · (intro w' hSw; (try dsimp only at hSw); go_simp; try (with_reducible rfl))
  change wpAnyH _ _ _ _ _ _ _ (Act.put _ (some 32) _) _
  try simp only [Act.put, List.setIfInBounds_toArray, List.set_cons_zero, List.set_cons_succ]
  refine wpAnyH_ready (rs := [1]) (by kernel_rfl) (by simp) ?_
  refine AllReadyH.cons (i := 1) rfl (fun K hK => ?_) AllReadyH.nil
  simp only [List.getElem_toArray, List.getElem_cons_succ, List.getElem_cons_zero]
  rw [if_pos (by rfl)]
  go_simp
  (go_at_call 72; refine (CD1.out _).mono ?_; rintro e' w1 ⟨rfl, hb1⟩; have hkc1 := keeps_cells hb1; go_wp2_with fail)
  have hOld := hHeld
  clear hHeld
  refine hK.out _ _ ?_ (fun hHeld => ?_)
  · (try dsimp only); simp [*]
  clear hK K hOld
  try simp only [Act.put, List.setIfInBounds_toArray, List.set_cons_zero, List.set_cons_succ]
  refine wpAnyH_ready (rs := [6]) (by kernel_rfl) (by simp) ?_
  refine AllReadyH.cons (i := 6) rfl (fun K hK => ?_) AllReadyH.nil
  simp only [List.getElem_toArray, List.getElem_cons_succ, List.getElem_cons_zero]
  rw [if_pos (by rfl)]
  go_simp
  (go_at_call 74; refine (CZ1.out _).mono ?_; rintro e' w2 ⟨rfl, hb2⟩; have hkc2 := keeps_cells hb2; go_wp2_with fail)
  have hOld := hHeld
  clear hHeld
  refine hK.out _ _ ?_ (fun hHeld => ?_)
  · (try dsimp only); simp [*]
  clear hK K hOld
  try simp only [Act.put, List.setIfInBounds_toArray, List.set_cons_zero, List.set_cons_succ]
  refine wpAnyH_take (i := 7) (v := ?_) rfl (by kernel_rfl) (by kernel_rfl) (by kernel_rfl) (fun _ _ _ h => h) (Or.inl ⟨by rfl, ?_⟩) (by assumption) ?_
  rotate_left
  · (intro w' hSw; (try dsimp only at hSw); go_simp; try (with_reducible rfl))
  change wpAnyH _ _ _ _ _ _ _ (Act.put _ (some 23) _) _
  try simp only [Act.put, List.setIfInBounds_toArray, List.set_cons_zero, List.set_cons_succ]
  refine wpAnyH_ready (rs := [9]) (by kernel_rfl) (by simp) ?_
  refine AllReadyH.cons (i := 9) rfl (fun K hK => ?_) AllReadyH.nil
  simp only [List.getElem_toArray, List.getElem_cons_succ, List.getElem_cons_zero]
  rw [if_pos (by rfl)]
  go_simp
  (go_at_call 72; refine (CD2.out _).mono ?_; rintro e' w3 ⟨rfl, hb3⟩; have hkc3 := keeps_cells hb3; go_wp2_with fail)
  have hOld := hHeld
  clear hHeld
  refine hK.out _ _ ?_ (fun hHeld => ?_)
  · (try dsimp only); simp [*]
  clear hK K hOld
  try simp only [Act.put, List.setIfInBounds_toArray, List.set_cons_zero, List.set_cons_succ]
  refine wpAnyH_ready (rs := [14]) (by kernel_rfl) (by simp) ?_
  refine AllReadyH.cons (i := 14) rfl (fun K hK => ?_) AllReadyH.nil
  simp only [List.getElem_toArray, List.getElem_cons_succ, List.getElem_cons_zero]
  rw [if_pos (by rfl)]
  go_simp
  (go_at_call 74; refine (CZ2.out _).mono ?_; rintro e' w4 ⟨rfl, hb4⟩; have hkc4 := keeps_cells hb4; go_wp2_with fail)
  have hOld := hHeld
  clear hHeld
  refine hK.out _ _ ?_ (fun hHeld => ?_)
  · (try dsimp only); simp [*]
  clear hK K hOld
  try simp only [Act.put, List.setIfInBounds_toArray, List.set_cons_zero, List.set_cons_succ]
  refine wpAnyH_take (i := 15) (v := ?_) rfl (by kernel_rfl) (by kernel_rfl) (by kernel_rfl) (fun _ _ _ h => h) (Or.inl ⟨by rfl, ?_⟩) (by assumption) ?_
  rotate_left
  · (intro w' hSw; (try dsimp only at hSw); go_simp; try (with_reducible rfl))
  change wpAnyH _ _ _ _ _ _ _ (Act.put _ (some 31) _) _
  try simp only [Act.put, List.setIfInBounds_toArray, List.set_cons_zero, List.set_cons_succ]
  refine wpAnyH_take (i := 17) (v := ?_) rfl (by kernel_rfl) (by kernel_rfl) (by kernel_rfl) (fun _ _ _ h => h) (Or.inl ⟨by rfl, ?_⟩) (by assumption) ?_
  rotate_left
  · (intro w' hSw; (try dsimp only at hSw); go_simp; try (with_reducible rfl))
  change wpAnyH _ _ _ _ _ _ _ (Act.put _ (some 4) _) _
  try simp only [Act.put, List.setIfInBounds_toArray, List.set_cons_zero, List.set_cons_succ]
  refine wpAnyH_take (i := 18) (v := ?_) rfl (by kernel_rfl) (by kernel_rfl) (by kernel_rfl) (fun _ _ _ h => h) (Or.inl ⟨by rfl, ?_⟩) (by assumption) ?_
  rotate_left
  · (intro w' hSw; (try dsimp only at hSw); go_simp; try (with_reducible rfl))
  change wpAnyH _ _ _ _ _ _ _ (Act.put _ (some 5) _) _
  try simp only [Act.put, List.setIfInBounds_toArray, List.set_cons_zero, List.set_cons_succ]
  refine wpAnyH_take (i := 19) (v := ?_) rfl (by kernel_rfl) (by kernel_rfl) (by kernel_rfl) (fun _ _ _ h => h) (Or.inl ⟨by rfl, ?_⟩) (by assumption) ?_
  rotate_left
  · (intro w' hSw; (try dsimp only at hSw); go_simp; try (with_reducible rfl))
  change wpAnyH _ _ _ _ _ _ _ (Act.put _ (some 6) _) _
  try simp only [Act.put, List.setIfInBounds_toArray, List.set_cons_zero, List.set_cons_succ]
  refine wpAnyH_done (by kernel_rfl) ?_ _
  clear hHeld
  go_wp2
  go_ret3
  rw [HL1.out, HL2.out]
  exact ⟨rfl, by repeat' (first | (with_reducible exact hbw) | (with_reducible refine ext_trans ?_ hb4) | (with_reducible refine ext_trans ?_ hb3) | (with_reducible refine ext_trans ?_ hb2) | (with_reducible refine ext_trans ?_ hb1) | (with_reducible refine Below.drew ?_))⟩
theorem implShiftD (dig : ByteArray) (m : Nat) (w : World) (hm : m ≤ 1000000) (hs : dig.size ≤ 900000) (h0 : ¬ dig.data.toList = [48]) :
    Calls Tryz.prog 135 #[.string (dgB dig), .int .i64 (m : Int)] w fun e w' => e = .returned (.string (shfB dig m)) ∧ Below w.heap.size w w' := by
  by_cases hz : dig.size = 0
  · have HR := hid (show dgB dig = ⟨#[48]⟩ ∧ shfB dig m = ⟨#[48]⟩ by unfold dgB shfB; rw [if_pos hz, if_pos hz]; exact ⟨rfl, rfl⟩)
    rw [HR.out.1]
    clear hz
    go_enter Tryz.func135, Tryz.ntmps135
    go_wp2
    go_ret
    rw [HR.out.2]
    exact ⟨rfl, Below.refl _ _⟩
  · have hd : dgB dig = dig := by unfold dgB; rw [if_neg hz]
    have hsh : shfB dig m = dig ++ zeroB m := by unfold shfB; rw [if_neg hz, hd]
    rw [hd, hsh]
    exact implShift dig m w hm (by omega) (trimL_beq h0)
set_option maxHeartbeats 8000000 in
set_option maxRecDepth 100000 in
theorem implAligned (na nb : Bool) (da db : ByteArray) (ea eb : Int) (w : World) (hda : da.size ≤ 2000) (hdb : db.size ≤ 2000) (hea : -2000 ≤ ea ∧ ea ≤ 2000) (heb : -2000 ≤ eb ∧ eb ≤ 2000) (ha0 : ¬ da.data.toList = [48]) (hb0 : ¬ db.data.toList = [48]) :
    Calls Tryz.prog 127 #[.agg #[.bool na, .string da, .int .i64 ea], .agg #[.bool nb, .string db, .int .i64 eb]] w fun e w' => e = .returned (.tuple #[.string (shfB da (ea - lowE ea eb).toNat), .string (shfB db (eb - lowE ea eb).toNat), .int .i64 (lowE ea eb)]) ∧ Below w.heap.size w w' := by
  obtain ⟨e, he⟩ : ∃ e, lowE ea eb = e := ⟨_, rfl⟩
  have hle := lowE_le ea eb
  rw [he] at hle
  obtain ⟨n1, hn1⟩ : ∃ n : Nat, ea - e = (n : Int) := ⟨(ea - e).toNat, by omega⟩
  obtain ⟨n2, hn2⟩ : ∃ n : Nat, eb - e = (n : Int) := ⟨(eb - e).toNat, by omega⟩
  have e1 : (ea - e).toNat = n1 := by omega
  have e2 : (eb - e).toNat = n2 := by omega
  rw [he, e1, e2]
  have hb1 : n1 ≤ 4000 := by omega
  have hb2 : n2 ≤ 4000 := by omega
  have hz1 := zeroB_size n1
  have hz2 := zeroB_size n2
  have hd1 := dgB_size da
  have hd2 := dgB_size db
  have hw1 : IntKind.i64.wrap (ea - e) = (n1 : Int) := by rw [hn1]; exact IntWalk.i64_in _ (by omega)
  have hw2 : IntKind.i64.wrap (eb - e) = (n2 : Int) := by rw [hn2]; exact IntWalk.i64_in _ (by omega)
  have CD1 := hid (fun (w : World) => implDig na da ea w)
  have CD2 := hid (fun (w : World) => implDig nb db eb w)
  have CS1 := hid (fun (w : World) => implShiftD da n1 w (by omega) (by omega) ha0)
  have CS2 := hid (fun (w : World) => implShiftD db n2 w (by omega) (by omega) hb0)
  have hmin : min ea eb = e := by rw [← he]; unfold lowE; split <;> omega
  have HMN := hid hmin
  clear hz1 hz2 hd1 hd2 hle he e1 e2 hn1 hn2 ha0 hb0
  go_enter Tryz.func127, Tryz.ntmps127
  go_wp2_with fail
  try rw [HMN.out]
  refine wp_region_held_drew (S := fun w' => w'.cell? ⟨w.heap.size, 0, none⟩ = some (.bool na) ∧ w'.cell? ⟨w.heap.size, 1, none⟩ = some (.string da) ∧ w'.cell? ⟨w.heap.size, 2, none⟩ = some (.int .i64 ea) ∧ w'.cell? ⟨w.heap.size + 1, 0, none⟩ = some (.bool nb) ∧ w'.cell? ⟨w.heap.size + 1, 1, none⟩ = some (.string db) ∧ w'.cell? ⟨w.heap.size + 1, 2, none⟩ = some (.int .i64 eb)) (by kernel_rfl) ?_ (fun hHeld => ?_)
  · simp [*]
  refine wpAnyH_take (i := 0) (v := ?_) rfl (by kernel_rfl) (by kernel_rfl) (by kernel_rfl) (fun _ _ _ h => h) (Or.inl ⟨by rfl, ?_⟩) (by assumption) ?_
  rotate_left
  · (intro w' hSw; (try dsimp only at hSw); go_simp; try (with_reducible rfl))
  change wpAnyH _ _ _ _ _ _ _ (Act.put _ (some 13) _) _
  try simp only [Act.put, List.setIfInBounds_toArray, List.set_cons_zero, List.set_cons_succ]
  refine wpAnyH_take (i := 2) (v := ?_) rfl (by kernel_rfl) (by kernel_rfl) (by kernel_rfl) (fun _ _ _ h => h) (Or.inl ⟨by rfl, ?_⟩) (by assumption) ?_
  rotate_left
  · (intro w' hSw; (try dsimp only at hSw); go_simp; try (with_reducible rfl))
  change wpAnyH _ _ _ _ _ _ _ (Act.put _ (some 15) _) _
  try simp only [Act.put, List.setIfInBounds_toArray, List.set_cons_zero, List.set_cons_succ]
  refine wpAnyH_take (i := 3) (v := ?_) rfl (by kernel_rfl) (by kernel_rfl) (by kernel_rfl) (fun _ _ _ h => h) (Or.inl ⟨by rfl, ?_⟩) (by assumption) ?_
  rotate_left
  · (intro w' hSw; (try dsimp only at hSw); go_simp; try (with_reducible rfl))
  change wpAnyH _ _ _ _ _ _ _ (Act.put _ (some 16) _) _
  try simp only [Act.put, List.setIfInBounds_toArray, List.set_cons_zero, List.set_cons_succ]
  refine wpAnyH_take (i := 4) (v := ?_) rfl (by kernel_rfl) (by kernel_rfl) (by kernel_rfl) (fun _ _ _ h => h) (Or.inl ⟨by rfl, ?_⟩) (by assumption) ?_
  rotate_left
  · (intro w' hSw; (try dsimp only at hSw); go_simp; try (with_reducible rfl))
  change wpAnyH _ _ _ _ _ _ _ (Act.put _ (some 17) _) _
  try simp only [Act.put, List.setIfInBounds_toArray, List.set_cons_zero, List.set_cons_succ]
  refine wpAnyH_take (i := 5) (v := ?_) rfl (by kernel_rfl) (by kernel_rfl) (by kernel_rfl) (fun _ _ _ h => h) (Or.inl ⟨by rfl, ?_⟩) (by assumption) ?_
  rotate_left
  · (intro w' hSw; (try dsimp only at hSw); go_simp; try (with_reducible rfl))
  change wpAnyH _ _ _ _ _ _ _ (Act.put _ (some 18) _) _
  try simp only [Act.put, List.setIfInBounds_toArray, List.set_cons_zero, List.set_cons_succ]
  refine wpAnyH_take (i := 7) (v := ?_) rfl (by kernel_rfl) (by kernel_rfl) (by kernel_rfl) (fun _ _ _ h => h) (Or.inl ⟨by rfl, ?_⟩) (by assumption) ?_
  rotate_left
  · (intro w' hSw; (try dsimp only at hSw); go_simp; try (with_reducible rfl))
  change wpAnyH _ _ _ _ _ _ _ (Act.put _ (some 20) _) _
  try simp only [Act.put, List.setIfInBounds_toArray, List.set_cons_zero, List.set_cons_succ]
  refine wpAnyH_take (i := 9) (v := ?_) rfl (by kernel_rfl) (by kernel_rfl) (by kernel_rfl) (fun _ _ _ h => h) (Or.inl ⟨by rfl, ?_⟩) (by assumption) ?_
  rotate_left
  · (intro w' hSw; (try dsimp only at hSw); go_simp; try (with_reducible rfl))
  change wpAnyH _ _ _ _ _ _ _ (Act.put _ (some 22) _) _
  try simp only [Act.put, List.setIfInBounds_toArray, List.set_cons_zero, List.set_cons_succ]
  refine wpAnyH_take (i := 10) (v := ?_) rfl (by kernel_rfl) (by kernel_rfl) (by kernel_rfl) (fun _ _ _ h => h) (Or.inl ⟨by rfl, ?_⟩) (by assumption) ?_
  rotate_left
  · (intro w' hSw; (try dsimp only at hSw); go_simp; try (with_reducible rfl))
  change wpAnyH _ _ _ _ _ _ _ (Act.put _ (some 23) _) _
  try simp only [Act.put, List.setIfInBounds_toArray, List.set_cons_zero, List.set_cons_succ]
  refine wpAnyH_take (i := 11) (v := ?_) rfl (by kernel_rfl) (by kernel_rfl) (by kernel_rfl) (fun _ _ _ h => h) (Or.inl ⟨by rfl, ?_⟩) (by assumption) ?_
  rotate_left
  · (intro w' hSw; (try dsimp only at hSw); go_simp; try (with_reducible rfl))
  change wpAnyH _ _ _ _ _ _ _ (Act.put _ (some 24) _) _
  try simp only [Act.put, List.setIfInBounds_toArray, List.set_cons_zero, List.set_cons_succ]
  refine wpAnyH_take (i := 12) (v := ?_) rfl (by kernel_rfl) (by kernel_rfl) (by kernel_rfl) (fun _ _ _ h => h) (Or.inl ⟨by rfl, ?_⟩) (by assumption) ?_
  rotate_left
  · (intro w' hSw; (try dsimp only at hSw); go_simp; try (with_reducible rfl))
  change wpAnyH _ _ _ _ _ _ _ (Act.put _ (some 25) _) _
  try simp only [Act.put, List.setIfInBounds_toArray, List.set_cons_zero, List.set_cons_succ]
  refine wpAnyH_take (i := 14) (v := ?_) rfl (by kernel_rfl) (by kernel_rfl) (by kernel_rfl) (fun _ _ _ h => h) (Or.inl ⟨by rfl, ?_⟩) (by assumption) ?_
  rotate_left
  · (intro w' hSw; (try dsimp only at hSw); go_simp; try (with_reducible rfl))
  change wpAnyH _ _ _ _ _ _ _ (Act.put _ (some 27) _) _
  try simp only [Act.put, List.setIfInBounds_toArray, List.set_cons_zero, List.set_cons_succ]
  refine wpAnyH_ready (rs := [1]) (by kernel_rfl) (by simp) ?_
  refine AllReadyH.cons (i := 1) rfl (fun K hK => ?_) AllReadyH.nil
  simp only [List.getElem_toArray, List.getElem_cons_succ, List.getElem_cons_zero]
  rw [if_pos (by rfl)]
  go_simp
  (go_at_call 133; refine (CD1.out _).mono ?_; rintro e' w1 ⟨rfl, hb1⟩; have hkc1 := keeps_cells hb1; go_wp2_with fail)
  have hOld := hHeld
  clear hHeld
  refine hK.out _ _ ?_ (fun hHeld => ?_)
  · (try dsimp only); simp [*]
  clear hK K hOld
  try simp only [Act.put, List.setIfInBounds_toArray, List.set_cons_zero, List.set_cons_succ]
  refine wpAnyH_ready (rs := [6]) (by kernel_rfl) (by simp) ?_
  refine AllReadyH.cons (i := 6) rfl (fun K hK => ?_) AllReadyH.nil
  simp only [List.getElem_toArray, List.getElem_cons_succ, List.getElem_cons_zero]
  rw [if_pos (by rfl)]
  go_simp
  (go_at_call 135; refine (CS1.out _).mono ?_; rintro e' w2 ⟨rfl, hb2⟩; have hkc2 := keeps_cells hb2; go_wp2_with fail)
  have hOld := hHeld
  clear hHeld
  refine hK.out _ _ ?_ (fun hHeld => ?_)
  · (try dsimp only); simp [*]
  clear hK K hOld
  try simp only [Act.put, List.setIfInBounds_toArray, List.set_cons_zero, List.set_cons_succ]
  refine wpAnyH_ready (rs := [8]) (by kernel_rfl) (by simp) ?_
  refine AllReadyH.cons (i := 8) rfl (fun K hK => ?_) AllReadyH.nil
  simp only [List.getElem_toArray, List.getElem_cons_succ, List.getElem_cons_zero]
  rw [if_pos (by rfl)]
  go_simp
  (go_at_call 133; refine (CD2.out _).mono ?_; rintro e' w3 ⟨rfl, hb3⟩; have hkc3 := keeps_cells hb3; go_wp2_with fail)
  have hOld := hHeld
  clear hHeld
  refine hK.out _ _ ?_ (fun hHeld => ?_)
  · (try dsimp only); simp [*]
  clear hK K hOld
  try simp only [Act.put, List.setIfInBounds_toArray, List.set_cons_zero, List.set_cons_succ]
  refine wpAnyH_ready (rs := [13]) (by kernel_rfl) (by simp) ?_
  refine AllReadyH.cons (i := 13) rfl (fun K hK => ?_) AllReadyH.nil
  simp only [List.getElem_toArray, List.getElem_cons_succ, List.getElem_cons_zero]
  rw [if_pos (by rfl)]
  go_simp
  (go_at_call 135; refine (CS2.out _).mono ?_; rintro e' w4 ⟨rfl, hb4⟩; have hkc4 := keeps_cells hb4; go_wp2_with fail)
  have hOld := hHeld
  clear hHeld
  refine hK.out _ _ ?_ (fun hHeld => ?_)
  · (try dsimp only); simp [*]
  clear hK K hOld
  try simp only [Act.put, List.setIfInBounds_toArray, List.set_cons_zero, List.set_cons_succ]
  refine wpAnyH_take (i := 15) (v := ?_) rfl (by kernel_rfl) (by kernel_rfl) (by kernel_rfl) (fun _ _ _ h => h) (Or.inl ⟨by rfl, ?_⟩) (by assumption) ?_
  rotate_left
  · (intro w' hSw; (try dsimp only at hSw); go_simp; try (with_reducible rfl))
  change wpAnyH _ _ _ _ _ _ _ (Act.put _ (some 4) _) _
  try simp only [Act.put, List.setIfInBounds_toArray, List.set_cons_zero, List.set_cons_succ]
  refine wpAnyH_take (i := 16) (v := ?_) rfl (by kernel_rfl) (by kernel_rfl) (by kernel_rfl) (fun _ _ _ h => h) (Or.inl ⟨by rfl, ?_⟩) (by assumption) ?_
  rotate_left
  · (intro w' hSw; (try dsimp only at hSw); go_simp; try (with_reducible rfl))
  change wpAnyH _ _ _ _ _ _ _ (Act.put _ (some 5) _) _
  try simp only [Act.put, List.setIfInBounds_toArray, List.set_cons_zero, List.set_cons_succ]
  refine wpAnyH_take (i := 17) (v := ?_) rfl (by kernel_rfl) (by kernel_rfl) (by kernel_rfl) (fun _ _ _ h => h) (Or.inl ⟨by rfl, ?_⟩) (by assumption) ?_
  rotate_left
  · (intro w' hSw; (try dsimp only at hSw); go_simp; try (with_reducible rfl))
  change wpAnyH _ _ _ _ _ _ _ (Act.put _ (some 6) _) _
  try simp only [Act.put, List.setIfInBounds_toArray, List.set_cons_zero, List.set_cons_succ]
  refine wpAnyH_done (by kernel_rfl) ?_ _
  clear hHeld
  go_wp2
  go_ret3
  exact ⟨rfl, by repeat' (first | (with_reducible exact Below.refl _ _) | (with_reducible refine ext_trans ?_ hb4) | (with_reducible refine ext_trans ?_ hb3) | (with_reducible refine ext_trans ?_ hb2) | (with_reducible refine ext_trans ?_ hb1) | (with_reducible refine ext_trans ?_ (ext_alloc _ _)) | (with_reducible refine Below.drew ?_))⟩
end Go.Proofs.YthfmhenphnllfaaGreatDoor
