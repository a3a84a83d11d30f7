/-
  What is proved here: the walks of FnExactValCmp. The condition 'Tabs' (where it stands) says that the library's tables for UTF-8 lie in the world.
-/
import Derived.Test.YtjpkdgedglnchaaGreatDoorValCmp
namespace Go.Proofs.YtjpkdgedglnchaaGreatDoor
open Go.RowKit
set_option linter.unusedVariables false
set_option linter.unusedSimpArgs false

set_option maxHeartbeats 8000000 in
set_option maxRecDepth 100000 in
theorem fnExactValCmp_walk (W : World) (hT : TP W) (hM : Mx W) {cs0 : Array Value} {x0 : Val} {cs1 : Array Value} {x1 : Val} (h0 : Rd.rd (Old W) W cs0.toList x0) (h1 : Rd.rd (Old W) W cs1.toList x1) :
    Calls Tryz.prog 5 #[.agg cs0, .agg cs1] W fun e w' => e = .returned (.bool true) ∧ Below W.heap.size W w' := by
  obtain ⟨hcs0, p0f0, p0f2, p0f3, p0f4⟩ := rdVal h0
  obtain rfl := arr_of_list hcs0
  clear hcs0
  obtain ⟨hcs1, p1f0, p1f2, p1f3, p1f4⟩ := rdVal h1
  obtain rfl := arr_of_list hcs1
  clear hcs1
  by_cases hz0 : (Sz.sz x0 : Int) ≤ 1048576
  rotate_left
  · go_enter Tryz.func5, Tryz.ntmps5
    go_wp2_with fail
    refine (szVal_any _ _ (by exact Rd.later (by repeat' (first | (with_reducible exact Below.refl _ _) | (with_reducible refine ext_trans ?_ (ext_alloc _ _)) | (with_reducible refine Below.drew ?_) | (with_reducible refine Below.setCell ?_ ?_ _) | (simp; done) | (simp; omega) | omega)) h0) (by omega) (by omega)).mono ?_
    rintro e w0 ⟨rfl, hb0⟩
    rw [szOut_bad (by omega)]
    obtain ⟨hc0, hf0⟩ := bcell hb0
    have hl0_0 : W.heap.size < w0.heap.size := by have := hb0.size; (try simp at this); omega
    have hl0_1 : W.heap.size + 1 < w0.heap.size := by have := hb0.size; (try simp at this); omega
    go_wp2
    go_ret
    exact ⟨rfl, (by repeat' (first | (with_reducible exact Below.refl _ _) | (with_reducible refine ext_trans ?_ hb0) | (with_reducible refine ext_trans ?_ (ext_alloc _ _)) | (with_reducible refine Below.drew ?_) | (with_reducible refine Below.setCell ?_ ?_ _) | (simp; done) | (simp; omega) | omega))⟩
  by_cases hz1 : (Sz.sz x0 : Int) + (Sz.sz x1 : Int) ≤ 1048576
  rotate_left
  · go_enter Tryz.func5, Tryz.ntmps5
    go_wp2_with fail
    refine (szVal_any _ _ (by exact Rd.later (by repeat' (first | (with_reducible exact Below.refl _ _) | (with_reducible refine ext_trans ?_ (ext_alloc _ _)) | (with_reducible refine Below.drew ?_) | (with_reducible refine Below.setCell ?_ ?_ _) | (simp; done) | (simp; omega) | omega)) h0) (by omega) (by omega)).mono ?_
    rintro e w0 ⟨rfl, hb0⟩
    rw [szOut_val (by omega)]
    obtain ⟨hc0, hf0⟩ := bcell hb0
    have hl0_0 : W.heap.size < w0.heap.size := by have := hb0.size; (try simp at this); omega
    have hl0_1 : W.heap.size + 1 < w0.heap.size := by have := hb0.size; (try simp at this); omega
    go_wp2_with fail
    refine (szVal_any _ _ (by exact Rd.later (by repeat' (first | (with_reducible exact Below.refl _ _) | (with_reducible refine ext_trans ?_ hb0) | (with_reducible refine ext_trans ?_ (ext_alloc _ _)) | (with_reducible refine Below.drew ?_) | (with_reducible refine Below.setCell ?_ ?_ _) | (simp; done) | (simp; omega) | omega)) h1) (by omega) (by omega)).mono ?_
    rintro e w1 ⟨rfl, hb1⟩
    rw [szOut_bad (by omega)]
    obtain ⟨hc1, hf1⟩ := bcell hb1
    have hl1_0 : W.heap.size < w1.heap.size := by have := hb1.size; (try simp at this); omega
    have hl1_1 : W.heap.size + 1 < w1.heap.size := by have := hb1.size; (try simp at this); omega
    go_wp2
    go_ret
    exact ⟨rfl, (by repeat' (first | (with_reducible exact Below.refl _ _) | (with_reducible refine ext_trans ?_ hb1) | (with_reducible refine ext_trans ?_ hb0) | (with_reducible refine ext_trans ?_ (ext_alloc _ _)) | (with_reducible refine Below.drew ?_) | (with_reducible refine Below.setCell ?_ ?_ _) | (simp; done) | (simp; omega) | omega))⟩
  go_enter Tryz.func5, Tryz.ntmps5
  go_wp2_with fail
  refine (szVal_any _ _ (by exact Rd.later (by repeat' (first | (with_reducible exact Below.refl _ _) | (with_reducible refine ext_trans ?_ (ext_alloc _ _)) | (with_reducible refine Below.drew ?_) | (with_reducible refine Below.setCell ?_ ?_ _) | (simp; done) | (simp; omega) | omega)) h0) (by omega) (by omega)).mono ?_
  rintro e w0 ⟨rfl, hb0⟩
  rw [szOut_val (by omega)]
  obtain ⟨hc0, hf0⟩ := bcell hb0
  have hl0_0 : W.heap.size < w0.heap.size := by have := hb0.size; (try simp at this); omega
  have hl0_1 : W.heap.size + 1 < w0.heap.size := by have := hb0.size; (try simp at this); omega
  go_wp2_with fail
  refine (szVal_any _ _ (by exact Rd.later (by repeat' (first | (with_reducible exact Below.refl _ _) | (with_reducible refine ext_trans ?_ hb0) | (with_reducible refine ext_trans ?_ (ext_alloc _ _)) | (with_reducible refine Below.drew ?_) | (with_reducible refine Below.setCell ?_ ?_ _) | (simp; done) | (simp; omega) | omega)) h1) (by omega) (by omega)).mono ?_
  rintro e w1 ⟨rfl, hb1⟩
  rw [szOut_val (by omega)]
  obtain ⟨hc1, hf1⟩ := bcell hb1
  have hl1_0 : W.heap.size < w1.heap.size := by have := hb1.size; (try simp at this); omega
  have hl1_1 : W.heap.size + 1 < w1.heap.size := by have := hb1.size; (try simp at this); omega
  have hzz0 : Sz.sz x0 ≤ 1048576 := by omega
  have hzz1 : Sz.sz x1 ≤ 1048576 := by omega
  have k00 : w1.cell? ⟨W.heap.size, 0, none⟩ = some (.int .i64 x0.kind) := keeps_cells hb1 _ _ (keeps_cells hb0 _ _ (by go_simp))
  have k01 : w1.cell? ⟨W.heap.size, 1, none⟩ = some (.bool x0.num.neg) := keeps_cells hb1 _ _ (keeps_cells hb0 _ _ (by go_simp))
  have k02 : w1.cell? ⟨W.heap.size, 2, none⟩ = some (.string x0.num.dig) := keeps_cells hb1 _ _ (keeps_cells hb0 _ _ (by go_simp))
  have k03 : w1.cell? ⟨W.heap.size, 3, none⟩ = some (.int .i64 x0.num.exp) := keeps_cells hb1 _ _ (keeps_cells hb0 _ _ (by go_simp))
  have k04 : w1.cell? ⟨W.heap.size, 4, none⟩ = some (.string x0.text) := keeps_cells hb1 _ _ (keeps_cells hb0 _ _ (by go_simp))
  have k10 : w1.cell? ⟨W.heap.size + 1, 0, none⟩ = some (.int .i64 x1.kind) := keeps_cells hb1 _ _ (keeps_cells hb0 _ _ (by go_simp))
  have k11 : w1.cell? ⟨W.heap.size + 1, 1, none⟩ = some (.bool x1.num.neg) := keeps_cells hb1 _ _ (keeps_cells hb0 _ _ (by go_simp))
  have k12 : w1.cell? ⟨W.heap.size + 1, 2, none⟩ = some (.string x1.num.dig) := keeps_cells hb1 _ _ (keeps_cells hb0 _ _ (by go_simp))
  have k13 : w1.cell? ⟨W.heap.size + 1, 3, none⟩ = some (.int .i64 x1.num.exp) := keeps_cells hb1 _ _ (keeps_cells hb0 _ _ (by go_simp))
  have k14 : w1.cell? ⟨W.heap.size + 1, 4, none⟩ = some (.string x1.text) := keeps_cells hb1 _ _ (keeps_cells hb0 _ _ (by go_simp))
  clear hc0 hf0 hc1 hf1
  go_wp2_with fail
  refine wp_region_held_drew (S := fun w' => w'.cell? ⟨W.heap.size, 0, none⟩ = some (.int .i64 x0.kind) ∧ w'.cell? ⟨W.heap.size, 1, none⟩ = some (.bool x0.num.neg) ∧ w'.cell? ⟨W.heap.size, 2, none⟩ = some (.string x0.num.dig) ∧ w'.cell? ⟨W.heap.size, 3, none⟩ = some (.int .i64 x0.num.exp) ∧ w'.cell? ⟨W.heap.size, 4, none⟩ = some (.string x0.text) ∧ w'.cell? ⟨W.heap.size + 1, 0, none⟩ = some (.int .i64 x1.kind) ∧ w'.cell? ⟨W.heap.size + 1, 1, none⟩ = some (.bool x1.num.neg) ∧ w'.cell? ⟨W.heap.size + 1, 2, none⟩ = some (.string x1.num.dig) ∧ w'.cell? ⟨W.heap.size + 1, 3, none⟩ = some (.int .i64 x1.num.exp) ∧ w'.cell? ⟨W.heap.size + 1, 4, none⟩ = some (.string x1.text)) (by kernel_rfl) ?_ (fun hHeld => ?_)
  · simp [*]
  refine wpAnyH_take (i := 0) (v := ?_) rfl (by kernel_rfl) (by kernel_rfl) (by kernel_rfl) (fun _ _ _ h => h) (Or.inl ⟨by rfl, ?_⟩) (by assumption) ?_
  rotate_left
  · (intro w' hSw; (try dsimp only at hSw); go_simp; try (with_reducible rfl))
  change wpAnyH _ _ _ _ _ _ _ (Act.put _ (some 18) _) _
  try simp only [Act.put, List.setIfInBounds_toArray, List.set_cons_zero, List.set_cons_succ]
  refine wpAnyH_take (i := 2) (v := ?_) rfl (by kernel_rfl) (by kernel_rfl) (by kernel_rfl) (fun _ _ _ h => h) (Or.inl ⟨by rfl, ?_⟩) (by assumption) ?_
  rotate_left
  · (intro w' hSw; (try dsimp only at hSw); go_simp; try (with_reducible rfl))
  change wpAnyH _ _ _ _ _ _ _ (Act.put _ (some 20) _) _
  try simp only [Act.put, List.setIfInBounds_toArray, List.set_cons_zero, List.set_cons_succ]
  refine wpAnyH_ready (rs := [1]) (by kernel_rfl) (by simp) ?_
  refine AllReadyH.cons (i := 1) rfl (fun K hK => ?_) AllReadyH.nil
  simp only [List.getElem_toArray, List.getElem_cons_succ, List.getElem_cons_zero]
  rw [if_pos (by rfl)]
  go_simp
  (go_at_call 8; refine (toVal_any _ (by exact Rd.later (by repeat' (first | (with_reducible exact Below.refl _ _) | (with_reducible refine ext_trans ?_ hb1) | (with_reducible refine ext_trans ?_ hb0) | (with_reducible refine ext_trans ?_ (ext_alloc _ _)) | (with_reducible refine Below.drew ?_))) h0) hzz0).mono ?_; rintro e w2 ⟨q2, rfl, hr2, hb2⟩; replace hr2 := Rd.old hr2; obtain ⟨hcs2, _⟩ := rdVal hr2; obtain rfl := arr_of_list hcs2; clear hcs2; have hkc2 := keeps_cells hb2; go_wp2_with fail)
  have hOld := hHeld
  clear hHeld
  refine hK.out _ _ ?_ (fun hHeld => ?_)
  · (try dsimp only); simp [*]
  clear hK K hOld
  try simp only [Act.put, List.setIfInBounds_toArray, List.set_cons_zero, List.set_cons_succ]
  refine wpAnyH_ready (rs := [3]) (by kernel_rfl) (by simp) ?_
  refine AllReadyH.cons (i := 3) rfl (fun K hK => ?_) AllReadyH.nil
  simp only [List.getElem_toArray, List.getElem_cons_succ, List.getElem_cons_zero]
  rw [if_pos (by rfl)]
  go_simp
  (go_at_call 8; refine (toVal_any _ (by exact Rd.later (by repeat' (first | (with_reducible exact Below.refl _ _) | (with_reducible refine ext_trans ?_ hb2) | (with_reducible refine ext_trans ?_ hb1) | (with_reducible refine ext_trans ?_ hb0) | (with_reducible refine ext_trans ?_ (ext_alloc _ _)) | (with_reducible refine Below.drew ?_))) h1) hzz1).mono ?_; rintro e w3 ⟨q3, rfl, hr3, hb3⟩; replace hr3 := Rd.old hr3; obtain ⟨hcs3, _⟩ := rdVal hr3; obtain rfl := arr_of_list hcs3; clear hcs3; have hkc3 := keeps_cells hb3; go_wp2_with fail)
  have hOld := hHeld
  clear hHeld
  refine hK.out _ _ ?_ (fun hHeld => ?_)
  · (try dsimp only); simp [*]
  clear hK K hOld
  try simp only [Act.put, List.setIfInBounds_toArray, List.set_cons_zero, List.set_cons_succ]
  refine wpAnyH_ready (rs := [4]) (by kernel_rfl) (by simp) ?_
  refine AllReadyH.cons (i := 4) rfl (fun K hK => ?_) AllReadyH.nil
  simp only [List.getElem_toArray, List.getElem_cons_succ, List.getElem_cons_zero]
  rw [if_pos (by rfl)]
  go_simp
  (go_at_call 13; refine (specValCmp _ (by exact Rd.later (by repeat' (first | (with_reducible exact Below.refl _ _) | (with_reducible refine ext_trans ?_ hb3) | (with_reducible refine ext_trans ?_ hb2) | (with_reducible refine ext_trans ?_ hb1) | (with_reducible refine ext_trans ?_ hb0) | (with_reducible refine ext_trans ?_ (ext_alloc _ _)) | (with_reducible refine Below.drew ?_))) hr2) (by exact Rd.later (by repeat' (first | (with_reducible exact Below.refl _ _) | (with_reducible refine ext_trans ?_ hb3) | (with_reducible refine ext_trans ?_ hb2) | (with_reducible refine ext_trans ?_ hb1) | (with_reducible refine ext_trans ?_ hb0) | (with_reducible refine ext_trans ?_ (ext_alloc _ _)) | (with_reducible refine Below.drew ?_))) hr3)).mono ?_; rintro e w4 ⟨rfl, hb4⟩; have hkc4 := keeps_cells hb4; go_wp2_with fail)
  have hOld := hHeld
  clear hHeld
  refine hK.out _ _ ?_ (fun hHeld => ?_)
  · (try dsimp only); simp [*]
  clear hK K hOld
  try simp only [Act.put, List.setIfInBounds_toArray, List.set_cons_zero, List.set_cons_succ]
  refine wpAnyH_take (i := 5) (v := ?_) rfl (by kernel_rfl) (by kernel_rfl) (by kernel_rfl) (fun _ _ _ h => h) (Or.inl ⟨by rfl, ?_⟩) (by assumption) ?_
  rotate_left
  · (intro w' hSw; (try dsimp only at hSw); go_simp; try (with_reducible rfl))
  change wpAnyH _ _ _ _ _ _ _ (Act.put _ (some 6) _) _
  try simp only [Act.put, List.setIfInBounds_toArray, List.set_cons_zero, List.set_cons_succ]
  refine wpAnyH_done (by kernel_rfl) ?_ _
  clear hHeld
  replace k00 := keeps_cells hb4 ⟨W.heap.size, 0, none⟩ (.int .i64 x0.kind) (keeps_cells hb3 ⟨W.heap.size, 0, none⟩ (.int .i64 x0.kind) (keeps_cells hb2 ⟨W.heap.size, 0, none⟩ (.int .i64 x0.kind) k00))
  replace k01 := keeps_cells hb4 ⟨W.heap.size, 1, none⟩ (.bool x0.num.neg) (keeps_cells hb3 ⟨W.heap.size, 1, none⟩ (.bool x0.num.neg) (keeps_cells hb2 ⟨W.heap.size, 1, none⟩ (.bool x0.num.neg) k01))
  replace k02 := keeps_cells hb4 ⟨W.heap.size, 2, none⟩ (.string x0.num.dig) (keeps_cells hb3 ⟨W.heap.size, 2, none⟩ (.string x0.num.dig) (keeps_cells hb2 ⟨W.heap.size, 2, none⟩ (.string x0.num.dig) k02))
  replace k03 := keeps_cells hb4 ⟨W.heap.size, 3, none⟩ (.int .i64 x0.num.exp) (keeps_cells hb3 ⟨W.heap.size, 3, none⟩ (.int .i64 x0.num.exp) (keeps_cells hb2 ⟨W.heap.size, 3, none⟩ (.int .i64 x0.num.exp) k03))
  replace k04 := keeps_cells hb4 ⟨W.heap.size, 4, none⟩ (.string x0.text) (keeps_cells hb3 ⟨W.heap.size, 4, none⟩ (.string x0.text) (keeps_cells hb2 ⟨W.heap.size, 4, none⟩ (.string x0.text) k04))
  replace k10 := keeps_cells hb4 ⟨W.heap.size + 1, 0, none⟩ (.int .i64 x1.kind) (keeps_cells hb3 ⟨W.heap.size + 1, 0, none⟩ (.int .i64 x1.kind) (keeps_cells hb2 ⟨W.heap.size + 1, 0, none⟩ (.int .i64 x1.kind) k10))
  replace k11 := keeps_cells hb4 ⟨W.heap.size + 1, 1, none⟩ (.bool x1.num.neg) (keeps_cells hb3 ⟨W.heap.size + 1, 1, none⟩ (.bool x1.num.neg) (keeps_cells hb2 ⟨W.heap.size + 1, 1, none⟩ (.bool x1.num.neg) k11))
  replace k12 := keeps_cells hb4 ⟨W.heap.size + 1, 2, none⟩ (.string x1.num.dig) (keeps_cells hb3 ⟨W.heap.size + 1, 2, none⟩ (.string x1.num.dig) (keeps_cells hb2 ⟨W.heap.size + 1, 2, none⟩ (.string x1.num.dig) k12))
  replace k13 := keeps_cells hb4 ⟨W.heap.size + 1, 3, none⟩ (.int .i64 x1.num.exp) (keeps_cells hb3 ⟨W.heap.size + 1, 3, none⟩ (.int .i64 x1.num.exp) (keeps_cells hb2 ⟨W.heap.size + 1, 3, none⟩ (.int .i64 x1.num.exp) k13))
  replace k14 := keeps_cells hb4 ⟨W.heap.size + 1, 4, none⟩ (.string x1.text) (keeps_cells hb3 ⟨W.heap.size + 1, 4, none⟩ (.string x1.text) (keeps_cells hb2 ⟨W.heap.size + 1, 4, none⟩ (.string x1.text) k14))
  go_wp2_with fail
  refine wp_region_held_drew (S := fun w' => w'.cell? ⟨W.heap.size, 0, none⟩ = some (.int .i64 x0.kind) ∧ w'.cell? ⟨W.heap.size, 1, none⟩ = some (.bool x0.num.neg) ∧ w'.cell? ⟨W.heap.size, 2, none⟩ = some (.string x0.num.dig) ∧ w'.cell? ⟨W.heap.size, 3, none⟩ = some (.int .i64 x0.num.exp) ∧ w'.cell? ⟨W.heap.size, 4, none⟩ = some (.string x0.text) ∧ w'.cell? ⟨W.heap.size + 1, 0, none⟩ = some (.int .i64 x1.kind) ∧ w'.cell? ⟨W.heap.size + 1, 1, none⟩ = some (.bool x1.num.neg) ∧ w'.cell? ⟨W.heap.size + 1, 2, none⟩ = some (.string x1.num.dig) ∧ w'.cell? ⟨W.heap.size + 1, 3, none⟩ = some (.int .i64 x1.num.exp) ∧ w'.cell? ⟨W.heap.size + 1, 4, none⟩ = some (.string x1.text)) (by kernel_rfl) ?_ (fun hHeld => ?_)
  · simp [*]
  refine wpAnyH_take (i := 0) (v := ?_) rfl (by kernel_rfl) (by kernel_rfl) (by kernel_rfl) (fun _ _ _ h => h) (Or.inl ⟨by rfl, ?_⟩) (by assumption) ?_
  rotate_left
  · (intro w' hSw; (try dsimp only at hSw); go_simp; try (with_reducible rfl))
  change wpAnyH _ _ _ _ _ _ _ (Act.put _ (some 23) _) _
  try simp only [Act.put, List.setIfInBounds_toArray, List.set_cons_zero, List.set_cons_succ]
  refine wpAnyH_take (i := 2) (v := ?_) rfl (by kernel_rfl) (by kernel_rfl) (by kernel_rfl) (fun _ _ _ h => h) (Or.inl ⟨by rfl, ?_⟩) (by assumption) ?_
  rotate_left
  · (intro w' hSw; (try dsimp only at hSw); go_simp; try (with_reducible rfl))
  change wpAnyH _ _ _ _ _ _ _ (Act.put _ (some 25) _) _
  try simp only [Act.put, List.setIfInBounds_toArray, List.set_cons_zero, List.set_cons_succ]
  refine wpAnyH_ready (rs := [1]) (by kernel_rfl) (by simp) ?_
  refine AllReadyH.cons (i := 1) rfl (fun K hK => ?_) AllReadyH.nil
  simp only [List.getElem_toArray, List.getElem_cons_succ, List.getElem_cons_zero]
  rw [if_pos (by rfl)]
  go_simp
  (go_at_call 8; refine (toVal_any _ (by exact Rd.later (by repeat' (first | (with_reducible exact Below.refl _ _) | (with_reducible refine ext_trans ?_ hb4) | (with_reducible refine ext_trans ?_ hb3) | (with_reducible refine ext_trans ?_ hb2) | (with_reducible refine ext_trans ?_ hb1) | (with_reducible refine ext_trans ?_ hb0) | (with_reducible refine ext_trans ?_ (ext_alloc _ _)) | (with_reducible refine Below.drew ?_))) h0) hzz0).mono ?_; rintro e w5 ⟨q5, rfl, hr5, hb5⟩; replace hr5 := Rd.old hr5; obtain ⟨hcs5, _⟩ := rdVal hr5; obtain rfl := arr_of_list hcs5; clear hcs5; have hkc5 := keeps_cells hb5; go_wp2_with fail)
  have hOld := hHeld
  clear hHeld
  refine hK.out _ _ ?_ (fun hHeld => ?_)
  · (try dsimp only); simp [*]
  clear hK K hOld
  try simp only [Act.put, List.setIfInBounds_toArray, List.set_cons_zero, List.set_cons_succ]
  refine wpAnyH_ready (rs := [3]) (by kernel_rfl) (by simp) ?_
  refine AllReadyH.cons (i := 3) rfl (fun K hK => ?_) AllReadyH.nil
  simp only [List.getElem_toArray, List.getElem_cons_succ, List.getElem_cons_zero]
  rw [if_pos (by rfl)]
  go_simp
  (go_at_call 8; refine (toVal_any _ (by exact Rd.later (by repeat' (first | (with_reducible exact Below.refl _ _) | (with_reducible refine ext_trans ?_ hb5) | (with_reducible refine ext_trans ?_ hb4) | (with_reducible refine ext_trans ?_ hb3) | (with_reducible refine ext_trans ?_ hb2) | (with_reducible refine ext_trans ?_ hb1) | (with_reducible refine ext_trans ?_ hb0) | (with_reducible refine ext_trans ?_ (ext_alloc _ _)) | (with_reducible refine Below.drew ?_))) h1) hzz1).mono ?_; rintro e w6 ⟨q6, rfl, hr6, hb6⟩; replace hr6 := Rd.old hr6; obtain ⟨hcs6, _⟩ := rdVal hr6; obtain rfl := arr_of_list hcs6; clear hcs6; have hkc6 := keeps_cells hb6; go_wp2_with fail)
  have hOld := hHeld
  clear hHeld
  refine hK.out _ _ ?_ (fun hHeld => ?_)
  · (try dsimp only); simp [*]
  clear hK K hOld
  try simp only [Act.put, List.setIfInBounds_toArray, List.set_cons_zero, List.set_cons_succ]
  refine wpAnyH_ready (rs := [4]) (by kernel_rfl) (by simp) ?_
  refine AllReadyH.cons (i := 4) rfl (fun K hK => ?_) AllReadyH.nil
  simp only [List.getElem_toArray, List.getElem_cons_succ, List.getElem_cons_zero]
  rw [if_pos (by rfl)]
  go_simp
  (go_at_call 14; refine (implValCmp _ (by exact Rd.later (by repeat' (first | (with_reducible exact Below.refl _ _) | (with_reducible refine ext_trans ?_ hb6) | (with_reducible refine ext_trans ?_ hb5) | (with_reducible refine ext_trans ?_ hb4) | (with_reducible refine ext_trans ?_ hb3) | (with_reducible refine ext_trans ?_ hb2) | (with_reducible refine ext_trans ?_ hb1) | (with_reducible refine ext_trans ?_ hb0) | (with_reducible refine ext_trans ?_ (ext_alloc _ _)) | (with_reducible refine Below.drew ?_))) hr5) (by exact Rd.later (by repeat' (first | (with_reducible exact Below.refl _ _) | (with_reducible refine ext_trans ?_ hb6) | (with_reducible refine ext_trans ?_ hb5) | (with_reducible refine ext_trans ?_ hb4) | (with_reducible refine ext_trans ?_ hb3) | (with_reducible refine ext_trans ?_ hb2) | (with_reducible refine ext_trans ?_ hb1) | (with_reducible refine ext_trans ?_ hb0) | (with_reducible refine ext_trans ?_ (ext_alloc _ _)) | (with_reducible refine Below.drew ?_))) hr6) (tp_below hT (by repeat' (first | (with_reducible exact Below.refl _ _) | (with_reducible refine ext_trans ?_ hb6) | (with_reducible refine ext_trans ?_ hb5) | (with_reducible refine ext_trans ?_ hb4) | (with_reducible refine ext_trans ?_ hb3) | (with_reducible refine ext_trans ?_ hb2) | (with_reducible refine ext_trans ?_ hb1) | (with_reducible refine ext_trans ?_ hb0) | (with_reducible refine ext_trans ?_ (ext_alloc _ _)) | (with_reducible refine Below.drew ?_)))) (mx_below hM (by repeat' (first | (with_reducible exact Below.refl _ _) | (with_reducible refine ext_trans ?_ hb6) | (with_reducible refine ext_trans ?_ hb5) | (with_reducible refine ext_trans ?_ hb4) | (with_reducible refine ext_trans ?_ hb3) | (with_reducible refine ext_trans ?_ hb2) | (with_reducible refine ext_trans ?_ hb1) | (with_reducible refine ext_trans ?_ hb0) | (with_reducible refine ext_trans ?_ (ext_alloc _ _)) | (with_reducible refine Below.drew ?_))))).mono ?_; rintro e w7 ⟨rfl, hb7⟩; have hkc7 := keeps_cells hb7; go_wp2_with fail)
  have hOld := hHeld
  clear hHeld
  refine hK.out _ _ ?_ (fun hHeld => ?_)
  · (try dsimp only); simp [*]
  clear hK K hOld
  try simp only [Act.put, List.setIfInBounds_toArray, List.set_cons_zero, List.set_cons_succ]
  refine wpAnyH_take (i := 5) (v := ?_) rfl (by kernel_rfl) (by kernel_rfl) (by kernel_rfl) (fun _ _ _ h => h) (Or.inl ⟨by rfl, ?_⟩) (by assumption) ?_
  rotate_left
  · (intro w' hSw; (try dsimp only at hSw); go_simp; try (with_reducible rfl))
  change wpAnyH _ _ _ _ _ _ _ (Act.put _ (some 7) _) _
  try simp only [Act.put, List.setIfInBounds_toArray, List.set_cons_zero, List.set_cons_succ]
  refine wpAnyH_done (by kernel_rfl) ?_ _
  clear hHeld
  replace k00 := keeps_cells hb7 ⟨W.heap.size, 0, none⟩ (.int .i64 x0.kind) (keeps_cells hb6 ⟨W.heap.size, 0, none⟩ (.int .i64 x0.kind) (keeps_cells hb5 ⟨W.heap.size, 0, none⟩ (.int .i64 x0.kind) k00))
  replace k01 := keeps_cells hb7 ⟨W.heap.size, 1, none⟩ (.bool x0.num.neg) (keeps_cells hb6 ⟨W.heap.size, 1, none⟩ (.bool x0.num.neg) (keeps_cells hb5 ⟨W.heap.size, 1, none⟩ (.bool x0.num.neg) k01))
  replace k02 := keeps_cells hb7 ⟨W.heap.size, 2, none⟩ (.string x0.num.dig) (keeps_cells hb6 ⟨W.heap.size, 2, none⟩ (.string x0.num.dig) (keeps_cells hb5 ⟨W.heap.size, 2, none⟩ (.string x0.num.dig) k02))
  replace k03 := keeps_cells hb7 ⟨W.heap.size, 3, none⟩ (.int .i64 x0.num.exp) (keeps_cells hb6 ⟨W.heap.size, 3, none⟩ (.int .i64 x0.num.exp) (keeps_cells hb5 ⟨W.heap.size, 3, none⟩ (.int .i64 x0.num.exp) k03))
  replace k04 := keeps_cells hb7 ⟨W.heap.size, 4, none⟩ (.string x0.text) (keeps_cells hb6 ⟨W.heap.size, 4, none⟩ (.string x0.text) (keeps_cells hb5 ⟨W.heap.size, 4, none⟩ (.string x0.text) k04))
  replace k10 := keeps_cells hb7 ⟨W.heap.size + 1, 0, none⟩ (.int .i64 x1.kind) (keeps_cells hb6 ⟨W.heap.size + 1, 0, none⟩ (.int .i64 x1.kind) (keeps_cells hb5 ⟨W.heap.size + 1, 0, none⟩ (.int .i64 x1.kind) k10))
  replace k11 := keeps_cells hb7 ⟨W.heap.size + 1, 1, none⟩ (.bool x1.num.neg) (keeps_cells hb6 ⟨W.heap.size + 1, 1, none⟩ (.bool x1.num.neg) (keeps_cells hb5 ⟨W.heap.size + 1, 1, none⟩ (.bool x1.num.neg) k11))
  replace k12 := keeps_cells hb7 ⟨W.heap.size + 1, 2, none⟩ (.string x1.num.dig) (keeps_cells hb6 ⟨W.heap.size + 1, 2, none⟩ (.string x1.num.dig) (keeps_cells hb5 ⟨W.heap.size + 1, 2, none⟩ (.string x1.num.dig) k12))
  replace k13 := keeps_cells hb7 ⟨W.heap.size + 1, 3, none⟩ (.int .i64 x1.num.exp) (keeps_cells hb6 ⟨W.heap.size + 1, 3, none⟩ (.int .i64 x1.num.exp) (keeps_cells hb5 ⟨W.heap.size + 1, 3, none⟩ (.int .i64 x1.num.exp) k13))
  replace k14 := keeps_cells hb7 ⟨W.heap.size + 1, 4, none⟩ (.string x1.text) (keeps_cells hb6 ⟨W.heap.size + 1, 4, none⟩ (.string x1.text) (keeps_cells hb5 ⟨W.heap.size + 1, 4, none⟩ (.string x1.text) k14))
  go_wp2
  go_ret
  exact ⟨rfl, (by repeat' (first | (with_reducible exact Below.refl _ _) | (with_reducible refine ext_trans ?_ hb7) | (with_reducible refine ext_trans ?_ hb6) | (with_reducible refine ext_trans ?_ hb5) | (with_reducible refine ext_trans ?_ hb4) | (with_reducible refine ext_trans ?_ hb3) | (with_reducible refine ext_trans ?_ hb2) | (with_reducible refine ext_trans ?_ hb1) | (with_reducible refine ext_trans ?_ hb0) | (with_reducible refine ext_trans ?_ (ext_alloc _ _)) | (with_reducible refine Below.drew ?_)))⟩
end Go.Proofs.YtjpkdgedglnchaaGreatDoor
