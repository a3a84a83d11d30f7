/-
  What is proved here: the walks of FnExactValNum. The condition 'Tabs' (where it stands) says that the library's tables for UTF-8 lie in the world.
-/
import Derived.Test.YtjpkdgedglnchaaGreatDoorValNum
namespace Go.Proofs.YtjpkdgedglnchaaGreatDoor
open Go.RowKit
set_option linter.unusedVariables false
set_option linter.unusedSimpArgs false

set_option maxHeartbeats 4000000 in
theorem fnExactValNum_walk (W : World) (hT : TP W) (hM : Mx W) {cs0 : Array Value} {x0 : Val} (h0 : Rd.rd (Old W) W cs0.toList x0) :
    Calls Tryz.prog 3 #[.agg cs0] W fun e w' => e = .returned (.bool true) ∧ Below W.heap.size W w' := by
  obtain ⟨hcs0, p0f0, p0f2, p0f3, p0f4⟩ := rdVal h0
  obtain rfl := arr_of_list hcs0
  clear hcs0
  obtain ⟨r, hrr⟩ : ∃ r, valNumR x0 = r := ⟨_, rfl⟩
  have CS : Hid (∀ (w : World) (cs : Array Value), Rd.rd (Old w) w cs.toList x0 → Calls Tryz.prog 7 #[.agg cs] w fun e w' => e = .returned (.tuple #[.agg #[.bool r.1.neg, .string r.1.dig, .int .i64 r.1.exp], .int .i64 r.2]) ∧ smallR r ∧ Below w.heap.size w w') := hid (fun w cs h => by
    have h2 := specValNum w h
    rw [hrr] at h2
    exact h2)
  have CI : Hid (∀ (w : World) (cs : Array Value), Rd.rd (Old w) w cs.toList x0 → Tabs w → Mx w → Calls Tryz.prog 9 #[.agg cs] w fun e w' => e = .returned (.tuple #[.agg #[.bool r.1.neg, .string r.1.dig, .int .i64 r.1.exp], .int .i64 r.2]) ∧ smallR r ∧ Below w.heap.size w w') := hid (fun w cs h ht hm => by
    have h2 := implValNum w h ht hm
    rw [hrr] at h2
    exact h2)
  clear hrr
  by_cases hz0 : (Sz.sz x0 : Int) ≤ 1048576
  rotate_left
  · go_enter Tryz.func3, Tryz.ntmps3
    go_wp2_with fail
    refine (szVal_any _ _ (by exact Rd.later (by repeat' (first | (with_reducible exact Below.refl _ _) | (with_reducible refine ext_trans ?_ (ext_alloc _ _)) | (with_reducible refine Below.drew ?_) | (with_reducible refine Below.setCell ?_ ?_ _) | (simp; done) | (simp; omega) | omega)) h0) (by omega) (by omega)).mono ?_
    rintro e w0 ⟨rfl, hb0⟩
    rw [szOut_bad (by omega)]
    obtain ⟨hc0, hf0⟩ := bcell hb0
    have hl0_0 : W.heap.size < w0.heap.size := by have := hb0.size; (try simp at this); omega
    go_wp2
    go_ret
    exact ⟨rfl, (by repeat' (first | (with_reducible exact Below.refl _ _) | (with_reducible refine ext_trans ?_ hb0) | (with_reducible refine ext_trans ?_ (ext_alloc _ _)) | (with_reducible refine Below.drew ?_) | (with_reducible refine Below.setCell ?_ ?_ _) | (simp; done) | (simp; omega) | omega))⟩
  go_enter Tryz.func3, Tryz.ntmps3
  go_wp2_with fail
  refine (szVal_any _ _ (by exact Rd.later (by repeat' (first | (with_reducible exact Below.refl _ _) | (with_reducible refine ext_trans ?_ (ext_alloc _ _)) | (with_reducible refine Below.drew ?_) | (with_reducible refine Below.setCell ?_ ?_ _) | (simp; done) | (simp; omega) | omega)) h0) (by omega) (by omega)).mono ?_
  rintro e w0 ⟨rfl, hb0⟩
  rw [szOut_val (by omega)]
  obtain ⟨hc0, hf0⟩ := bcell hb0
  have hl0_0 : W.heap.size < w0.heap.size := by have := hb0.size; (try simp at this); omega
  have hzz0 : Sz.sz x0 ≤ 1048576 := by omega
  go_wp2_with fail
  refine (toVal_any _ (by exact Rd.later (by repeat' (first | (with_reducible exact Below.refl _ _) | (with_reducible refine ext_trans ?_ hb0) | (with_reducible refine ext_trans ?_ (ext_alloc _ _)) | (with_reducible refine Below.drew ?_) | (with_reducible refine Below.setCell ?_ ?_ _) | (simp; done) | (simp; omega) | omega)) h0) hzz0).mono ?_
  rintro e w1 ⟨q1, rfl, hr1, hb1⟩
  replace hr1 := Rd.old hr1
  obtain ⟨hcs1, q1f0, q1f2, q1f3, q1f4⟩ := rdVal hr1
  obtain rfl := arr_of_list hcs1
  clear hcs1 q1f0 q1f2 q1f3 q1f4
  obtain ⟨hc1, hf1⟩ := bcell hb1
  have hl1_0 : W.heap.size < w1.heap.size := by have := hb1.size; (try simp at this); omega
  go_wp2_with fail
  refine (CS.out _ _ (by exact Rd.later (by repeat' (first | (with_reducible exact Below.refl _ _) | (with_reducible refine ext_trans ?_ hb1) | (with_reducible refine ext_trans ?_ hb0) | (with_reducible refine ext_trans ?_ (ext_alloc _ _)) | (with_reducible refine Below.drew ?_) | (with_reducible refine Below.setCell ?_ ?_ _) | (simp; done) | (simp; omega) | omega)) hr1)).mono ?_
  rintro e w2 ⟨rfl, hsm, hb2⟩
  obtain ⟨hc2, hf2⟩ := bcell hb2
  have hl2_0 : W.heap.size < w2.heap.size := by have := hb2.size; (try simp at this); omega
  go_wp2_with fail
  refine (toVal_any _ (by exact Rd.later (by repeat' (first | (with_reducible exact Below.refl _ _) | (with_reducible refine ext_trans ?_ hb2) | (with_reducible refine ext_trans ?_ hb1) | (with_reducible refine ext_trans ?_ hb0) | (with_reducible refine ext_trans ?_ (ext_alloc _ _)) | (with_reducible refine Below.drew ?_) | (with_reducible refine Below.setCell ?_ ?_ _) | (simp; done) | (simp; omega) | omega)) h0) hzz0).mono ?_
  rintro e w3 ⟨q3, rfl, hr3, hb3⟩
  replace hr3 := Rd.old hr3
  obtain ⟨hcs3, q3f0, q3f2, q3f3, q3f4⟩ := rdVal hr3
  obtain rfl := arr_of_list hcs3
  clear hcs3 q3f0 q3f2 q3f3 q3f4
  have d0 : w3.cell? ⟨w2.heap.size, 0, none⟩ = some (.bool r.1.neg) := keeps_cells hb3 _ _ (by go_simp)
  have d1 : w3.cell? ⟨w2.heap.size, 1, none⟩ = some (.string r.1.dig) := keeps_cells hb3 _ _ (by go_simp)
  have d2 : w3.cell? ⟨w2.heap.size, 2, none⟩ = some (.int .i64 r.1.exp) := keeps_cells hb3 _ _ (by go_simp)
  obtain ⟨hc3, hf3⟩ := bcell hb3
  have hl3_0 : W.heap.size < w3.heap.size := by have := hb3.size; (try simp at this); omega
  go_wp2_with fail
  refine (CI.out _ _ (by exact Rd.later (by repeat' (first | (with_reducible exact Below.refl _ _) | (with_reducible refine ext_trans ?_ hb3) | (with_reducible refine ext_trans ?_ hb2) | (with_reducible refine ext_trans ?_ hb1) | (with_reducible refine ext_trans ?_ hb0) | (with_reducible refine ext_trans ?_ (ext_alloc _ _)) | (with_reducible refine Below.drew ?_) | (with_reducible refine Below.setCell ?_ ?_ _) | (simp; done) | (simp; omega) | omega)) hr3) (tabs_below hT.1 (by repeat' (first | (with_reducible exact Below.refl _ _) | (with_reducible refine ext_trans ?_ hb3) | (with_reducible refine ext_trans ?_ hb2) | (with_reducible refine ext_trans ?_ hb1) | (with_reducible refine ext_trans ?_ hb0) | (with_reducible refine ext_trans ?_ (ext_alloc _ _)) | (with_reducible refine Below.drew ?_) | (with_reducible refine Below.setCell ?_ ?_ _) | (simp; done) | (simp; omega) | omega))) (mx_below hM (by repeat' (first | (with_reducible exact Below.refl _ _) | (with_reducible refine ext_trans ?_ hb3) | (with_reducible refine ext_trans ?_ hb2) | (with_reducible refine ext_trans ?_ hb1) | (with_reducible refine ext_trans ?_ hb0) | (with_reducible refine ext_trans ?_ (ext_alloc _ _)) | (with_reducible refine Below.drew ?_) | (with_reducible refine Below.setCell ?_ ?_ _) | (simp; done) | (simp; omega) | omega)))).mono ?_
  rintro e w4 ⟨rfl, hsm2, hb4⟩
  replace d0 := keeps_cells hb4 _ _ d0
  replace d1 := keeps_cells hb4 _ _ d1
  replace d2 := keeps_cells hb4 _ _ d2
  have hlq : w2.heap.size < w4.heap.size := by have h1 := hb3.size; have h2 := hb4.size; (try simp at h1); omega
  obtain ⟨hc4, hf4⟩ := bcell hb4
  have hl4_0 : W.heap.size < w4.heap.size := by have := hb4.size; (try simp at this); omega
  go_wp2_with fail
  refine (eqDec_same (x := r.1) _ (by exact rdDec_mk hsm.1 hsm.2) (by exact rdDec_mk hsm.1 hsm.2)).mono ?_
  rintro e w5 ⟨rfl, hb5⟩
  go_wp2
  go_ret
  exact ⟨rfl, (by repeat' (first | (with_reducible exact Below.refl _ _) | (with_reducible refine ext_trans ?_ hb5) | (with_reducible refine ext_trans ?_ hb4) | (with_reducible refine ext_trans ?_ hb3) | (with_reducible refine ext_trans ?_ hb2) | (with_reducible refine ext_trans ?_ hb1) | (with_reducible refine ext_trans ?_ hb0) | (with_reducible refine ext_trans ?_ (ext_alloc _ _)) | (with_reducible refine Below.drew ?_) | (with_reducible refine Below.setCell ?_ ?_ _) | (simp; done) | (simp; omega) | omega))⟩
end Go.Proofs.YtjpkdgedglnchaaGreatDoor
