/-
  What is proved here: the walks of FnExactRunText. The condition 'Tabs' (where it stands) says that the library's tables for UTF-8 lie in the world.
-/
import Derived.Test.YtjpkdgedglnchaaDoorRun
namespace Go.Proofs.YtjpkdgedglnchaaDoor
open Go.RowKit
set_option linter.unusedVariables false
set_option linter.unusedSimpArgs false

set_option maxHeartbeats 4000000 in
theorem fnExactRunText_walk (W : World) (hT : TP W) {cs0 : Array Value} {x0 : Outcome} (h0 : Rd.rd (Old W) W cs0.toList x0) :
    Calls Tryd.prog 3 #[.agg cs0] W fun e w' => e = .returned (.bool true) ∧ Below W.heap.size W w' := by
  obtain ⟨p0a3, p0c3, hcs0, p0f0, p0f1, p0f2, p0f3⟩ := rdOutcome h0
  obtain rfl := arr_of_list hcs0
  clear hcs0
  by_cases hz0 : (Sz.sz x0 : Int) ≤ 1048576
  rotate_left
  · go_enter Tryd.func3, Tryd.ntmps3
    go_wp2_with fail
    refine (szOutcome_any _ _ (by exact Rd.later (by repeat' (first | (with_reducible exact Below.refl _ _) | (with_reducible refine ext_trans ?_ (ext_alloc _ _)) | (with_reducible refine Below.drew ?_) | (with_reducible refine Below.setCell ?_ ?_ _) | (simp; done) | (simp; omega) | omega)) h0) (by omega) (by omega)).mono ?_
    rintro e w0 ⟨rfl, hb0⟩
    rw [szOut_bad (by omega)]
    obtain ⟨hc0, hf0⟩ := bcell hb0
    have hl0_0 : W.heap.size < w0.heap.size := by have := hb0.size; (try simp at this); omega
    go_wp2
    go_ret
    exact ⟨rfl, (by repeat' (first | (with_reducible exact Below.refl _ _) | (with_reducible refine ext_trans ?_ hb0) | (with_reducible refine ext_trans ?_ (ext_alloc _ _)) | (with_reducible refine Below.drew ?_) | (with_reducible refine Below.setCell ?_ ?_ _) | (simp; done) | (simp; omega) | omega))⟩
  go_enter Tryd.func3, Tryd.ntmps3
  go_wp2_with fail
  refine (szOutcome_any _ _ (by exact Rd.later (by repeat' (first | (with_reducible exact Below.refl _ _) | (with_reducible refine ext_trans ?_ (ext_alloc _ _)) | (with_reducible refine Below.drew ?_) | (with_reducible refine Below.setCell ?_ ?_ _) | (simp; done) | (simp; omega) | omega)) h0) (by omega) (by omega)).mono ?_
  rintro e w0 ⟨rfl, hb0⟩
  rw [szOut_val (by omega)]
  obtain ⟨hc0, hf0⟩ := bcell hb0
  have hl0_0 : W.heap.size < w0.heap.size := by have := hb0.size; (try simp at this); omega
  have hzz0 : Sz.sz x0 ≤ 1048576 := by omega
  go_wp2_with fail
  refine (toOutcome_any _ (by exact Rd.later (by repeat' (first | (with_reducible exact Below.refl _ _) | (with_reducible refine ext_trans ?_ hb0) | (with_reducible refine ext_trans ?_ (ext_alloc _ _)) | (with_reducible refine Below.drew ?_) | (with_reducible refine Below.setCell ?_ ?_ _) | (simp; done) | (simp; omega) | omega)) h0) hzz0).mono ?_
  rintro e w1 ⟨q1, rfl, hr1, hb1⟩
  replace hr1 := Rd.old hr1
  obtain ⟨q1a3, q1c3, hcs1, q1f0, q1f1, q1f2, q1f3⟩ := rdOutcome hr1
  obtain rfl := arr_of_list hcs1
  clear hcs1 q1f0 q1f1 q1f2 q1f3
  obtain ⟨hc1, hf1⟩ := bcell hb1
  have hl1_0 : W.heap.size < w1.heap.size := by have := hb1.size; (try simp at this); omega
  go_wp2_with fail
  refine (specRunText  _ (by exact Rd.later (by repeat' (first | (with_reducible exact Below.refl _ _) | (with_reducible refine ext_trans ?_ hb1) | (with_reducible refine ext_trans ?_ hb0) | (with_reducible refine ext_trans ?_ (ext_alloc _ _)) | (with_reducible refine Below.drew ?_) | (with_reducible refine Below.setCell ?_ ?_ _) | (simp; done) | (simp; omega) | omega)) hr1) (by omega)).mono ?_
  rintro e w2 ⟨rfl, hb2⟩
  obtain ⟨hc2, hf2⟩ := bcell hb2
  have hl2_0 : W.heap.size < w2.heap.size := by have := hb2.size; (try simp at this); omega
  go_wp2_with fail
  refine (toOutcome_any _ (by exact Rd.later (by repeat' (first | (with_reducible exact Below.refl _ _) | (with_reducible refine ext_trans ?_ hb2) | (with_reducible refine ext_trans ?_ hb1) | (with_reducible refine ext_trans ?_ hb0) | (with_reducible refine ext_trans ?_ (ext_alloc _ _)) | (with_reducible refine Below.drew ?_) | (with_reducible refine Below.setCell ?_ ?_ _) | (simp; done) | (simp; omega) | omega)) h0) hzz0).mono ?_
  rintro e w3 ⟨q3, rfl, hr3, hb3⟩
  replace hr3 := Rd.old hr3
  obtain ⟨q3a3, q3c3, hcs3, q3f0, q3f1, q3f2, q3f3⟩ := rdOutcome hr3
  obtain rfl := arr_of_list hcs3
  clear hcs3 q3f0 q3f1 q3f2 q3f3
  obtain ⟨hc3, hf3⟩ := bcell hb3
  have hl3_0 : W.heap.size < w3.heap.size := by have := hb3.size; (try simp at this); omega
  go_wp2_with fail
  refine (implRunText  _ (by exact Rd.later (by repeat' (first | (with_reducible exact Below.refl _ _) | (with_reducible refine ext_trans ?_ hb3) | (with_reducible refine ext_trans ?_ hb2) | (with_reducible refine ext_trans ?_ hb1) | (with_reducible refine ext_trans ?_ hb0) | (with_reducible refine ext_trans ?_ (ext_alloc _ _)) | (with_reducible refine Below.drew ?_) | (with_reducible refine Below.setCell ?_ ?_ _) | (simp; done) | (simp; omega) | omega)) hr3) (by omega) (tp_below hT (by repeat' (first | (with_reducible exact Below.refl _ _) | (with_reducible refine ext_trans ?_ hb3) | (with_reducible refine ext_trans ?_ hb2) | (with_reducible refine ext_trans ?_ hb1) | (with_reducible refine ext_trans ?_ hb0) | (with_reducible refine ext_trans ?_ (ext_alloc _ _)) | (with_reducible refine Below.drew ?_) | (with_reducible refine Below.setCell ?_ ?_ _) | (simp; done) | (simp; omega) | omega)))).mono ?_
  rintro e w4 ⟨rfl, hb4⟩
  obtain ⟨hc4, hf4⟩ := bcell hb4
  have hl4_0 : W.heap.size < w4.heap.size := by have := hb4.size; (try simp at this); omega
  have hl4_1 : w3.heap.size < w4.heap.size := by have := hb4.size; (try simp at this); omega
  go_wp2_with fail
  have d_x0_0 : w4.cell? ⟨w3.heap.size, 0, none⟩ = some (.int .i64 x0.code) := keeps_cells ((by repeat' (first | (with_reducible exact Below.refl _ _) | (with_reducible refine ext_trans ?_ hb4) | (with_reducible refine ext_trans ?_ hb3) | (with_reducible refine ext_trans ?_ hb2) | (with_reducible refine ext_trans ?_ hb1) | (with_reducible refine ext_trans ?_ hb0) | (with_reducible refine ext_trans ?_ (ext_alloc _ _)) | (with_reducible refine Below.drew ?_) | (with_reducible refine Below.setCell ?_ ?_ _) | (simp; done) | (simp; omega) | omega)) : Below (w3.alloc (.cells #[.int .i64 x0.code, .int .i64 x0.exit, .int .i64 x0.ticks, .slice q3a3 x0.files.length q3c3] 29)).heap.size (w3.alloc (.cells #[.int .i64 x0.code, .int .i64 x0.exit, .int .i64 x0.ticks, .slice q3a3 x0.files.length q3c3] 29)) w4) _ _ (by simp)
  have d_x0_1 : w4.cell? ⟨w3.heap.size, 1, none⟩ = some (.int .i64 x0.exit) := keeps_cells ((by repeat' (first | (with_reducible exact Below.refl _ _) | (with_reducible refine ext_trans ?_ hb4) | (with_reducible refine ext_trans ?_ hb3) | (with_reducible refine ext_trans ?_ hb2) | (with_reducible refine ext_trans ?_ hb1) | (with_reducible refine ext_trans ?_ hb0) | (with_reducible refine ext_trans ?_ (ext_alloc _ _)) | (with_reducible refine Below.drew ?_) | (with_reducible refine Below.setCell ?_ ?_ _) | (simp; done) | (simp; omega) | omega)) : Below (w3.alloc (.cells #[.int .i64 x0.code, .int .i64 x0.exit, .int .i64 x0.ticks, .slice q3a3 x0.files.length q3c3] 29)).heap.size (w3.alloc (.cells #[.int .i64 x0.code, .int .i64 x0.exit, .int .i64 x0.ticks, .slice q3a3 x0.files.length q3c3] 29)) w4) _ _ (by simp)
  have d_x0_2 : w4.cell? ⟨w3.heap.size, 2, none⟩ = some (.int .i64 x0.ticks) := keeps_cells ((by repeat' (first | (with_reducible exact Below.refl _ _) | (with_reducible refine ext_trans ?_ hb4) | (with_reducible refine ext_trans ?_ hb3) | (with_reducible refine ext_trans ?_ hb2) | (with_reducible refine ext_trans ?_ hb1) | (with_reducible refine ext_trans ?_ hb0) | (with_reducible refine ext_trans ?_ (ext_alloc _ _)) | (with_reducible refine Below.drew ?_) | (with_reducible refine Below.setCell ?_ ?_ _) | (simp; done) | (simp; omega) | omega)) : Below (w3.alloc (.cells #[.int .i64 x0.code, .int .i64 x0.exit, .int .i64 x0.ticks, .slice q3a3 x0.files.length q3c3] 29)).heap.size (w3.alloc (.cells #[.int .i64 x0.code, .int .i64 x0.exit, .int .i64 x0.ticks, .slice q3a3 x0.files.length q3c3] 29)) w4) _ _ (by simp)
  have d_x0_3 : w4.cell? ⟨w3.heap.size, 3, none⟩ = some (.slice q3a3 x0.files.length q3c3) := keeps_cells ((by repeat' (first | (with_reducible exact Below.refl _ _) | (with_reducible refine ext_trans ?_ hb4) | (with_reducible refine ext_trans ?_ hb3) | (with_reducible refine ext_trans ?_ hb2) | (with_reducible refine ext_trans ?_ hb1) | (with_reducible refine ext_trans ?_ hb0) | (with_reducible refine ext_trans ?_ (ext_alloc _ _)) | (with_reducible refine Below.drew ?_) | (with_reducible refine Below.setCell ?_ ?_ _) | (simp; done) | (simp; omega) | omega)) : Below (w3.alloc (.cells #[.int .i64 x0.code, .int .i64 x0.exit, .int .i64 x0.ticks, .slice q3a3 x0.files.length q3c3] 29)).heap.size (w3.alloc (.cells #[.int .i64 x0.code, .int .i64 x0.exit, .int .i64 x0.ticks, .slice q3a3 x0.files.length q3c3] 29)) w4) _ _ (by simp)
  have d_aO_0 : w4.cell? ⟨W.heap.size, 0, none⟩ = some (.int .i64 x0.code) := keeps_cells ((by repeat' (first | (with_reducible exact Below.refl _ _) | (with_reducible refine ext_trans ?_ hb4) | (with_reducible refine ext_trans ?_ hb3) | (with_reducible refine ext_trans ?_ hb2) | (with_reducible refine ext_trans ?_ hb1) | (with_reducible refine ext_trans ?_ hb0) | (with_reducible refine ext_trans ?_ (ext_alloc _ _)) | (with_reducible refine Below.drew ?_) | (with_reducible refine Below.setCell ?_ ?_ _) | (simp; done) | (simp; omega) | omega)) : Below (W.alloc (.cells #[.int .i64 x0.code, .int .i64 x0.exit, .int .i64 x0.ticks, .slice p0a3 x0.files.length p0c3] 24)).heap.size (W.alloc (.cells #[.int .i64 x0.code, .int .i64 x0.exit, .int .i64 x0.ticks, .slice p0a3 x0.files.length p0c3] 24)) w4) _ _ (by simp)
  have d_aO_1 : w4.cell? ⟨W.heap.size, 1, none⟩ = some (.int .i64 x0.exit) := keeps_cells ((by repeat' (first | (with_reducible exact Below.refl _ _) | (with_reducible refine ext_trans ?_ hb4) | (with_reducible refine ext_trans ?_ hb3) | (with_reducible refine ext_trans ?_ hb2) | (with_reducible refine ext_trans ?_ hb1) | (with_reducible refine ext_trans ?_ hb0) | (with_reducible refine ext_trans ?_ (ext_alloc _ _)) | (with_reducible refine Below.drew ?_) | (with_reducible refine Below.setCell ?_ ?_ _) | (simp; done) | (simp; omega) | omega)) : Below (W.alloc (.cells #[.int .i64 x0.code, .int .i64 x0.exit, .int .i64 x0.ticks, .slice p0a3 x0.files.length p0c3] 24)).heap.size (W.alloc (.cells #[.int .i64 x0.code, .int .i64 x0.exit, .int .i64 x0.ticks, .slice p0a3 x0.files.length p0c3] 24)) w4) _ _ (by simp)
  have d_aO_2 : w4.cell? ⟨W.heap.size, 2, none⟩ = some (.int .i64 x0.ticks) := keeps_cells ((by repeat' (first | (with_reducible exact Below.refl _ _) | (with_reducible refine ext_trans ?_ hb4) | (with_reducible refine ext_trans ?_ hb3) | (with_reducible refine ext_trans ?_ hb2) | (with_reducible refine ext_trans ?_ hb1) | (with_reducible refine ext_trans ?_ hb0) | (with_reducible refine ext_trans ?_ (ext_alloc _ _)) | (with_reducible refine Below.drew ?_) | (with_reducible refine Below.setCell ?_ ?_ _) | (simp; done) | (simp; omega) | omega)) : Below (W.alloc (.cells #[.int .i64 x0.code, .int .i64 x0.exit, .int .i64 x0.ticks, .slice p0a3 x0.files.length p0c3] 24)).heap.size (W.alloc (.cells #[.int .i64 x0.code, .int .i64 x0.exit, .int .i64 x0.ticks, .slice p0a3 x0.files.length p0c3] 24)) w4) _ _ (by simp)
  have d_aO_3 : w4.cell? ⟨W.heap.size, 3, none⟩ = some (.slice p0a3 x0.files.length p0c3) := keeps_cells ((by repeat' (first | (with_reducible exact Below.refl _ _) | (with_reducible refine ext_trans ?_ hb4) | (with_reducible refine ext_trans ?_ hb3) | (with_reducible refine ext_trans ?_ hb2) | (with_reducible refine ext_trans ?_ hb1) | (with_reducible refine ext_trans ?_ hb0) | (with_reducible refine ext_trans ?_ (ext_alloc _ _)) | (with_reducible refine Below.drew ?_) | (with_reducible refine Below.setCell ?_ ?_ _) | (simp; done) | (simp; omega) | omega)) : Below (W.alloc (.cells #[.int .i64 x0.code, .int .i64 x0.exit, .int .i64 x0.ticks, .slice p0a3 x0.files.length p0c3] 24)).heap.size (W.alloc (.cells #[.int .i64 x0.code, .int .i64 x0.exit, .int .i64 x0.ticks, .slice p0a3 x0.files.length p0c3] 24)) w4) _ _ (by simp)
  go_region_held3 (fun w' => w'.cell? ⟨w3.heap.size, 0, none⟩ = some (.int .i64 x0.code) ∧ w'.cell? ⟨w3.heap.size, 1, none⟩ = some (.int .i64 x0.exit) ∧ w'.cell? ⟨w3.heap.size, 2, none⟩ = some (.int .i64 x0.ticks) ∧ w'.cell? ⟨w3.heap.size, 3, none⟩ = some (.slice q3a3 x0.files.length q3c3) ∧ w'.cell? ⟨W.heap.size, 0, none⟩ = some (.int .i64 x0.code) ∧ w'.cell? ⟨W.heap.size, 1, none⟩ = some (.int .i64 x0.exit) ∧ w'.cell? ⟨W.heap.size, 2, none⟩ = some (.int .i64 x0.ticks) ∧ w'.cell? ⟨W.heap.size, 3, none⟩ = some (.slice p0a3 x0.files.length p0c3)) (simp [*])
    (first | (go_at_call 9; refine (toOutcome_any _ (by exact Rd.later (by repeat' (first | (with_reducible exact Below.refl _ _) | (with_reducible refine ext_trans ?_ hb4) | (with_reducible refine ext_trans ?_ hb3) | (with_reducible refine ext_trans ?_ hb2) | (with_reducible refine ext_trans ?_ hb1) | (with_reducible refine ext_trans ?_ hb0) | (with_reducible refine ext_trans ?_ (ext_alloc _ _)) | (with_reducible refine Below.drew ?_) | (with_reducible refine Below.setCell ?_ ?_ _) | (simp; done) | (simp; omega) | omega)) h0) hzz0).mono ?_; rintro e w5 ⟨q5, rfl, hr5, hb5⟩; replace hr5 := Rd.old hr5; have hkc5 := keeps_cells hb5) | (go_at_call 11; refine (eqOutcome_same _ (by exact Rd.later (by repeat' (first | (with_reducible exact Below.refl _ _) | (with_reducible refine ext_trans ?_ hb5) | (with_reducible refine ext_trans ?_ hb4) | (with_reducible refine ext_trans ?_ hb3) | (with_reducible refine ext_trans ?_ hb2) | (with_reducible refine ext_trans ?_ hb1) | (with_reducible refine ext_trans ?_ hb0) | (with_reducible refine ext_trans ?_ (ext_alloc _ _)) | (with_reducible refine Below.drew ?_) | (with_reducible refine Below.setCell ?_ ?_ _) | (simp; done) | (simp; omega) | omega)) hr3) (by exact Rd.later (by repeat' (first | (with_reducible exact Below.refl _ _) | (with_reducible refine ext_trans ?_ hb5) | (with_reducible refine ext_trans ?_ hb4) | (with_reducible refine ext_trans ?_ hb3) | (with_reducible refine ext_trans ?_ hb2) | (with_reducible refine ext_trans ?_ hb1) | (with_reducible refine ext_trans ?_ hb0) | (with_reducible refine ext_trans ?_ (ext_alloc _ _)) | (with_reducible refine Below.drew ?_) | (with_reducible refine Below.setCell ?_ ?_ _) | (simp; done) | (simp; omega) | omega)) hr5)).mono ?_; rintro e w6 ⟨rfl, hb6⟩; have hkc6 := keeps_cells hb6))
  go_wp2
  go_ret
  exact ⟨rfl, (by repeat' (first | (with_reducible exact Below.refl _ _) | (with_reducible refine ext_trans ?_ hb6) | (with_reducible refine ext_trans ?_ hb5) | (with_reducible refine ext_trans ?_ hb4) | (with_reducible refine ext_trans ?_ hb3) | (with_reducible refine ext_trans ?_ hb2) | (with_reducible refine ext_trans ?_ hb1) | (with_reducible refine ext_trans ?_ hb0) | (with_reducible refine ext_trans ?_ (ext_alloc _ _)) | (with_reducible refine Below.drew ?_) | (with_reducible refine Below.setCell ?_ ?_ _) | (simp; done) | (simp; omega) | omega))⟩
end Go.Proofs.YtjpkdgedglnchaaDoor
