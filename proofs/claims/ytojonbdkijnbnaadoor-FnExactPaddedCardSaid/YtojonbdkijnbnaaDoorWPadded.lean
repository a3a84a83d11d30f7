/-
  What is proved here: the walks of FnExactPadded. The condition 'Tabs' (where it stands) says that the library's tables for UTF-8 lie in the world.
-/
import Derived.Test.YtojonbdkijnbnaaDoorPadded
namespace Go.Proofs.YtojonbdkijnbnaaDoor
open Go.RowKit
set_option linter.unusedVariables false
set_option linter.unusedSimpArgs false

set_option maxHeartbeats 4000000 in
theorem fnExactPadded_walk (W : World) (hT : Tabs W) {v0 : Value} {x0 : ByteArray} {v1 : Value} {x1 : Int} {v2 : Value} {x2 : Bool} {v3 : Value} {x3 : ByteArray} (h0 : Rd.rd (Old W) W [v0] x0) (h1 : Rd.rd (Old W) W [v1] x1) (h2 : Rd.rd (Old W) W [v2] x2) (h3 : Rd.rd (Old W) W [v3] x3) :
    Calls Tryd.prog 5 #[v0, v1, v2, v3] W fun e w' => e = .returned (.bool true) ∧ Below W.heap.size W w' := by
  obtain ⟨e0, b0⟩ := h0
  obtain rfl : v0 = .string x0 := by simpa using e0
  clear e0
  obtain ⟨e1, b1⟩ := h1
  obtain rfl : v1 = .int .i64 x1 := by simpa using e1
  clear e1
  obtain rfl : v2 = .bool x2 := by simpa [Rd.rd] using h2
  obtain ⟨e3, b3⟩ := h3
  obtain rfl : v3 = .string x3 := by simpa using e3
  clear e3
  by_cases hs0 : x0.size ≤ 1048576
  rotate_left
  · go_enter Tryd.func5, Tryd.ntmps5
    go_wp2
    go_ret
    exact ⟨rfl, (by repeat' (first | (with_reducible exact Below.refl _ _) | (with_reducible refine ext_trans ?_ (ext_alloc _ _)) | (with_reducible refine Below.drew ?_) | (with_reducible refine Below.setCell ?_ ?_ _) | (simp; done) | (simp; omega) | omega))⟩
  by_cases hs3 : x3.size ≤ 1048576
  rotate_left
  · go_enter Tryd.func5, Tryd.ntmps5
    go_wp2
    go_ret
    exact ⟨rfl, (by repeat' (first | (with_reducible exact Below.refl _ _) | (with_reducible refine ext_trans ?_ (ext_alloc _ _)) | (with_reducible refine Below.drew ?_) | (with_reducible refine Below.setCell ?_ ?_ _) | (simp; done) | (simp; omega) | omega))⟩
  go_enter Tryd.func5, Tryd.ntmps5
  go_wp2_with fail
  refine (specPadded x0 x1 x2 x3 _  b1).mono ?_
  rintro e w0 ⟨rfl, hb0⟩
  obtain ⟨hc0, hf0⟩ := bcell hb0
  go_wp2_with fail
  refine (implPadded x0 x1 x2 x3 _  b1 (tabs_below hT (by repeat' (first | (with_reducible exact Below.refl _ _) | (with_reducible refine ext_trans ?_ hb0) | (with_reducible refine ext_trans ?_ (ext_alloc _ _)) | (with_reducible refine Below.drew ?_) | (with_reducible refine Below.setCell ?_ ?_ _) | (simp; done) | (simp; omega) | omega)))).mono ?_
  rintro e w1 ⟨rfl, hb1⟩
  obtain ⟨hc1, hf1⟩ := bcell hb1
  go_wp2
  go_ret
  exact ⟨rfl, (by repeat' (first | (with_reducible exact Below.refl _ _) | (with_reducible refine ext_trans ?_ hb1) | (with_reducible refine ext_trans ?_ hb0) | (with_reducible refine ext_trans ?_ (ext_alloc _ _)) | (with_reducible refine Below.drew ?_) | (with_reducible refine Below.setCell ?_ ?_ _) | (simp; done) | (simp; omega) | omega))⟩
end Go.Proofs.YtojonbdkijnbnaaDoor
