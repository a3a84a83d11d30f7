/-
  What is proved here: the walk of FnExactArrPut: it returns true at all arguments. No condition.
-/
import Derived.Test.YtenfpfjpcpmhiaaDoorPutI
import Derived.Test.YtenfpfjpcpmhiaaDoorPutS
namespace Go.Proofs.YtenfpfjpcpmhiaaDoor
open Go.RowKit
set_option linter.unusedVariables false
set_option linter.unusedSimpArgs false

theorem arrPut_cells {x : Arr} (s : ByteArray) (v : Val) (h : x.keys.length ≤ 1048576) : 1 + arrCells (arrPut x s v) ≤ 100000000 := by
  unfold arrCells arrPut arrSet arrFill
  split
  · split
    · simp only [List.length_append, fillK_len, List.length_cons, List.length_nil]; omega
    · simp only [List.length_set, fillK_len]; omega
  · simp only [fillK_len]; omega
def NewX (B bk : Nat) (w : World) : Nat → Prop := fun b => New B w b ∧ b ≠ bk
theorem Live.set {D : Nat → Prop} {wi P : World} {bk j : Nat} (h : Live D wi P) (hbk : ¬ D bk) (v : Value) : Live D wi (P.setCell ⟨bk, j, none⟩ v) :=
  ⟨h.same.trans fun b hb => heap_setCell_other _ _ _ _ (fun e => hbk (by have e' : b = bk := e; rw [← e']; exact hb)), fun b hb => by have := h.lt b hb; simpa [World.setCell] using this⟩
/-- what all the orders of a drawn part share, and the rest from there -/
theorem wp_cut {P : Program} {c : Code} {K : Act → World → Prop} {Q' : Exit → Act → World → Prop} {a : Act} {w : World} (R : Act → Act → World → Prop) (h : c.wp P (Exit.then (R a) (fun _ _ _ => False)) a w) (k : ∀ a' w', R a a' w' → K a' w') : c.wp P (Exit.then K Q') a w :=
  Code.wp_mono (hq := by
    intro e a' w' hR
    cases e with
    | normal => exact k a' w' hR
    | _ => exact hR.elim) (h := h)
theorem tabs_below' {W w w' : World} (h : Tabs w) (h0 : Tabs W) (hb : Below W.heap.size W w') : Tabs w' := tabs_below h0 hb
set_option maxHeartbeats 8000000 in
set_option maxRecDepth 100000 in
theorem fnExactArrPut_walk (W : World) (hT : Tabs W) {cs0 : Array Value} {x0 : Arr} {v1 : Value} {x1 : ByteArray} {cs2 : Array Value} {x2 : Val} (h0 : Rd.rd (Old W) W cs0.toList x0) (h1 : Rd.rd (Old W) W [v1] x1) (h2 : Rd.rd (Old W) W cs2.toList x2) :
    Calls Tryd.prog 3 #[.agg cs0, v1, .agg cs2] W fun e w' => e = .returned (.bool true) ∧ Below W.heap.size W w' := by
  have bP0 := hT
  obtain ⟨a0, c0, a1, c1, hcs0, f0, f1⟩ := rdArr h0
  obtain rfl := arr_of_list hcs0
  clear hcs0 f0 f1
  obtain ⟨hcs2, k0, k1, k2, k3⟩ := rdVal h2
  obtain rfl := arr_of_list hcs2
  clear hcs2
  obtain ⟨e1, b1⟩ := h1
  obtain rfl : v1 = .string x1 := by simpa using e1
  clear e1
  by_cases hs1 : x1.size ≤ 1048576
  rotate_left
  · go_enter Tryd.func3, Tryd.ntmps3
    go_wp2
    go_ret
    exact ⟨rfl, by repeat' (first | (with_reducible exact Below.refl _ _) | (with_reducible refine Below.alloc ?_ ?_ _) | (simp; done) | (simp; omega) | omega)⟩
  by_cases hz0 : (Sz.sz x0 : Int) ≤ 1048576
  rotate_left
  · go_enter Tryd.func3, Tryd.ntmps3
    have bP : Below W.heap.size W W := Below.refl _ _
    have zP : W.heap.size ≤ W.heap.size := Nat.le_refl _
    have LA : Live (Old W) W W := Live.refl fun b hb => hb
    go_wp2_with fail
    obtain ⟨a_A, hw_a_A⟩ : ∃ v, W.alloc (.cells #[.slice a0 x0.keys.length c0, .slice a1 x0.vals.length c1] 25) = v := ⟨_, rfl⟩
    have x_a_A : Below W.heap.size W a_A := by rw [← hw_a_A]; exact ext_alloc _ _
    have z_a_A : W.heap.size < a_A.heap.size := by rw [← hw_a_A]; simp
    have c_A_0 : a_A.cell? ⟨W.heap.size, 0, none⟩ = some (.slice a0 x0.keys.length c0) := by rw [← hw_a_A]; simp
    have c_A_1 : a_A.cell? ⟨W.heap.size, 1, none⟩ = some (.slice a1 x0.vals.length c1) := by rw [← hw_a_A]; simp
    replace hT : Tabs a_A := tabs_below hT x_a_A
    replace bP : Below W.heap.size W a_A := bw_call bP zP x_a_A
    replace LA : Live (Old W) W a_A := LA.call x_a_A
    have y_a_A : W.heap.size ≤ a_A.heap.size := x_a_A.size
    replace zP : W.heap.size ≤ a_A.heap.size := bP.size
    have l_A : W.heap.size < a_A.heap.size := z_a_A
    rw [hw_a_A]
    have s_A : a_A.heap.size = W.heap.size + 1 := by rw [← hw_a_A]; simp
    clear hw_a_A x_a_A
    obtain ⟨a_V, hw_a_V⟩ : ∃ v, a_A.alloc (.cells #[.int .i64 x2.kind, .bool x2.num.neg, .string x2.num.dig, .int .i64 x2.num.exp, .string x2.text] 29) = v := ⟨_, rfl⟩
    have x_a_V : Below a_A.heap.size a_A a_V := by rw [← hw_a_V]; exact ext_alloc _ _
    have z_a_V : a_A.heap.size < a_V.heap.size := by rw [← hw_a_V]; simp
    have c_V_0 : a_V.cell? ⟨a_A.heap.size, 0, none⟩ = some (.int .i64 x2.kind) := by rw [← hw_a_V]; simp
    have c_V_1 : a_V.cell? ⟨a_A.heap.size, 1, none⟩ = some (.bool x2.num.neg) := by rw [← hw_a_V]; simp
    have c_V_2 : a_V.cell? ⟨a_A.heap.size, 2, none⟩ = some (.string x2.num.dig) := by rw [← hw_a_V]; simp
    have c_V_3 : a_V.cell? ⟨a_A.heap.size, 3, none⟩ = some (.int .i64 x2.num.exp) := by rw [← hw_a_V]; simp
    have c_V_4 : a_V.cell? ⟨a_A.heap.size, 4, none⟩ = some (.string x2.text) := by rw [← hw_a_V]; simp
    replace hT : Tabs a_V := tabs_below hT x_a_V
    replace bP : Below W.heap.size W a_V := bw_call bP zP x_a_V
    replace c_A_0 : a_V.cell? ⟨W.heap.size, 0, none⟩ = some (.slice a0 x0.keys.length c0) := (x_a_V.cell (p := ⟨W.heap.size, 0, none⟩) l_A).trans c_A_0
    replace c_A_1 : a_V.cell? ⟨W.heap.size, 1, none⟩ = some (.slice a1 x0.vals.length c1) := (x_a_V.cell (p := ⟨W.heap.size, 1, none⟩) l_A).trans c_A_1
    replace l_A : W.heap.size < a_V.heap.size := Nat.lt_of_lt_of_le l_A x_a_V.size
    replace LA : Live (Old W) W a_V := LA.call x_a_V
    have y_a_V : a_A.heap.size ≤ a_V.heap.size := x_a_V.size
    replace zP : W.heap.size ≤ a_V.heap.size := bP.size
    have l_V : a_A.heap.size < a_V.heap.size := z_a_V
    rw [hw_a_V]
    clear hw_a_V x_a_V
    rw [s_A] at l_V c_V_0 c_V_1 c_V_2 c_V_3 c_V_4
    have l_s : W.heap.size < a_A.heap.size := by omega
    clear s_A
    refine (szArr_any _ _ (by exact LA.rd h0) (by omega) (by omega)).mono ?_
    rintro e w0 ⟨rfl, hb⟩
    rw [szOut_bad (by omega)]
    replace hT : Tabs w0 := tabs_below hT hb
    replace bP : Below W.heap.size W w0 := bw_call bP zP hb
    replace c_A_0 : w0.cell? ⟨W.heap.size, 0, none⟩ = some (.slice a0 x0.keys.length c0) := (hb.cell (p := ⟨W.heap.size, 0, none⟩) l_A).trans c_A_0
    replace c_A_1 : w0.cell? ⟨W.heap.size, 1, none⟩ = some (.slice a1 x0.vals.length c1) := (hb.cell (p := ⟨W.heap.size, 1, none⟩) l_A).trans c_A_1
    replace c_V_0 : w0.cell? ⟨W.heap.size + 1, 0, none⟩ = some (.int .i64 x2.kind) := (hb.cell (p := ⟨W.heap.size + 1, 0, none⟩) l_V).trans c_V_0
    replace c_V_1 : w0.cell? ⟨W.heap.size + 1, 1, none⟩ = some (.bool x2.num.neg) := (hb.cell (p := ⟨W.heap.size + 1, 1, none⟩) l_V).trans c_V_1
    replace c_V_2 : w0.cell? ⟨W.heap.size + 1, 2, none⟩ = some (.string x2.num.dig) := (hb.cell (p := ⟨W.heap.size + 1, 2, none⟩) l_V).trans c_V_2
    replace c_V_3 : w0.cell? ⟨W.heap.size + 1, 3, none⟩ = some (.int .i64 x2.num.exp) := (hb.cell (p := ⟨W.heap.size + 1, 3, none⟩) l_V).trans c_V_3
    replace c_V_4 : w0.cell? ⟨W.heap.size + 1, 4, none⟩ = some (.string x2.text) := (hb.cell (p := ⟨W.heap.size + 1, 4, none⟩) l_V).trans c_V_4
    replace l_A : W.heap.size < w0.heap.size := Nat.lt_of_lt_of_le l_A hb.size
    replace l_V : W.heap.size + 1 < w0.heap.size := Nat.lt_of_lt_of_le l_V hb.size
    replace LA : Live (Old W) W w0 := LA.call hb
    have y_w0 : a_V.heap.size ≤ w0.heap.size := hb.size
    replace zP : W.heap.size ≤ w0.heap.size := bP.size
    go_wp2
    go_ret
    exact ⟨rfl, bP⟩
  by_cases hz2 : (Sz.sz x0 : Int) + (Sz.sz x2 : Int) ≤ 1048576
  rotate_left
  · go_enter Tryd.func3, Tryd.ntmps3
    have bP : Below W.heap.size W W := Below.refl _ _
    have zP : W.heap.size ≤ W.heap.size := Nat.le_refl _
    have LA : Live (Old W) W W := Live.refl fun b hb => hb
    go_wp2_with fail
    obtain ⟨a_A, hw_a_A⟩ : ∃ v, W.alloc (.cells #[.slice a0 x0.keys.length c0, .slice a1 x0.vals.length c1] 25) = v := ⟨_, rfl⟩
    have x_a_A : Below W.heap.size W a_A := by rw [← hw_a_A]; exact ext_alloc _ _
    have z_a_A : W.heap.size < a_A.heap.size := by rw [← hw_a_A]; simp
    have c_A_0 : a_A.cell? ⟨W.heap.size, 0, none⟩ = some (.slice a0 x0.keys.length c0) := by rw [← hw_a_A]; simp
    have c_A_1 : a_A.cell? ⟨W.heap.size, 1, none⟩ = some (.slice a1 x0.vals.length c1) := by rw [← hw_a_A]; simp
    replace hT : Tabs a_A := tabs_below hT x_a_A
    replace bP : Below W.heap.size W a_A := bw_call bP zP x_a_A
    replace LA : Live (Old W) W a_A := LA.call x_a_A
    have y_a_A : W.heap.size ≤ a_A.heap.size := x_a_A.size
    replace zP : W.heap.size ≤ a_A.heap.size := bP.size
    have l_A : W.heap.size < a_A.heap.size := z_a_A
    rw [hw_a_A]
    have s_A : a_A.heap.size = W.heap.size + 1 := by rw [← hw_a_A]; simp
    clear hw_a_A x_a_A
    obtain ⟨a_V, hw_a_V⟩ : ∃ v, a_A.alloc (.cells #[.int .i64 x2.kind, .bool x2.num.neg, .string x2.num.dig, .int .i64 x2.num.exp, .string x2.text] 29) = v := ⟨_, rfl⟩
    have x_a_V : Below a_A.heap.size a_A a_V := by rw [← hw_a_V]; exact ext_alloc _ _
    have z_a_V : a_A.heap.size < a_V.heap.size := by rw [← hw_a_V]; simp
    have c_V_0 : a_V.cell? ⟨a_A.heap.size, 0, none⟩ = some (.int .i64 x2.kind) := by rw [← hw_a_V]; simp
    have c_V_1 : a_V.cell? ⟨a_A.heap.size, 1, none⟩ = some (.bool x2.num.neg) := by rw [← hw_a_V]; simp
    have c_V_2 : a_V.cell? ⟨a_A.heap.size, 2, none⟩ = some (.string x2.num.dig) := by rw [← hw_a_V]; simp
    have c_V_3 : a_V.cell? ⟨a_A.heap.size, 3, none⟩ = some (.int .i64 x2.num.exp) := by rw [← hw_a_V]; simp
    have c_V_4 : a_V.cell? ⟨a_A.heap.size, 4, none⟩ = some (.string x2.text) := by rw [← hw_a_V]; simp
    replace hT : Tabs a_V := tabs_below hT x_a_V
    replace bP : Below W.heap.size W a_V := bw_call bP zP x_a_V
    replace c_A_0 : a_V.cell? ⟨W.heap.size, 0, none⟩ = some (.slice a0 x0.keys.length c0) := (x_a_V.cell (p := ⟨W.heap.size, 0, none⟩) l_A).trans c_A_0
    replace c_A_1 : a_V.cell? ⟨W.heap.size, 1, none⟩ = some (.slice a1 x0.vals.length c1) := (x_a_V.cell (p := ⟨W.heap.size, 1, none⟩) l_A).trans c_A_1
    replace l_A : W.heap.size < a_V.heap.size := Nat.lt_of_lt_of_le l_A x_a_V.size
    replace LA : Live (Old W) W a_V := LA.call x_a_V
    have y_a_V : a_A.heap.size ≤ a_V.heap.size := x_a_V.size
    replace zP : W.heap.size ≤ a_V.heap.size := bP.size
    have l_V : a_A.heap.size < a_V.heap.size := z_a_V
    rw [hw_a_V]
    clear hw_a_V x_a_V
    rw [s_A] at l_V c_V_0 c_V_1 c_V_2 c_V_3 c_V_4
    have l_s : W.heap.size < a_A.heap.size := by omega
    clear s_A
    refine (szArr_any _ _ (by exact LA.rd h0) (by omega) (by omega)).mono ?_
    rintro e w0 ⟨rfl, hb⟩
    rw [szOut_val (by omega)]
    replace hT : Tabs w0 := tabs_below hT hb
    replace bP : Below W.heap.size W w0 := bw_call bP zP hb
    replace c_A_0 : w0.cell? ⟨W.heap.size, 0, none⟩ = some (.slice a0 x0.keys.length c0) := (hb.cell (p := ⟨W.heap.size, 0, none⟩) l_A).trans c_A_0
    replace c_A_1 : w0.cell? ⟨W.heap.size, 1, none⟩ = some (.slice a1 x0.vals.length c1) := (hb.cell (p := ⟨W.heap.size, 1, none⟩) l_A).trans c_A_1
    replace c_V_0 : w0.cell? ⟨W.heap.size + 1, 0, none⟩ = some (.int .i64 x2.kind) := (hb.cell (p := ⟨W.heap.size + 1, 0, none⟩) l_V).trans c_V_0
    replace c_V_1 : w0.cell? ⟨W.heap.size + 1, 1, none⟩ = some (.bool x2.num.neg) := (hb.cell (p := ⟨W.heap.size + 1, 1, none⟩) l_V).trans c_V_1
    replace c_V_2 : w0.cell? ⟨W.heap.size + 1, 2, none⟩ = some (.string x2.num.dig) := (hb.cell (p := ⟨W.heap.size + 1, 2, none⟩) l_V).trans c_V_2
    replace c_V_3 : w0.cell? ⟨W.heap.size + 1, 3, none⟩ = some (.int .i64 x2.num.exp) := (hb.cell (p := ⟨W.heap.size + 1, 3, none⟩) l_V).trans c_V_3
    replace c_V_4 : w0.cell? ⟨W.heap.size + 1, 4, none⟩ = some (.string x2.text) := (hb.cell (p := ⟨W.heap.size + 1, 4, none⟩) l_V).trans c_V_4
    replace l_A : W.heap.size < w0.heap.size := Nat.lt_of_lt_of_le l_A hb.size
    replace l_V : W.heap.size + 1 < w0.heap.size := Nat.lt_of_lt_of_le l_V hb.size
    replace LA : Live (Old W) W w0 := LA.call hb
    have y_w0 : a_V.heap.size ≤ w0.heap.size := hb.size
    replace zP : W.heap.size ≤ w0.heap.size := bP.size
    clear hb
    go_wp2_with fail
    refine (szVal_any _ _ (by exact LA.rd h2) (by omega) (by omega)).mono ?_
    rintro e wz ⟨rfl, hb⟩
    rw [szOut_bad (by omega)]
    replace hT : Tabs wz := tabs_below hT hb
    replace bP : Below W.heap.size W wz := bw_call bP zP hb
    replace c_A_0 : wz.cell? ⟨W.heap.size, 0, none⟩ = some (.slice a0 x0.keys.length c0) := (hb.cell (p := ⟨W.heap.size, 0, none⟩) l_A).trans c_A_0
    replace c_A_1 : wz.cell? ⟨W.heap.size, 1, none⟩ = some (.slice a1 x0.vals.length c1) := (hb.cell (p := ⟨W.heap.size, 1, none⟩) l_A).trans c_A_1
    replace c_V_0 : wz.cell? ⟨W.heap.size + 1, 0, none⟩ = some (.int .i64 x2.kind) := (hb.cell (p := ⟨W.heap.size + 1, 0, none⟩) l_V).trans c_V_0
    replace c_V_1 : wz.cell? ⟨W.heap.size + 1, 1, none⟩ = some (.bool x2.num.neg) := (hb.cell (p := ⟨W.heap.size + 1, 1, none⟩) l_V).trans c_V_1
    replace c_V_2 : wz.cell? ⟨W.heap.size + 1, 2, none⟩ = some (.string x2.num.dig) := (hb.cell (p := ⟨W.heap.size + 1, 2, none⟩) l_V).trans c_V_2
    replace c_V_3 : wz.cell? ⟨W.heap.size + 1, 3, none⟩ = some (.int .i64 x2.num.exp) := (hb.cell (p := ⟨W.heap.size + 1, 3, none⟩) l_V).trans c_V_3
    replace c_V_4 : wz.cell? ⟨W.heap.size + 1, 4, none⟩ = some (.string x2.text) := (hb.cell (p := ⟨W.heap.size + 1, 4, none⟩) l_V).trans c_V_4
    replace l_A : W.heap.size < wz.heap.size := Nat.lt_of_lt_of_le l_A hb.size
    replace l_V : W.heap.size + 1 < wz.heap.size := Nat.lt_of_lt_of_le l_V hb.size
    replace LA : Live (Old W) W wz := LA.call hb
    have y_wz : w0.heap.size ≤ wz.heap.size := hb.size
    replace zP : W.heap.size ≤ wz.heap.size := bP.size
    go_wp2
    go_ret
    exact ⟨rfl, bP⟩
  go_enter Tryd.func3, Tryd.ntmps3
  have bP : Below W.heap.size W W := Below.refl _ _
  have zP : W.heap.size ≤ W.heap.size := Nat.le_refl _
  have LA : Live (Old W) W W := Live.refl fun b hb => hb
  go_wp2_with fail
  obtain ⟨a_A, hw_a_A⟩ : ∃ v, W.alloc (.cells #[.slice a0 x0.keys.length c0, .slice a1 x0.vals.length c1] 25) = v := ⟨_, rfl⟩
  have x_a_A : Below W.heap.size W a_A := by rw [← hw_a_A]; exact ext_alloc _ _
  have z_a_A : W.heap.size < a_A.heap.size := by rw [← hw_a_A]; simp
  have c_A_0 : a_A.cell? ⟨W.heap.size, 0, none⟩ = some (.slice a0 x0.keys.length c0) := by rw [← hw_a_A]; simp
  have c_A_1 : a_A.cell? ⟨W.heap.size, 1, none⟩ = some (.slice a1 x0.vals.length c1) := by rw [← hw_a_A]; simp
  replace hT : Tabs a_A := tabs_below hT x_a_A
  replace bP : Below W.heap.size W a_A := bw_call bP zP x_a_A
  replace LA : Live (Old W) W a_A := LA.call x_a_A
  have y_a_A : W.heap.size ≤ a_A.heap.size := x_a_A.size
  replace zP : W.heap.size ≤ a_A.heap.size := bP.size
  have l_A : W.heap.size < a_A.heap.size := z_a_A
  rw [hw_a_A]
  have s_A : a_A.heap.size = W.heap.size + 1 := by rw [← hw_a_A]; simp
  clear hw_a_A x_a_A
  obtain ⟨a_V, hw_a_V⟩ : ∃ v, a_A.alloc (.cells #[.int .i64 x2.kind, .bool x2.num.neg, .string x2.num.dig, .int .i64 x2.num.exp, .string x2.text] 29) = v := ⟨_, rfl⟩
  have x_a_V : Below a_A.heap.size a_A a_V := by rw [← hw_a_V]; exact ext_alloc _ _
  have z_a_V : a_A.heap.size < a_V.heap.size := by rw [← hw_a_V]; simp
  have c_V_0 : a_V.cell? ⟨a_A.heap.size, 0, none⟩ = some (.int .i64 x2.kind) := by rw [← hw_a_V]; simp
  have c_V_1 : a_V.cell? ⟨a_A.heap.size, 1, none⟩ = some (.bool x2.num.neg) := by rw [← hw_a_V]; simp
  have c_V_2 : a_V.cell? ⟨a_A.heap.size, 2, none⟩ = some (.string x2.num.dig) := by rw [← hw_a_V]; simp
  have c_V_3 : a_V.cell? ⟨a_A.heap.size, 3, none⟩ = some (.int .i64 x2.num.exp) := by rw [← hw_a_V]; simp
  have c_V_4 : a_V.cell? ⟨a_A.heap.size, 4, none⟩ = some (.string x2.text) := by rw [← hw_a_V]; simp
  replace hT : Tabs a_V := tabs_below hT x_a_V
  replace bP : Below W.heap.size W a_V := bw_call bP zP x_a_V
  replace c_A_0 : a_V.cell? ⟨W.heap.size, 0, none⟩ = some (.slice a0 x0.keys.length c0) := (x_a_V.cell (p := ⟨W.heap.size, 0, none⟩) l_A).trans c_A_0
  replace c_A_1 : a_V.cell? ⟨W.heap.size, 1, none⟩ = some (.slice a1 x0.vals.length c1) := (x_a_V.cell (p := ⟨W.heap.size, 1, none⟩) l_A).trans c_A_1
  replace l_A : W.heap.size < a_V.heap.size := Nat.lt_of_lt_of_le l_A x_a_V.size
  replace LA : Live (Old W) W a_V := LA.call x_a_V
  have y_a_V : a_A.heap.size ≤ a_V.heap.size := x_a_V.size
  replace zP : W.heap.size ≤ a_V.heap.size := bP.size
  have l_V : a_A.heap.size < a_V.heap.size := z_a_V
  rw [hw_a_V]
  clear hw_a_V x_a_V
  rw [s_A] at l_V c_V_0 c_V_1 c_V_2 c_V_3 c_V_4
  have l_s : W.heap.size < a_A.heap.size := by omega
  clear s_A
  refine (szArr_any _ _ (by exact LA.rd h0) (by omega) (by omega)).mono ?_
  rintro e w0 ⟨rfl, hb⟩
  rw [szOut_val (by omega)]
  replace hT : Tabs w0 := tabs_below hT hb
  replace bP : Below W.heap.size W w0 := bw_call bP zP hb
  replace c_A_0 : w0.cell? ⟨W.heap.size, 0, none⟩ = some (.slice a0 x0.keys.length c0) := (hb.cell (p := ⟨W.heap.size, 0, none⟩) l_A).trans c_A_0
  replace c_A_1 : w0.cell? ⟨W.heap.size, 1, none⟩ = some (.slice a1 x0.vals.length c1) := (hb.cell (p := ⟨W.heap.size, 1, none⟩) l_A).trans c_A_1
  replace c_V_0 : w0.cell? ⟨W.heap.size + 1, 0, none⟩ = some (.int .i64 x2.kind) := (hb.cell (p := ⟨W.heap.size + 1, 0, none⟩) l_V).trans c_V_0
  replace c_V_1 : w0.cell? ⟨W.heap.size + 1, 1, none⟩ = some (.bool x2.num.neg) := (hb.cell (p := ⟨W.heap.size + 1, 1, none⟩) l_V).trans c_V_1
  replace c_V_2 : w0.cell? ⟨W.heap.size + 1, 2, none⟩ = some (.string x2.num.dig) := (hb.cell (p := ⟨W.heap.size + 1, 2, none⟩) l_V).trans c_V_2
  replace c_V_3 : w0.cell? ⟨W.heap.size + 1, 3, none⟩ = some (.int .i64 x2.num.exp) := (hb.cell (p := ⟨W.heap.size + 1, 3, none⟩) l_V).trans c_V_3
  replace c_V_4 : w0.cell? ⟨W.heap.size + 1, 4, none⟩ = some (.string x2.text) := (hb.cell (p := ⟨W.heap.size + 1, 4, none⟩) l_V).trans c_V_4
  replace l_A : W.heap.size < w0.heap.size := Nat.lt_of_lt_of_le l_A hb.size
  replace l_V : W.heap.size + 1 < w0.heap.size := Nat.lt_of_lt_of_le l_V hb.size
  replace LA : Live (Old W) W w0 := LA.call hb
  have y_w0 : a_V.heap.size ≤ w0.heap.size := hb.size
  replace zP : W.heap.size ≤ w0.heap.size := bP.size
  clear hb
  go_wp2_with fail
  refine (szVal_any _ _ (by exact LA.rd h2) (by omega) (by omega)).mono ?_
  rintro e wz ⟨rfl, hb⟩
  rw [szOut_val (by omega)]
  replace hT : Tabs wz := tabs_below hT hb
  replace bP : Below W.heap.size W wz := bw_call bP zP hb
  replace c_A_0 : wz.cell? ⟨W.heap.size, 0, none⟩ = some (.slice a0 x0.keys.length c0) := (hb.cell (p := ⟨W.heap.size, 0, none⟩) l_A).trans c_A_0
  replace c_A_1 : wz.cell? ⟨W.heap.size, 1, none⟩ = some (.slice a1 x0.vals.length c1) := (hb.cell (p := ⟨W.heap.size, 1, none⟩) l_A).trans c_A_1
  replace c_V_0 : wz.cell? ⟨W.heap.size + 1, 0, none⟩ = some (.int .i64 x2.kind) := (hb.cell (p := ⟨W.heap.size + 1, 0, none⟩) l_V).trans c_V_0
  replace c_V_1 : wz.cell? ⟨W.heap.size + 1, 1, none⟩ = some (.bool x2.num.neg) := (hb.cell (p := ⟨W.heap.size + 1, 1, none⟩) l_V).trans c_V_1
  replace c_V_2 : wz.cell? ⟨W.heap.size + 1, 2, none⟩ = some (.string x2.num.dig) := (hb.cell (p := ⟨W.heap.size + 1, 2, none⟩) l_V).trans c_V_2
  replace c_V_3 : wz.cell? ⟨W.heap.size + 1, 3, none⟩ = some (.int .i64 x2.num.exp) := (hb.cell (p := ⟨W.heap.size + 1, 3, none⟩) l_V).trans c_V_3
  replace c_V_4 : wz.cell? ⟨W.heap.size + 1, 4, none⟩ = some (.string x2.text) := (hb.cell (p := ⟨W.heap.size + 1, 4, none⟩) l_V).trans c_V_4
  replace l_A : W.heap.size < wz.heap.size := Nat.lt_of_lt_of_le l_A hb.size
  replace l_V : W.heap.size + 1 < wz.heap.size := Nat.lt_of_lt_of_le l_V hb.size
  replace LA : Live (Old W) W wz := LA.call hb
  have y_wz : w0.heap.size ≤ wz.heap.size := hb.size
  replace zP : W.heap.size ≤ wz.heap.size := bP.size
  clear hb
  have hzz0 : Sz.sz x0 ≤ 1048576 := by omega
  have hzz2 : Sz.sz x2 ≤ 1048576 := by omega
  obtain ⟨hlk, hlv, hmk0⟩ := arr_cells hzz0
  obtain ⟨D, hD⟩ : ∃ D, arrPut x0 x1 x2 = D := ⟨_, rfl⟩
  obtain ⟨q, hq⟩ : ∃ q, putOk x0 x1 x2 = q := ⟨_, rfl⟩
  have hmkD : 1 + arrCells D ≤ 100000000 := by rw [← hD]; exact arrPut_cells x1 x2 hlk
  have hsD := hid (fun (P : World) (cs ys : Array Value) (h : Rd.rd (Old P) P cs.toList x0) (hy : Rd.rd (Old P) P ys.toList x2) => specPut x1 P h hy hlk (hid (by omega)))
  have hiD := hid (fun (P : World) (cs ys : Array Value) (h : Rd.rd (Old P) P cs.toList x0) (hy : Rd.rd (Old P) P ys.toList x2) (hT : Tabs P) => implPut x1 P h hy hlk (hid (by omega)) hT)
  rw [hD, hq] at hsD hiD
  clear hD hq
  have hqq : (q != q) = false := by simp
  go_wp2_with fail
  obtain ⟨RR, hRR⟩ : ∃ RR : Act → Act → World → Prop, RR = (fun a a' w' => ∃ (bk : Nat) (ua : Option Addr) (uc : Nat) (va : Option Addr) (vc : Nat) (z32 z33 z34 z35 z36 z37 z31 z38 z39 : Value), a' = (((((((((((a.put (some 32) z32).put (some 33) z33).put (some 34) z34).put (some 35) z35).put (some 36) z36).put (some 37) z37).put (some 31) z31).put (some 38) z38).put (some 39) z39).put (some 8) (.pointer (some ⟨bk, 0, none⟩))).put (some 9) (.bool q)) ∧ wz.heap.size ≤ bk ∧ bk < w'.heap.size ∧ Below wz.heap.size wz w' ∧ w'.cell? ⟨bk, 0, none⟩ = some (.slice ua D.keys.length uc) ∧ w'.cell? ⟨bk, 1, none⟩ = some (.slice va D.vals.length vc) ∧ Rd.rd (NewX wz.heap.size bk w') w' (#[.slice ua D.keys.length uc, .slice va D.vals.length vc] : Array Value).toList D) := ⟨_, rfl⟩
  have HRR := hid hRR
  clear hRR
  refine wp_cut RR ?_ ?_
  · refine wp_region_held_drew (S := fun w' => Below wz.heap.size wz w') (by kernel_rfl) ?_ (fun hHeld => ?_)
    · exact Below.drew (Below.refl _ _)
    refine wpAnyH_take (i := 0) (v := ?_) rfl (by kernel_rfl) (by kernel_rfl) (by kernel_rfl) (fun _ _ _ h => h) (Or.inl ⟨by rfl, ?_⟩) (by assumption) ?_
    rotate_left
    · (intro w' hSw; (try dsimp only at hSw); (have q0 := (hSw.cell (p := ⟨W.heap.size, 0, none⟩) l_A).trans c_A_0; have q1 := (hSw.cell (p := ⟨W.heap.size, 1, none⟩) l_A).trans c_A_1); go_simp; try (with_reducible rfl))
    change wpAnyH _ _ _ _ _ _ _ (Act.put _ (some 32) _) _
    try simp only [Act.put, List.setIfInBounds_toArray, List.set_cons_zero, List.set_cons_succ]
    refine wpAnyH_take (i := 2) (v := ?_) rfl (by kernel_rfl) (by kernel_rfl) (by kernel_rfl) (fun _ _ _ h => h) (Or.inl ⟨by rfl, ?_⟩) (by assumption) ?_
    rotate_left
    · (intro w' hSw; (try dsimp only at hSw); go_simp; try (with_reducible rfl))
    change wpAnyH _ _ _ _ _ _ _ (Act.put _ (some 34) _) _
    try simp only [Act.put, List.setIfInBounds_toArray, List.set_cons_zero, List.set_cons_succ]
    refine wpAnyH_take (i := 3) (v := ?_) rfl (by kernel_rfl) (by kernel_rfl) (by kernel_rfl) (fun _ _ _ h => h) (Or.inl ⟨by rfl, ?_⟩) (by assumption) ?_
    rotate_left
    · (intro w' hSw; (try dsimp only at hSw); (have q0 := (hSw.cell (p := ⟨W.heap.size + 1, 0, none⟩) l_V).trans c_V_0; have q1 := (hSw.cell (p := ⟨W.heap.size + 1, 1, none⟩) l_V).trans c_V_1; have q2 := (hSw.cell (p := ⟨W.heap.size + 1, 2, none⟩) l_V).trans c_V_2; have q3 := (hSw.cell (p := ⟨W.heap.size + 1, 3, none⟩) l_V).trans c_V_3; have q4 := (hSw.cell (p := ⟨W.heap.size + 1, 4, none⟩) l_V).trans c_V_4); go_simp; try (with_reducible rfl))
    change wpAnyH _ _ _ _ _ _ _ (Act.put _ (some 35) _) _
    try simp only [Act.put, List.setIfInBounds_toArray, List.set_cons_zero, List.set_cons_succ]
    refine wpAnyH_ready (rs := [1, 9]) (by kernel_rfl) (by simp) ?_
    refine AllReadyH.cons (i := 1) rfl (fun K hK => ?_) ?_
    · simp only [List.getElem_toArray, List.getElem_cons_succ, List.getElem_cons_zero]
      rw [if_pos (by rfl)]
      go_simp
      (go_at_call 9; refine (toArr_any _ (by exact (LA.call hHeld).rd h0) hzz0).mono ?_; rintro e tA ⟨qA, rfl, hrA, hbA⟩; go_wp2_with fail)
      have LvA : Live (New wz.heap.size tA) tA tA := Live.refl fun b hb => hb.2
      obtain ⟨sAa, sAc, sAb, sAd, hcs, _, _⟩ := rdArr hrA
      obtain rfl := arr_of_list hcs
      clear hcs
      refine hK.out _ _ ?_ (fun hHeld => ?_)
      · ((try dsimp only); exact ext_trans hHeld hbA)
      clear hK K
      try simp only [Act.put, List.setIfInBounds_toArray, List.set_cons_zero, List.set_cons_succ]
      refine wpAnyH_ready (rs := [4, 9]) (by kernel_rfl) (by simp) ?_
      refine AllReadyH.cons (i := 4) rfl (fun K hK => ?_) ?_
      · simp only [List.getElem_toArray, List.getElem_cons_succ, List.getElem_cons_zero]
        rw [if_pos (by rfl)]
        go_simp
        (go_at_call 10; refine (toVal_any _ (by exact (LA.call hHeld).rd h2) hzz2).mono ?_; rintro e tV ⟨qV, rfl, hrV, hbV⟩; go_wp2_with fail)
        replace LvA := LvA.call hbV
        have LvV : Live (New tA.heap.size tV) tV tV := Live.refl fun b hb => hb.2
        obtain ⟨hcsV, _⟩ := rdVal hrV
        obtain rfl := arr_of_list hcsV
        clear hcsV
        refine hK.out _ _ ?_ (fun hHeld => ?_)
        · ((try dsimp only); exact ext_trans hHeld hbV)
        clear hK K
        try simp only [Act.put, List.setIfInBounds_toArray, List.set_cons_zero, List.set_cons_succ]
        refine wpAnyH_ready (rs := [5, 9]) (by kernel_rfl) (by simp) ?_
        refine AllReadyH.cons (i := 5) rfl (fun K hK => ?_) ?_
        · simp only [List.getElem_toArray, List.getElem_cons_succ, List.getElem_cons_zero]
          rw [if_pos (by rfl)]
          go_simp
          (go_at_call 8; refine (hsD.out _ _ _ (by exact (LvA.rd hrA)) (by exact LvV.rd hrV)).mono ?_; rintro e tC ⟨qC, rfl, hrC, hbC⟩; go_wp2_with fail)
          have nC : wz.heap.size ≤ tV.heap.size := hHeld.size
          replace LvA := LvA.call hbC
          replace LvV := LvV.call hbC
          have LvC : Live (New tV.heap.size tC) tC tC := Live.refl fun b hb => hb.2
          obtain ⟨sCa, sCc, sCb, sCd, hcs, _, _⟩ := rdArr hrC
          obtain rfl := arr_of_list hcs
          clear hcs
          refine hK.out _ _ ?_ (fun hHeld => ?_)
          · ((try dsimp only); exact ext_trans hHeld hbC)
          clear hK K
          try simp only [Act.put, List.setIfInBounds_toArray, List.set_cons_zero, List.set_cons_succ]
          refine wpAnyH_take (i := 6) (v := ?_) rfl (by kernel_rfl) (by kernel_rfl) (by kernel_rfl) (fun _ _ _ h => h) (Or.inl ⟨by rfl, ?_⟩) (by assumption) ?_
          rotate_left
          · (intro w' hSw; (try dsimp only at hSw); go_simp; try (with_reducible rfl))
          change wpAnyH _ _ _ _ _ _ _ (Act.put _ (some 31) _) _
          try simp only [Act.put, List.setIfInBounds_toArray, List.set_cons_zero, List.set_cons_succ]
          refine wpAnyH_take (i := 7) (v := ?_) rfl (by kernel_rfl) (by kernel_rfl) (by kernel_rfl) (fun _ _ _ h => h) (Or.inl ⟨by rfl, ?_⟩) (by assumption) ?_
          rotate_left
          · (intro w' hSw; (try dsimp only at hSw); go_simp; try (with_reducible rfl))
          change wpAnyH _ _ _ _ _ _ _ (Act.put _ (some 38) _) _
          try simp only [Act.put, List.setIfInBounds_toArray, List.set_cons_zero, List.set_cons_succ]
          refine wpAnyH_take (i := 8) (v := ?_) rfl (by kernel_rfl) (by kernel_rfl) (by kernel_rfl) (fun _ _ _ h => h) (Or.inl ⟨by rfl, ?_⟩) (by assumption) ?_
          rotate_left
          · (intro w' hSw; (try dsimp only at hSw); go_simp; try (with_reducible rfl))
          change wpAnyH _ _ _ _ _ _ _ (Act.put _ (some 39) _) _
          try simp only [Act.put, List.setIfInBounds_toArray, List.set_cons_zero, List.set_cons_succ]
          refine wpAnyH_ready (rs := [9]) (by kernel_rfl) (by simp) ?_
          refine AllReadyH.cons (i := 9) rfl (fun K hK => ?_) AllReadyH.nil
          simp only [List.getElem_toArray, List.getElem_cons_succ, List.getElem_cons_zero]
          rw [if_pos (by rfl)]
          go_simp
          obtain ⟨tN, hwN⟩ : ∃ v, tC.alloc (.cells #[.slice none 0 0, .slice none 0 0] 34) = v := ⟨_, rfl⟩
          have hbN : Below tC.heap.size tC tN := by rw [← hwN]; exact ext_alloc _ _
          have gle : wz.heap.size ≤ tC.heap.size := hHeld.size
          have gl : tC.heap.size < tN.heap.size := by rw [← hwN]; first | (simp; done) | (show _ < (World.alloc _ _).heap.size; simp)
          have g0 : tN.cell? ⟨tC.heap.size, 0, none⟩ = some (.slice none 0 0) := by rw [← hwN]; first | (simp; done) | (go_simp; done)
          have gz0 : tN.frozen? ⟨tC.heap.size, 0, none⟩ = false := by rw [← hwN]; first | (simp; done) | (go_simp; done)
          have g1 : tN.cell? ⟨tC.heap.size, 1, none⟩ = some (.slice none 0 0) := by rw [← hwN]; first | (simp; done) | (go_simp; done)
          have gz1 : tN.frozen? ⟨tC.heap.size, 1, none⟩ = false := by rw [← hwN]; first | (simp; done) | (go_simp; done)
          have hDal : ¬ New tV.heap.size tC tC.heap.size := fun h => absurd h.2 (by omega)
          replace LvA := LvA.call hbN
          replace LvV := LvV.call hbN
          replace LvC := LvC.call hbN
          rw [hwN]
          clear hwN
          refine hK.out _ _ ?_ (fun hHeld => ?_)
          · ((try dsimp only); exact ext_trans hHeld hbN)
          clear hK K
          try simp only [Act.put, List.setIfInBounds_toArray, List.set_cons_zero, List.set_cons_succ]
          refine wpAnyH_ready (rs := [10]) (by kernel_rfl) (by simp) ?_
          refine AllReadyH.cons (i := 10) rfl (fun K hK => ?_) AllReadyH.nil
          simp only [List.getElem_toArray, List.getElem_cons_succ, List.getElem_cons_zero]
          rw [if_pos (by rfl)]
          go_simp
          refine hK.out _ _ ?_ (fun hHeld => ?_)
          · ((try dsimp only); exact Below.setCell (Below.setCell hHeld gle _) gle _)
          clear hK K
          try simp only [Act.put, List.setIfInBounds_toArray, List.set_cons_zero, List.set_cons_succ]
          refine wpAnyH_take (i := 11) (v := ?_) rfl (by kernel_rfl) (by kernel_rfl) (by kernel_rfl) (fun _ _ _ h => h) (Or.inl ⟨by rfl, ?_⟩) (by assumption) ?_
          rotate_left
          · (intro w' hSw; (try dsimp only at hSw); go_simp; try (with_reducible rfl))
          change wpAnyH _ _ _ _ _ _ _ (Act.put _ (some 9) _) _
          try simp only [Act.put, List.setIfInBounds_toArray, List.set_cons_zero, List.set_cons_succ]
          refine wpAnyH_done (by kernel_rfl) ?_ _
          dsimp only [Exit.then]
          rw [HRR.out]
          have LvF := (LvC.set (j := 0) hDal (.slice sCa D.keys.length sCc)).set (j := 1) hDal (.slice sCb D.vals.length sCd)
          have hDX : ∀ b, New tV.heap.size tC b → NewX wz.heap.size tC.heap.size ((tN.setCell ⟨tC.heap.size, 0, none⟩ (.slice sCa D.keys.length sCc)).setCell ⟨tC.heap.size, 1, none⟩ (.slice sCb D.vals.length sCd)) b := fun b hb => ⟨⟨Nat.le_trans nC hb.1, LvF.lt b hb⟩, fun e => hDal (by rw [← e]; exact hb)⟩
          refine ⟨tC.heap.size, sCa, sCc, sCb, sCd, .agg #[.slice a0 x0.keys.length c0, .slice a1 x0.vals.length c1], .agg #[.slice sAa x0.keys.length sAc, .slice sAb x0.vals.length sAd], .string x1, .agg #[.int .i64 x2.kind, .bool x2.num.neg, .string x2.num.dig, .int .i64 x2.num.exp, .string x2.text], .agg #[.int .i64 x2.kind, .bool x2.num.neg, .string x2.num.dig, .int .i64 x2.num.exp, .string x2.text], .tuple #[.agg #[.slice sCa D.keys.length sCc, .slice sCb D.vals.length sCd], .bool q], .tuple #[.agg #[.slice sCa D.keys.length sCc, .slice sCb D.vals.length sCd], .bool q], .agg #[.slice sCa D.keys.length sCc, .slice sCb D.vals.length sCd], .bool q, ?_, gle, ?_, hHeld, ?_, ?_, ?_⟩
          · simp only [Act.put, List.setIfInBounds_toArray, List.set_cons_zero, List.set_cons_succ]
          · simpa [World.setCell] using gl
          · exact (World.cell?_setCell_other _ _ _ _ (by simp)).trans (World.cell?_setCell_same _ _ _ g0)
          · exact World.cell?_setCell_same _ _ _ ((World.cell?_setCell_other _ _ _ _ (by simp)).trans g1)
          · exact Rd.mono hDX (Rd.same LvF.same hrC)
        refine AllReadyH.cons (i := 9) rfl (fun K hK => ?_) ?_
        · simp only [List.getElem_toArray, List.getElem_cons_succ, List.getElem_cons_zero]
          rw [if_pos (by rfl)]
          go_simp
          obtain ⟨tN, hwN⟩ : ∃ v, tV.alloc (.cells #[.slice none 0 0, .slice none 0 0] 34) = v := ⟨_, rfl⟩
          have hbN : Below tV.heap.size tV tN := by rw [← hwN]; exact ext_alloc _ _
          have gle : wz.heap.size ≤ tV.heap.size := hHeld.size
          have gl : tV.heap.size < tN.heap.size := by rw [← hwN]; first | (simp; done) | (show _ < (World.alloc _ _).heap.size; simp)
          have g0 : tN.cell? ⟨tV.heap.size, 0, none⟩ = some (.slice none 0 0) := by rw [← hwN]; first | (simp; done) | (go_simp; done)
          have gz0 : tN.frozen? ⟨tV.heap.size, 0, none⟩ = false := by rw [← hwN]; first | (simp; done) | (go_simp; done)
          have g1 : tN.cell? ⟨tV.heap.size, 1, none⟩ = some (.slice none 0 0) := by rw [← hwN]; first | (simp; done) | (go_simp; done)
          have gz1 : tN.frozen? ⟨tV.heap.size, 1, none⟩ = false := by rw [← hwN]; first | (simp; done) | (go_simp; done)
          replace LvA := LvA.call hbN
          replace LvV := LvV.call hbN
          rw [hwN]
          clear hwN
          refine hK.out _ _ ?_ (fun hHeld => ?_)
          · ((try dsimp only); exact ext_trans hHeld hbN)
          clear hK K
          try simp only [Act.put, List.setIfInBounds_toArray, List.set_cons_zero, List.set_cons_succ]
          refine wpAnyH_ready (rs := [5]) (by kernel_rfl) (by simp) ?_
          refine AllReadyH.cons (i := 5) rfl (fun K hK => ?_) AllReadyH.nil
          simp only [List.getElem_toArray, List.getElem_cons_succ, List.getElem_cons_zero]
          rw [if_pos (by rfl)]
          go_simp
          (go_at_call 8; refine (hsD.out _ _ _ (by exact (LvA.rd hrA)) (by exact LvV.rd hrV)).mono ?_; rintro e tC ⟨qC, rfl, hrC, hbC⟩; go_wp2_with fail)
          have nC : wz.heap.size ≤ tN.heap.size := hHeld.size
          have hDal : ¬ New tN.heap.size tC tV.heap.size := fun h => absurd h.1 (by omega)
          replace LvA := LvA.call hbC
          replace LvV := LvV.call hbC
          replace g0 := (hbC.cell (p := ⟨tV.heap.size, 0, none⟩) gl).trans g0
          replace g1 := (hbC.cell (p := ⟨tV.heap.size, 1, none⟩) gl).trans g1
          replace gz0 := (hbC.frozen (p := ⟨tV.heap.size, 0, none⟩) gl).trans gz0
          replace gz1 := (hbC.frozen (p := ⟨tV.heap.size, 1, none⟩) gl).trans gz1
          replace gl := Nat.lt_of_lt_of_le gl hbC.size
          have LvC : Live (New tN.heap.size tC) tC tC := Live.refl fun b hb => hb.2
          obtain ⟨sCa, sCc, sCb, sCd, hcs, _, _⟩ := rdArr hrC
          obtain rfl := arr_of_list hcs
          clear hcs
          refine hK.out _ _ ?_ (fun hHeld => ?_)
          · ((try dsimp only); exact ext_trans hHeld hbC)
          clear hK K
          try simp only [Act.put, List.setIfInBounds_toArray, List.set_cons_zero, List.set_cons_succ]
          refine wpAnyH_take (i := 6) (v := ?_) rfl (by kernel_rfl) (by kernel_rfl) (by kernel_rfl) (fun _ _ _ h => h) (Or.inl ⟨by rfl, ?_⟩) (by assumption) ?_
          rotate_left
          · (intro w' hSw; (try dsimp only at hSw); go_simp; try (with_reducible rfl))
          change wpAnyH _ _ _ _ _ _ _ (Act.put _ (some 31) _) _
          try simp only [Act.put, List.setIfInBounds_toArray, List.set_cons_zero, List.set_cons_succ]
          refine wpAnyH_take (i := 7) (v := ?_) rfl (by kernel_rfl) (by kernel_rfl) (by kernel_rfl) (fun _ _ _ h => h) (Or.inl ⟨by rfl, ?_⟩) (by assumption) ?_
          rotate_left
          · (intro w' hSw; (try dsimp only at hSw); go_simp; try (with_reducible rfl))
          change wpAnyH _ _ _ _ _ _ _ (Act.put _ (some 38) _) _
          try simp only [Act.put, List.setIfInBounds_toArray, List.set_cons_zero, List.set_cons_succ]
          refine wpAnyH_take (i := 8) (v := ?_) rfl (by kernel_rfl) (by kernel_rfl) (by kernel_rfl) (fun _ _ _ h => h) (Or.inl ⟨by rfl, ?_⟩) (by assumption) ?_
          rotate_left
          · (intro w' hSw; (try dsimp only at hSw); go_simp; try (with_reducible rfl))
          change wpAnyH _ _ _ _ _ _ _ (Act.put _ (some 39) _) _
          try simp only [Act.put, List.setIfInBounds_toArray, List.set_cons_zero, List.set_cons_succ]
          refine wpAnyH_ready (rs := [10]) (by kernel_rfl) (by simp) ?_
          refine AllReadyH.cons (i := 10) rfl (fun K hK => ?_) AllReadyH.nil
          simp only [List.getElem_toArray, List.getElem_cons_succ, List.getElem_cons_zero]
          rw [if_pos (by rfl)]
          go_simp
          refine hK.out _ _ ?_ (fun hHeld => ?_)
          · ((try dsimp only); exact Below.setCell (Below.setCell hHeld gle _) gle _)
          clear hK K
          try simp only [Act.put, List.setIfInBounds_toArray, List.set_cons_zero, List.set_cons_succ]
          refine wpAnyH_take (i := 11) (v := ?_) rfl (by kernel_rfl) (by kernel_rfl) (by kernel_rfl) (fun _ _ _ h => h) (Or.inl ⟨by rfl, ?_⟩) (by assumption) ?_
          rotate_left
          · (intro w' hSw; (try dsimp only at hSw); go_simp; try (with_reducible rfl))
          change wpAnyH _ _ _ _ _ _ _ (Act.put _ (some 9) _) _
          try simp only [Act.put, List.setIfInBounds_toArray, List.set_cons_zero, List.set_cons_succ]
          refine wpAnyH_done (by kernel_rfl) ?_ _
          dsimp only [Exit.then]
          rw [HRR.out]
          have LvF := (LvC.set (j := 0) hDal (.slice sCa D.keys.length sCc)).set (j := 1) hDal (.slice sCb D.vals.length sCd)
          have hDX : ∀ b, New tN.heap.size tC b → NewX wz.heap.size tV.heap.size ((tC.setCell ⟨tV.heap.size, 0, none⟩ (.slice sCa D.keys.length sCc)).setCell ⟨tV.heap.size, 1, none⟩ (.slice sCb D.vals.length sCd)) b := fun b hb => ⟨⟨Nat.le_trans nC hb.1, LvF.lt b hb⟩, fun e => hDal (by rw [← e]; exact hb)⟩
          refine ⟨tV.heap.size, sCa, sCc, sCb, sCd, .agg #[.slice a0 x0.keys.length c0, .slice a1 x0.vals.length c1], .agg #[.slice sAa x0.keys.length sAc, .slice sAb x0.vals.length sAd], .string x1, .agg #[.int .i64 x2.kind, .bool x2.num.neg, .string x2.num.dig, .int .i64 x2.num.exp, .string x2.text], .agg #[.int .i64 x2.kind, .bool x2.num.neg, .string x2.num.dig, .int .i64 x2.num.exp, .string x2.text], .tuple #[.agg #[.slice sCa D.keys.length sCc, .slice sCb D.vals.length sCd], .bool q], .tuple #[.agg #[.slice sCa D.keys.length sCc, .slice sCb D.vals.length sCd], .bool q], .agg #[.slice sCa D.keys.length sCc, .slice sCb D.vals.length sCd], .bool q, ?_, gle, ?_, hHeld, ?_, ?_, ?_⟩
          · simp only [Act.put, List.setIfInBounds_toArray, List.set_cons_zero, List.set_cons_succ]
          · simpa [World.setCell] using gl
          · exact (World.cell?_setCell_other _ _ _ _ (by simp)).trans (World.cell?_setCell_same _ _ _ g0)
          · exact World.cell?_setCell_same _ _ _ ((World.cell?_setCell_other _ _ _ _ (by simp)).trans g1)
          · exact Rd.mono hDX (Rd.same LvF.same hrC)
        exact AllReadyH.nil
      refine AllReadyH.cons (i := 9) rfl (fun K hK => ?_) ?_
      · simp only [List.getElem_toArray, List.getElem_cons_succ, List.getElem_cons_zero]
        rw [if_pos (by rfl)]
        go_simp
        obtain ⟨tN, hwN⟩ : ∃ v, tA.alloc (.cells #[.slice none 0 0, .slice none 0 0] 34) = v := ⟨_, rfl⟩
        have hbN : Below tA.heap.size tA tN := by rw [← hwN]; exact ext_alloc _ _
        have gle : wz.heap.size ≤ tA.heap.size := hHeld.size
        have gl : tA.heap.size < tN.heap.size := by rw [← hwN]; first | (simp; done) | (show _ < (World.alloc _ _).heap.size; simp)
        have g0 : tN.cell? ⟨tA.heap.size, 0, none⟩ = some (.slice none 0 0) := by rw [← hwN]; first | (simp; done) | (go_simp; done)
        have gz0 : tN.frozen? ⟨tA.heap.size, 0, none⟩ = false := by rw [← hwN]; first | (simp; done) | (go_simp; done)
        have g1 : tN.cell? ⟨tA.heap.size, 1, none⟩ = some (.slice none 0 0) := by rw [← hwN]; first | (simp; done) | (go_simp; done)
        have gz1 : tN.frozen? ⟨tA.heap.size, 1, none⟩ = false := by rw [← hwN]; first | (simp; done) | (go_simp; done)
        replace LvA := LvA.call hbN
        rw [hwN]
        clear hwN
        refine hK.out _ _ ?_ (fun hHeld => ?_)
        · ((try dsimp only); exact ext_trans hHeld hbN)
        clear hK K
        try simp only [Act.put, List.setIfInBounds_toArray, List.set_cons_zero, List.set_cons_succ]
        refine wpAnyH_ready (rs := [4]) (by kernel_rfl) (by simp) ?_
        refine AllReadyH.cons (i := 4) rfl (fun K hK => ?_) AllReadyH.nil
        simp only [List.getElem_toArray, List.getElem_cons_succ, List.getElem_cons_zero]
        rw [if_pos (by rfl)]
        go_simp
        (go_at_call 10; refine (toVal_any _ (by exact (LA.call hHeld).rd h2) hzz2).mono ?_; rintro e tV ⟨qV, rfl, hrV, hbV⟩; go_wp2_with fail)
        replace LvA := LvA.call hbV
        replace g0 := (hbV.cell (p := ⟨tA.heap.size, 0, none⟩) gl).trans g0
        replace g1 := (hbV.cell (p := ⟨tA.heap.size, 1, none⟩) gl).trans g1
        replace gz0 := (hbV.frozen (p := ⟨tA.heap.size, 0, none⟩) gl).trans gz0
        replace gz1 := (hbV.frozen (p := ⟨tA.heap.size, 1, none⟩) gl).trans gz1
        replace gl := Nat.lt_of_lt_of_le gl hbV.size
        have LvV : Live (New tN.heap.size tV) tV tV := Live.refl fun b hb => hb.2
        obtain ⟨hcsV, _⟩ := rdVal hrV
        obtain rfl := arr_of_list hcsV
        clear hcsV
        refine hK.out _ _ ?_ (fun hHeld => ?_)
        · ((try dsimp only); exact ext_trans hHeld hbV)
        clear hK K
        try simp only [Act.put, List.setIfInBounds_toArray, List.set_cons_zero, List.set_cons_succ]
        refine wpAnyH_ready (rs := [5]) (by kernel_rfl) (by simp) ?_
        refine AllReadyH.cons (i := 5) rfl (fun K hK => ?_) AllReadyH.nil
        simp only [List.getElem_toArray, List.getElem_cons_succ, List.getElem_cons_zero]
        rw [if_pos (by rfl)]
        go_simp
        (go_at_call 8; refine (hsD.out _ _ _ (by exact (LvA.rd hrA)) (by exact LvV.rd hrV)).mono ?_; rintro e tC ⟨qC, rfl, hrC, hbC⟩; go_wp2_with fail)
        have nC : wz.heap.size ≤ tV.heap.size := hHeld.size
        have hDal : ¬ New tV.heap.size tC tA.heap.size := fun h => absurd h.1 (by omega)
        replace LvA := LvA.call hbC
        replace LvV := LvV.call hbC
        replace g0 := (hbC.cell (p := ⟨tA.heap.size, 0, none⟩) gl).trans g0
        replace g1 := (hbC.cell (p := ⟨tA.heap.size, 1, none⟩) gl).trans g1
        replace gz0 := (hbC.frozen (p := ⟨tA.heap.size, 0, none⟩) gl).trans gz0
        replace gz1 := (hbC.frozen (p := ⟨tA.heap.size, 1, none⟩) gl).trans gz1
        replace gl := Nat.lt_of_lt_of_le gl hbC.size
        have LvC : Live (New tV.heap.size tC) tC tC := Live.refl fun b hb => hb.2
        obtain ⟨sCa, sCc, sCb, sCd, hcs, _, _⟩ := rdArr hrC
        obtain rfl := arr_of_list hcs
        clear hcs
        refine hK.out _ _ ?_ (fun hHeld => ?_)
        · ((try dsimp only); exact ext_trans hHeld hbC)
        clear hK K
        try simp only [Act.put, List.setIfInBounds_toArray, List.set_cons_zero, List.set_cons_succ]
        refine wpAnyH_take (i := 6) (v := ?_) rfl (by kernel_rfl) (by kernel_rfl) (by kernel_rfl) (fun _ _ _ h => h) (Or.inl ⟨by rfl, ?_⟩) (by assumption) ?_
        rotate_left
        · (intro w' hSw; (try dsimp only at hSw); go_simp; try (with_reducible rfl))
        change wpAnyH _ _ _ _ _ _ _ (Act.put _ (some 31) _) _
        try simp only [Act.put, List.setIfInBounds_toArray, List.set_cons_zero, List.set_cons_succ]
        refine wpAnyH_take (i := 7) (v := ?_) rfl (by kernel_rfl) (by kernel_rfl) (by kernel_rfl) (fun _ _ _ h => h) (Or.inl ⟨by rfl, ?_⟩) (by assumption) ?_
        rotate_left
        · (intro w' hSw; (try dsimp only at hSw); go_simp; try (with_reducible rfl))
        change wpAnyH _ _ _ _ _ _ _ (Act.put _ (some 38) _) _
        try simp only [Act.put, List.setIfInBounds_toArray, List.set_cons_zero, List.set_cons_succ]
        refine wpAnyH_take (i := 8) (v := ?_) rfl (by kernel_rfl) (by kernel_rfl) (by kernel_rfl) (fun _ _ _ h => h) (Or.inl ⟨by rfl, ?_⟩) (by assumption) ?_
        rotate_left
        · (intro w' hSw; (try dsimp only at hSw); go_simp; try (with_reducible rfl))
        change wpAnyH _ _ _ _ _ _ _ (Act.put _ (some 39) _) _
        try simp only [Act.put, List.setIfInBounds_toArray, List.set_cons_zero, List.set_cons_succ]
        refine wpAnyH_ready (rs := [10]) (by kernel_rfl) (by simp) ?_
        refine AllReadyH.cons (i := 10) rfl (fun K hK => ?_) AllReadyH.nil
        simp only [List.getElem_toArray, List.getElem_cons_succ, List.getElem_cons_zero]
        rw [if_pos (by rfl)]
        go_simp
        refine hK.out _ _ ?_ (fun hHeld => ?_)
        · ((try dsimp only); exact Below.setCell (Below.setCell hHeld gle _) gle _)
        clear hK K
        try simp only [Act.put, List.setIfInBounds_toArray, List.set_cons_zero, List.set_cons_succ]
        refine wpAnyH_take (i := 11) (v := ?_) rfl (by kernel_rfl) (by kernel_rfl) (by kernel_rfl) (fun _ _ _ h => h) (Or.inl ⟨by rfl, ?_⟩) (by assumption) ?_
        rotate_left
        · (intro w' hSw; (try dsimp only at hSw); go_simp; try (with_reducible rfl))
        change wpAnyH _ _ _ _ _ _ _ (Act.put _ (some 9) _) _
        try simp only [Act.put, List.setIfInBounds_toArray, List.set_cons_zero, List.set_cons_succ]
        refine wpAnyH_done (by kernel_rfl) ?_ _
        dsimp only [Exit.then]
        rw [HRR.out]
        have LvF := (LvC.set (j := 0) hDal (.slice sCa D.keys.length sCc)).set (j := 1) hDal (.slice sCb D.vals.length sCd)
        have hDX : ∀ b, New tV.heap.size tC b → NewX wz.heap.size tA.heap.size ((tC.setCell ⟨tA.heap.size, 0, none⟩ (.slice sCa D.keys.length sCc)).setCell ⟨tA.heap.size, 1, none⟩ (.slice sCb D.vals.length sCd)) b := fun b hb => ⟨⟨Nat.le_trans nC hb.1, LvF.lt b hb⟩, fun e => hDal (by rw [← e]; exact hb)⟩
        refine ⟨tA.heap.size, sCa, sCc, sCb, sCd, .agg #[.slice a0 x0.keys.length c0, .slice a1 x0.vals.length c1], .agg #[.slice sAa x0.keys.length sAc, .slice sAb x0.vals.length sAd], .string x1, .agg #[.int .i64 x2.kind, .bool x2.num.neg, .string x2.num.dig, .int .i64 x2.num.exp, .string x2.text], .agg #[.int .i64 x2.kind, .bool x2.num.neg, .string x2.num.dig, .int .i64 x2.num.exp, .string x2.text], .tuple #[.agg #[.slice sCa D.keys.length sCc, .slice sCb D.vals.length sCd], .bool q], .tuple #[.agg #[.slice sCa D.keys.length sCc, .slice sCb D.vals.length sCd], .bool q], .agg #[.slice sCa D.keys.length sCc, .slice sCb D.vals.length sCd], .bool q, ?_, gle, ?_, hHeld, ?_, ?_, ?_⟩
        · simp only [Act.put, List.setIfInBounds_toArray, List.set_cons_zero, List.set_cons_succ]
        · simpa [World.setCell] using gl
        · exact (World.cell?_setCell_other _ _ _ _ (by simp)).trans (World.cell?_setCell_same _ _ _ g0)
        · exact World.cell?_setCell_same _ _ _ ((World.cell?_setCell_other _ _ _ _ (by simp)).trans g1)
        · exact Rd.mono hDX (Rd.same LvF.same hrC)
      exact AllReadyH.nil
    refine AllReadyH.cons (i := 9) rfl (fun K hK => ?_) ?_
    · simp only [List.getElem_toArray, List.getElem_cons_succ, List.getElem_cons_zero]
      rw [if_pos (by rfl)]
      go_simp
      obtain ⟨tN, hwN⟩ : ∃ v, (wz.alloc (.cells #[.slice none 0 0, .slice none 0 0] 34)).drew = v := ⟨_, rfl⟩
      have hbN0 : Below wz.heap.size wz tN := by rw [← hwN]; exact Below.drew (ext_alloc _ _)
      have hbN : Below wz.heap.size wz.drew tN := ⟨hbN0.os, hbN0.tape, hbN0.output, hbN0.size, hbN0.block⟩
      have gle : wz.heap.size ≤ wz.heap.size := hHeld.size
      have gl : wz.heap.size < tN.heap.size := by rw [← hwN]; first | (simp; done) | (show _ < (World.alloc _ _).heap.size; simp)
      have g0 : tN.cell? ⟨wz.heap.size, 0, none⟩ = some (.slice none 0 0) := by rw [← hwN]; first | (simp; done) | (go_simp; done)
      have gz0 : tN.frozen? ⟨wz.heap.size, 0, none⟩ = false := by rw [← hwN]; first | (simp; done) | (go_simp; done)
      have g1 : tN.cell? ⟨wz.heap.size, 1, none⟩ = some (.slice none 0 0) := by rw [← hwN]; first | (simp; done) | (go_simp; done)
      have gz1 : tN.frozen? ⟨wz.heap.size, 1, none⟩ = false := by rw [← hwN]; first | (simp; done) | (go_simp; done)
      rw [hwN]
      clear hwN
      refine hK.out _ _ ?_ (fun hHeld => ?_)
      · ((try dsimp only); exact ext_trans hHeld hbN)
      clear hK K
      try simp only [Act.put, List.setIfInBounds_toArray, List.set_cons_zero, List.set_cons_succ]
      refine wpAnyH_ready (rs := [1]) (by kernel_rfl) (by simp) ?_
      refine AllReadyH.cons (i := 1) rfl (fun K hK => ?_) AllReadyH.nil
      simp only [List.getElem_toArray, List.getElem_cons_succ, List.getElem_cons_zero]
      rw [if_pos (by rfl)]
      go_simp
      (go_at_call 9; refine (toArr_any _ (by exact (LA.call hHeld).rd h0) hzz0).mono ?_; rintro e tA ⟨qA, rfl, hrA, hbA⟩; go_wp2_with fail)
      replace g0 := (hbA.cell (p := ⟨wz.heap.size, 0, none⟩) gl).trans g0
      replace g1 := (hbA.cell (p := ⟨wz.heap.size, 1, none⟩) gl).trans g1
      replace gz0 := (hbA.frozen (p := ⟨wz.heap.size, 0, none⟩) gl).trans gz0
      replace gz1 := (hbA.frozen (p := ⟨wz.heap.size, 1, none⟩) gl).trans gz1
      replace gl := Nat.lt_of_lt_of_le gl hbA.size
      have LvA : Live (New tN.heap.size tA) tA tA := Live.refl fun b hb => hb.2
      obtain ⟨sAa, sAc, sAb, sAd, hcs, _, _⟩ := rdArr hrA
      obtain rfl := arr_of_list hcs
      clear hcs
      refine hK.out _ _ ?_ (fun hHeld => ?_)
      · ((try dsimp only); exact ext_trans hHeld hbA)
      clear hK K
      try simp only [Act.put, List.setIfInBounds_toArray, List.set_cons_zero, List.set_cons_succ]
      refine wpAnyH_ready (rs := [4]) (by kernel_rfl) (by simp) ?_
      refine AllReadyH.cons (i := 4) rfl (fun K hK => ?_) AllReadyH.nil
      simp only [List.getElem_toArray, List.getElem_cons_succ, List.getElem_cons_zero]
      rw [if_pos (by rfl)]
      go_simp
      (go_at_call 10; refine (toVal_any _ (by exact (LA.call hHeld).rd h2) hzz2).mono ?_; rintro e tV ⟨qV, rfl, hrV, hbV⟩; go_wp2_with fail)
      replace LvA := LvA.call hbV
      replace g0 := (hbV.cell (p := ⟨wz.heap.size, 0, none⟩) gl).trans g0
      replace g1 := (hbV.cell (p := ⟨wz.heap.size, 1, none⟩) gl).trans g1
      replace gz0 := (hbV.frozen (p := ⟨wz.heap.size, 0, none⟩) gl).trans gz0
      replace gz1 := (hbV.frozen (p := ⟨wz.heap.size, 1, none⟩) gl).trans gz1
      replace gl := Nat.lt_of_lt_of_le gl hbV.size
      have LvV : Live (New tA.heap.size tV) tV tV := Live.refl fun b hb => hb.2
      obtain ⟨hcsV, _⟩ := rdVal hrV
      obtain rfl := arr_of_list hcsV
      clear hcsV
      refine hK.out _ _ ?_ (fun hHeld => ?_)
      · ((try dsimp only); exact ext_trans hHeld hbV)
      clear hK K
      try simp only [Act.put, List.setIfInBounds_toArray, List.set_cons_zero, List.set_cons_succ]
      refine wpAnyH_ready (rs := [5]) (by kernel_rfl) (by simp) ?_
      refine AllReadyH.cons (i := 5) rfl (fun K hK => ?_) AllReadyH.nil
      simp only [List.getElem_toArray, List.getElem_cons_succ, List.getElem_cons_zero]
      rw [if_pos (by rfl)]
      go_simp
      (go_at_call 8; refine (hsD.out _ _ _ (by exact (LvA.rd hrA)) (by exact LvV.rd hrV)).mono ?_; rintro e tC ⟨qC, rfl, hrC, hbC⟩; go_wp2_with fail)
      have nC : wz.heap.size ≤ tV.heap.size := hHeld.size
      have hDal : ¬ New tV.heap.size tC wz.heap.size := fun h => absurd h.1 (by omega)
      replace LvA := LvA.call hbC
      replace LvV := LvV.call hbC
      replace g0 := (hbC.cell (p := ⟨wz.heap.size, 0, none⟩) gl).trans g0
      replace g1 := (hbC.cell (p := ⟨wz.heap.size, 1, none⟩) gl).trans g1
      replace gz0 := (hbC.frozen (p := ⟨wz.heap.size, 0, none⟩) gl).trans gz0
      replace gz1 := (hbC.frozen (p := ⟨wz.heap.size, 1, none⟩) gl).trans gz1
      replace gl := Nat.lt_of_lt_of_le gl hbC.size
      have LvC : Live (New tV.heap.size tC) tC tC := Live.refl fun b hb => hb.2
      obtain ⟨sCa, sCc, sCb, sCd, hcs, _, _⟩ := rdArr hrC
      obtain rfl := arr_of_list hcs
      clear hcs
      refine hK.out _ _ ?_ (fun hHeld => ?_)
      · ((try dsimp only); exact ext_trans hHeld hbC)
      clear hK K
      try simp only [Act.put, List.setIfInBounds_toArray, List.set_cons_zero, List.set_cons_succ]
      refine wpAnyH_take (i := 6) (v := ?_) rfl (by kernel_rfl) (by kernel_rfl) (by kernel_rfl) (fun _ _ _ h => h) (Or.inl ⟨by rfl, ?_⟩) (by assumption) ?_
      rotate_left
      · (intro w' hSw; (try dsimp only at hSw); go_simp; try (with_reducible rfl))
      change wpAnyH _ _ _ _ _ _ _ (Act.put _ (some 31) _) _
      try simp only [Act.put, List.setIfInBounds_toArray, List.set_cons_zero, List.set_cons_succ]
      refine wpAnyH_take (i := 7) (v := ?_) rfl (by kernel_rfl) (by kernel_rfl) (by kernel_rfl) (fun _ _ _ h => h) (Or.inl ⟨by rfl, ?_⟩) (by assumption) ?_
      rotate_left
      · (intro w' hSw; (try dsimp only at hSw); go_simp; try (with_reducible rfl))
      change wpAnyH _ _ _ _ _ _ _ (Act.put _ (some 38) _) _
      try simp only [Act.put, List.setIfInBounds_toArray, List.set_cons_zero, List.set_cons_succ]
      refine wpAnyH_take (i := 8) (v := ?_) rfl (by kernel_rfl) (by kernel_rfl) (by kernel_rfl) (fun _ _ _ h => h) (Or.inl ⟨by rfl, ?_⟩) (by assumption) ?_
      rotate_left
      · (intro w' hSw; (try dsimp only at hSw); go_simp; try (with_reducible rfl))
      change wpAnyH _ _ _ _ _ _ _ (Act.put _ (some 39) _) _
      try simp only [Act.put, List.setIfInBounds_toArray, List.set_cons_zero, List.set_cons_succ]
      refine wpAnyH_ready (rs := [10]) (by kernel_rfl) (by simp) ?_
      refine AllReadyH.cons (i := 10) rfl (fun K hK => ?_) AllReadyH.nil
      simp only [List.getElem_toArray, List.getElem_cons_succ, List.getElem_cons_zero]
      rw [if_pos (by rfl)]
      go_simp
      refine hK.out _ _ ?_ (fun hHeld => ?_)
      · ((try dsimp only); exact Below.setCell (Below.setCell hHeld gle _) gle _)
      clear hK K
      try simp only [Act.put, List.setIfInBounds_toArray, List.set_cons_zero, List.set_cons_succ]
      refine wpAnyH_take (i := 11) (v := ?_) rfl (by kernel_rfl) (by kernel_rfl) (by kernel_rfl) (fun _ _ _ h => h) (Or.inl ⟨by rfl, ?_⟩) (by assumption) ?_
      rotate_left
      · (intro w' hSw; (try dsimp only at hSw); go_simp; try (with_reducible rfl))
      change wpAnyH _ _ _ _ _ _ _ (Act.put _ (some 9) _) _
      try simp only [Act.put, List.setIfInBounds_toArray, List.set_cons_zero, List.set_cons_succ]
      refine wpAnyH_done (by kernel_rfl) ?_ _
      dsimp only [Exit.then]
      rw [HRR.out]
      have LvF := (LvC.set (j := 0) hDal (.slice sCa D.keys.length sCc)).set (j := 1) hDal (.slice sCb D.vals.length sCd)
      have hDX : ∀ b, New tV.heap.size tC b → NewX wz.heap.size wz.heap.size ((tC.setCell ⟨wz.heap.size, 0, none⟩ (.slice sCa D.keys.length sCc)).setCell ⟨wz.heap.size, 1, none⟩ (.slice sCb D.vals.length sCd)) b := fun b hb => ⟨⟨Nat.le_trans nC hb.1, LvF.lt b hb⟩, fun e => hDal (by rw [← e]; exact hb)⟩
      refine ⟨wz.heap.size, sCa, sCc, sCb, sCd, .agg #[.slice a0 x0.keys.length c0, .slice a1 x0.vals.length c1], .agg #[.slice sAa x0.keys.length sAc, .slice sAb x0.vals.length sAd], .string x1, .agg #[.int .i64 x2.kind, .bool x2.num.neg, .string x2.num.dig, .int .i64 x2.num.exp, .string x2.text], .agg #[.int .i64 x2.kind, .bool x2.num.neg, .string x2.num.dig, .int .i64 x2.num.exp, .string x2.text], .tuple #[.agg #[.slice sCa D.keys.length sCc, .slice sCb D.vals.length sCd], .bool q], .tuple #[.agg #[.slice sCa D.keys.length sCc, .slice sCb D.vals.length sCd], .bool q], .agg #[.slice sCa D.keys.length sCc, .slice sCb D.vals.length sCd], .bool q, ?_, gle, ?_, hHeld, ?_, ?_, ?_⟩
      · simp only [Act.put, List.setIfInBounds_toArray, List.set_cons_zero, List.set_cons_succ]
      · simpa [World.setCell] using gl
      · exact (World.cell?_setCell_other _ _ _ _ (by simp)).trans (World.cell?_setCell_same _ _ _ g0)
      · exact World.cell?_setCell_same _ _ _ ((World.cell?_setCell_other _ _ _ _ (by simp)).trans g1)
      · exact Rd.mono hDX (Rd.same LvF.same hrC)
    exact AllReadyH.nil
  intro a' w2 hR
  rw [HRR.out] at hR
  clear HRR
  obtain ⟨bk_w, wa, wc, wb, wd, z32, z33, z34, z35, z36, z37, z31, z38, z39, rfl, hbk_w, hbl_w, hb, m0, m1, hrw⟩ := hR
  try simp only [Act.put, List.setIfInBounds_toArray, List.set_cons_zero, List.set_cons_succ]
  replace hT : Tabs w2 := tabs_below hT hb
  replace bP : Below W.heap.size W w2 := bw_call bP zP hb
  replace c_A_0 : w2.cell? ⟨W.heap.size, 0, none⟩ = some (.slice a0 x0.keys.length c0) := (hb.cell (p := ⟨W.heap.size, 0, none⟩) l_A).trans c_A_0
  replace c_A_1 : w2.cell? ⟨W.heap.size, 1, none⟩ = some (.slice a1 x0.vals.length c1) := (hb.cell (p := ⟨W.heap.size, 1, none⟩) l_A).trans c_A_1
  replace c_V_0 : w2.cell? ⟨W.heap.size + 1, 0, none⟩ = some (.int .i64 x2.kind) := (hb.cell (p := ⟨W.heap.size + 1, 0, none⟩) l_V).trans c_V_0
  replace c_V_1 : w2.cell? ⟨W.heap.size + 1, 1, none⟩ = some (.bool x2.num.neg) := (hb.cell (p := ⟨W.heap.size + 1, 1, none⟩) l_V).trans c_V_1
  replace c_V_2 : w2.cell? ⟨W.heap.size + 1, 2, none⟩ = some (.string x2.num.dig) := (hb.cell (p := ⟨W.heap.size + 1, 2, none⟩) l_V).trans c_V_2
  replace c_V_3 : w2.cell? ⟨W.heap.size + 1, 3, none⟩ = some (.int .i64 x2.num.exp) := (hb.cell (p := ⟨W.heap.size + 1, 3, none⟩) l_V).trans c_V_3
  replace c_V_4 : w2.cell? ⟨W.heap.size + 1, 4, none⟩ = some (.string x2.text) := (hb.cell (p := ⟨W.heap.size + 1, 4, none⟩) l_V).trans c_V_4
  replace l_A : W.heap.size < w2.heap.size := Nat.lt_of_lt_of_le l_A hb.size
  replace l_V : W.heap.size + 1 < w2.heap.size := Nat.lt_of_lt_of_le l_V hb.size
  replace LA : Live (Old W) W w2 := LA.call hb
  have y_w2 : wz.heap.size ≤ w2.heap.size := hb.size
  replace zP : W.heap.size ≤ w2.heap.size := bP.size
  clear hb
  have c_w_0 := m0
  have c_w_1 := m1
  have l_w := hbl_w
  clear m0 m1
  have LW : Live (NewX wz.heap.size bk_w w2) w2 w2 := Live.refl fun b hb => hb.1.2
  go_wp2_with fail
  refine (toArr_own _ (by exact LA.rd h0) hzz0).mono ?_
  rintro e w3 ⟨x, rfl, hrx, hox, hb⟩
  replace hT : Tabs w3 := tabs_below hT hb
  replace bP : Below W.heap.size W w3 := bw_call bP zP hb
  replace c_A_0 : w3.cell? ⟨W.heap.size, 0, none⟩ = some (.slice a0 x0.keys.length c0) := (hb.cell (p := ⟨W.heap.size, 0, none⟩) l_A).trans c_A_0
  replace c_A_1 : w3.cell? ⟨W.heap.size, 1, none⟩ = some (.slice a1 x0.vals.length c1) := (hb.cell (p := ⟨W.heap.size, 1, none⟩) l_A).trans c_A_1
  replace c_V_0 : w3.cell? ⟨W.heap.size + 1, 0, none⟩ = some (.int .i64 x2.kind) := (hb.cell (p := ⟨W.heap.size + 1, 0, none⟩) l_V).trans c_V_0
  replace c_V_1 : w3.cell? ⟨W.heap.size + 1, 1, none⟩ = some (.bool x2.num.neg) := (hb.cell (p := ⟨W.heap.size + 1, 1, none⟩) l_V).trans c_V_1
  replace c_V_2 : w3.cell? ⟨W.heap.size + 1, 2, none⟩ = some (.string x2.num.dig) := (hb.cell (p := ⟨W.heap.size + 1, 2, none⟩) l_V).trans c_V_2
  replace c_V_3 : w3.cell? ⟨W.heap.size + 1, 3, none⟩ = some (.int .i64 x2.num.exp) := (hb.cell (p := ⟨W.heap.size + 1, 3, none⟩) l_V).trans c_V_3
  replace c_V_4 : w3.cell? ⟨W.heap.size + 1, 4, none⟩ = some (.string x2.text) := (hb.cell (p := ⟨W.heap.size + 1, 4, none⟩) l_V).trans c_V_4
  replace c_w_0 : w3.cell? ⟨bk_w, 0, none⟩ = some (.slice wa D.keys.length wc) := (hb.cell (p := ⟨bk_w, 0, none⟩) l_w).trans c_w_0
  replace c_w_1 : w3.cell? ⟨bk_w, 1, none⟩ = some (.slice wb D.vals.length wd) := (hb.cell (p := ⟨bk_w, 1, none⟩) l_w).trans c_w_1
  replace l_A : W.heap.size < w3.heap.size := Nat.lt_of_lt_of_le l_A hb.size
  replace l_V : W.heap.size + 1 < w3.heap.size := Nat.lt_of_lt_of_le l_V hb.size
  replace l_w : bk_w < w3.heap.size := Nat.lt_of_lt_of_le l_w hb.size
  replace LA : Live (Old W) W w3 := LA.call hb
  replace LW : Live (NewX wz.heap.size bk_w w2) w2 w3 := LW.call hb
  have y_w3 : w2.heap.size ≤ w3.heap.size := hb.size
  replace zP : W.heap.size ≤ w3.heap.size := bP.size
  clear hb
  have LX : Live (New w2.heap.size w3) w3 w3 := Live.refl fun b hb => hb.2
  obtain ⟨xa, xc, xa', xc', hcs, _, _⟩ := rdArr hrx
  obtain rfl := arr_of_list hcs
  clear hcs
  go_wp2_with fail
  obtain ⟨a_x, hw_a_x⟩ : ∃ v, w3.alloc (.cells #[.slice xa x0.keys.length xc, .slice xa' x0.vals.length xc'] 34) = v := ⟨_, rfl⟩
  have x_a_x : Below w3.heap.size w3 a_x := by rw [← hw_a_x]; exact ext_alloc _ _
  have z_a_x : w3.heap.size < a_x.heap.size := by rw [← hw_a_x]; simp
  have c_x_0 : a_x.cell? ⟨w3.heap.size, 0, none⟩ = some (.slice xa x0.keys.length xc) := by rw [← hw_a_x]; simp
  have c_x_1 : a_x.cell? ⟨w3.heap.size, 1, none⟩ = some (.slice xa' x0.vals.length xc') := by rw [← hw_a_x]; simp
  replace hT : Tabs a_x := tabs_below hT x_a_x
  replace bP : Below W.heap.size W a_x := bw_call bP zP x_a_x
  replace c_A_0 : a_x.cell? ⟨W.heap.size, 0, none⟩ = some (.slice a0 x0.keys.length c0) := (x_a_x.cell (p := ⟨W.heap.size, 0, none⟩) l_A).trans c_A_0
  replace c_A_1 : a_x.cell? ⟨W.heap.size, 1, none⟩ = some (.slice a1 x0.vals.length c1) := (x_a_x.cell (p := ⟨W.heap.size, 1, none⟩) l_A).trans c_A_1
  replace c_V_0 : a_x.cell? ⟨W.heap.size + 1, 0, none⟩ = some (.int .i64 x2.kind) := (x_a_x.cell (p := ⟨W.heap.size + 1, 0, none⟩) l_V).trans c_V_0
  replace c_V_1 : a_x.cell? ⟨W.heap.size + 1, 1, none⟩ = some (.bool x2.num.neg) := (x_a_x.cell (p := ⟨W.heap.size + 1, 1, none⟩) l_V).trans c_V_1
  replace c_V_2 : a_x.cell? ⟨W.heap.size + 1, 2, none⟩ = some (.string x2.num.dig) := (x_a_x.cell (p := ⟨W.heap.size + 1, 2, none⟩) l_V).trans c_V_2
  replace c_V_3 : a_x.cell? ⟨W.heap.size + 1, 3, none⟩ = some (.int .i64 x2.num.exp) := (x_a_x.cell (p := ⟨W.heap.size + 1, 3, none⟩) l_V).trans c_V_3
  replace c_V_4 : a_x.cell? ⟨W.heap.size + 1, 4, none⟩ = some (.string x2.text) := (x_a_x.cell (p := ⟨W.heap.size + 1, 4, none⟩) l_V).trans c_V_4
  replace c_w_0 : a_x.cell? ⟨bk_w, 0, none⟩ = some (.slice wa D.keys.length wc) := (x_a_x.cell (p := ⟨bk_w, 0, none⟩) l_w).trans c_w_0
  replace c_w_1 : a_x.cell? ⟨bk_w, 1, none⟩ = some (.slice wb D.vals.length wd) := (x_a_x.cell (p := ⟨bk_w, 1, none⟩) l_w).trans c_w_1
  replace l_A : W.heap.size < a_x.heap.size := Nat.lt_of_lt_of_le l_A x_a_x.size
  replace l_V : W.heap.size + 1 < a_x.heap.size := Nat.lt_of_lt_of_le l_V x_a_x.size
  replace l_w : bk_w < a_x.heap.size := Nat.lt_of_lt_of_le l_w x_a_x.size
  replace LA : Live (Old W) W a_x := LA.call x_a_x
  replace LW : Live (NewX wz.heap.size bk_w w2) w2 a_x := LW.call x_a_x
  replace LX : Live (New w2.heap.size w3) w3 a_x := LX.call x_a_x
  have y_a_x : w3.heap.size ≤ a_x.heap.size := x_a_x.size
  replace zP : W.heap.size ≤ a_x.heap.size := bP.size
  have l_x : w3.heap.size < a_x.heap.size := z_a_x
  rw [hw_a_x]
  clear hw_a_x x_a_x
  obtain ⟨RR, hRR⟩ : ∃ RR : Act → Act → World → Prop, RR = (fun a a' w' => ∃ (bk : Nat) (ua : Option Addr) (uc : Nat) (va : Option Addr) (vc : Nat) (z43 z44 z45 z46 z47 z42 z48 z49 : Value), a' = ((((((((((a.put (some 43) z43).put (some 44) z44).put (some 45) z45).put (some 46) z46).put (some 47) z47).put (some 42) z42).put (some 48) z48).put (some 49) z49).put (some 11) (.pointer (some ⟨bk, 0, none⟩))).put (some 12) (.bool q)) ∧ a_x.heap.size ≤ bk ∧ bk < w'.heap.size ∧ Below a_x.heap.size a_x w' ∧ w'.cell? ⟨bk, 0, none⟩ = some (.slice ua D.keys.length uc) ∧ w'.cell? ⟨bk, 1, none⟩ = some (.slice va D.vals.length vc) ∧ Rd.rd (NewX a_x.heap.size bk w') w' (#[.slice ua D.keys.length uc, .slice va D.vals.length vc] : Array Value).toList D ∧ OwArr (NewX a_x.heap.size bk w') w' D #[.slice ua D.keys.length uc, .slice va D.vals.length vc]) := ⟨_, rfl⟩
  have HRR := hid hRR
  clear hRR
  refine wp_cut RR ?_ ?_
  · refine wp_region_held_drew (S := fun w' => Below a_x.heap.size a_x w') (by kernel_rfl) ?_ (fun hHeld => ?_)
    · exact Below.drew (Below.refl _ _)
    refine wpAnyH_take (i := 0) (v := ?_) rfl (by kernel_rfl) (by kernel_rfl) (by kernel_rfl) (fun _ _ _ h => h) (Or.inl ⟨by rfl, ?_⟩) (by assumption) ?_
    rotate_left
    · (intro w' hSw; (try dsimp only at hSw); (have q0 := (hSw.cell (p := ⟨w3.heap.size, 0, none⟩) l_x).trans c_x_0; have q1 := (hSw.cell (p := ⟨w3.heap.size, 1, none⟩) l_x).trans c_x_1); go_simp; try (with_reducible rfl))
    change wpAnyH _ _ _ _ _ _ _ (Act.put _ (some 43) _) _
    try simp only [Act.put, List.setIfInBounds_toArray, List.set_cons_zero, List.set_cons_succ]
    refine wpAnyH_take (i := 1) (v := ?_) rfl (by kernel_rfl) (by kernel_rfl) (by kernel_rfl) (fun _ _ _ h => h) (Or.inl ⟨by rfl, ?_⟩) (by assumption) ?_
    rotate_left
    · (intro w' hSw; (try dsimp only at hSw); go_simp; try (with_reducible rfl))
    change wpAnyH _ _ _ _ _ _ _ (Act.put _ (some 44) _) _
    try simp only [Act.put, List.setIfInBounds_toArray, List.set_cons_zero, List.set_cons_succ]
    refine wpAnyH_take (i := 2) (v := ?_) rfl (by kernel_rfl) (by kernel_rfl) (by kernel_rfl) (fun _ _ _ h => h) (Or.inl ⟨by rfl, ?_⟩) (by assumption) ?_
    rotate_left
    · (intro w' hSw; (try dsimp only at hSw); (have q0 := (hSw.cell (p := ⟨W.heap.size + 1, 0, none⟩) l_V).trans c_V_0; have q1 := (hSw.cell (p := ⟨W.heap.size + 1, 1, none⟩) l_V).trans c_V_1; have q2 := (hSw.cell (p := ⟨W.heap.size + 1, 2, none⟩) l_V).trans c_V_2; have q3 := (hSw.cell (p := ⟨W.heap.size + 1, 3, none⟩) l_V).trans c_V_3; have q4 := (hSw.cell (p := ⟨W.heap.size + 1, 4, none⟩) l_V).trans c_V_4); go_simp; try (with_reducible rfl))
    change wpAnyH _ _ _ _ _ _ _ (Act.put _ (some 45) _) _
    try simp only [Act.put, List.setIfInBounds_toArray, List.set_cons_zero, List.set_cons_succ]
    refine wpAnyH_ready (rs := [3, 8]) (by kernel_rfl) (by simp) ?_
    refine AllReadyH.cons (i := 3) rfl (fun K hK => ?_) ?_
    · simp only [List.getElem_toArray, List.getElem_cons_succ, List.getElem_cons_zero]
      rw [if_pos (by rfl)]
      go_simp
      (go_at_call 10; refine (toVal_any _ (by exact (LA.call hHeld).rd h2) hzz2).mono ?_; rintro e tV ⟨qV, rfl, hrV, hbV⟩; go_wp2_with fail)
      have LvV : Live (New a_x.heap.size tV) tV tV := Live.refl fun b hb => hb.2
      obtain ⟨hcsV, _⟩ := rdVal hrV
      obtain rfl := arr_of_list hcsV
      clear hcsV
      refine hK.out _ _ ?_ (fun hHeld => ?_)
      · ((try dsimp only); exact ext_trans hHeld hbV)
      clear hK K
      try simp only [Act.put, List.setIfInBounds_toArray, List.set_cons_zero, List.set_cons_succ]
      refine wpAnyH_ready (rs := [4, 8]) (by kernel_rfl) (by simp) ?_
      refine AllReadyH.cons (i := 4) rfl (fun K hK => ?_) ?_
      · simp only [List.getElem_toArray, List.getElem_cons_succ, List.getElem_cons_zero]
        rw [if_pos (by rfl)]
        go_simp
        (go_at_call 11; refine (hiD.out _ _ _ (by exact ((LX.call hHeld).rd hrx)) (by exact LvV.rd hrV) (tabs_below hT hHeld)).mono ?_; rintro e tC ⟨qC, rfl, hrC, hoC, hbC⟩; go_wp2_with fail)
        have nC : a_x.heap.size ≤ tV.heap.size := hHeld.size
        replace LvV := LvV.call hbC
        have LvC : Live (New tV.heap.size tC) tC tC := Live.refl fun b hb => hb.2
        obtain ⟨sCa, sCc, sCb, sCd, hcs, _, _⟩ := rdArr hrC
        obtain rfl := arr_of_list hcs
        clear hcs
        refine hK.out _ _ ?_ (fun hHeld => ?_)
        · ((try dsimp only); exact ext_trans hHeld hbC)
        clear hK K
        try simp only [Act.put, List.setIfInBounds_toArray, List.set_cons_zero, List.set_cons_succ]
        refine wpAnyH_take (i := 5) (v := ?_) rfl (by kernel_rfl) (by kernel_rfl) (by kernel_rfl) (fun _ _ _ h => h) (Or.inl ⟨by rfl, ?_⟩) (by assumption) ?_
        rotate_left
        · (intro w' hSw; (try dsimp only at hSw); go_simp; try (with_reducible rfl))
        change wpAnyH _ _ _ _ _ _ _ (Act.put _ (some 42) _) _
        try simp only [Act.put, List.setIfInBounds_toArray, List.set_cons_zero, List.set_cons_succ]
        refine wpAnyH_take (i := 6) (v := ?_) rfl (by kernel_rfl) (by kernel_rfl) (by kernel_rfl) (fun _ _ _ h => h) (Or.inl ⟨by rfl, ?_⟩) (by assumption) ?_
        rotate_left
        · (intro w' hSw; (try dsimp only at hSw); go_simp; try (with_reducible rfl))
        change wpAnyH _ _ _ _ _ _ _ (Act.put _ (some 48) _) _
        try simp only [Act.put, List.setIfInBounds_toArray, List.set_cons_zero, List.set_cons_succ]
        refine wpAnyH_take (i := 7) (v := ?_) rfl (by kernel_rfl) (by kernel_rfl) (by kernel_rfl) (fun _ _ _ h => h) (Or.inl ⟨by rfl, ?_⟩) (by assumption) ?_
        rotate_left
        · (intro w' hSw; (try dsimp only at hSw); go_simp; try (with_reducible rfl))
        change wpAnyH _ _ _ _ _ _ _ (Act.put _ (some 49) _) _
        try simp only [Act.put, List.setIfInBounds_toArray, List.set_cons_zero, List.set_cons_succ]
        refine wpAnyH_ready (rs := [8]) (by kernel_rfl) (by simp) ?_
        refine AllReadyH.cons (i := 8) rfl (fun K hK => ?_) AllReadyH.nil
        simp only [List.getElem_toArray, List.getElem_cons_succ, List.getElem_cons_zero]
        rw [if_pos (by rfl)]
        go_simp
        obtain ⟨tN, hwN⟩ : ∃ v, tC.alloc (.cells #[.slice none 0 0, .slice none 0 0] 34) = v := ⟨_, rfl⟩
        have hbN : Below tC.heap.size tC tN := by rw [← hwN]; exact ext_alloc _ _
        have gle : a_x.heap.size ≤ tC.heap.size := hHeld.size
        have gl : tC.heap.size < tN.heap.size := by rw [← hwN]; first | (simp; done) | (show _ < (World.alloc _ _).heap.size; simp)
        have g0 : tN.cell? ⟨tC.heap.size, 0, none⟩ = some (.slice none 0 0) := by rw [← hwN]; first | (simp; done) | (go_simp; done)
        have gz0 : tN.frozen? ⟨tC.heap.size, 0, none⟩ = false := by rw [← hwN]; first | (simp; done) | (go_simp; done)
        have g1 : tN.cell? ⟨tC.heap.size, 1, none⟩ = some (.slice none 0 0) := by rw [← hwN]; first | (simp; done) | (go_simp; done)
        have gz1 : tN.frozen? ⟨tC.heap.size, 1, none⟩ = false := by rw [← hwN]; first | (simp; done) | (go_simp; done)
        have hDal : ¬ New tV.heap.size tC tC.heap.size := fun h => absurd h.2 (by omega)
        replace LvV := LvV.call hbN
        replace LvC := LvC.call hbN
        rw [hwN]
        clear hwN
        refine hK.out _ _ ?_ (fun hHeld => ?_)
        · ((try dsimp only); exact ext_trans hHeld hbN)
        clear hK K
        try simp only [Act.put, List.setIfInBounds_toArray, List.set_cons_zero, List.set_cons_succ]
        refine wpAnyH_ready (rs := [9]) (by kernel_rfl) (by simp) ?_
        refine AllReadyH.cons (i := 9) rfl (fun K hK => ?_) AllReadyH.nil
        simp only [List.getElem_toArray, List.getElem_cons_succ, List.getElem_cons_zero]
        rw [if_pos (by rfl)]
        go_simp
        refine hK.out _ _ ?_ (fun hHeld => ?_)
        · ((try dsimp only); exact Below.setCell (Below.setCell hHeld gle _) gle _)
        clear hK K
        try simp only [Act.put, List.setIfInBounds_toArray, List.set_cons_zero, List.set_cons_succ]
        refine wpAnyH_take (i := 10) (v := ?_) rfl (by kernel_rfl) (by kernel_rfl) (by kernel_rfl) (fun _ _ _ h => h) (Or.inl ⟨by rfl, ?_⟩) (by assumption) ?_
        rotate_left
        · (intro w' hSw; (try dsimp only at hSw); go_simp; try (with_reducible rfl))
        change wpAnyH _ _ _ _ _ _ _ (Act.put _ (some 12) _) _
        try simp only [Act.put, List.setIfInBounds_toArray, List.set_cons_zero, List.set_cons_succ]
        refine wpAnyH_done (by kernel_rfl) ?_ _
        dsimp only [Exit.then]
        rw [HRR.out]
        have LvF := (LvC.set (j := 0) hDal (.slice sCa D.keys.length sCc)).set (j := 1) hDal (.slice sCb D.vals.length sCd)
        have hDX : ∀ b, New tV.heap.size tC b → NewX a_x.heap.size tC.heap.size ((tN.setCell ⟨tC.heap.size, 0, none⟩ (.slice sCa D.keys.length sCc)).setCell ⟨tC.heap.size, 1, none⟩ (.slice sCb D.vals.length sCd)) b := fun b hb => ⟨⟨Nat.le_trans nC hb.1, LvF.lt b hb⟩, fun e => hDal (by rw [← e]; exact hb)⟩
        refine ⟨tC.heap.size, sCa, sCc, sCb, sCd, .agg #[.slice xa x0.keys.length xc, .slice xa' x0.vals.length xc'], .string x1, .agg #[.int .i64 x2.kind, .bool x2.num.neg, .string x2.num.dig, .int .i64 x2.num.exp, .string x2.text], .agg #[.int .i64 x2.kind, .bool x2.num.neg, .string x2.num.dig, .int .i64 x2.num.exp, .string x2.text], .tuple #[.agg #[.slice sCa D.keys.length sCc, .slice sCb D.vals.length sCd], .bool q], .tuple #[.agg #[.slice sCa D.keys.length sCc, .slice sCb D.vals.length sCd], .bool q], .agg #[.slice sCa D.keys.length sCc, .slice sCb D.vals.length sCd], .bool q, ?_, gle, ?_, hHeld, ?_, ?_, ?_, ?_⟩
        · simp only [Act.put, List.setIfInBounds_toArray, List.set_cons_zero, List.set_cons_succ]
        · simpa [World.setCell] using gl
        · exact (World.cell?_setCell_other _ _ _ _ (by simp)).trans (World.cell?_setCell_same _ _ _ g0)
        · exact World.cell?_setCell_same _ _ _ ((World.cell?_setCell_other _ _ _ _ (by simp)).trans g1)
        · exact Rd.mono hDX (Rd.same LvF.same hrC)
        · exact (hoC.same LvF.same).mono hDX
      refine AllReadyH.cons (i := 8) rfl (fun K hK => ?_) ?_
      · simp only [List.getElem_toArray, List.getElem_cons_succ, List.getElem_cons_zero]
        rw [if_pos (by rfl)]
        go_simp
        obtain ⟨tN, hwN⟩ : ∃ v, tV.alloc (.cells #[.slice none 0 0, .slice none 0 0] 34) = v := ⟨_, rfl⟩
        have hbN : Below tV.heap.size tV tN := by rw [← hwN]; exact ext_alloc _ _
        have gle : a_x.heap.size ≤ tV.heap.size := hHeld.size
        have gl : tV.heap.size < tN.heap.size := by rw [← hwN]; first | (simp; done) | (show _ < (World.alloc _ _).heap.size; simp)
        have g0 : tN.cell? ⟨tV.heap.size, 0, none⟩ = some (.slice none 0 0) := by rw [← hwN]; first | (simp; done) | (go_simp; done)
        have gz0 : tN.frozen? ⟨tV.heap.size, 0, none⟩ = false := by rw [← hwN]; first | (simp; done) | (go_simp; done)
        have g1 : tN.cell? ⟨tV.heap.size, 1, none⟩ = some (.slice none 0 0) := by rw [← hwN]; first | (simp; done) | (go_simp; done)
        have gz1 : tN.frozen? ⟨tV.heap.size, 1, none⟩ = false := by rw [← hwN]; first | (simp; done) | (go_simp; done)
        replace LvV := LvV.call hbN
        rw [hwN]
        clear hwN
        refine hK.out _ _ ?_ (fun hHeld => ?_)
        · ((try dsimp only); exact ext_trans hHeld hbN)
        clear hK K
        try simp only [Act.put, List.setIfInBounds_toArray, List.set_cons_zero, List.set_cons_succ]
        refine wpAnyH_ready (rs := [4]) (by kernel_rfl) (by simp) ?_
        refine AllReadyH.cons (i := 4) rfl (fun K hK => ?_) AllReadyH.nil
        simp only [List.getElem_toArray, List.getElem_cons_succ, List.getElem_cons_zero]
        rw [if_pos (by rfl)]
        go_simp
        (go_at_call 11; refine (hiD.out _ _ _ (by exact ((LX.call hHeld).rd hrx)) (by exact LvV.rd hrV) (tabs_below hT hHeld)).mono ?_; rintro e tC ⟨qC, rfl, hrC, hoC, hbC⟩; go_wp2_with fail)
        have nC : a_x.heap.size ≤ tN.heap.size := hHeld.size
        have hDal : ¬ New tN.heap.size tC tV.heap.size := fun h => absurd h.1 (by omega)
        replace LvV := LvV.call hbC
        replace g0 := (hbC.cell (p := ⟨tV.heap.size, 0, none⟩) gl).trans g0
        replace g1 := (hbC.cell (p := ⟨tV.heap.size, 1, none⟩) gl).trans g1
        replace gz0 := (hbC.frozen (p := ⟨tV.heap.size, 0, none⟩) gl).trans gz0
        replace gz1 := (hbC.frozen (p := ⟨tV.heap.size, 1, none⟩) gl).trans gz1
        replace gl := Nat.lt_of_lt_of_le gl hbC.size
        have LvC : Live (New tN.heap.size tC) tC tC := Live.refl fun b hb => hb.2
        obtain ⟨sCa, sCc, sCb, sCd, hcs, _, _⟩ := rdArr hrC
        obtain rfl := arr_of_list hcs
        clear hcs
        refine hK.out _ _ ?_ (fun hHeld => ?_)
        · ((try dsimp only); exact ext_trans hHeld hbC)
        clear hK K
        try simp only [Act.put, List.setIfInBounds_toArray, List.set_cons_zero, List.set_cons_succ]
        refine wpAnyH_take (i := 5) (v := ?_) rfl (by kernel_rfl) (by kernel_rfl) (by kernel_rfl) (fun _ _ _ h => h) (Or.inl ⟨by rfl, ?_⟩) (by assumption) ?_
        rotate_left
        · (intro w' hSw; (try dsimp only at hSw); go_simp; try (with_reducible rfl))
        change wpAnyH _ _ _ _ _ _ _ (Act.put _ (some 42) _) _
        try simp only [Act.put, List.setIfInBounds_toArray, List.set_cons_zero, List.set_cons_succ]
        refine wpAnyH_take (i := 6) (v := ?_) rfl (by kernel_rfl) (by kernel_rfl) (by kernel_rfl) (fun _ _ _ h => h) (Or.inl ⟨by rfl, ?_⟩) (by assumption) ?_
        rotate_left
        · (intro w' hSw; (try dsimp only at hSw); go_simp; try (with_reducible rfl))
        change wpAnyH _ _ _ _ _ _ _ (Act.put _ (some 48) _) _
        try simp only [Act.put, List.setIfInBounds_toArray, List.set_cons_zero, List.set_cons_succ]
        refine wpAnyH_take (i := 7) (v := ?_) rfl (by kernel_rfl) (by kernel_rfl) (by kernel_rfl) (fun _ _ _ h => h) (Or.inl ⟨by rfl, ?_⟩) (by assumption) ?_
        rotate_left
        · (intro w' hSw; (try dsimp only at hSw); go_simp; try (with_reducible rfl))
        change wpAnyH _ _ _ _ _ _ _ (Act.put _ (some 49) _) _
        try simp only [Act.put, List.setIfInBounds_toArray, List.set_cons_zero, List.set_cons_succ]
        refine wpAnyH_ready (rs := [9]) (by kernel_rfl) (by simp) ?_
        refine AllReadyH.cons (i := 9) rfl (fun K hK => ?_) AllReadyH.nil
        simp only [List.getElem_toArray, List.getElem_cons_succ, List.getElem_cons_zero]
        rw [if_pos (by rfl)]
        go_simp
        refine hK.out _ _ ?_ (fun hHeld => ?_)
        · ((try dsimp only); exact Below.setCell (Below.setCell hHeld gle _) gle _)
        clear hK K
        try simp only [Act.put, List.setIfInBounds_toArray, List.set_cons_zero, List.set_cons_succ]
        refine wpAnyH_take (i := 10) (v := ?_) rfl (by kernel_rfl) (by kernel_rfl) (by kernel_rfl) (fun _ _ _ h => h) (Or.inl ⟨by rfl, ?_⟩) (by assumption) ?_
        rotate_left
        · (intro w' hSw; (try dsimp only at hSw); go_simp; try (with_reducible rfl))
        change wpAnyH _ _ _ _ _ _ _ (Act.put _ (some 12) _) _
        try simp only [Act.put, List.setIfInBounds_toArray, List.set_cons_zero, List.set_cons_succ]
        refine wpAnyH_done (by kernel_rfl) ?_ _
        dsimp only [Exit.then]
        rw [HRR.out]
        have LvF := (LvC.set (j := 0) hDal (.slice sCa D.keys.length sCc)).set (j := 1) hDal (.slice sCb D.vals.length sCd)
        have hDX : ∀ b, New tN.heap.size tC b → NewX a_x.heap.size tV.heap.size ((tC.setCell ⟨tV.heap.size, 0, none⟩ (.slice sCa D.keys.length sCc)).setCell ⟨tV.heap.size, 1, none⟩ (.slice sCb D.vals.length sCd)) b := fun b hb => ⟨⟨Nat.le_trans nC hb.1, LvF.lt b hb⟩, fun e => hDal (by rw [← e]; exact hb)⟩
        refine ⟨tV.heap.size, sCa, sCc, sCb, sCd, .agg #[.slice xa x0.keys.length xc, .slice xa' x0.vals.length xc'], .string x1, .agg #[.int .i64 x2.kind, .bool x2.num.neg, .string x2.num.dig, .int .i64 x2.num.exp, .string x2.text], .agg #[.int .i64 x2.kind, .bool x2.num.neg, .string x2.num.dig, .int .i64 x2.num.exp, .string x2.text], .tuple #[.agg #[.slice sCa D.keys.length sCc, .slice sCb D.vals.length sCd], .bool q], .tuple #[.agg #[.slice sCa D.keys.length sCc, .slice sCb D.vals.length sCd], .bool q], .agg #[.slice sCa D.keys.length sCc, .slice sCb D.vals.length sCd], .bool q, ?_, gle, ?_, hHeld, ?_, ?_, ?_, ?_⟩
        · simp only [Act.put, List.setIfInBounds_toArray, List.set_cons_zero, List.set_cons_succ]
        · simpa [World.setCell] using gl
        · exact (World.cell?_setCell_other _ _ _ _ (by simp)).trans (World.cell?_setCell_same _ _ _ g0)
        · exact World.cell?_setCell_same _ _ _ ((World.cell?_setCell_other _ _ _ _ (by simp)).trans g1)
        · exact Rd.mono hDX (Rd.same LvF.same hrC)
        · exact (hoC.same LvF.same).mono hDX
      exact AllReadyH.nil
    refine AllReadyH.cons (i := 8) rfl (fun K hK => ?_) ?_
    · simp only [List.getElem_toArray, List.getElem_cons_succ, List.getElem_cons_zero]
      rw [if_pos (by rfl)]
      go_simp
      obtain ⟨tN, hwN⟩ : ∃ v, (a_x.alloc (.cells #[.slice none 0 0, .slice none 0 0] 34)).drew = v := ⟨_, rfl⟩
      have hbN0 : Below a_x.heap.size a_x tN := by rw [← hwN]; exact Below.drew (ext_alloc _ _)
      have hbN : Below a_x.heap.size a_x.drew tN := ⟨hbN0.os, hbN0.tape, hbN0.output, hbN0.size, hbN0.block⟩
      have gle : a_x.heap.size ≤ a_x.heap.size := hHeld.size
      have gl : a_x.heap.size < tN.heap.size := by rw [← hwN]; first | (simp; done) | (show _ < (World.alloc _ _).heap.size; simp)
      have g0 : tN.cell? ⟨a_x.heap.size, 0, none⟩ = some (.slice none 0 0) := by rw [← hwN]; first | (simp; done) | (go_simp; done)
      have gz0 : tN.frozen? ⟨a_x.heap.size, 0, none⟩ = false := by rw [← hwN]; first | (simp; done) | (go_simp; done)
      have g1 : tN.cell? ⟨a_x.heap.size, 1, none⟩ = some (.slice none 0 0) := by rw [← hwN]; first | (simp; done) | (go_simp; done)
      have gz1 : tN.frozen? ⟨a_x.heap.size, 1, none⟩ = false := by rw [← hwN]; first | (simp; done) | (go_simp; done)
      rw [hwN]
      clear hwN
      refine hK.out _ _ ?_ (fun hHeld => ?_)
      · ((try dsimp only); exact ext_trans hHeld hbN)
      clear hK K
      try simp only [Act.put, List.setIfInBounds_toArray, List.set_cons_zero, List.set_cons_succ]
      refine wpAnyH_ready (rs := [3]) (by kernel_rfl) (by simp) ?_
      refine AllReadyH.cons (i := 3) rfl (fun K hK => ?_) AllReadyH.nil
      simp only [List.getElem_toArray, List.getElem_cons_succ, List.getElem_cons_zero]
      rw [if_pos (by rfl)]
      go_simp
      (go_at_call 10; refine (toVal_any _ (by exact (LA.call hHeld).rd h2) hzz2).mono ?_; rintro e tV ⟨qV, rfl, hrV, hbV⟩; go_wp2_with fail)
      replace g0 := (hbV.cell (p := ⟨a_x.heap.size, 0, none⟩) gl).trans g0
      replace g1 := (hbV.cell (p := ⟨a_x.heap.size, 1, none⟩) gl).trans g1
      replace gz0 := (hbV.frozen (p := ⟨a_x.heap.size, 0, none⟩) gl).trans gz0
      replace gz1 := (hbV.frozen (p := ⟨a_x.heap.size, 1, none⟩) gl).trans gz1
      replace gl := Nat.lt_of_lt_of_le gl hbV.size
      have LvV : Live (New tN.heap.size tV) tV tV := Live.refl fun b hb => hb.2
      obtain ⟨hcsV, _⟩ := rdVal hrV
      obtain rfl := arr_of_list hcsV
      clear hcsV
      refine hK.out _ _ ?_ (fun hHeld => ?_)
      · ((try dsimp only); exact ext_trans hHeld hbV)
      clear hK K
      try simp only [Act.put, List.setIfInBounds_toArray, List.set_cons_zero, List.set_cons_succ]
      refine wpAnyH_ready (rs := [4]) (by kernel_rfl) (by simp) ?_
      refine AllReadyH.cons (i := 4) rfl (fun K hK => ?_) AllReadyH.nil
      simp only [List.getElem_toArray, List.getElem_cons_succ, List.getElem_cons_zero]
      rw [if_pos (by rfl)]
      go_simp
      (go_at_call 11; refine (hiD.out _ _ _ (by exact ((LX.call hHeld).rd hrx)) (by exact LvV.rd hrV) (tabs_below hT hHeld)).mono ?_; rintro e tC ⟨qC, rfl, hrC, hoC, hbC⟩; go_wp2_with fail)
      have nC : a_x.heap.size ≤ tV.heap.size := hHeld.size
      have hDal : ¬ New tV.heap.size tC a_x.heap.size := fun h => absurd h.1 (by omega)
      replace LvV := LvV.call hbC
      replace g0 := (hbC.cell (p := ⟨a_x.heap.size, 0, none⟩) gl).trans g0
      replace g1 := (hbC.cell (p := ⟨a_x.heap.size, 1, none⟩) gl).trans g1
      replace gz0 := (hbC.frozen (p := ⟨a_x.heap.size, 0, none⟩) gl).trans gz0
      replace gz1 := (hbC.frozen (p := ⟨a_x.heap.size, 1, none⟩) gl).trans gz1
      replace gl := Nat.lt_of_lt_of_le gl hbC.size
      have LvC : Live (New tV.heap.size tC) tC tC := Live.refl fun b hb => hb.2
      obtain ⟨sCa, sCc, sCb, sCd, hcs, _, _⟩ := rdArr hrC
      obtain rfl := arr_of_list hcs
      clear hcs
      refine hK.out _ _ ?_ (fun hHeld => ?_)
      · ((try dsimp only); exact ext_trans hHeld hbC)
      clear hK K
      try simp only [Act.put, List.setIfInBounds_toArray, List.set_cons_zero, List.set_cons_succ]
      refine wpAnyH_take (i := 5) (v := ?_) rfl (by kernel_rfl) (by kernel_rfl) (by kernel_rfl) (fun _ _ _ h => h) (Or.inl ⟨by rfl, ?_⟩) (by assumption) ?_
      rotate_left
      · (intro w' hSw; (try dsimp only at hSw); go_simp; try (with_reducible rfl))
      change wpAnyH _ _ _ _ _ _ _ (Act.put _ (some 42) _) _
      try simp only [Act.put, List.setIfInBounds_toArray, List.set_cons_zero, List.set_cons_succ]
      refine wpAnyH_take (i := 6) (v := ?_) rfl (by kernel_rfl) (by kernel_rfl) (by kernel_rfl) (fun _ _ _ h => h) (Or.inl ⟨by rfl, ?_⟩) (by assumption) ?_
      rotate_left
      · (intro w' hSw; (try dsimp only at hSw); go_simp; try (with_reducible rfl))
      change wpAnyH _ _ _ _ _ _ _ (Act.put _ (some 48) _) _
      try simp only [Act.put, List.setIfInBounds_toArray, List.set_cons_zero, List.set_cons_succ]
      refine wpAnyH_take (i := 7) (v := ?_) rfl (by kernel_rfl) (by kernel_rfl) (by kernel_rfl) (fun _ _ _ h => h) (Or.inl ⟨by rfl, ?_⟩) (by assumption) ?_
      rotate_left
      · (intro w' hSw; (try dsimp only at hSw); go_simp; try (with_reducible rfl))
      change wpAnyH _ _ _ _ _ _ _ (Act.put _ (some 49) _) _
      try simp only [Act.put, List.setIfInBounds_toArray, List.set_cons_zero, List.set_cons_succ]
      refine wpAnyH_ready (rs := [9]) (by kernel_rfl) (by simp) ?_
      refine AllReadyH.cons (i := 9) rfl (fun K hK => ?_) AllReadyH.nil
      simp only [List.getElem_toArray, List.getElem_cons_succ, List.getElem_cons_zero]
      rw [if_pos (by rfl)]
      go_simp
      refine hK.out _ _ ?_ (fun hHeld => ?_)
      · ((try dsimp only); exact Below.setCell (Below.setCell hHeld gle _) gle _)
      clear hK K
      try simp only [Act.put, List.setIfInBounds_toArray, List.set_cons_zero, List.set_cons_succ]
      refine wpAnyH_take (i := 10) (v := ?_) rfl (by kernel_rfl) (by kernel_rfl) (by kernel_rfl) (fun _ _ _ h => h) (Or.inl ⟨by rfl, ?_⟩) (by assumption) ?_
      rotate_left
      · (intro w' hSw; (try dsimp only at hSw); go_simp; try (with_reducible rfl))
      change wpAnyH _ _ _ _ _ _ _ (Act.put _ (some 12) _) _
      try simp only [Act.put, List.setIfInBounds_toArray, List.set_cons_zero, List.set_cons_succ]
      refine wpAnyH_done (by kernel_rfl) ?_ _
      dsimp only [Exit.then]
      rw [HRR.out]
      have LvF := (LvC.set (j := 0) hDal (.slice sCa D.keys.length sCc)).set (j := 1) hDal (.slice sCb D.vals.length sCd)
      have hDX : ∀ b, New tV.heap.size tC b → NewX a_x.heap.size a_x.heap.size ((tC.setCell ⟨a_x.heap.size, 0, none⟩ (.slice sCa D.keys.length sCc)).setCell ⟨a_x.heap.size, 1, none⟩ (.slice sCb D.vals.length sCd)) b := fun b hb => ⟨⟨Nat.le_trans nC hb.1, LvF.lt b hb⟩, fun e => hDal (by rw [← e]; exact hb)⟩
      refine ⟨a_x.heap.size, sCa, sCc, sCb, sCd, .agg #[.slice xa x0.keys.length xc, .slice xa' x0.vals.length xc'], .string x1, .agg #[.int .i64 x2.kind, .bool x2.num.neg, .string x2.num.dig, .int .i64 x2.num.exp, .string x2.text], .agg #[.int .i64 x2.kind, .bool x2.num.neg, .string x2.num.dig, .int .i64 x2.num.exp, .string x2.text], .tuple #[.agg #[.slice sCa D.keys.length sCc, .slice sCb D.vals.length sCd], .bool q], .tuple #[.agg #[.slice sCa D.keys.length sCc, .slice sCb D.vals.length sCd], .bool q], .agg #[.slice sCa D.keys.length sCc, .slice sCb D.vals.length sCd], .bool q, ?_, gle, ?_, hHeld, ?_, ?_, ?_, ?_⟩
      · simp only [Act.put, List.setIfInBounds_toArray, List.set_cons_zero, List.set_cons_succ]
      · simpa [World.setCell] using gl
      · exact (World.cell?_setCell_other _ _ _ _ (by simp)).trans (World.cell?_setCell_same _ _ _ g0)
      · exact World.cell?_setCell_same _ _ _ ((World.cell?_setCell_other _ _ _ _ (by simp)).trans g1)
      · exact Rd.mono hDX (Rd.same LvF.same hrC)
      · exact (hoC.same LvF.same).mono hDX
    exact AllReadyH.nil
  intro a' w4 hR
  rw [HRR.out] at hR
  clear HRR
  obtain ⟨bk_g, ga, gc, gb, gd, z43, z44, z45, z46, z47, z42, z48, z49, rfl, hbk_g, hbl_g, hb, m0, m1, hrg, hog⟩ := hR
  try simp only [Act.put, List.setIfInBounds_toArray, List.set_cons_zero, List.set_cons_succ]
  replace hT : Tabs w4 := tabs_below hT hb
  replace bP : Below W.heap.size W w4 := bw_call bP zP hb
  replace c_A_0 : w4.cell? ⟨W.heap.size, 0, none⟩ = some (.slice a0 x0.keys.length c0) := (hb.cell (p := ⟨W.heap.size, 0, none⟩) l_A).trans c_A_0
  replace c_A_1 : w4.cell? ⟨W.heap.size, 1, none⟩ = some (.slice a1 x0.vals.length c1) := (hb.cell (p := ⟨W.heap.size, 1, none⟩) l_A).trans c_A_1
  replace c_V_0 : w4.cell? ⟨W.heap.size + 1, 0, none⟩ = some (.int .i64 x2.kind) := (hb.cell (p := ⟨W.heap.size + 1, 0, none⟩) l_V).trans c_V_0
  replace c_V_1 : w4.cell? ⟨W.heap.size + 1, 1, none⟩ = some (.bool x2.num.neg) := (hb.cell (p := ⟨W.heap.size + 1, 1, none⟩) l_V).trans c_V_1
  replace c_V_2 : w4.cell? ⟨W.heap.size + 1, 2, none⟩ = some (.string x2.num.dig) := (hb.cell (p := ⟨W.heap.size + 1, 2, none⟩) l_V).trans c_V_2
  replace c_V_3 : w4.cell? ⟨W.heap.size + 1, 3, none⟩ = some (.int .i64 x2.num.exp) := (hb.cell (p := ⟨W.heap.size + 1, 3, none⟩) l_V).trans c_V_3
  replace c_V_4 : w4.cell? ⟨W.heap.size + 1, 4, none⟩ = some (.string x2.text) := (hb.cell (p := ⟨W.heap.size + 1, 4, none⟩) l_V).trans c_V_4
  replace c_w_0 : w4.cell? ⟨bk_w, 0, none⟩ = some (.slice wa D.keys.length wc) := (hb.cell (p := ⟨bk_w, 0, none⟩) l_w).trans c_w_0
  replace c_w_1 : w4.cell? ⟨bk_w, 1, none⟩ = some (.slice wb D.vals.length wd) := (hb.cell (p := ⟨bk_w, 1, none⟩) l_w).trans c_w_1
  replace c_x_0 : w4.cell? ⟨w3.heap.size, 0, none⟩ = some (.slice xa x0.keys.length xc) := (hb.cell (p := ⟨w3.heap.size, 0, none⟩) l_x).trans c_x_0
  replace c_x_1 : w4.cell? ⟨w3.heap.size, 1, none⟩ = some (.slice xa' x0.vals.length xc') := (hb.cell (p := ⟨w3.heap.size, 1, none⟩) l_x).trans c_x_1
  replace l_A : W.heap.size < w4.heap.size := Nat.lt_of_lt_of_le l_A hb.size
  replace l_V : W.heap.size + 1 < w4.heap.size := Nat.lt_of_lt_of_le l_V hb.size
  replace l_w : bk_w < w4.heap.size := Nat.lt_of_lt_of_le l_w hb.size
  replace l_x : w3.heap.size < w4.heap.size := Nat.lt_of_lt_of_le l_x hb.size
  replace LA : Live (Old W) W w4 := LA.call hb
  replace LW : Live (NewX wz.heap.size bk_w w2) w2 w4 := LW.call hb
  replace LX : Live (New w2.heap.size w3) w3 w4 := LX.call hb
  have y_w4 : a_x.heap.size ≤ w4.heap.size := hb.size
  replace zP : W.heap.size ≤ w4.heap.size := bP.size
  clear hb
  have c_g_0 := m0
  have c_g_1 := m1
  have l_g := hbl_g
  clear m0 m1
  have LG : Live (NewX a_x.heap.size bk_g w4) w4 w4 := Live.refl fun b hb => hb.1.2
  go_wp2_with fail
  refine (eqArr_same _ (by exact LG.rd hrg) (by exact LW.rd hrw)).mono ?_
  rintro e w5 ⟨rfl, hb⟩
  replace hT : Tabs w5 := tabs_below hT hb
  replace bP : Below W.heap.size W w5 := bw_call bP zP hb
  replace c_A_0 : w5.cell? ⟨W.heap.size, 0, none⟩ = some (.slice a0 x0.keys.length c0) := (hb.cell (p := ⟨W.heap.size, 0, none⟩) l_A).trans c_A_0
  replace c_A_1 : w5.cell? ⟨W.heap.size, 1, none⟩ = some (.slice a1 x0.vals.length c1) := (hb.cell (p := ⟨W.heap.size, 1, none⟩) l_A).trans c_A_1
  replace c_V_0 : w5.cell? ⟨W.heap.size + 1, 0, none⟩ = some (.int .i64 x2.kind) := (hb.cell (p := ⟨W.heap.size + 1, 0, none⟩) l_V).trans c_V_0
  replace c_V_1 : w5.cell? ⟨W.heap.size + 1, 1, none⟩ = some (.bool x2.num.neg) := (hb.cell (p := ⟨W.heap.size + 1, 1, none⟩) l_V).trans c_V_1
  replace c_V_2 : w5.cell? ⟨W.heap.size + 1, 2, none⟩ = some (.string x2.num.dig) := (hb.cell (p := ⟨W.heap.size + 1, 2, none⟩) l_V).trans c_V_2
  replace c_V_3 : w5.cell? ⟨W.heap.size + 1, 3, none⟩ = some (.int .i64 x2.num.exp) := (hb.cell (p := ⟨W.heap.size + 1, 3, none⟩) l_V).trans c_V_3
  replace c_V_4 : w5.cell? ⟨W.heap.size + 1, 4, none⟩ = some (.string x2.text) := (hb.cell (p := ⟨W.heap.size + 1, 4, none⟩) l_V).trans c_V_4
  replace c_w_0 : w5.cell? ⟨bk_w, 0, none⟩ = some (.slice wa D.keys.length wc) := (hb.cell (p := ⟨bk_w, 0, none⟩) l_w).trans c_w_0
  replace c_w_1 : w5.cell? ⟨bk_w, 1, none⟩ = some (.slice wb D.vals.length wd) := (hb.cell (p := ⟨bk_w, 1, none⟩) l_w).trans c_w_1
  replace c_x_0 : w5.cell? ⟨w3.heap.size, 0, none⟩ = some (.slice xa x0.keys.length xc) := (hb.cell (p := ⟨w3.heap.size, 0, none⟩) l_x).trans c_x_0
  replace c_x_1 : w5.cell? ⟨w3.heap.size, 1, none⟩ = some (.slice xa' x0.vals.length xc') := (hb.cell (p := ⟨w3.heap.size, 1, none⟩) l_x).trans c_x_1
  replace c_g_0 : w5.cell? ⟨bk_g, 0, none⟩ = some (.slice ga D.keys.length gc) := (hb.cell (p := ⟨bk_g, 0, none⟩) l_g).trans c_g_0
  replace c_g_1 : w5.cell? ⟨bk_g, 1, none⟩ = some (.slice gb D.vals.length gd) := (hb.cell (p := ⟨bk_g, 1, none⟩) l_g).trans c_g_1
  replace l_A : W.heap.size < w5.heap.size := Nat.lt_of_lt_of_le l_A hb.size
  replace l_V : W.heap.size + 1 < w5.heap.size := Nat.lt_of_lt_of_le l_V hb.size
  replace l_w : bk_w < w5.heap.size := Nat.lt_of_lt_of_le l_w hb.size
  replace l_x : w3.heap.size < w5.heap.size := Nat.lt_of_lt_of_le l_x hb.size
  replace l_g : bk_g < w5.heap.size := Nat.lt_of_lt_of_le l_g hb.size
  replace LA : Live (Old W) W w5 := LA.call hb
  replace LW : Live (NewX wz.heap.size bk_w w2) w2 w5 := LW.call hb
  replace LX : Live (New w2.heap.size w3) w3 w5 := LX.call hb
  replace LG : Live (NewX a_x.heap.size bk_g w4) w4 w5 := LG.call hb
  have y_w5 : w4.heap.size ≤ w5.heap.size := hb.size
  replace zP : W.heap.size ≤ w5.heap.size := bP.size
  clear hb
  go_wp2_with fail
  go_region_held3 (fun w' => w'.cell? ⟨W.heap.size, 0, none⟩ = some (.slice a0 x0.keys.length c0) ∧ w'.cell? ⟨W.heap.size, 1, none⟩ = some (.slice a1 x0.vals.length c1) ∧ w'.cell? ⟨w3.heap.size, 0, none⟩ = some (.slice xa x0.keys.length xc) ∧ w'.cell? ⟨w3.heap.size, 1, none⟩ = some (.slice xa' x0.vals.length xc')) (simp [*])
    (first
      | (go_at_call 9; refine (toArr_any _ (by exact (LA.call (Below.drew (Below.refl _ _))).rd h0) hzz0).mono ?_; rintro e v6 ⟨q6, rfl, hr6, hb6⟩; replace hb6 := bw_drew hb6; have hkc6 := keeps_cells hb6)
      | (go_at_call 12; refine (eqArr_same _ (by exact (LX.call hb6).rd hrx) (by exact Rd.old hr6)).mono ?_; rintro e v7 ⟨rfl, hb7⟩; have hkc7 := keeps_cells hb7))
  clear hkc6 hkc7 hr6
  replace hT : Tabs v6 := tabs_below hT hb6
  replace bP : Below W.heap.size W v6 := bw_call bP zP hb6
  replace c_A_0 : v6.cell? ⟨W.heap.size, 0, none⟩ = some (.slice a0 x0.keys.length c0) := (hb6.cell (p := ⟨W.heap.size, 0, none⟩) l_A).trans c_A_0
  replace c_A_1 : v6.cell? ⟨W.heap.size, 1, none⟩ = some (.slice a1 x0.vals.length c1) := (hb6.cell (p := ⟨W.heap.size, 1, none⟩) l_A).trans c_A_1
  replace c_V_0 : v6.cell? ⟨W.heap.size + 1, 0, none⟩ = some (.int .i64 x2.kind) := (hb6.cell (p := ⟨W.heap.size + 1, 0, none⟩) l_V).trans c_V_0
  replace c_V_1 : v6.cell? ⟨W.heap.size + 1, 1, none⟩ = some (.bool x2.num.neg) := (hb6.cell (p := ⟨W.heap.size + 1, 1, none⟩) l_V).trans c_V_1
  replace c_V_2 : v6.cell? ⟨W.heap.size + 1, 2, none⟩ = some (.string x2.num.dig) := (hb6.cell (p := ⟨W.heap.size + 1, 2, none⟩) l_V).trans c_V_2
  replace c_V_3 : v6.cell? ⟨W.heap.size + 1, 3, none⟩ = some (.int .i64 x2.num.exp) := (hb6.cell (p := ⟨W.heap.size + 1, 3, none⟩) l_V).trans c_V_3
  replace c_V_4 : v6.cell? ⟨W.heap.size + 1, 4, none⟩ = some (.string x2.text) := (hb6.cell (p := ⟨W.heap.size + 1, 4, none⟩) l_V).trans c_V_4
  replace c_w_0 : v6.cell? ⟨bk_w, 0, none⟩ = some (.slice wa D.keys.length wc) := (hb6.cell (p := ⟨bk_w, 0, none⟩) l_w).trans c_w_0
  replace c_w_1 : v6.cell? ⟨bk_w, 1, none⟩ = some (.slice wb D.vals.length wd) := (hb6.cell (p := ⟨bk_w, 1, none⟩) l_w).trans c_w_1
  replace c_x_0 : v6.cell? ⟨w3.heap.size, 0, none⟩ = some (.slice xa x0.keys.length xc) := (hb6.cell (p := ⟨w3.heap.size, 0, none⟩) l_x).trans c_x_0
  replace c_x_1 : v6.cell? ⟨w3.heap.size, 1, none⟩ = some (.slice xa' x0.vals.length xc') := (hb6.cell (p := ⟨w3.heap.size, 1, none⟩) l_x).trans c_x_1
  replace c_g_0 : v6.cell? ⟨bk_g, 0, none⟩ = some (.slice ga D.keys.length gc) := (hb6.cell (p := ⟨bk_g, 0, none⟩) l_g).trans c_g_0
  replace c_g_1 : v6.cell? ⟨bk_g, 1, none⟩ = some (.slice gb D.vals.length gd) := (hb6.cell (p := ⟨bk_g, 1, none⟩) l_g).trans c_g_1
  replace l_A : W.heap.size < v6.heap.size := Nat.lt_of_lt_of_le l_A hb6.size
  replace l_V : W.heap.size + 1 < v6.heap.size := Nat.lt_of_lt_of_le l_V hb6.size
  replace l_w : bk_w < v6.heap.size := Nat.lt_of_lt_of_le l_w hb6.size
  replace l_x : w3.heap.size < v6.heap.size := Nat.lt_of_lt_of_le l_x hb6.size
  replace l_g : bk_g < v6.heap.size := Nat.lt_of_lt_of_le l_g hb6.size
  replace LA : Live (Old W) W v6 := LA.call hb6
  replace LW : Live (NewX wz.heap.size bk_w w2) w2 v6 := LW.call hb6
  replace LX : Live (New w2.heap.size w3) w3 v6 := LX.call hb6
  replace LG : Live (NewX a_x.heap.size bk_g w4) w4 v6 := LG.call hb6
  have y_v6 : w5.heap.size ≤ v6.heap.size := hb6.size
  replace zP : W.heap.size ≤ v6.heap.size := bP.size
  replace hT : Tabs v7 := tabs_below hT hb7
  replace bP : Below W.heap.size W v7 := bw_call bP zP hb7
  replace c_A_0 : v7.cell? ⟨W.heap.size, 0, none⟩ = some (.slice a0 x0.keys.length c0) := (hb7.cell (p := ⟨W.heap.size, 0, none⟩) l_A).trans c_A_0
  replace c_A_1 : v7.cell? ⟨W.heap.size, 1, none⟩ = some (.slice a1 x0.vals.length c1) := (hb7.cell (p := ⟨W.heap.size, 1, none⟩) l_A).trans c_A_1
  replace c_V_0 : v7.cell? ⟨W.heap.size + 1, 0, none⟩ = some (.int .i64 x2.kind) := (hb7.cell (p := ⟨W.heap.size + 1, 0, none⟩) l_V).trans c_V_0
  replace c_V_1 : v7.cell? ⟨W.heap.size + 1, 1, none⟩ = some (.bool x2.num.neg) := (hb7.cell (p := ⟨W.heap.size + 1, 1, none⟩) l_V).trans c_V_1
  replace c_V_2 : v7.cell? ⟨W.heap.size + 1, 2, none⟩ = some (.string x2.num.dig) := (hb7.cell (p := ⟨W.heap.size + 1, 2, none⟩) l_V).trans c_V_2
  replace c_V_3 : v7.cell? ⟨W.heap.size + 1, 3, none⟩ = some (.int .i64 x2.num.exp) := (hb7.cell (p := ⟨W.heap.size + 1, 3, none⟩) l_V).trans c_V_3
  replace c_V_4 : v7.cell? ⟨W.heap.size + 1, 4, none⟩ = some (.string x2.text) := (hb7.cell (p := ⟨W.heap.size + 1, 4, none⟩) l_V).trans c_V_4
  replace c_w_0 : v7.cell? ⟨bk_w, 0, none⟩ = some (.slice wa D.keys.length wc) := (hb7.cell (p := ⟨bk_w, 0, none⟩) l_w).trans c_w_0
  replace c_w_1 : v7.cell? ⟨bk_w, 1, none⟩ = some (.slice wb D.vals.length wd) := (hb7.cell (p := ⟨bk_w, 1, none⟩) l_w).trans c_w_1
  replace c_x_0 : v7.cell? ⟨w3.heap.size, 0, none⟩ = some (.slice xa x0.keys.length xc) := (hb7.cell (p := ⟨w3.heap.size, 0, none⟩) l_x).trans c_x_0
  replace c_x_1 : v7.cell? ⟨w3.heap.size, 1, none⟩ = some (.slice xa' x0.vals.length xc') := (hb7.cell (p := ⟨w3.heap.size, 1, none⟩) l_x).trans c_x_1
  replace c_g_0 : v7.cell? ⟨bk_g, 0, none⟩ = some (.slice ga D.keys.length gc) := (hb7.cell (p := ⟨bk_g, 0, none⟩) l_g).trans c_g_0
  replace c_g_1 : v7.cell? ⟨bk_g, 1, none⟩ = some (.slice gb D.vals.length gd) := (hb7.cell (p := ⟨bk_g, 1, none⟩) l_g).trans c_g_1
  replace l_A : W.heap.size < v7.heap.size := Nat.lt_of_lt_of_le l_A hb7.size
  replace l_V : W.heap.size + 1 < v7.heap.size := Nat.lt_of_lt_of_le l_V hb7.size
  replace l_w : bk_w < v7.heap.size := Nat.lt_of_lt_of_le l_w hb7.size
  replace l_x : w3.heap.size < v7.heap.size := Nat.lt_of_lt_of_le l_x hb7.size
  replace l_g : bk_g < v7.heap.size := Nat.lt_of_lt_of_le l_g hb7.size
  replace LA : Live (Old W) W v7 := LA.call hb7
  replace LW : Live (NewX wz.heap.size bk_w w2) w2 v7 := LW.call hb7
  replace LX : Live (New w2.heap.size w3) w3 v7 := LX.call hb7
  replace LG : Live (NewX a_x.heap.size bk_g w4) w4 v7 := LG.call hb7
  have y_v7 : v6.heap.size ≤ v7.heap.size := hb7.size
  replace zP : W.heap.size ≤ v7.heap.size := bP.size
  clear hb6 hb7
  go_wp2_with fail
  refine (markArr_one _ (by exact hox.same LX.same) (by exact LX.lt) hmk0).mono ?_
  rintro e w6 ⟨n, hn, rfl, hoff, hmx⟩
  replace hT : Tabs w6 := tabs_below' hT bP0 (bw_off bP zP hoff (by intro b hb; (try simp only [New, NewX] at hb); omega))
  replace bP : Below W.heap.size W w6 := bw_off bP zP hoff (by intro b hb; (try simp only [New, NewX] at hb); omega)
  replace c_A_0 : w6.cell? ⟨W.heap.size, 0, none⟩ = some (.slice a0 x0.keys.length c0) := (hoff.cell (p := ⟨W.heap.size, 0, none⟩) l_A (by intro hq; (try simp only [New, NewX] at hq); omega)).trans c_A_0
  replace c_A_1 : w6.cell? ⟨W.heap.size, 1, none⟩ = some (.slice a1 x0.vals.length c1) := (hoff.cell (p := ⟨W.heap.size, 1, none⟩) l_A (by intro hq; (try simp only [New, NewX] at hq); omega)).trans c_A_1
  replace c_V_0 : w6.cell? ⟨W.heap.size + 1, 0, none⟩ = some (.int .i64 x2.kind) := (hoff.cell (p := ⟨W.heap.size + 1, 0, none⟩) l_V (by intro hq; (try simp only [New, NewX] at hq); omega)).trans c_V_0
  replace c_V_1 : w6.cell? ⟨W.heap.size + 1, 1, none⟩ = some (.bool x2.num.neg) := (hoff.cell (p := ⟨W.heap.size + 1, 1, none⟩) l_V (by intro hq; (try simp only [New, NewX] at hq); omega)).trans c_V_1
  replace c_V_2 : w6.cell? ⟨W.heap.size + 1, 2, none⟩ = some (.string x2.num.dig) := (hoff.cell (p := ⟨W.heap.size + 1, 2, none⟩) l_V (by intro hq; (try simp only [New, NewX] at hq); omega)).trans c_V_2
  replace c_V_3 : w6.cell? ⟨W.heap.size + 1, 3, none⟩ = some (.int .i64 x2.num.exp) := (hoff.cell (p := ⟨W.heap.size + 1, 3, none⟩) l_V (by intro hq; (try simp only [New, NewX] at hq); omega)).trans c_V_3
  replace c_V_4 : w6.cell? ⟨W.heap.size + 1, 4, none⟩ = some (.string x2.text) := (hoff.cell (p := ⟨W.heap.size + 1, 4, none⟩) l_V (by intro hq; (try simp only [New, NewX] at hq); omega)).trans c_V_4
  replace c_w_0 : w6.cell? ⟨bk_w, 0, none⟩ = some (.slice wa D.keys.length wc) := (hoff.cell (p := ⟨bk_w, 0, none⟩) l_w (by intro hq; (try simp only [New, NewX] at hq); omega)).trans c_w_0
  replace c_w_1 : w6.cell? ⟨bk_w, 1, none⟩ = some (.slice wb D.vals.length wd) := (hoff.cell (p := ⟨bk_w, 1, none⟩) l_w (by intro hq; (try simp only [New, NewX] at hq); omega)).trans c_w_1
  replace c_x_0 : w6.cell? ⟨w3.heap.size, 0, none⟩ = some (.slice xa x0.keys.length xc) := (hoff.cell (p := ⟨w3.heap.size, 0, none⟩) l_x (by intro hq; (try simp only [New, NewX] at hq); omega)).trans c_x_0
  replace c_x_1 : w6.cell? ⟨w3.heap.size, 1, none⟩ = some (.slice xa' x0.vals.length xc') := (hoff.cell (p := ⟨w3.heap.size, 1, none⟩) l_x (by intro hq; (try simp only [New, NewX] at hq); omega)).trans c_x_1
  replace c_g_0 : w6.cell? ⟨bk_g, 0, none⟩ = some (.slice ga D.keys.length gc) := (hoff.cell (p := ⟨bk_g, 0, none⟩) l_g (by intro hq; (try simp only [New, NewX] at hq); omega)).trans c_g_0
  replace c_g_1 : w6.cell? ⟨bk_g, 1, none⟩ = some (.slice gb D.vals.length gd) := (hoff.cell (p := ⟨bk_g, 1, none⟩) l_g (by intro hq; (try simp only [New, NewX] at hq); omega)).trans c_g_1
  replace l_A : W.heap.size < w6.heap.size := Nat.lt_of_lt_of_le l_A hoff.size
  replace l_V : W.heap.size + 1 < w6.heap.size := Nat.lt_of_lt_of_le l_V hoff.size
  replace l_w : bk_w < w6.heap.size := Nat.lt_of_lt_of_le l_w hoff.size
  replace l_x : w3.heap.size < w6.heap.size := Nat.lt_of_lt_of_le l_x hoff.size
  replace l_g : bk_g < w6.heap.size := Nat.lt_of_lt_of_le l_g hoff.size
  replace LA : Live (Old W) W w6 := LA.off hoff (by intro b hb hT; (try simp only [New, NewX, Old] at hb hT); omega)
  replace LW : Live (NewX wz.heap.size bk_w w2) w2 w6 := LW.off hoff (by intro b hb hT; (try simp only [New, NewX, Old] at hb hT); omega)
  replace LG : Live (NewX a_x.heap.size bk_g w4) w4 w6 := LG.off hoff (by intro b hb hT; (try simp only [New, NewX, Old] at hb hT); omega)
  have y_w6 : v7.heap.size ≤ w6.heap.size := hoff.size
  replace zP : W.heap.size ≤ w6.heap.size := bP.size
  clear hoff hmx hox hrx LX
  have hn0 : ¬ (n : Int) < 0 := by omega
  clear hn
  go_wp2_with fail
  refine (eqArr_same _ (by exact LG.rd hrg) (by exact LW.rd hrw)).mono ?_
  rintro e w7 ⟨rfl, hb⟩
  replace hT : Tabs w7 := tabs_below hT hb
  replace bP : Below W.heap.size W w7 := bw_call bP zP hb
  replace c_A_0 : w7.cell? ⟨W.heap.size, 0, none⟩ = some (.slice a0 x0.keys.length c0) := (hb.cell (p := ⟨W.heap.size, 0, none⟩) l_A).trans c_A_0
  replace c_A_1 : w7.cell? ⟨W.heap.size, 1, none⟩ = some (.slice a1 x0.vals.length c1) := (hb.cell (p := ⟨W.heap.size, 1, none⟩) l_A).trans c_A_1
  replace c_V_0 : w7.cell? ⟨W.heap.size + 1, 0, none⟩ = some (.int .i64 x2.kind) := (hb.cell (p := ⟨W.heap.size + 1, 0, none⟩) l_V).trans c_V_0
  replace c_V_1 : w7.cell? ⟨W.heap.size + 1, 1, none⟩ = some (.bool x2.num.neg) := (hb.cell (p := ⟨W.heap.size + 1, 1, none⟩) l_V).trans c_V_1
  replace c_V_2 : w7.cell? ⟨W.heap.size + 1, 2, none⟩ = some (.string x2.num.dig) := (hb.cell (p := ⟨W.heap.size + 1, 2, none⟩) l_V).trans c_V_2
  replace c_V_3 : w7.cell? ⟨W.heap.size + 1, 3, none⟩ = some (.int .i64 x2.num.exp) := (hb.cell (p := ⟨W.heap.size + 1, 3, none⟩) l_V).trans c_V_3
  replace c_V_4 : w7.cell? ⟨W.heap.size + 1, 4, none⟩ = some (.string x2.text) := (hb.cell (p := ⟨W.heap.size + 1, 4, none⟩) l_V).trans c_V_4
  replace c_w_0 : w7.cell? ⟨bk_w, 0, none⟩ = some (.slice wa D.keys.length wc) := (hb.cell (p := ⟨bk_w, 0, none⟩) l_w).trans c_w_0
  replace c_w_1 : w7.cell? ⟨bk_w, 1, none⟩ = some (.slice wb D.vals.length wd) := (hb.cell (p := ⟨bk_w, 1, none⟩) l_w).trans c_w_1
  replace c_x_0 : w7.cell? ⟨w3.heap.size, 0, none⟩ = some (.slice xa x0.keys.length xc) := (hb.cell (p := ⟨w3.heap.size, 0, none⟩) l_x).trans c_x_0
  replace c_x_1 : w7.cell? ⟨w3.heap.size, 1, none⟩ = some (.slice xa' x0.vals.length xc') := (hb.cell (p := ⟨w3.heap.size, 1, none⟩) l_x).trans c_x_1
  replace c_g_0 : w7.cell? ⟨bk_g, 0, none⟩ = some (.slice ga D.keys.length gc) := (hb.cell (p := ⟨bk_g, 0, none⟩) l_g).trans c_g_0
  replace c_g_1 : w7.cell? ⟨bk_g, 1, none⟩ = some (.slice gb D.vals.length gd) := (hb.cell (p := ⟨bk_g, 1, none⟩) l_g).trans c_g_1
  replace l_A : W.heap.size < w7.heap.size := Nat.lt_of_lt_of_le l_A hb.size
  replace l_V : W.heap.size + 1 < w7.heap.size := Nat.lt_of_lt_of_le l_V hb.size
  replace l_w : bk_w < w7.heap.size := Nat.lt_of_lt_of_le l_w hb.size
  replace l_x : w3.heap.size < w7.heap.size := Nat.lt_of_lt_of_le l_x hb.size
  replace l_g : bk_g < w7.heap.size := Nat.lt_of_lt_of_le l_g hb.size
  replace LA : Live (Old W) W w7 := LA.call hb
  replace LW : Live (NewX wz.heap.size bk_w w2) w2 w7 := LW.call hb
  replace LG : Live (NewX a_x.heap.size bk_g w4) w4 w7 := LG.call hb
  have y_w7 : w6.heap.size ≤ w7.heap.size := hb.size
  replace zP : W.heap.size ≤ w7.heap.size := bP.size
  clear hb
  go_wp2_with fail
  refine (markArr_one _ (by exact hog.same LG.same) (by exact LG.lt) hmkD).mono ?_
  rintro e w8 ⟨m, hm, rfl, hoff, hmg⟩
  replace hT : Tabs w8 := tabs_below' hT bP0 (bw_off bP zP hoff (by intro b hb; (try simp only [New, NewX] at hb); omega))
  replace bP : Below W.heap.size W w8 := bw_off bP zP hoff (by intro b hb; (try simp only [New, NewX] at hb); omega)
  replace c_A_0 : w8.cell? ⟨W.heap.size, 0, none⟩ = some (.slice a0 x0.keys.length c0) := (hoff.cell (p := ⟨W.heap.size, 0, none⟩) l_A (by intro hq; (try simp only [New, NewX] at hq); omega)).trans c_A_0
  replace c_A_1 : w8.cell? ⟨W.heap.size, 1, none⟩ = some (.slice a1 x0.vals.length c1) := (hoff.cell (p := ⟨W.heap.size, 1, none⟩) l_A (by intro hq; (try simp only [New, NewX] at hq); omega)).trans c_A_1
  replace c_V_0 : w8.cell? ⟨W.heap.size + 1, 0, none⟩ = some (.int .i64 x2.kind) := (hoff.cell (p := ⟨W.heap.size + 1, 0, none⟩) l_V (by intro hq; (try simp only [New, NewX] at hq); omega)).trans c_V_0
  replace c_V_1 : w8.cell? ⟨W.heap.size + 1, 1, none⟩ = some (.bool x2.num.neg) := (hoff.cell (p := ⟨W.heap.size + 1, 1, none⟩) l_V (by intro hq; (try simp only [New, NewX] at hq); omega)).trans c_V_1
  replace c_V_2 : w8.cell? ⟨W.heap.size + 1, 2, none⟩ = some (.string x2.num.dig) := (hoff.cell (p := ⟨W.heap.size + 1, 2, none⟩) l_V (by intro hq; (try simp only [New, NewX] at hq); omega)).trans c_V_2
  replace c_V_3 : w8.cell? ⟨W.heap.size + 1, 3, none⟩ = some (.int .i64 x2.num.exp) := (hoff.cell (p := ⟨W.heap.size + 1, 3, none⟩) l_V (by intro hq; (try simp only [New, NewX] at hq); omega)).trans c_V_3
  replace c_V_4 : w8.cell? ⟨W.heap.size + 1, 4, none⟩ = some (.string x2.text) := (hoff.cell (p := ⟨W.heap.size + 1, 4, none⟩) l_V (by intro hq; (try simp only [New, NewX] at hq); omega)).trans c_V_4
  replace c_w_0 : w8.cell? ⟨bk_w, 0, none⟩ = some (.slice wa D.keys.length wc) := (hoff.cell (p := ⟨bk_w, 0, none⟩) l_w (by intro hq; (try simp only [New, NewX] at hq); omega)).trans c_w_0
  replace c_w_1 : w8.cell? ⟨bk_w, 1, none⟩ = some (.slice wb D.vals.length wd) := (hoff.cell (p := ⟨bk_w, 1, none⟩) l_w (by intro hq; (try simp only [New, NewX] at hq); omega)).trans c_w_1
  replace c_x_0 : w8.cell? ⟨w3.heap.size, 0, none⟩ = some (.slice xa x0.keys.length xc) := (hoff.cell (p := ⟨w3.heap.size, 0, none⟩) l_x (by intro hq; (try simp only [New, NewX] at hq); omega)).trans c_x_0
  replace c_x_1 : w8.cell? ⟨w3.heap.size, 1, none⟩ = some (.slice xa' x0.vals.length xc') := (hoff.cell (p := ⟨w3.heap.size, 1, none⟩) l_x (by intro hq; (try simp only [New, NewX] at hq); omega)).trans c_x_1
  replace c_g_0 : w8.cell? ⟨bk_g, 0, none⟩ = some (.slice ga D.keys.length gc) := (hoff.cell (p := ⟨bk_g, 0, none⟩) l_g (by intro hq; (try simp only [New, NewX] at hq); omega)).trans c_g_0
  replace c_g_1 : w8.cell? ⟨bk_g, 1, none⟩ = some (.slice gb D.vals.length gd) := (hoff.cell (p := ⟨bk_g, 1, none⟩) l_g (by intro hq; (try simp only [New, NewX] at hq); omega)).trans c_g_1
  replace l_A : W.heap.size < w8.heap.size := Nat.lt_of_lt_of_le l_A hoff.size
  replace l_V : W.heap.size + 1 < w8.heap.size := Nat.lt_of_lt_of_le l_V hoff.size
  replace l_w : bk_w < w8.heap.size := Nat.lt_of_lt_of_le l_w hoff.size
  replace l_x : w3.heap.size < w8.heap.size := Nat.lt_of_lt_of_le l_x hoff.size
  replace l_g : bk_g < w8.heap.size := Nat.lt_of_lt_of_le l_g hoff.size
  replace LA : Live (Old W) W w8 := LA.off hoff (by intro b hb hT; (try simp only [New, NewX, Old] at hb hT); omega)
  replace LW : Live (NewX wz.heap.size bk_w w2) w2 w8 := LW.off hoff (by intro b hb hT; (try simp only [New, NewX, Old] at hb hT); omega)
  have y_w8 : w7.heap.size ≤ w8.heap.size := hoff.size
  replace zP : W.heap.size ≤ w8.heap.size := bP.size
  clear hoff hog hrg LG
  have LM : Live (NewX a_x.heap.size bk_g w4) w8 w8 := Live.refl fun b hb => by simp only [New, NewX] at hb; omega
  have hm0 : ¬ (m : Int) < 0 := by omega
  have HM := hid hm
  clear hm
  go_wp2_with fail
  refine (heldArr_one _ (by exact hmg.same LM.same) (by exact LM.lt) hmkD).mono ?_
  rintro e w9 ⟨i, hq, rfl, hb⟩
  obtain rfl : m = i := by have := HM.out; omega
  clear hq
  replace hT : Tabs w9 := tabs_below hT hb
  replace bP : Below W.heap.size W w9 := bw_call bP zP hb
  replace c_A_0 : w9.cell? ⟨W.heap.size, 0, none⟩ = some (.slice a0 x0.keys.length c0) := (hb.cell (p := ⟨W.heap.size, 0, none⟩) l_A).trans c_A_0
  replace c_A_1 : w9.cell? ⟨W.heap.size, 1, none⟩ = some (.slice a1 x0.vals.length c1) := (hb.cell (p := ⟨W.heap.size, 1, none⟩) l_A).trans c_A_1
  replace c_V_0 : w9.cell? ⟨W.heap.size + 1, 0, none⟩ = some (.int .i64 x2.kind) := (hb.cell (p := ⟨W.heap.size + 1, 0, none⟩) l_V).trans c_V_0
  replace c_V_1 : w9.cell? ⟨W.heap.size + 1, 1, none⟩ = some (.bool x2.num.neg) := (hb.cell (p := ⟨W.heap.size + 1, 1, none⟩) l_V).trans c_V_1
  replace c_V_2 : w9.cell? ⟨W.heap.size + 1, 2, none⟩ = some (.string x2.num.dig) := (hb.cell (p := ⟨W.heap.size + 1, 2, none⟩) l_V).trans c_V_2
  replace c_V_3 : w9.cell? ⟨W.heap.size + 1, 3, none⟩ = some (.int .i64 x2.num.exp) := (hb.cell (p := ⟨W.heap.size + 1, 3, none⟩) l_V).trans c_V_3
  replace c_V_4 : w9.cell? ⟨W.heap.size + 1, 4, none⟩ = some (.string x2.text) := (hb.cell (p := ⟨W.heap.size + 1, 4, none⟩) l_V).trans c_V_4
  replace c_w_0 : w9.cell? ⟨bk_w, 0, none⟩ = some (.slice wa D.keys.length wc) := (hb.cell (p := ⟨bk_w, 0, none⟩) l_w).trans c_w_0
  replace c_w_1 : w9.cell? ⟨bk_w, 1, none⟩ = some (.slice wb D.vals.length wd) := (hb.cell (p := ⟨bk_w, 1, none⟩) l_w).trans c_w_1
  replace c_x_0 : w9.cell? ⟨w3.heap.size, 0, none⟩ = some (.slice xa x0.keys.length xc) := (hb.cell (p := ⟨w3.heap.size, 0, none⟩) l_x).trans c_x_0
  replace c_x_1 : w9.cell? ⟨w3.heap.size, 1, none⟩ = some (.slice xa' x0.vals.length xc') := (hb.cell (p := ⟨w3.heap.size, 1, none⟩) l_x).trans c_x_1
  replace c_g_0 : w9.cell? ⟨bk_g, 0, none⟩ = some (.slice ga D.keys.length gc) := (hb.cell (p := ⟨bk_g, 0, none⟩) l_g).trans c_g_0
  replace c_g_1 : w9.cell? ⟨bk_g, 1, none⟩ = some (.slice gb D.vals.length gd) := (hb.cell (p := ⟨bk_g, 1, none⟩) l_g).trans c_g_1
  replace l_A : W.heap.size < w9.heap.size := Nat.lt_of_lt_of_le l_A hb.size
  replace l_V : W.heap.size + 1 < w9.heap.size := Nat.lt_of_lt_of_le l_V hb.size
  replace l_w : bk_w < w9.heap.size := Nat.lt_of_lt_of_le l_w hb.size
  replace l_x : w3.heap.size < w9.heap.size := Nat.lt_of_lt_of_le l_x hb.size
  replace l_g : bk_g < w9.heap.size := Nat.lt_of_lt_of_le l_g hb.size
  replace LA : Live (Old W) W w9 := LA.call hb
  replace LW : Live (NewX wz.heap.size bk_w w2) w2 w9 := LW.call hb
  replace LM : Live (NewX a_x.heap.size bk_g w4) w8 w9 := LM.call hb
  have y_w9 : w8.heap.size ≤ w9.heap.size := hb.size
  replace zP : W.heap.size ≤ w9.heap.size := bP.size
  clear hb
  go_wp2_with fail
  obtain ⟨RR, hRR⟩ : ∃ RR : Act → Act → World → Prop, RR = (fun a a' w' => ∃ (bk : Nat) (ua : Option Addr) (uc : Nat) (va : Option Addr) (vc : Nat) (z92 z93 z94 z95 z96 z97 z91 z98 z99 : Value), a' = (((((((((((a.put (some 92) z92).put (some 93) z93).put (some 94) z94).put (some 95) z95).put (some 96) z96).put (some 97) z97).put (some 91) z91).put (some 98) z98).put (some 99) z99).put (some 16) (.pointer (some ⟨bk, 0, none⟩))).put (some 17) (.bool q)) ∧ w9.heap.size ≤ bk ∧ bk < w'.heap.size ∧ Below w9.heap.size w9 w' ∧ w'.cell? ⟨bk, 0, none⟩ = some (.slice ua D.keys.length uc) ∧ w'.cell? ⟨bk, 1, none⟩ = some (.slice va D.vals.length vc) ∧ Rd.rd (NewX w9.heap.size bk w') w' (#[.slice ua D.keys.length uc, .slice va D.vals.length vc] : Array Value).toList D ∧ OwArr (NewX w9.heap.size bk w') w' D #[.slice ua D.keys.length uc, .slice va D.vals.length vc]) := ⟨_, rfl⟩
  have HRR := hid hRR
  clear hRR
  refine wp_cut RR ?_ ?_
  · refine wp_region_held_drew (S := fun w' => Below w9.heap.size w9 w') (by kernel_rfl) ?_ (fun hHeld => ?_)
    · exact Below.drew (Below.refl _ _)
    refine wpAnyH_take (i := 0) (v := ?_) rfl (by kernel_rfl) (by kernel_rfl) (by kernel_rfl) (fun _ _ _ h => h) (Or.inl ⟨by rfl, ?_⟩) (by assumption) ?_
    rotate_left
    · (intro w' hSw; (try dsimp only at hSw); (have q0 := (hSw.cell (p := ⟨W.heap.size, 0, none⟩) l_A).trans c_A_0; have q1 := (hSw.cell (p := ⟨W.heap.size, 1, none⟩) l_A).trans c_A_1); go_simp; try (with_reducible rfl))
    change wpAnyH _ _ _ _ _ _ _ (Act.put _ (some 92) _) _
    try simp only [Act.put, List.setIfInBounds_toArray, List.set_cons_zero, List.set_cons_succ]
    refine wpAnyH_take (i := 2) (v := ?_) rfl (by kernel_rfl) (by kernel_rfl) (by kernel_rfl) (fun _ _ _ h => h) (Or.inl ⟨by rfl, ?_⟩) (by assumption) ?_
    rotate_left
    · (intro w' hSw; (try dsimp only at hSw); go_simp; try (with_reducible rfl))
    change wpAnyH _ _ _ _ _ _ _ (Act.put _ (some 94) _) _
    try simp only [Act.put, List.setIfInBounds_toArray, List.set_cons_zero, List.set_cons_succ]
    refine wpAnyH_take (i := 3) (v := ?_) rfl (by kernel_rfl) (by kernel_rfl) (by kernel_rfl) (fun _ _ _ h => h) (Or.inl ⟨by rfl, ?_⟩) (by assumption) ?_
    rotate_left
    · (intro w' hSw; (try dsimp only at hSw); (have q0 := (hSw.cell (p := ⟨W.heap.size + 1, 0, none⟩) l_V).trans c_V_0; have q1 := (hSw.cell (p := ⟨W.heap.size + 1, 1, none⟩) l_V).trans c_V_1; have q2 := (hSw.cell (p := ⟨W.heap.size + 1, 2, none⟩) l_V).trans c_V_2; have q3 := (hSw.cell (p := ⟨W.heap.size + 1, 3, none⟩) l_V).trans c_V_3; have q4 := (hSw.cell (p := ⟨W.heap.size + 1, 4, none⟩) l_V).trans c_V_4); go_simp; try (with_reducible rfl))
    change wpAnyH _ _ _ _ _ _ _ (Act.put _ (some 95) _) _
    try simp only [Act.put, List.setIfInBounds_toArray, List.set_cons_zero, List.set_cons_succ]
    refine wpAnyH_ready (rs := [1, 9]) (by kernel_rfl) (by simp) ?_
    refine AllReadyH.cons (i := 1) rfl (fun K hK => ?_) ?_
    · simp only [List.getElem_toArray, List.getElem_cons_succ, List.getElem_cons_zero]
      rw [if_pos (by rfl)]
      go_simp
      (go_at_call 9; refine (toArr_any _ (by exact (LA.call hHeld).rd h0) hzz0).mono ?_; rintro e tA ⟨qA, rfl, hrA, hbA⟩; go_wp2_with fail)
      have LvA : Live (New w9.heap.size tA) tA tA := Live.refl fun b hb => hb.2
      obtain ⟨sAa, sAc, sAb, sAd, hcs, _, _⟩ := rdArr hrA
      obtain rfl := arr_of_list hcs
      clear hcs
      refine hK.out _ _ ?_ (fun hHeld => ?_)
      · ((try dsimp only); exact ext_trans hHeld hbA)
      clear hK K
      try simp only [Act.put, List.setIfInBounds_toArray, List.set_cons_zero, List.set_cons_succ]
      refine wpAnyH_ready (rs := [4, 9]) (by kernel_rfl) (by simp) ?_
      refine AllReadyH.cons (i := 4) rfl (fun K hK => ?_) ?_
      · simp only [List.getElem_toArray, List.getElem_cons_succ, List.getElem_cons_zero]
        rw [if_pos (by rfl)]
        go_simp
        (go_at_call 10; refine (toVal_any _ (by exact (LA.call hHeld).rd h2) hzz2).mono ?_; rintro e tV ⟨qV, rfl, hrV, hbV⟩; go_wp2_with fail)
        replace LvA := LvA.call hbV
        have LvV : Live (New tA.heap.size tV) tV tV := Live.refl fun b hb => hb.2
        obtain ⟨hcsV, _⟩ := rdVal hrV
        obtain rfl := arr_of_list hcsV
        clear hcsV
        refine hK.out _ _ ?_ (fun hHeld => ?_)
        · ((try dsimp only); exact ext_trans hHeld hbV)
        clear hK K
        try simp only [Act.put, List.setIfInBounds_toArray, List.set_cons_zero, List.set_cons_succ]
        refine wpAnyH_ready (rs := [5, 9]) (by kernel_rfl) (by simp) ?_
        refine AllReadyH.cons (i := 5) rfl (fun K hK => ?_) ?_
        · simp only [List.getElem_toArray, List.getElem_cons_succ, List.getElem_cons_zero]
          rw [if_pos (by rfl)]
          go_simp
          (go_at_call 11; refine (hiD.out _ _ _ (by exact (LvA.rd hrA)) (by exact LvV.rd hrV) (tabs_below hT hHeld)).mono ?_; rintro e tC ⟨qC, rfl, hrC, hoC, hbC⟩; go_wp2_with fail)
          have nC : w9.heap.size ≤ tV.heap.size := hHeld.size
          replace LvA := LvA.call hbC
          replace LvV := LvV.call hbC
          have LvC : Live (New tV.heap.size tC) tC tC := Live.refl fun b hb => hb.2
          obtain ⟨sCa, sCc, sCb, sCd, hcs, _, _⟩ := rdArr hrC
          obtain rfl := arr_of_list hcs
          clear hcs
          refine hK.out _ _ ?_ (fun hHeld => ?_)
          · ((try dsimp only); exact ext_trans hHeld hbC)
          clear hK K
          try simp only [Act.put, List.setIfInBounds_toArray, List.set_cons_zero, List.set_cons_succ]
          refine wpAnyH_take (i := 6) (v := ?_) rfl (by kernel_rfl) (by kernel_rfl) (by kernel_rfl) (fun _ _ _ h => h) (Or.inl ⟨by rfl, ?_⟩) (by assumption) ?_
          rotate_left
          · (intro w' hSw; (try dsimp only at hSw); go_simp; try (with_reducible rfl))
          change wpAnyH _ _ _ _ _ _ _ (Act.put _ (some 91) _) _
          try simp only [Act.put, List.setIfInBounds_toArray, List.set_cons_zero, List.set_cons_succ]
          refine wpAnyH_take (i := 7) (v := ?_) rfl (by kernel_rfl) (by kernel_rfl) (by kernel_rfl) (fun _ _ _ h => h) (Or.inl ⟨by rfl, ?_⟩) (by assumption) ?_
          rotate_left
          · (intro w' hSw; (try dsimp only at hSw); go_simp; try (with_reducible rfl))
          change wpAnyH _ _ _ _ _ _ _ (Act.put _ (some 98) _) _
          try simp only [Act.put, List.setIfInBounds_toArray, List.set_cons_zero, List.set_cons_succ]
          refine wpAnyH_take (i := 8) (v := ?_) rfl (by kernel_rfl) (by kernel_rfl) (by kernel_rfl) (fun _ _ _ h => h) (Or.inl ⟨by rfl, ?_⟩) (by assumption) ?_
          rotate_left
          · (intro w' hSw; (try dsimp only at hSw); go_simp; try (with_reducible rfl))
          change wpAnyH _ _ _ _ _ _ _ (Act.put _ (some 99) _) _
          try simp only [Act.put, List.setIfInBounds_toArray, List.set_cons_zero, List.set_cons_succ]
          refine wpAnyH_ready (rs := [9]) (by kernel_rfl) (by simp) ?_
          refine AllReadyH.cons (i := 9) rfl (fun K hK => ?_) AllReadyH.nil
          simp only [List.getElem_toArray, List.getElem_cons_succ, List.getElem_cons_zero]
          rw [if_pos (by rfl)]
          go_simp
          obtain ⟨tN, hwN⟩ : ∃ v, tC.alloc (.cells #[.slice none 0 0, .slice none 0 0] 34) = v := ⟨_, rfl⟩
          have hbN : Below tC.heap.size tC tN := by rw [← hwN]; exact ext_alloc _ _
          have gle : w9.heap.size ≤ tC.heap.size := hHeld.size
          have gl : tC.heap.size < tN.heap.size := by rw [← hwN]; first | (simp; done) | (show _ < (World.alloc _ _).heap.size; simp)
          have g0 : tN.cell? ⟨tC.heap.size, 0, none⟩ = some (.slice none 0 0) := by rw [← hwN]; first | (simp; done) | (go_simp; done)
          have gz0 : tN.frozen? ⟨tC.heap.size, 0, none⟩ = false := by rw [← hwN]; first | (simp; done) | (go_simp; done)
          have g1 : tN.cell? ⟨tC.heap.size, 1, none⟩ = some (.slice none 0 0) := by rw [← hwN]; first | (simp; done) | (go_simp; done)
          have gz1 : tN.frozen? ⟨tC.heap.size, 1, none⟩ = false := by rw [← hwN]; first | (simp; done) | (go_simp; done)
          have hDal : ¬ New tV.heap.size tC tC.heap.size := fun h => absurd h.2 (by omega)
          replace LvA := LvA.call hbN
          replace LvV := LvV.call hbN
          replace LvC := LvC.call hbN
          rw [hwN]
          clear hwN
          refine hK.out _ _ ?_ (fun hHeld => ?_)
          · ((try dsimp only); exact ext_trans hHeld hbN)
          clear hK K
          try simp only [Act.put, List.setIfInBounds_toArray, List.set_cons_zero, List.set_cons_succ]
          refine wpAnyH_ready (rs := [10]) (by kernel_rfl) (by simp) ?_
          refine AllReadyH.cons (i := 10) rfl (fun K hK => ?_) AllReadyH.nil
          simp only [List.getElem_toArray, List.getElem_cons_succ, List.getElem_cons_zero]
          rw [if_pos (by rfl)]
          go_simp
          refine hK.out _ _ ?_ (fun hHeld => ?_)
          · ((try dsimp only); exact Below.setCell (Below.setCell hHeld gle _) gle _)
          clear hK K
          try simp only [Act.put, List.setIfInBounds_toArray, List.set_cons_zero, List.set_cons_succ]
          refine wpAnyH_take (i := 11) (v := ?_) rfl (by kernel_rfl) (by kernel_rfl) (by kernel_rfl) (fun _ _ _ h => h) (Or.inl ⟨by rfl, ?_⟩) (by assumption) ?_
          rotate_left
          · (intro w' hSw; (try dsimp only at hSw); go_simp; try (with_reducible rfl))
          change wpAnyH _ _ _ _ _ _ _ (Act.put _ (some 17) _) _
          try simp only [Act.put, List.setIfInBounds_toArray, List.set_cons_zero, List.set_cons_succ]
          refine wpAnyH_done (by kernel_rfl) ?_ _
          dsimp only [Exit.then]
          rw [HRR.out]
          have LvF := (LvC.set (j := 0) hDal (.slice sCa D.keys.length sCc)).set (j := 1) hDal (.slice sCb D.vals.length sCd)
          have hDX : ∀ b, New tV.heap.size tC b → NewX w9.heap.size tC.heap.size ((tN.setCell ⟨tC.heap.size, 0, none⟩ (.slice sCa D.keys.length sCc)).setCell ⟨tC.heap.size, 1, none⟩ (.slice sCb D.vals.length sCd)) b := fun b hb => ⟨⟨Nat.le_trans nC hb.1, LvF.lt b hb⟩, fun e => hDal (by rw [← e]; exact hb)⟩
          refine ⟨tC.heap.size, sCa, sCc, sCb, sCd, .agg #[.slice a0 x0.keys.length c0, .slice a1 x0.vals.length c1], .agg #[.slice sAa x0.keys.length sAc, .slice sAb x0.vals.length sAd], .string x1, .agg #[.int .i64 x2.kind, .bool x2.num.neg, .string x2.num.dig, .int .i64 x2.num.exp, .string x2.text], .agg #[.int .i64 x2.kind, .bool x2.num.neg, .string x2.num.dig, .int .i64 x2.num.exp, .string x2.text], .tuple #[.agg #[.slice sCa D.keys.length sCc, .slice sCb D.vals.length sCd], .bool q], .tuple #[.agg #[.slice sCa D.keys.length sCc, .slice sCb D.vals.length sCd], .bool q], .agg #[.slice sCa D.keys.length sCc, .slice sCb D.vals.length sCd], .bool q, ?_, gle, ?_, hHeld, ?_, ?_, ?_, ?_⟩
          · simp only [Act.put, List.setIfInBounds_toArray, List.set_cons_zero, List.set_cons_succ]
          · simpa [World.setCell] using gl
          · exact (World.cell?_setCell_other _ _ _ _ (by simp)).trans (World.cell?_setCell_same _ _ _ g0)
          · exact World.cell?_setCell_same _ _ _ ((World.cell?_setCell_other _ _ _ _ (by simp)).trans g1)
          · exact Rd.mono hDX (Rd.same LvF.same hrC)
          · exact (hoC.same LvF.same).mono hDX
        refine AllReadyH.cons (i := 9) rfl (fun K hK => ?_) ?_
        · simp only [List.getElem_toArray, List.getElem_cons_succ, List.getElem_cons_zero]
          rw [if_pos (by rfl)]
          go_simp
          obtain ⟨tN, hwN⟩ : ∃ v, tV.alloc (.cells #[.slice none 0 0, .slice none 0 0] 34) = v := ⟨_, rfl⟩
          have hbN : Below tV.heap.size tV tN := by rw [← hwN]; exact ext_alloc _ _
          have gle : w9.heap.size ≤ tV.heap.size := hHeld.size
          have gl : tV.heap.size < tN.heap.size := by rw [← hwN]; first | (simp; done) | (show _ < (World.alloc _ _).heap.size; simp)
          have g0 : tN.cell? ⟨tV.heap.size, 0, none⟩ = some (.slice none 0 0) := by rw [← hwN]; first | (simp; done) | (go_simp; done)
          have gz0 : tN.frozen? ⟨tV.heap.size, 0, none⟩ = false := by rw [← hwN]; first | (simp; done) | (go_simp; done)
          have g1 : tN.cell? ⟨tV.heap.size, 1, none⟩ = some (.slice none 0 0) := by rw [← hwN]; first | (simp; done) | (go_simp; done)
          have gz1 : tN.frozen? ⟨tV.heap.size, 1, none⟩ = false := by rw [← hwN]; first | (simp; done) | (go_simp; done)
          replace LvA := LvA.call hbN
          replace LvV := LvV.call hbN
          rw [hwN]
          clear hwN
          refine hK.out _ _ ?_ (fun hHeld => ?_)
          · ((try dsimp only); exact ext_trans hHeld hbN)
          clear hK K
          try simp only [Act.put, List.setIfInBounds_toArray, List.set_cons_zero, List.set_cons_succ]
          refine wpAnyH_ready (rs := [5]) (by kernel_rfl) (by simp) ?_
          refine AllReadyH.cons (i := 5) rfl (fun K hK => ?_) AllReadyH.nil
          simp only [List.getElem_toArray, List.getElem_cons_succ, List.getElem_cons_zero]
          rw [if_pos (by rfl)]
          go_simp
          (go_at_call 11; refine (hiD.out _ _ _ (by exact (LvA.rd hrA)) (by exact LvV.rd hrV) (tabs_below hT hHeld)).mono ?_; rintro e tC ⟨qC, rfl, hrC, hoC, hbC⟩; go_wp2_with fail)
          have nC : w9.heap.size ≤ tN.heap.size := hHeld.size
          have hDal : ¬ New tN.heap.size tC tV.heap.size := fun h => absurd h.1 (by omega)
          replace LvA := LvA.call hbC
          replace LvV := LvV.call hbC
          replace g0 := (hbC.cell (p := ⟨tV.heap.size, 0, none⟩) gl).trans g0
          replace g1 := (hbC.cell (p := ⟨tV.heap.size, 1, none⟩) gl).trans g1
          replace gz0 := (hbC.frozen (p := ⟨tV.heap.size, 0, none⟩) gl).trans gz0
          replace gz1 := (hbC.frozen (p := ⟨tV.heap.size, 1, none⟩) gl).trans gz1
          replace gl := Nat.lt_of_lt_of_le gl hbC.size
          have LvC : Live (New tN.heap.size tC) tC tC := Live.refl fun b hb => hb.2
          obtain ⟨sCa, sCc, sCb, sCd, hcs, _, _⟩ := rdArr hrC
          obtain rfl := arr_of_list hcs
          clear hcs
          refine hK.out _ _ ?_ (fun hHeld => ?_)
          · ((try dsimp only); exact ext_trans hHeld hbC)
          clear hK K
          try simp only [Act.put, List.setIfInBounds_toArray, List.set_cons_zero, List.set_cons_succ]
          refine wpAnyH_take (i := 6) (v := ?_) rfl (by kernel_rfl) (by kernel_rfl) (by kernel_rfl) (fun _ _ _ h => h) (Or.inl ⟨by rfl, ?_⟩) (by assumption) ?_
          rotate_left
          · (intro w' hSw; (try dsimp only at hSw); go_simp; try (with_reducible rfl))
          change wpAnyH _ _ _ _ _ _ _ (Act.put _ (some 91) _) _
          try simp only [Act.put, List.setIfInBounds_toArray, List.set_cons_zero, List.set_cons_succ]
          refine wpAnyH_take (i := 7) (v := ?_) rfl (by kernel_rfl) (by kernel_rfl) (by kernel_rfl) (fun _ _ _ h => h) (Or.inl ⟨by rfl, ?_⟩) (by assumption) ?_
          rotate_left
          · (intro w' hSw; (try dsimp only at hSw); go_simp; try (with_reducible rfl))
          change wpAnyH _ _ _ _ _ _ _ (Act.put _ (some 98) _) _
          try simp only [Act.put, List.setIfInBounds_toArray, List.set_cons_zero, List.set_cons_succ]
          refine wpAnyH_take (i := 8) (v := ?_) rfl (by kernel_rfl) (by kernel_rfl) (by kernel_rfl) (fun _ _ _ h => h) (Or.inl ⟨by rfl, ?_⟩) (by assumption) ?_
          rotate_left
          · (intro w' hSw; (try dsimp only at hSw); go_simp; try (with_reducible rfl))
          change wpAnyH _ _ _ _ _ _ _ (Act.put _ (some 99) _) _
          try simp only [Act.put, List.setIfInBounds_toArray, List.set_cons_zero, List.set_cons_succ]
          refine wpAnyH_ready (rs := [10]) (by kernel_rfl) (by simp) ?_
          refine AllReadyH.cons (i := 10) rfl (fun K hK => ?_) AllReadyH.nil
          simp only [List.getElem_toArray, List.getElem_cons_succ, List.getElem_cons_zero]
          rw [if_pos (by rfl)]
          go_simp
          refine hK.out _ _ ?_ (fun hHeld => ?_)
          · ((try dsimp only); exact Below.setCell (Below.setCell hHeld gle _) gle _)
          clear hK K
          try simp only [Act.put, List.setIfInBounds_toArray, List.set_cons_zero, List.set_cons_succ]
          refine wpAnyH_take (i := 11) (v := ?_) rfl (by kernel_rfl) (by kernel_rfl) (by kernel_rfl) (fun _ _ _ h => h) (Or.inl ⟨by rfl, ?_⟩) (by assumption) ?_
          rotate_left
          · (intro w' hSw; (try dsimp only at hSw); go_simp; try (with_reducible rfl))
          change wpAnyH _ _ _ _ _ _ _ (Act.put _ (some 17) _) _
          try simp only [Act.put, List.setIfInBounds_toArray, List.set_cons_zero, List.set_cons_succ]
          refine wpAnyH_done (by kernel_rfl) ?_ _
          dsimp only [Exit.then]
          rw [HRR.out]
          have LvF := (LvC.set (j := 0) hDal (.slice sCa D.keys.length sCc)).set (j := 1) hDal (.slice sCb D.vals.length sCd)
          have hDX : ∀ b, New tN.heap.size tC b → NewX w9.heap.size tV.heap.size ((tC.setCell ⟨tV.heap.size, 0, none⟩ (.slice sCa D.keys.length sCc)).setCell ⟨tV.heap.size, 1, none⟩ (.slice sCb D.vals.length sCd)) b := fun b hb => ⟨⟨Nat.le_trans nC hb.1, LvF.lt b hb⟩, fun e => hDal (by rw [← e]; exact hb)⟩
          refine ⟨tV.heap.size, sCa, sCc, sCb, sCd, .agg #[.slice a0 x0.keys.length c0, .slice a1 x0.vals.length c1], .agg #[.slice sAa x0.keys.length sAc, .slice sAb x0.vals.length sAd], .string x1, .agg #[.int .i64 x2.kind, .bool x2.num.neg, .string x2.num.dig, .int .i64 x2.num.exp, .string x2.text], .agg #[.int .i64 x2.kind, .bool x2.num.neg, .string x2.num.dig, .int .i64 x2.num.exp, .string x2.text], .tuple #[.agg #[.slice sCa D.keys.length sCc, .slice sCb D.vals.length sCd], .bool q], .tuple #[.agg #[.slice sCa D.keys.length sCc, .slice sCb D.vals.length sCd], .bool q], .agg #[.slice sCa D.keys.length sCc, .slice sCb D.vals.length sCd], .bool q, ?_, gle, ?_, hHeld, ?_, ?_, ?_, ?_⟩
          · simp only [Act.put, List.setIfInBounds_toArray, List.set_cons_zero, List.set_cons_succ]
          · simpa [World.setCell] using gl
          · exact (World.cell?_setCell_other _ _ _ _ (by simp)).trans (World.cell?_setCell_same _ _ _ g0)
          · exact World.cell?_setCell_same _ _ _ ((World.cell?_setCell_other _ _ _ _ (by simp)).trans g1)
          · exact Rd.mono hDX (Rd.same LvF.same hrC)
          · exact (hoC.same LvF.same).mono hDX
        exact AllReadyH.nil
      refine AllReadyH.cons (i := 9) rfl (fun K hK => ?_) ?_
      · simp only [List.getElem_toArray, List.getElem_cons_succ, List.getElem_cons_zero]
        rw [if_pos (by rfl)]
        go_simp
        obtain ⟨tN, hwN⟩ : ∃ v, tA.alloc (.cells #[.slice none 0 0, .slice none 0 0] 34) = v := ⟨_, rfl⟩
        have hbN : Below tA.heap.size tA tN := by rw [← hwN]; exact ext_alloc _ _
        have gle : w9.heap.size ≤ tA.heap.size := hHeld.size
        have gl : tA.heap.size < tN.heap.size := by rw [← hwN]; first | (simp; done) | (show _ < (World.alloc _ _).heap.size; simp)
        have g0 : tN.cell? ⟨tA.heap.size, 0, none⟩ = some (.slice none 0 0) := by rw [← hwN]; first | (simp; done) | (go_simp; done)
        have gz0 : tN.frozen? ⟨tA.heap.size, 0, none⟩ = false := by rw [← hwN]; first | (simp; done) | (go_simp; done)
        have g1 : tN.cell? ⟨tA.heap.size, 1, none⟩ = some (.slice none 0 0) := by rw [← hwN]; first | (simp; done) | (go_simp; done)
        have gz1 : tN.frozen? ⟨tA.heap.size, 1, none⟩ = false := by rw [← hwN]; first | (simp; done) | (go_simp; done)
        replace LvA := LvA.call hbN
        rw [hwN]
        clear hwN
        refine hK.out _ _ ?_ (fun hHeld => ?_)
        · ((try dsimp only); exact ext_trans hHeld hbN)
        clear hK K
        try simp only [Act.put, List.setIfInBounds_toArray, List.set_cons_zero, List.set_cons_succ]
        refine wpAnyH_ready (rs := [4]) (by kernel_rfl) (by simp) ?_
        refine AllReadyH.cons (i := 4) rfl (fun K hK => ?_) AllReadyH.nil
        simp only [List.getElem_toArray, List.getElem_cons_succ, List.getElem_cons_zero]
        rw [if_pos (by rfl)]
        go_simp
        (go_at_call 10; refine (toVal_any _ (by exact (LA.call hHeld).rd h2) hzz2).mono ?_; rintro e tV ⟨qV, rfl, hrV, hbV⟩; go_wp2_with fail)
        replace LvA := LvA.call hbV
        replace g0 := (hbV.cell (p := ⟨tA.heap.size, 0, none⟩) gl).trans g0
        replace g1 := (hbV.cell (p := ⟨tA.heap.size, 1, none⟩) gl).trans g1
        replace gz0 := (hbV.frozen (p := ⟨tA.heap.size, 0, none⟩) gl).trans gz0
        replace gz1 := (hbV.frozen (p := ⟨tA.heap.size, 1, none⟩) gl).trans gz1
        replace gl := Nat.lt_of_lt_of_le gl hbV.size
        have LvV : Live (New tN.heap.size tV) tV tV := Live.refl fun b hb => hb.2
        obtain ⟨hcsV, _⟩ := rdVal hrV
        obtain rfl := arr_of_list hcsV
        clear hcsV
        refine hK.out _ _ ?_ (fun hHeld => ?_)
        · ((try dsimp only); exact ext_trans hHeld hbV)
        clear hK K
        try simp only [Act.put, List.setIfInBounds_toArray, List.set_cons_zero, List.set_cons_succ]
        refine wpAnyH_ready (rs := [5]) (by kernel_rfl) (by simp) ?_
        refine AllReadyH.cons (i := 5) rfl (fun K hK => ?_) AllReadyH.nil
        simp only [List.getElem_toArray, List.getElem_cons_succ, List.getElem_cons_zero]
        rw [if_pos (by rfl)]
        go_simp
        (go_at_call 11; refine (hiD.out _ _ _ (by exact (LvA.rd hrA)) (by exact LvV.rd hrV) (tabs_below hT hHeld)).mono ?_; rintro e tC ⟨qC, rfl, hrC, hoC, hbC⟩; go_wp2_with fail)
        have nC : w9.heap.size ≤ tV.heap.size := hHeld.size
        have hDal : ¬ New tV.heap.size tC tA.heap.size := fun h => absurd h.1 (by omega)
        replace LvA := LvA.call hbC
        replace LvV := LvV.call hbC
        replace g0 := (hbC.cell (p := ⟨tA.heap.size, 0, none⟩) gl).trans g0
        replace g1 := (hbC.cell (p := ⟨tA.heap.size, 1, none⟩) gl).trans g1
        replace gz0 := (hbC.frozen (p := ⟨tA.heap.size, 0, none⟩) gl).trans gz0
        replace gz1 := (hbC.frozen (p := ⟨tA.heap.size, 1, none⟩) gl).trans gz1
        replace gl := Nat.lt_of_lt_of_le gl hbC.size
        have LvC : Live (New tV.heap.size tC) tC tC := Live.refl fun b hb => hb.2
        obtain ⟨sCa, sCc, sCb, sCd, hcs, _, _⟩ := rdArr hrC
        obtain rfl := arr_of_list hcs
        clear hcs
        refine hK.out _ _ ?_ (fun hHeld => ?_)
        · ((try dsimp only); exact ext_trans hHeld hbC)
        clear hK K
        try simp only [Act.put, List.setIfInBounds_toArray, List.set_cons_zero, List.set_cons_succ]
        refine wpAnyH_take (i := 6) (v := ?_) rfl (by kernel_rfl) (by kernel_rfl) (by kernel_rfl) (fun _ _ _ h => h) (Or.inl ⟨by rfl, ?_⟩) (by assumption) ?_
        rotate_left
        · (intro w' hSw; (try dsimp only at hSw); go_simp; try (with_reducible rfl))
        change wpAnyH _ _ _ _ _ _ _ (Act.put _ (some 91) _) _
        try simp only [Act.put, List.setIfInBounds_toArray, List.set_cons_zero, List.set_cons_succ]
        refine wpAnyH_take (i := 7) (v := ?_) rfl (by kernel_rfl) (by kernel_rfl) (by kernel_rfl) (fun _ _ _ h => h) (Or.inl ⟨by rfl, ?_⟩) (by assumption) ?_
        rotate_left
        · (intro w' hSw; (try dsimp only at hSw); go_simp; try (with_reducible rfl))
        change wpAnyH _ _ _ _ _ _ _ (Act.put _ (some 98) _) _
        try simp only [Act.put, List.setIfInBounds_toArray, List.set_cons_zero, List.set_cons_succ]
        refine wpAnyH_take (i := 8) (v := ?_) rfl (by kernel_rfl) (by kernel_rfl) (by kernel_rfl) (fun _ _ _ h => h) (Or.inl ⟨by rfl, ?_⟩) (by assumption) ?_
        rotate_left
        · (intro w' hSw; (try dsimp only at hSw); go_simp; try (with_reducible rfl))
        change wpAnyH _ _ _ _ _ _ _ (Act.put _ (some 99) _) _
        try simp only [Act.put, List.setIfInBounds_toArray, List.set_cons_zero, List.set_cons_succ]
        refine wpAnyH_ready (rs := [10]) (by kernel_rfl) (by simp) ?_
        refine AllReadyH.cons (i := 10) rfl (fun K hK => ?_) AllReadyH.nil
        simp only [List.getElem_toArray, List.getElem_cons_succ, List.getElem_cons_zero]
        rw [if_pos (by rfl)]
        go_simp
        refine hK.out _ _ ?_ (fun hHeld => ?_)
        · ((try dsimp only); exact Below.setCell (Below.setCell hHeld gle _) gle _)
        clear hK K
        try simp only [Act.put, List.setIfInBounds_toArray, List.set_cons_zero, List.set_cons_succ]
        refine wpAnyH_take (i := 11) (v := ?_) rfl (by kernel_rfl) (by kernel_rfl) (by kernel_rfl) (fun _ _ _ h => h) (Or.inl ⟨by rfl, ?_⟩) (by assumption) ?_
        rotate_left
        · (intro w' hSw; (try dsimp only at hSw); go_simp; try (with_reducible rfl))
        change wpAnyH _ _ _ _ _ _ _ (Act.put _ (some 17) _) _
        try simp only [Act.put, List.setIfInBounds_toArray, List.set_cons_zero, List.set_cons_succ]
        refine wpAnyH_done (by kernel_rfl) ?_ _
        dsimp only [Exit.then]
        rw [HRR.out]
        have LvF := (LvC.set (j := 0) hDal (.slice sCa D.keys.length sCc)).set (j := 1) hDal (.slice sCb D.vals.length sCd)
        have hDX : ∀ b, New tV.heap.size tC b → NewX w9.heap.size tA.heap.size ((tC.setCell ⟨tA.heap.size, 0, none⟩ (.slice sCa D.keys.length sCc)).setCell ⟨tA.heap.size, 1, none⟩ (.slice sCb D.vals.length sCd)) b := fun b hb => ⟨⟨Nat.le_trans nC hb.1, LvF.lt b hb⟩, fun e => hDal (by rw [← e]; exact hb)⟩
        refine ⟨tA.heap.size, sCa, sCc, sCb, sCd, .agg #[.slice a0 x0.keys.length c0, .slice a1 x0.vals.length c1], .agg #[.slice sAa x0.keys.length sAc, .slice sAb x0.vals.length sAd], .string x1, .agg #[.int .i64 x2.kind, .bool x2.num.neg, .string x2.num.dig, .int .i64 x2.num.exp, .string x2.text], .agg #[.int .i64 x2.kind, .bool x2.num.neg, .string x2.num.dig, .int .i64 x2.num.exp, .string x2.text], .tuple #[.agg #[.slice sCa D.keys.length sCc, .slice sCb D.vals.length sCd], .bool q], .tuple #[.agg #[.slice sCa D.keys.length sCc, .slice sCb D.vals.length sCd], .bool q], .agg #[.slice sCa D.keys.length sCc, .slice sCb D.vals.length sCd], .bool q, ?_, gle, ?_, hHeld, ?_, ?_, ?_, ?_⟩
        · simp only [Act.put, List.setIfInBounds_toArray, List.set_cons_zero, List.set_cons_succ]
        · simpa [World.setCell] using gl
        · exact (World.cell?_setCell_other _ _ _ _ (by simp)).trans (World.cell?_setCell_same _ _ _ g0)
        · exact World.cell?_setCell_same _ _ _ ((World.cell?_setCell_other _ _ _ _ (by simp)).trans g1)
        · exact Rd.mono hDX (Rd.same LvF.same hrC)
        · exact (hoC.same LvF.same).mono hDX
      exact AllReadyH.nil
    refine AllReadyH.cons (i := 9) rfl (fun K hK => ?_) ?_
    · simp only [List.getElem_toArray, List.getElem_cons_succ, List.getElem_cons_zero]
      rw [if_pos (by rfl)]
      go_simp
      obtain ⟨tN, hwN⟩ : ∃ v, (w9.alloc (.cells #[.slice none 0 0, .slice none 0 0] 34)).drew = v := ⟨_, rfl⟩
      have hbN0 : Below w9.heap.size w9 tN := by rw [← hwN]; exact Below.drew (ext_alloc _ _)
      have hbN : Below w9.heap.size w9.drew tN := ⟨hbN0.os, hbN0.tape, hbN0.output, hbN0.size, hbN0.block⟩
      have gle : w9.heap.size ≤ w9.heap.size := hHeld.size
      have gl : w9.heap.size < tN.heap.size := by rw [← hwN]; first | (simp; done) | (show _ < (World.alloc _ _).heap.size; simp)
      have g0 : tN.cell? ⟨w9.heap.size, 0, none⟩ = some (.slice none 0 0) := by rw [← hwN]; first | (simp; done) | (go_simp; done)
      have gz0 : tN.frozen? ⟨w9.heap.size, 0, none⟩ = false := by rw [← hwN]; first | (simp; done) | (go_simp; done)
      have g1 : tN.cell? ⟨w9.heap.size, 1, none⟩ = some (.slice none 0 0) := by rw [← hwN]; first | (simp; done) | (go_simp; done)
      have gz1 : tN.frozen? ⟨w9.heap.size, 1, none⟩ = false := by rw [← hwN]; first | (simp; done) | (go_simp; done)
      rw [hwN]
      clear hwN
      refine hK.out _ _ ?_ (fun hHeld => ?_)
      · ((try dsimp only); exact ext_trans hHeld hbN)
      clear hK K
      try simp only [Act.put, List.setIfInBounds_toArray, List.set_cons_zero, List.set_cons_succ]
      refine wpAnyH_ready (rs := [1]) (by kernel_rfl) (by simp) ?_
      refine AllReadyH.cons (i := 1) rfl (fun K hK => ?_) AllReadyH.nil
      simp only [List.getElem_toArray, List.getElem_cons_succ, List.getElem_cons_zero]
      rw [if_pos (by rfl)]
      go_simp
      (go_at_call 9; refine (toArr_any _ (by exact (LA.call hHeld).rd h0) hzz0).mono ?_; rintro e tA ⟨qA, rfl, hrA, hbA⟩; go_wp2_with fail)
      replace g0 := (hbA.cell (p := ⟨w9.heap.size, 0, none⟩) gl).trans g0
      replace g1 := (hbA.cell (p := ⟨w9.heap.size, 1, none⟩) gl).trans g1
      replace gz0 := (hbA.frozen (p := ⟨w9.heap.size, 0, none⟩) gl).trans gz0
      replace gz1 := (hbA.frozen (p := ⟨w9.heap.size, 1, none⟩) gl).trans gz1
      replace gl := Nat.lt_of_lt_of_le gl hbA.size
      have LvA : Live (New tN.heap.size tA) tA tA := Live.refl fun b hb => hb.2
      obtain ⟨sAa, sAc, sAb, sAd, hcs, _, _⟩ := rdArr hrA
      obtain rfl := arr_of_list hcs
      clear hcs
      refine hK.out _ _ ?_ (fun hHeld => ?_)
      · ((try dsimp only); exact ext_trans hHeld hbA)
      clear hK K
      try simp only [Act.put, List.setIfInBounds_toArray, List.set_cons_zero, List.set_cons_succ]
      refine wpAnyH_ready (rs := [4]) (by kernel_rfl) (by simp) ?_
      refine AllReadyH.cons (i := 4) rfl (fun K hK => ?_) AllReadyH.nil
      simp only [List.getElem_toArray, List.getElem_cons_succ, List.getElem_cons_zero]
      rw [if_pos (by rfl)]
      go_simp
      (go_at_call 10; refine (toVal_any _ (by exact (LA.call hHeld).rd h2) hzz2).mono ?_; rintro e tV ⟨qV, rfl, hrV, hbV⟩; go_wp2_with fail)
      replace LvA := LvA.call hbV
      replace g0 := (hbV.cell (p := ⟨w9.heap.size, 0, none⟩) gl).trans g0
      replace g1 := (hbV.cell (p := ⟨w9.heap.size, 1, none⟩) gl).trans g1
      replace gz0 := (hbV.frozen (p := ⟨w9.heap.size, 0, none⟩) gl).trans gz0
      replace gz1 := (hbV.frozen (p := ⟨w9.heap.size, 1, none⟩) gl).trans gz1
      replace gl := Nat.lt_of_lt_of_le gl hbV.size
      have LvV : Live (New tA.heap.size tV) tV tV := Live.refl fun b hb => hb.2
      obtain ⟨hcsV, _⟩ := rdVal hrV
      obtain rfl := arr_of_list hcsV
      clear hcsV
      refine hK.out _ _ ?_ (fun hHeld => ?_)
      · ((try dsimp only); exact ext_trans hHeld hbV)
      clear hK K
      try simp only [Act.put, List.setIfInBounds_toArray, List.set_cons_zero, List.set_cons_succ]
      refine wpAnyH_ready (rs := [5]) (by kernel_rfl) (by simp) ?_
      refine AllReadyH.cons (i := 5) rfl (fun K hK => ?_) AllReadyH.nil
      simp only [List.getElem_toArray, List.getElem_cons_succ, List.getElem_cons_zero]
      rw [if_pos (by rfl)]
      go_simp
      (go_at_call 11; refine (hiD.out _ _ _ (by exact (LvA.rd hrA)) (by exact LvV.rd hrV) (tabs_below hT hHeld)).mono ?_; rintro e tC ⟨qC, rfl, hrC, hoC, hbC⟩; go_wp2_with fail)
      have nC : w9.heap.size ≤ tV.heap.size := hHeld.size
      have hDal : ¬ New tV.heap.size tC w9.heap.size := fun h => absurd h.1 (by omega)
      replace LvA := LvA.call hbC
      replace LvV := LvV.call hbC
      replace g0 := (hbC.cell (p := ⟨w9.heap.size, 0, none⟩) gl).trans g0
      replace g1 := (hbC.cell (p := ⟨w9.heap.size, 1, none⟩) gl).trans g1
      replace gz0 := (hbC.frozen (p := ⟨w9.heap.size, 0, none⟩) gl).trans gz0
      replace gz1 := (hbC.frozen (p := ⟨w9.heap.size, 1, none⟩) gl).trans gz1
      replace gl := Nat.lt_of_lt_of_le gl hbC.size
      have LvC : Live (New tV.heap.size tC) tC tC := Live.refl fun b hb => hb.2
      obtain ⟨sCa, sCc, sCb, sCd, hcs, _, _⟩ := rdArr hrC
      obtain rfl := arr_of_list hcs
      clear hcs
      refine hK.out _ _ ?_ (fun hHeld => ?_)
      · ((try dsimp only); exact ext_trans hHeld hbC)
      clear hK K
      try simp only [Act.put, List.setIfInBounds_toArray, List.set_cons_zero, List.set_cons_succ]
      refine wpAnyH_take (i := 6) (v := ?_) rfl (by kernel_rfl) (by kernel_rfl) (by kernel_rfl) (fun _ _ _ h => h) (Or.inl ⟨by rfl, ?_⟩) (by assumption) ?_
      rotate_left
      · (intro w' hSw; (try dsimp only at hSw); go_simp; try (with_reducible rfl))
      change wpAnyH _ _ _ _ _ _ _ (Act.put _ (some 91) _) _
      try simp only [Act.put, List.setIfInBounds_toArray, List.set_cons_zero, List.set_cons_succ]
      refine wpAnyH_take (i := 7) (v := ?_) rfl (by kernel_rfl) (by kernel_rfl) (by kernel_rfl) (fun _ _ _ h => h) (Or.inl ⟨by rfl, ?_⟩) (by assumption) ?_
      rotate_left
      · (intro w' hSw; (try dsimp only at hSw); go_simp; try (with_reducible rfl))
      change wpAnyH _ _ _ _ _ _ _ (Act.put _ (some 98) _) _
      try simp only [Act.put, List.setIfInBounds_toArray, List.set_cons_zero, List.set_cons_succ]
      refine wpAnyH_take (i := 8) (v := ?_) rfl (by kernel_rfl) (by kernel_rfl) (by kernel_rfl) (fun _ _ _ h => h) (Or.inl ⟨by rfl, ?_⟩) (by assumption) ?_
      rotate_left
      · (intro w' hSw; (try dsimp only at hSw); go_simp; try (with_reducible rfl))
      change wpAnyH _ _ _ _ _ _ _ (Act.put _ (some 99) _) _
      try simp only [Act.put, List.setIfInBounds_toArray, List.set_cons_zero, List.set_cons_succ]
      refine wpAnyH_ready (rs := [10]) (by kernel_rfl) (by simp) ?_
      refine AllReadyH.cons (i := 10) rfl (fun K hK => ?_) AllReadyH.nil
      simp only [List.getElem_toArray, List.getElem_cons_succ, List.getElem_cons_zero]
      rw [if_pos (by rfl)]
      go_simp
      refine hK.out _ _ ?_ (fun hHeld => ?_)
      · ((try dsimp only); exact Below.setCell (Below.setCell hHeld gle _) gle _)
      clear hK K
      try simp only [Act.put, List.setIfInBounds_toArray, List.set_cons_zero, List.set_cons_succ]
      refine wpAnyH_take (i := 11) (v := ?_) rfl (by kernel_rfl) (by kernel_rfl) (by kernel_rfl) (fun _ _ _ h => h) (Or.inl ⟨by rfl, ?_⟩) (by assumption) ?_
      rotate_left
      · (intro w' hSw; (try dsimp only at hSw); go_simp; try (with_reducible rfl))
      change wpAnyH _ _ _ _ _ _ _ (Act.put _ (some 17) _) _
      try simp only [Act.put, List.setIfInBounds_toArray, List.set_cons_zero, List.set_cons_succ]
      refine wpAnyH_done (by kernel_rfl) ?_ _
      dsimp only [Exit.then]
      rw [HRR.out]
      have LvF := (LvC.set (j := 0) hDal (.slice sCa D.keys.length sCc)).set (j := 1) hDal (.slice sCb D.vals.length sCd)
      have hDX : ∀ b, New tV.heap.size tC b → NewX w9.heap.size w9.heap.size ((tC.setCell ⟨w9.heap.size, 0, none⟩ (.slice sCa D.keys.length sCc)).setCell ⟨w9.heap.size, 1, none⟩ (.slice sCb D.vals.length sCd)) b := fun b hb => ⟨⟨Nat.le_trans nC hb.1, LvF.lt b hb⟩, fun e => hDal (by rw [← e]; exact hb)⟩
      refine ⟨w9.heap.size, sCa, sCc, sCb, sCd, .agg #[.slice a0 x0.keys.length c0, .slice a1 x0.vals.length c1], .agg #[.slice sAa x0.keys.length sAc, .slice sAb x0.vals.length sAd], .string x1, .agg #[.int .i64 x2.kind, .bool x2.num.neg, .string x2.num.dig, .int .i64 x2.num.exp, .string x2.text], .agg #[.int .i64 x2.kind, .bool x2.num.neg, .string x2.num.dig, .int .i64 x2.num.exp, .string x2.text], .tuple #[.agg #[.slice sCa D.keys.length sCc, .slice sCb D.vals.length sCd], .bool q], .tuple #[.agg #[.slice sCa D.keys.length sCc, .slice sCb D.vals.length sCd], .bool q], .agg #[.slice sCa D.keys.length sCc, .slice sCb D.vals.length sCd], .bool q, ?_, gle, ?_, hHeld, ?_, ?_, ?_, ?_⟩
      · simp only [Act.put, List.setIfInBounds_toArray, List.set_cons_zero, List.set_cons_succ]
      · simpa [World.setCell] using gl
      · exact (World.cell?_setCell_other _ _ _ _ (by simp)).trans (World.cell?_setCell_same _ _ _ g0)
      · exact World.cell?_setCell_same _ _ _ ((World.cell?_setCell_other _ _ _ _ (by simp)).trans g1)
      · exact Rd.mono hDX (Rd.same LvF.same hrC)
      · exact (hoC.same LvF.same).mono hDX
    exact AllReadyH.nil
  intro a' w11 hR
  rw [HRR.out] at hR
  clear HRR
  obtain ⟨bk_e2, e2a, e2c, e2b, e2d, z92, z93, z94, z95, z96, z97, z91, z98, z99, rfl, hbk_e2, hbl_e2, hb, m0, m1, hre2, hoe2⟩ := hR
  try simp only [Act.put, List.setIfInBounds_toArray, List.set_cons_zero, List.set_cons_succ]
  replace hT : Tabs w11 := tabs_below hT hb
  replace bP : Below W.heap.size W w11 := bw_call bP zP hb
  replace c_A_0 : w11.cell? ⟨W.heap.size, 0, none⟩ = some (.slice a0 x0.keys.length c0) := (hb.cell (p := ⟨W.heap.size, 0, none⟩) l_A).trans c_A_0
  replace c_A_1 : w11.cell? ⟨W.heap.size, 1, none⟩ = some (.slice a1 x0.vals.length c1) := (hb.cell (p := ⟨W.heap.size, 1, none⟩) l_A).trans c_A_1
  replace c_V_0 : w11.cell? ⟨W.heap.size + 1, 0, none⟩ = some (.int .i64 x2.kind) := (hb.cell (p := ⟨W.heap.size + 1, 0, none⟩) l_V).trans c_V_0
  replace c_V_1 : w11.cell? ⟨W.heap.size + 1, 1, none⟩ = some (.bool x2.num.neg) := (hb.cell (p := ⟨W.heap.size + 1, 1, none⟩) l_V).trans c_V_1
  replace c_V_2 : w11.cell? ⟨W.heap.size + 1, 2, none⟩ = some (.string x2.num.dig) := (hb.cell (p := ⟨W.heap.size + 1, 2, none⟩) l_V).trans c_V_2
  replace c_V_3 : w11.cell? ⟨W.heap.size + 1, 3, none⟩ = some (.int .i64 x2.num.exp) := (hb.cell (p := ⟨W.heap.size + 1, 3, none⟩) l_V).trans c_V_3
  replace c_V_4 : w11.cell? ⟨W.heap.size + 1, 4, none⟩ = some (.string x2.text) := (hb.cell (p := ⟨W.heap.size + 1, 4, none⟩) l_V).trans c_V_4
  replace c_w_0 : w11.cell? ⟨bk_w, 0, none⟩ = some (.slice wa D.keys.length wc) := (hb.cell (p := ⟨bk_w, 0, none⟩) l_w).trans c_w_0
  replace c_w_1 : w11.cell? ⟨bk_w, 1, none⟩ = some (.slice wb D.vals.length wd) := (hb.cell (p := ⟨bk_w, 1, none⟩) l_w).trans c_w_1
  replace c_x_0 : w11.cell? ⟨w3.heap.size, 0, none⟩ = some (.slice xa x0.keys.length xc) := (hb.cell (p := ⟨w3.heap.size, 0, none⟩) l_x).trans c_x_0
  replace c_x_1 : w11.cell? ⟨w3.heap.size, 1, none⟩ = some (.slice xa' x0.vals.length xc') := (hb.cell (p := ⟨w3.heap.size, 1, none⟩) l_x).trans c_x_1
  replace c_g_0 : w11.cell? ⟨bk_g, 0, none⟩ = some (.slice ga D.keys.length gc) := (hb.cell (p := ⟨bk_g, 0, none⟩) l_g).trans c_g_0
  replace c_g_1 : w11.cell? ⟨bk_g, 1, none⟩ = some (.slice gb D.vals.length gd) := (hb.cell (p := ⟨bk_g, 1, none⟩) l_g).trans c_g_1
  replace l_A : W.heap.size < w11.heap.size := Nat.lt_of_lt_of_le l_A hb.size
  replace l_V : W.heap.size + 1 < w11.heap.size := Nat.lt_of_lt_of_le l_V hb.size
  replace l_w : bk_w < w11.heap.size := Nat.lt_of_lt_of_le l_w hb.size
  replace l_x : w3.heap.size < w11.heap.size := Nat.lt_of_lt_of_le l_x hb.size
  replace l_g : bk_g < w11.heap.size := Nat.lt_of_lt_of_le l_g hb.size
  replace LA : Live (Old W) W w11 := LA.call hb
  replace LW : Live (NewX wz.heap.size bk_w w2) w2 w11 := LW.call hb
  replace LM : Live (NewX a_x.heap.size bk_g w4) w8 w11 := LM.call hb
  have y_w11 : w9.heap.size ≤ w11.heap.size := hb.size
  replace zP : W.heap.size ≤ w11.heap.size := bP.size
  clear hb
  have c_e2_0 := m0
  have c_e2_1 := m1
  have l_e2 := hbl_e2
  clear m0 m1
  have LE2 : Live (NewX w9.heap.size bk_e2 w11) w11 w11 := Live.refl fun b hb => hb.1.2
  go_wp2_with fail
  refine (eqArr_same _ (by exact LE2.rd hre2) (by exact LW.rd hrw)).mono ?_
  rintro e w12 ⟨rfl, hb⟩
  replace hT : Tabs w12 := tabs_below hT hb
  replace bP : Below W.heap.size W w12 := bw_call bP zP hb
  replace c_A_0 : w12.cell? ⟨W.heap.size, 0, none⟩ = some (.slice a0 x0.keys.length c0) := (hb.cell (p := ⟨W.heap.size, 0, none⟩) l_A).trans c_A_0
  replace c_A_1 : w12.cell? ⟨W.heap.size, 1, none⟩ = some (.slice a1 x0.vals.length c1) := (hb.cell (p := ⟨W.heap.size, 1, none⟩) l_A).trans c_A_1
  replace c_V_0 : w12.cell? ⟨W.heap.size + 1, 0, none⟩ = some (.int .i64 x2.kind) := (hb.cell (p := ⟨W.heap.size + 1, 0, none⟩) l_V).trans c_V_0
  replace c_V_1 : w12.cell? ⟨W.heap.size + 1, 1, none⟩ = some (.bool x2.num.neg) := (hb.cell (p := ⟨W.heap.size + 1, 1, none⟩) l_V).trans c_V_1
  replace c_V_2 : w12.cell? ⟨W.heap.size + 1, 2, none⟩ = some (.string x2.num.dig) := (hb.cell (p := ⟨W.heap.size + 1, 2, none⟩) l_V).trans c_V_2
  replace c_V_3 : w12.cell? ⟨W.heap.size + 1, 3, none⟩ = some (.int .i64 x2.num.exp) := (hb.cell (p := ⟨W.heap.size + 1, 3, none⟩) l_V).trans c_V_3
  replace c_V_4 : w12.cell? ⟨W.heap.size + 1, 4, none⟩ = some (.string x2.text) := (hb.cell (p := ⟨W.heap.size + 1, 4, none⟩) l_V).trans c_V_4
  replace c_w_0 : w12.cell? ⟨bk_w, 0, none⟩ = some (.slice wa D.keys.length wc) := (hb.cell (p := ⟨bk_w, 0, none⟩) l_w).trans c_w_0
  replace c_w_1 : w12.cell? ⟨bk_w, 1, none⟩ = some (.slice wb D.vals.length wd) := (hb.cell (p := ⟨bk_w, 1, none⟩) l_w).trans c_w_1
  replace c_x_0 : w12.cell? ⟨w3.heap.size, 0, none⟩ = some (.slice xa x0.keys.length xc) := (hb.cell (p := ⟨w3.heap.size, 0, none⟩) l_x).trans c_x_0
  replace c_x_1 : w12.cell? ⟨w3.heap.size, 1, none⟩ = some (.slice xa' x0.vals.length xc') := (hb.cell (p := ⟨w3.heap.size, 1, none⟩) l_x).trans c_x_1
  replace c_g_0 : w12.cell? ⟨bk_g, 0, none⟩ = some (.slice ga D.keys.length gc) := (hb.cell (p := ⟨bk_g, 0, none⟩) l_g).trans c_g_0
  replace c_g_1 : w12.cell? ⟨bk_g, 1, none⟩ = some (.slice gb D.vals.length gd) := (hb.cell (p := ⟨bk_g, 1, none⟩) l_g).trans c_g_1
  replace c_e2_0 : w12.cell? ⟨bk_e2, 0, none⟩ = some (.slice e2a D.keys.length e2c) := (hb.cell (p := ⟨bk_e2, 0, none⟩) l_e2).trans c_e2_0
  replace c_e2_1 : w12.cell? ⟨bk_e2, 1, none⟩ = some (.slice e2b D.vals.length e2d) := (hb.cell (p := ⟨bk_e2, 1, none⟩) l_e2).trans c_e2_1
  replace l_A : W.heap.size < w12.heap.size := Nat.lt_of_lt_of_le l_A hb.size
  replace l_V : W.heap.size + 1 < w12.heap.size := Nat.lt_of_lt_of_le l_V hb.size
  replace l_w : bk_w < w12.heap.size := Nat.lt_of_lt_of_le l_w hb.size
  replace l_x : w3.heap.size < w12.heap.size := Nat.lt_of_lt_of_le l_x hb.size
  replace l_g : bk_g < w12.heap.size := Nat.lt_of_lt_of_le l_g hb.size
  replace l_e2 : bk_e2 < w12.heap.size := Nat.lt_of_lt_of_le l_e2 hb.size
  replace LA : Live (Old W) W w12 := LA.call hb
  replace LW : Live (NewX wz.heap.size bk_w w2) w2 w12 := LW.call hb
  replace LM : Live (NewX a_x.heap.size bk_g w4) w8 w12 := LM.call hb
  replace LE2 : Live (NewX w9.heap.size bk_e2 w11) w11 w12 := LE2.call hb
  have y_w12 : w11.heap.size ≤ w12.heap.size := hb.size
  replace zP : W.heap.size ≤ w12.heap.size := bP.size
  clear hb
  go_wp2_with fail
  refine (heldArr_one _ (by exact hmg.same LM.same) (by exact LM.lt) hmkD).mono ?_
  rintro e w13 ⟨i, hq, rfl, hb⟩
  obtain rfl : m = i := by have := HM.out; omega
  clear hq
  replace hT : Tabs w13 := tabs_below hT hb
  replace bP : Below W.heap.size W w13 := bw_call bP zP hb
  replace c_A_0 : w13.cell? ⟨W.heap.size, 0, none⟩ = some (.slice a0 x0.keys.length c0) := (hb.cell (p := ⟨W.heap.size, 0, none⟩) l_A).trans c_A_0
  replace c_A_1 : w13.cell? ⟨W.heap.size, 1, none⟩ = some (.slice a1 x0.vals.length c1) := (hb.cell (p := ⟨W.heap.size, 1, none⟩) l_A).trans c_A_1
  replace c_V_0 : w13.cell? ⟨W.heap.size + 1, 0, none⟩ = some (.int .i64 x2.kind) := (hb.cell (p := ⟨W.heap.size + 1, 0, none⟩) l_V).trans c_V_0
  replace c_V_1 : w13.cell? ⟨W.heap.size + 1, 1, none⟩ = some (.bool x2.num.neg) := (hb.cell (p := ⟨W.heap.size + 1, 1, none⟩) l_V).trans c_V_1
  replace c_V_2 : w13.cell? ⟨W.heap.size + 1, 2, none⟩ = some (.string x2.num.dig) := (hb.cell (p := ⟨W.heap.size + 1, 2, none⟩) l_V).trans c_V_2
  replace c_V_3 : w13.cell? ⟨W.heap.size + 1, 3, none⟩ = some (.int .i64 x2.num.exp) := (hb.cell (p := ⟨W.heap.size + 1, 3, none⟩) l_V).trans c_V_3
  replace c_V_4 : w13.cell? ⟨W.heap.size + 1, 4, none⟩ = some (.string x2.text) := (hb.cell (p := ⟨W.heap.size + 1, 4, none⟩) l_V).trans c_V_4
  replace c_w_0 : w13.cell? ⟨bk_w, 0, none⟩ = some (.slice wa D.keys.length wc) := (hb.cell (p := ⟨bk_w, 0, none⟩) l_w).trans c_w_0
  replace c_w_1 : w13.cell? ⟨bk_w, 1, none⟩ = some (.slice wb D.vals.length wd) := (hb.cell (p := ⟨bk_w, 1, none⟩) l_w).trans c_w_1
  replace c_x_0 : w13.cell? ⟨w3.heap.size, 0, none⟩ = some (.slice xa x0.keys.length xc) := (hb.cell (p := ⟨w3.heap.size, 0, none⟩) l_x).trans c_x_0
  replace c_x_1 : w13.cell? ⟨w3.heap.size, 1, none⟩ = some (.slice xa' x0.vals.length xc') := (hb.cell (p := ⟨w3.heap.size, 1, none⟩) l_x).trans c_x_1
  replace c_g_0 : w13.cell? ⟨bk_g, 0, none⟩ = some (.slice ga D.keys.length gc) := (hb.cell (p := ⟨bk_g, 0, none⟩) l_g).trans c_g_0
  replace c_g_1 : w13.cell? ⟨bk_g, 1, none⟩ = some (.slice gb D.vals.length gd) := (hb.cell (p := ⟨bk_g, 1, none⟩) l_g).trans c_g_1
  replace c_e2_0 : w13.cell? ⟨bk_e2, 0, none⟩ = some (.slice e2a D.keys.length e2c) := (hb.cell (p := ⟨bk_e2, 0, none⟩) l_e2).trans c_e2_0
  replace c_e2_1 : w13.cell? ⟨bk_e2, 1, none⟩ = some (.slice e2b D.vals.length e2d) := (hb.cell (p := ⟨bk_e2, 1, none⟩) l_e2).trans c_e2_1
  replace l_A : W.heap.size < w13.heap.size := Nat.lt_of_lt_of_le l_A hb.size
  replace l_V : W.heap.size + 1 < w13.heap.size := Nat.lt_of_lt_of_le l_V hb.size
  replace l_w : bk_w < w13.heap.size := Nat.lt_of_lt_of_le l_w hb.size
  replace l_x : w3.heap.size < w13.heap.size := Nat.lt_of_lt_of_le l_x hb.size
  replace l_g : bk_g < w13.heap.size := Nat.lt_of_lt_of_le l_g hb.size
  replace l_e2 : bk_e2 < w13.heap.size := Nat.lt_of_lt_of_le l_e2 hb.size
  replace LA : Live (Old W) W w13 := LA.call hb
  replace LW : Live (NewX wz.heap.size bk_w w2) w2 w13 := LW.call hb
  replace LM : Live (NewX a_x.heap.size bk_g w4) w8 w13 := LM.call hb
  replace LE2 : Live (NewX w9.heap.size bk_e2 w11) w11 w13 := LE2.call hb
  have y_w13 : w12.heap.size ≤ w13.heap.size := hb.size
  replace zP : W.heap.size ≤ w13.heap.size := bP.size
  clear hb
  go_wp2
  go_ret
  exact ⟨rfl, bP⟩
end Go.Proofs.YtenfpfjpcpmhiaaDoor
