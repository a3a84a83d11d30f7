/-
  What is proved here: the walk of FnExactArrDrop: it returns true at all arguments. No condition.
-/
import Derived.Test.YtenfpfjpcpmhiaaDropS
import Derived.Test.YtenfpfjpcpmhiaaLive
namespace Go.Proofs.Ytenfpfjpcpmhiaa
open Go.RowKit
set_option linter.unusedVariables false
set_option linter.unusedSimpArgs false

theorem dropAt_le {α : Type} (l : List α) (k : Nat) : (dropAt l k).length ≤ l.length := by
  unfold dropAt; rw [List.length_append, List.length_take, List.length_drop]; omega
theorem arrDrop_cells {x : Arr} (s : ByteArray) (h : x.keys.length ≤ 1048576) : 1 + arrCells (arrDrop x s) ≤ 100000000 := by
  unfold arrCells arrDrop arrFill
  split
  · simp only [fillK_len]; omega
  · have h1 := dropAt_le x.keys (arrAt x s).toNat
    have h2 := dropAt_le (fillK x.vals x.keys.length) (arrAt x s).toNat
    rw [fillK_len] at h2
    simp only
    omega
set_option maxHeartbeats 8000000 in
set_option maxRecDepth 100000 in
theorem fnExactArrDrop_walk (W : World) {cs0 : Array Value} {x0 : Arr} {v1 : Value} {x1 : ByteArray} (h0 : Rd.rd (Old W) W cs0.toList x0) (h1 : Rd.rd (Old W) W [v1] x1) :
    Calls Try.prog 3 #[.agg cs0, v1] W fun e w' => e = .returned (.bool true) ∧ Below W.heap.size W w' := by
  obtain ⟨a0, c0, a1, c1, hcs0, f0, f1⟩ := rdArr h0
  obtain rfl := arr_of_list hcs0
  clear hcs0 f0 f1
  obtain ⟨e1, b1⟩ := h1
  obtain rfl : v1 = .string x1 := by simpa using e1
  clear e1
  by_cases hs1 : x1.size ≤ 1048576
  rotate_left
  · go_enter Try.func3, Try.ntmps3
    go_wp2
    go_ret
    exact ⟨rfl, by repeat' (first | (with_reducible exact Below.refl _ _) | (with_reducible refine Below.alloc ?_ ?_ _) | (simp; done) | (simp; omega) | omega)⟩
  by_cases hz0 : (Sz.sz x0 : Int) ≤ 1048576
  rotate_left
  · go_enter Try.func3, Try.ntmps3
    have bP : Below W.heap.size W W := Below.refl _ _
    have zP : W.heap.size ≤ W.heap.size := Nat.le_refl _
    have LA : Live (Old W) W W := Live.refl fun b hb => hb
    go_wp2_with fail
    obtain ⟨a_A, hw_a_A⟩ : ∃ v, W.alloc (.cells #[.slice a0 x0.keys.length c0, .slice a1 x0.vals.length c1] 25) = v := ⟨_, rfl⟩
    have x_a_A : Below W.heap.size W a_A := by rw [← hw_a_A]; exact ext_alloc _ _
    have z_a_A : W.heap.size < a_A.heap.size := by rw [← hw_a_A]; simp
    have c_A_0 : a_A.cell? ⟨W.heap.size, 0, none⟩ = some (.slice a0 x0.keys.length c0) := by rw [← hw_a_A]; simp
    have c_A_1 : a_A.cell? ⟨W.heap.size, 1, none⟩ = some (.slice a1 x0.vals.length c1) := by rw [← hw_a_A]; simp
    replace bP : Below W.heap.size W a_A := bw_call bP zP x_a_A
    replace LA : Live (Old W) W a_A := LA.call x_a_A
    have y_a_A : W.heap.size ≤ a_A.heap.size := x_a_A.size
    replace zP : W.heap.size ≤ a_A.heap.size := bP.size
    have l_A : W.heap.size < a_A.heap.size := z_a_A
    rw [hw_a_A]
    clear hw_a_A x_a_A
    refine (szArr_any _ _ (by exact LA.rd h0) (by omega) (by omega)).mono ?_
    rintro e w0 ⟨rfl, hb⟩
    rw [szOut_bad (by omega)]
    replace bP : Below W.heap.size W w0 := bw_call bP zP hb
    replace c_A_0 : w0.cell? ⟨W.heap.size, 0, none⟩ = some (.slice a0 x0.keys.length c0) := (hb.cell (p := ⟨W.heap.size, 0, none⟩) l_A).trans c_A_0
    replace c_A_1 : w0.cell? ⟨W.heap.size, 1, none⟩ = some (.slice a1 x0.vals.length c1) := (hb.cell (p := ⟨W.heap.size, 1, none⟩) l_A).trans c_A_1
    replace l_A : W.heap.size < w0.heap.size := Nat.lt_of_lt_of_le l_A hb.size
    replace LA : Live (Old W) W w0 := LA.call hb
    have y_w0 : a_A.heap.size ≤ w0.heap.size := hb.size
    replace zP : W.heap.size ≤ w0.heap.size := bP.size
    go_wp2
    go_ret
    exact ⟨rfl, bP⟩
  go_enter Try.func3, Try.ntmps3
  have bP : Below W.heap.size W W := Below.refl _ _
  have zP : W.heap.size ≤ W.heap.size := Nat.le_refl _
  have LA : Live (Old W) W W := Live.refl fun b hb => hb
  go_wp2_with fail
  obtain ⟨a_A, hw_a_A⟩ : ∃ v, W.alloc (.cells #[.slice a0 x0.keys.length c0, .slice a1 x0.vals.length c1] 25) = v := ⟨_, rfl⟩
  have x_a_A : Below W.heap.size W a_A := by rw [← hw_a_A]; exact ext_alloc _ _
  have z_a_A : W.heap.size < a_A.heap.size := by rw [← hw_a_A]; simp
  have c_A_0 : a_A.cell? ⟨W.heap.size, 0, none⟩ = some (.slice a0 x0.keys.length c0) := by rw [← hw_a_A]; simp
  have c_A_1 : a_A.cell? ⟨W.heap.size, 1, none⟩ = some (.slice a1 x0.vals.length c1) := by rw [← hw_a_A]; simp
  replace bP : Below W.heap.size W a_A := bw_call bP zP x_a_A
  replace LA : Live (Old W) W a_A := LA.call x_a_A
  have y_a_A : W.heap.size ≤ a_A.heap.size := x_a_A.size
  replace zP : W.heap.size ≤ a_A.heap.size := bP.size
  have l_A : W.heap.size < a_A.heap.size := z_a_A
  rw [hw_a_A]
  clear hw_a_A x_a_A
  refine (szArr_any _ _ (by exact LA.rd h0) (by omega) (by omega)).mono ?_
  rintro e w0 ⟨rfl, hb⟩
  rw [szOut_val (by omega)]
  replace bP : Below W.heap.size W w0 := bw_call bP zP hb
  replace c_A_0 : w0.cell? ⟨W.heap.size, 0, none⟩ = some (.slice a0 x0.keys.length c0) := (hb.cell (p := ⟨W.heap.size, 0, none⟩) l_A).trans c_A_0
  replace c_A_1 : w0.cell? ⟨W.heap.size, 1, none⟩ = some (.slice a1 x0.vals.length c1) := (hb.cell (p := ⟨W.heap.size, 1, none⟩) l_A).trans c_A_1
  replace l_A : W.heap.size < w0.heap.size := Nat.lt_of_lt_of_le l_A hb.size
  replace LA : Live (Old W) W w0 := LA.call hb
  have y_w0 : a_A.heap.size ≤ w0.heap.size := hb.size
  replace zP : W.heap.size ≤ w0.heap.size := bP.size
  clear hb
  have hzz0 : Sz.sz x0 ≤ 1048576 := by omega
  obtain ⟨hlk, hlv, hmk0⟩ := arr_cells hzz0
  obtain ⟨D, hD⟩ : ∃ D, arrDrop x0 x1 = D := ⟨_, rfl⟩
  have hmkD : 1 + arrCells D ≤ 100000000 := by rw [← hD]; exact arrDrop_cells x1 hlk
  have hsD := hid (fun (P : World) (cs : Array Value) (h : Rd.rd (Old P) P cs.toList x0) => specDrop x1 P h hlk)
  have hiD := hid (fun (P : World) (cs : Array Value) (h : Rd.rd (Old P) P cs.toList x0) => implDrop x1 P h hlk)
  rw [hD] at hsD hiD
  clear hD
  go_wp2_with fail
  refine (toArr_any _ (by exact LA.rd h0) hzz0).mono ?_
  rintro e w1 ⟨s, rfl, hrs, hb⟩
  replace bP : Below W.heap.size W w1 := bw_call bP zP hb
  replace c_A_0 : w1.cell? ⟨W.heap.size, 0, none⟩ = some (.slice a0 x0.keys.length c0) := (hb.cell (p := ⟨W.heap.size, 0, none⟩) l_A).trans c_A_0
  replace c_A_1 : w1.cell? ⟨W.heap.size, 1, none⟩ = some (.slice a1 x0.vals.length c1) := (hb.cell (p := ⟨W.heap.size, 1, none⟩) l_A).trans c_A_1
  replace l_A : W.heap.size < w1.heap.size := Nat.lt_of_lt_of_le l_A hb.size
  replace LA : Live (Old W) W w1 := LA.call hb
  have y_w1 : w0.heap.size ≤ w1.heap.size := hb.size
  replace zP : W.heap.size ≤ w1.heap.size := bP.size
  clear hb
  have LS : Live (New w0.heap.size w1) w1 w1 := Live.refl fun b hb => hb.2
  obtain ⟨sa, sc, sa', sc', hcs, _, _⟩ := rdArr hrs
  obtain rfl := arr_of_list hcs
  clear hcs
  go_wp2_with fail
  refine (hsD.out _ _ (by exact LS.rd hrs)).mono ?_
  rintro e w2 ⟨w, rfl, hrw, hb⟩
  replace bP : Below W.heap.size W w2 := bw_call bP zP hb
  replace c_A_0 : w2.cell? ⟨W.heap.size, 0, none⟩ = some (.slice a0 x0.keys.length c0) := (hb.cell (p := ⟨W.heap.size, 0, none⟩) l_A).trans c_A_0
  replace c_A_1 : w2.cell? ⟨W.heap.size, 1, none⟩ = some (.slice a1 x0.vals.length c1) := (hb.cell (p := ⟨W.heap.size, 1, none⟩) l_A).trans c_A_1
  replace l_A : W.heap.size < w2.heap.size := Nat.lt_of_lt_of_le l_A hb.size
  replace LA : Live (Old W) W w2 := LA.call hb
  replace LS : Live (New w0.heap.size w1) w1 w2 := LS.call hb
  have y_w2 : w1.heap.size ≤ w2.heap.size := hb.size
  replace zP : W.heap.size ≤ w2.heap.size := bP.size
  clear hb
  have LW : Live (New w1.heap.size w2) w2 w2 := Live.refl fun b hb => hb.2
  obtain ⟨wa, wc, wa', wc', hcs, _, _⟩ := rdArr hrw
  obtain rfl := arr_of_list hcs
  clear hcs
  go_wp2_with fail
  obtain ⟨a_w, hw_a_w⟩ : ∃ v, w2.alloc (.cells #[.slice wa D.keys.length wc, .slice wa' D.vals.length wc'] 29) = v := ⟨_, rfl⟩
  have x_a_w : Below w2.heap.size w2 a_w := by rw [← hw_a_w]; exact ext_alloc _ _
  have z_a_w : w2.heap.size < a_w.heap.size := by rw [← hw_a_w]; simp
  have c_w_0 : a_w.cell? ⟨w2.heap.size, 0, none⟩ = some (.slice wa D.keys.length wc) := by rw [← hw_a_w]; simp
  have c_w_1 : a_w.cell? ⟨w2.heap.size, 1, none⟩ = some (.slice wa' D.vals.length wc') := by rw [← hw_a_w]; simp
  replace bP : Below W.heap.size W a_w := bw_call bP zP x_a_w
  replace c_A_0 : a_w.cell? ⟨W.heap.size, 0, none⟩ = some (.slice a0 x0.keys.length c0) := (x_a_w.cell (p := ⟨W.heap.size, 0, none⟩) l_A).trans c_A_0
  replace c_A_1 : a_w.cell? ⟨W.heap.size, 1, none⟩ = some (.slice a1 x0.vals.length c1) := (x_a_w.cell (p := ⟨W.heap.size, 1, none⟩) l_A).trans c_A_1
  replace l_A : W.heap.size < a_w.heap.size := Nat.lt_of_lt_of_le l_A x_a_w.size
  replace LA : Live (Old W) W a_w := LA.call x_a_w
  replace LW : Live (New w1.heap.size w2) w2 a_w := LW.call x_a_w
  have y_a_w : w2.heap.size ≤ a_w.heap.size := x_a_w.size
  replace zP : W.heap.size ≤ a_w.heap.size := bP.size
  have l_w : w2.heap.size < a_w.heap.size := z_a_w
  rw [hw_a_w]
  clear hw_a_w x_a_w
  refine (toArr_own _ (by exact LA.rd h0) hzz0).mono ?_
  rintro e w3 ⟨x, rfl, hrx, hox, hb⟩
  replace bP : Below W.heap.size W w3 := bw_call bP zP hb
  replace c_A_0 : w3.cell? ⟨W.heap.size, 0, none⟩ = some (.slice a0 x0.keys.length c0) := (hb.cell (p := ⟨W.heap.size, 0, none⟩) l_A).trans c_A_0
  replace c_A_1 : w3.cell? ⟨W.heap.size, 1, none⟩ = some (.slice a1 x0.vals.length c1) := (hb.cell (p := ⟨W.heap.size, 1, none⟩) l_A).trans c_A_1
  replace c_w_0 : w3.cell? ⟨w2.heap.size, 0, none⟩ = some (.slice wa D.keys.length wc) := (hb.cell (p := ⟨w2.heap.size, 0, none⟩) l_w).trans c_w_0
  replace c_w_1 : w3.cell? ⟨w2.heap.size, 1, none⟩ = some (.slice wa' D.vals.length wc') := (hb.cell (p := ⟨w2.heap.size, 1, none⟩) l_w).trans c_w_1
  replace l_A : W.heap.size < w3.heap.size := Nat.lt_of_lt_of_le l_A hb.size
  replace l_w : w2.heap.size < w3.heap.size := Nat.lt_of_lt_of_le l_w hb.size
  replace LA : Live (Old W) W w3 := LA.call hb
  replace LW : Live (New w1.heap.size w2) w2 w3 := LW.call hb
  have y_w3 : a_w.heap.size ≤ w3.heap.size := hb.size
  replace zP : W.heap.size ≤ w3.heap.size := bP.size
  clear hb
  have LX : Live (New a_w.heap.size w3) w3 w3 := Live.refl fun b hb => hb.2
  obtain ⟨xa, xc, xa', xc', hcs, _, _⟩ := rdArr hrx
  obtain rfl := arr_of_list hcs
  clear hcs
  go_wp2_with fail
  obtain ⟨a_x, hw_a_x⟩ : ∃ v, w3.alloc (.cells #[.slice xa x0.keys.length xc, .slice xa' x0.vals.length xc'] 29) = v := ⟨_, rfl⟩
  have x_a_x : Below w3.heap.size w3 a_x := by rw [← hw_a_x]; exact ext_alloc _ _
  have z_a_x : w3.heap.size < a_x.heap.size := by rw [← hw_a_x]; simp
  have c_x_0 : a_x.cell? ⟨w3.heap.size, 0, none⟩ = some (.slice xa x0.keys.length xc) := by rw [← hw_a_x]; simp
  have c_x_1 : a_x.cell? ⟨w3.heap.size, 1, none⟩ = some (.slice xa' x0.vals.length xc') := by rw [← hw_a_x]; simp
  replace bP : Below W.heap.size W a_x := bw_call bP zP x_a_x
  replace c_A_0 : a_x.cell? ⟨W.heap.size, 0, none⟩ = some (.slice a0 x0.keys.length c0) := (x_a_x.cell (p := ⟨W.heap.size, 0, none⟩) l_A).trans c_A_0
  replace c_A_1 : a_x.cell? ⟨W.heap.size, 1, none⟩ = some (.slice a1 x0.vals.length c1) := (x_a_x.cell (p := ⟨W.heap.size, 1, none⟩) l_A).trans c_A_1
  replace c_w_0 : a_x.cell? ⟨w2.heap.size, 0, none⟩ = some (.slice wa D.keys.length wc) := (x_a_x.cell (p := ⟨w2.heap.size, 0, none⟩) l_w).trans c_w_0
  replace c_w_1 : a_x.cell? ⟨w2.heap.size, 1, none⟩ = some (.slice wa' D.vals.length wc') := (x_a_x.cell (p := ⟨w2.heap.size, 1, none⟩) l_w).trans c_w_1
  replace l_A : W.heap.size < a_x.heap.size := Nat.lt_of_lt_of_le l_A x_a_x.size
  replace l_w : w2.heap.size < a_x.heap.size := Nat.lt_of_lt_of_le l_w x_a_x.size
  replace LA : Live (Old W) W a_x := LA.call x_a_x
  replace LW : Live (New w1.heap.size w2) w2 a_x := LW.call x_a_x
  replace LX : Live (New a_w.heap.size w3) w3 a_x := LX.call x_a_x
  have y_a_x : w3.heap.size ≤ a_x.heap.size := x_a_x.size
  replace zP : W.heap.size ≤ a_x.heap.size := bP.size
  have l_x : w3.heap.size < a_x.heap.size := z_a_x
  rw [hw_a_x]
  clear hw_a_x x_a_x
  refine (hiD.out _ _ (by exact LX.rd hrx)).mono ?_
  rintro e w4 ⟨g, rfl, hrg, hog, hb⟩
  replace bP : Below W.heap.size W w4 := bw_call bP zP hb
  replace c_A_0 : w4.cell? ⟨W.heap.size, 0, none⟩ = some (.slice a0 x0.keys.length c0) := (hb.cell (p := ⟨W.heap.size, 0, none⟩) l_A).trans c_A_0
  replace c_A_1 : w4.cell? ⟨W.heap.size, 1, none⟩ = some (.slice a1 x0.vals.length c1) := (hb.cell (p := ⟨W.heap.size, 1, none⟩) l_A).trans c_A_1
  replace c_w_0 : w4.cell? ⟨w2.heap.size, 0, none⟩ = some (.slice wa D.keys.length wc) := (hb.cell (p := ⟨w2.heap.size, 0, none⟩) l_w).trans c_w_0
  replace c_w_1 : w4.cell? ⟨w2.heap.size, 1, none⟩ = some (.slice wa' D.vals.length wc') := (hb.cell (p := ⟨w2.heap.size, 1, none⟩) l_w).trans c_w_1
  replace c_x_0 : w4.cell? ⟨w3.heap.size, 0, none⟩ = some (.slice xa x0.keys.length xc) := (hb.cell (p := ⟨w3.heap.size, 0, none⟩) l_x).trans c_x_0
  replace c_x_1 : w4.cell? ⟨w3.heap.size, 1, none⟩ = some (.slice xa' x0.vals.length xc') := (hb.cell (p := ⟨w3.heap.size, 1, none⟩) l_x).trans c_x_1
  replace l_A : W.heap.size < w4.heap.size := Nat.lt_of_lt_of_le l_A hb.size
  replace l_w : w2.heap.size < w4.heap.size := Nat.lt_of_lt_of_le l_w hb.size
  replace l_x : w3.heap.size < w4.heap.size := Nat.lt_of_lt_of_le l_x hb.size
  replace LA : Live (Old W) W w4 := LA.call hb
  replace LW : Live (New w1.heap.size w2) w2 w4 := LW.call hb
  replace LX : Live (New a_w.heap.size w3) w3 w4 := LX.call hb
  have y_w4 : a_x.heap.size ≤ w4.heap.size := hb.size
  replace zP : W.heap.size ≤ w4.heap.size := bP.size
  clear hb
  have LG : Live (New a_x.heap.size w4) w4 w4 := Live.refl fun b hb => hb.2
  obtain ⟨ga, gc, ga', gc', hcs, _, _⟩ := rdArr hrg
  obtain rfl := arr_of_list hcs
  clear hcs
  go_wp2_with fail
  obtain ⟨a_g, hw_a_g⟩ : ∃ v, w4.alloc (.cells #[.slice ga D.keys.length gc, .slice ga' D.vals.length gc'] 29) = v := ⟨_, rfl⟩
  have x_a_g : Below w4.heap.size w4 a_g := by rw [← hw_a_g]; exact ext_alloc _ _
  have z_a_g : w4.heap.size < a_g.heap.size := by rw [← hw_a_g]; simp
  have c_g_0 : a_g.cell? ⟨w4.heap.size, 0, none⟩ = some (.slice ga D.keys.length gc) := by rw [← hw_a_g]; simp
  have c_g_1 : a_g.cell? ⟨w4.heap.size, 1, none⟩ = some (.slice ga' D.vals.length gc') := by rw [← hw_a_g]; simp
  replace bP : Below W.heap.size W a_g := bw_call bP zP x_a_g
  replace c_A_0 : a_g.cell? ⟨W.heap.size, 0, none⟩ = some (.slice a0 x0.keys.length c0) := (x_a_g.cell (p := ⟨W.heap.size, 0, none⟩) l_A).trans c_A_0
  replace c_A_1 : a_g.cell? ⟨W.heap.size, 1, none⟩ = some (.slice a1 x0.vals.length c1) := (x_a_g.cell (p := ⟨W.heap.size, 1, none⟩) l_A).trans c_A_1
  replace c_w_0 : a_g.cell? ⟨w2.heap.size, 0, none⟩ = some (.slice wa D.keys.length wc) := (x_a_g.cell (p := ⟨w2.heap.size, 0, none⟩) l_w).trans c_w_0
  replace c_w_1 : a_g.cell? ⟨w2.heap.size, 1, none⟩ = some (.slice wa' D.vals.length wc') := (x_a_g.cell (p := ⟨w2.heap.size, 1, none⟩) l_w).trans c_w_1
  replace c_x_0 : a_g.cell? ⟨w3.heap.size, 0, none⟩ = some (.slice xa x0.keys.length xc) := (x_a_g.cell (p := ⟨w3.heap.size, 0, none⟩) l_x).trans c_x_0
  replace c_x_1 : a_g.cell? ⟨w3.heap.size, 1, none⟩ = some (.slice xa' x0.vals.length xc') := (x_a_g.cell (p := ⟨w3.heap.size, 1, none⟩) l_x).trans c_x_1
  replace l_A : W.heap.size < a_g.heap.size := Nat.lt_of_lt_of_le l_A x_a_g.size
  replace l_w : w2.heap.size < a_g.heap.size := Nat.lt_of_lt_of_le l_w x_a_g.size
  replace l_x : w3.heap.size < a_g.heap.size := Nat.lt_of_lt_of_le l_x x_a_g.size
  replace LA : Live (Old W) W a_g := LA.call x_a_g
  replace LW : Live (New w1.heap.size w2) w2 a_g := LW.call x_a_g
  replace LX : Live (New a_w.heap.size w3) w3 a_g := LX.call x_a_g
  replace LG : Live (New a_x.heap.size w4) w4 a_g := LG.call x_a_g
  have y_a_g : w4.heap.size ≤ a_g.heap.size := x_a_g.size
  replace zP : W.heap.size ≤ a_g.heap.size := bP.size
  have l_g : w4.heap.size < a_g.heap.size := z_a_g
  rw [hw_a_g]
  clear hw_a_g x_a_g
  refine (eqArr_same _ (by exact LG.rd hrg) (by exact LW.rd hrw)).mono ?_
  rintro e w5 ⟨rfl, hb⟩
  replace bP : Below W.heap.size W w5 := bw_call bP zP hb
  replace c_A_0 : w5.cell? ⟨W.heap.size, 0, none⟩ = some (.slice a0 x0.keys.length c0) := (hb.cell (p := ⟨W.heap.size, 0, none⟩) l_A).trans c_A_0
  replace c_A_1 : w5.cell? ⟨W.heap.size, 1, none⟩ = some (.slice a1 x0.vals.length c1) := (hb.cell (p := ⟨W.heap.size, 1, none⟩) l_A).trans c_A_1
  replace c_w_0 : w5.cell? ⟨w2.heap.size, 0, none⟩ = some (.slice wa D.keys.length wc) := (hb.cell (p := ⟨w2.heap.size, 0, none⟩) l_w).trans c_w_0
  replace c_w_1 : w5.cell? ⟨w2.heap.size, 1, none⟩ = some (.slice wa' D.vals.length wc') := (hb.cell (p := ⟨w2.heap.size, 1, none⟩) l_w).trans c_w_1
  replace c_x_0 : w5.cell? ⟨w3.heap.size, 0, none⟩ = some (.slice xa x0.keys.length xc) := (hb.cell (p := ⟨w3.heap.size, 0, none⟩) l_x).trans c_x_0
  replace c_x_1 : w5.cell? ⟨w3.heap.size, 1, none⟩ = some (.slice xa' x0.vals.length xc') := (hb.cell (p := ⟨w3.heap.size, 1, none⟩) l_x).trans c_x_1
  replace c_g_0 : w5.cell? ⟨w4.heap.size, 0, none⟩ = some (.slice ga D.keys.length gc) := (hb.cell (p := ⟨w4.heap.size, 0, none⟩) l_g).trans c_g_0
  replace c_g_1 : w5.cell? ⟨w4.heap.size, 1, none⟩ = some (.slice ga' D.vals.length gc') := (hb.cell (p := ⟨w4.heap.size, 1, none⟩) l_g).trans c_g_1
  replace l_A : W.heap.size < w5.heap.size := Nat.lt_of_lt_of_le l_A hb.size
  replace l_w : w2.heap.size < w5.heap.size := Nat.lt_of_lt_of_le l_w hb.size
  replace l_x : w3.heap.size < w5.heap.size := Nat.lt_of_lt_of_le l_x hb.size
  replace l_g : w4.heap.size < w5.heap.size := Nat.lt_of_lt_of_le l_g hb.size
  replace LA : Live (Old W) W w5 := LA.call hb
  replace LW : Live (New w1.heap.size w2) w2 w5 := LW.call hb
  replace LX : Live (New a_w.heap.size w3) w3 w5 := LX.call hb
  replace LG : Live (New a_x.heap.size w4) w4 w5 := LG.call hb
  have y_w5 : a_g.heap.size ≤ w5.heap.size := hb.size
  replace zP : W.heap.size ≤ w5.heap.size := bP.size
  clear hb
  go_wp2_with fail
  go_region_held3 (fun w' => w'.cell? ⟨W.heap.size, 0, none⟩ = some (.slice a0 x0.keys.length c0) ∧ w'.cell? ⟨W.heap.size, 1, none⟩ = some (.slice a1 x0.vals.length c1) ∧ w'.cell? ⟨w3.heap.size, 0, none⟩ = some (.slice xa x0.keys.length xc) ∧ w'.cell? ⟨w3.heap.size, 1, none⟩ = some (.slice xa' x0.vals.length xc')) (simp [*])
    (first
      | (go_at_call 6; refine (toArr_any _ (by exact (LA.call (Below.drew (Below.refl _ _))).rd h0) hzz0).mono ?_; rintro e v6 ⟨q6, rfl, hr6, hb6⟩; replace hb6 := bw_drew hb6; have hkc6 := keeps_cells hb6)
      | (go_at_call 8; refine (eqArr_same _ (by exact (LX.call hb6).rd hrx) (by exact Rd.old hr6)).mono ?_; rintro e v7 ⟨rfl, hb7⟩; have hkc7 := keeps_cells hb7))
  clear hkc6 hkc7 hr6
  replace bP : Below W.heap.size W v6 := bw_call bP zP hb6
  replace c_A_0 : v6.cell? ⟨W.heap.size, 0, none⟩ = some (.slice a0 x0.keys.length c0) := (hb6.cell (p := ⟨W.heap.size, 0, none⟩) l_A).trans c_A_0
  replace c_A_1 : v6.cell? ⟨W.heap.size, 1, none⟩ = some (.slice a1 x0.vals.length c1) := (hb6.cell (p := ⟨W.heap.size, 1, none⟩) l_A).trans c_A_1
  replace c_w_0 : v6.cell? ⟨w2.heap.size, 0, none⟩ = some (.slice wa D.keys.length wc) := (hb6.cell (p := ⟨w2.heap.size, 0, none⟩) l_w).trans c_w_0
  replace c_w_1 : v6.cell? ⟨w2.heap.size, 1, none⟩ = some (.slice wa' D.vals.length wc') := (hb6.cell (p := ⟨w2.heap.size, 1, none⟩) l_w).trans c_w_1
  replace c_x_0 : v6.cell? ⟨w3.heap.size, 0, none⟩ = some (.slice xa x0.keys.length xc) := (hb6.cell (p := ⟨w3.heap.size, 0, none⟩) l_x).trans c_x_0
  replace c_x_1 : v6.cell? ⟨w3.heap.size, 1, none⟩ = some (.slice xa' x0.vals.length xc') := (hb6.cell (p := ⟨w3.heap.size, 1, none⟩) l_x).trans c_x_1
  replace c_g_0 : v6.cell? ⟨w4.heap.size, 0, none⟩ = some (.slice ga D.keys.length gc) := (hb6.cell (p := ⟨w4.heap.size, 0, none⟩) l_g).trans c_g_0
  replace c_g_1 : v6.cell? ⟨w4.heap.size, 1, none⟩ = some (.slice ga' D.vals.length gc') := (hb6.cell (p := ⟨w4.heap.size, 1, none⟩) l_g).trans c_g_1
  replace l_A : W.heap.size < v6.heap.size := Nat.lt_of_lt_of_le l_A hb6.size
  replace l_w : w2.heap.size < v6.heap.size := Nat.lt_of_lt_of_le l_w hb6.size
  replace l_x : w3.heap.size < v6.heap.size := Nat.lt_of_lt_of_le l_x hb6.size
  replace l_g : w4.heap.size < v6.heap.size := Nat.lt_of_lt_of_le l_g hb6.size
  replace LA : Live (Old W) W v6 := LA.call hb6
  replace LW : Live (New w1.heap.size w2) w2 v6 := LW.call hb6
  replace LX : Live (New a_w.heap.size w3) w3 v6 := LX.call hb6
  replace LG : Live (New a_x.heap.size w4) w4 v6 := LG.call hb6
  have y_v6 : w5.heap.size ≤ v6.heap.size := hb6.size
  replace zP : W.heap.size ≤ v6.heap.size := bP.size
  replace bP : Below W.heap.size W v7 := bw_call bP zP hb7
  replace c_A_0 : v7.cell? ⟨W.heap.size, 0, none⟩ = some (.slice a0 x0.keys.length c0) := (hb7.cell (p := ⟨W.heap.size, 0, none⟩) l_A).trans c_A_0
  replace c_A_1 : v7.cell? ⟨W.heap.size, 1, none⟩ = some (.slice a1 x0.vals.length c1) := (hb7.cell (p := ⟨W.heap.size, 1, none⟩) l_A).trans c_A_1
  replace c_w_0 : v7.cell? ⟨w2.heap.size, 0, none⟩ = some (.slice wa D.keys.length wc) := (hb7.cell (p := ⟨w2.heap.size, 0, none⟩) l_w).trans c_w_0
  replace c_w_1 : v7.cell? ⟨w2.heap.size, 1, none⟩ = some (.slice wa' D.vals.length wc') := (hb7.cell (p := ⟨w2.heap.size, 1, none⟩) l_w).trans c_w_1
  replace c_x_0 : v7.cell? ⟨w3.heap.size, 0, none⟩ = some (.slice xa x0.keys.length xc) := (hb7.cell (p := ⟨w3.heap.size, 0, none⟩) l_x).trans c_x_0
  replace c_x_1 : v7.cell? ⟨w3.heap.size, 1, none⟩ = some (.slice xa' x0.vals.length xc') := (hb7.cell (p := ⟨w3.heap.size, 1, none⟩) l_x).trans c_x_1
  replace c_g_0 : v7.cell? ⟨w4.heap.size, 0, none⟩ = some (.slice ga D.keys.length gc) := (hb7.cell (p := ⟨w4.heap.size, 0, none⟩) l_g).trans c_g_0
  replace c_g_1 : v7.cell? ⟨w4.heap.size, 1, none⟩ = some (.slice ga' D.vals.length gc') := (hb7.cell (p := ⟨w4.heap.size, 1, none⟩) l_g).trans c_g_1
  replace l_A : W.heap.size < v7.heap.size := Nat.lt_of_lt_of_le l_A hb7.size
  replace l_w : w2.heap.size < v7.heap.size := Nat.lt_of_lt_of_le l_w hb7.size
  replace l_x : w3.heap.size < v7.heap.size := Nat.lt_of_lt_of_le l_x hb7.size
  replace l_g : w4.heap.size < v7.heap.size := Nat.lt_of_lt_of_le l_g hb7.size
  replace LA : Live (Old W) W v7 := LA.call hb7
  replace LW : Live (New w1.heap.size w2) w2 v7 := LW.call hb7
  replace LX : Live (New a_w.heap.size w3) w3 v7 := LX.call hb7
  replace LG : Live (New a_x.heap.size w4) w4 v7 := LG.call hb7
  have y_v7 : v6.heap.size ≤ v7.heap.size := hb7.size
  replace zP : W.heap.size ≤ v7.heap.size := bP.size
  clear hb6 hb7
  go_wp2_with fail
  refine (markArr_one _ (by exact hox.same LX.same) (by exact LX.lt) hmk0).mono ?_
  rintro e w6 ⟨n, hn, rfl, hoff, hmx⟩
  replace bP : Below W.heap.size W w6 := bw_off bP zP hoff (by intro b hb; simp only [New] at hb; omega)
  replace c_A_0 : w6.cell? ⟨W.heap.size, 0, none⟩ = some (.slice a0 x0.keys.length c0) := (hoff.cell (p := ⟨W.heap.size, 0, none⟩) l_A (by intro hq; simp only [New] at hq; omega)).trans c_A_0
  replace c_A_1 : w6.cell? ⟨W.heap.size, 1, none⟩ = some (.slice a1 x0.vals.length c1) := (hoff.cell (p := ⟨W.heap.size, 1, none⟩) l_A (by intro hq; simp only [New] at hq; omega)).trans c_A_1
  replace c_w_0 : w6.cell? ⟨w2.heap.size, 0, none⟩ = some (.slice wa D.keys.length wc) := (hoff.cell (p := ⟨w2.heap.size, 0, none⟩) l_w (by intro hq; simp only [New] at hq; omega)).trans c_w_0
  replace c_w_1 : w6.cell? ⟨w2.heap.size, 1, none⟩ = some (.slice wa' D.vals.length wc') := (hoff.cell (p := ⟨w2.heap.size, 1, none⟩) l_w (by intro hq; simp only [New] at hq; omega)).trans c_w_1
  replace c_x_0 : w6.cell? ⟨w3.heap.size, 0, none⟩ = some (.slice xa x0.keys.length xc) := (hoff.cell (p := ⟨w3.heap.size, 0, none⟩) l_x (by intro hq; simp only [New] at hq; omega)).trans c_x_0
  replace c_x_1 : w6.cell? ⟨w3.heap.size, 1, none⟩ = some (.slice xa' x0.vals.length xc') := (hoff.cell (p := ⟨w3.heap.size, 1, none⟩) l_x (by intro hq; simp only [New] at hq; omega)).trans c_x_1
  replace c_g_0 : w6.cell? ⟨w4.heap.size, 0, none⟩ = some (.slice ga D.keys.length gc) := (hoff.cell (p := ⟨w4.heap.size, 0, none⟩) l_g (by intro hq; simp only [New] at hq; omega)).trans c_g_0
  replace c_g_1 : w6.cell? ⟨w4.heap.size, 1, none⟩ = some (.slice ga' D.vals.length gc') := (hoff.cell (p := ⟨w4.heap.size, 1, none⟩) l_g (by intro hq; simp only [New] at hq; omega)).trans c_g_1
  replace l_A : W.heap.size < w6.heap.size := Nat.lt_of_lt_of_le l_A hoff.size
  replace l_w : w2.heap.size < w6.heap.size := Nat.lt_of_lt_of_le l_w hoff.size
  replace l_x : w3.heap.size < w6.heap.size := Nat.lt_of_lt_of_le l_x hoff.size
  replace l_g : w4.heap.size < w6.heap.size := Nat.lt_of_lt_of_le l_g hoff.size
  replace LA : Live (Old W) W w6 := LA.off hoff (by intro b hb hT; simp only [New, Old] at hb hT; omega)
  replace LW : Live (New w1.heap.size w2) w2 w6 := LW.off hoff (by intro b hb hT; simp only [New, Old] at hb hT; omega)
  replace LG : Live (New a_x.heap.size w4) w4 w6 := LG.off hoff (by intro b hb hT; simp only [New, Old] at hb hT; omega)
  have y_w6 : v7.heap.size ≤ w6.heap.size := hoff.size
  replace zP : W.heap.size ≤ w6.heap.size := bP.size
  clear hoff hmx hox hrx LX
  have hn0 : ¬ (n : Int) < 0 := by omega
  clear hn
  go_wp2_with fail
  refine (eqArr_same _ (by exact LG.rd hrg) (by exact LW.rd hrw)).mono ?_
  rintro e w7 ⟨rfl, hb⟩
  replace bP : Below W.heap.size W w7 := bw_call bP zP hb
  replace c_A_0 : w7.cell? ⟨W.heap.size, 0, none⟩ = some (.slice a0 x0.keys.length c0) := (hb.cell (p := ⟨W.heap.size, 0, none⟩) l_A).trans c_A_0
  replace c_A_1 : w7.cell? ⟨W.heap.size, 1, none⟩ = some (.slice a1 x0.vals.length c1) := (hb.cell (p := ⟨W.heap.size, 1, none⟩) l_A).trans c_A_1
  replace c_w_0 : w7.cell? ⟨w2.heap.size, 0, none⟩ = some (.slice wa D.keys.length wc) := (hb.cell (p := ⟨w2.heap.size, 0, none⟩) l_w).trans c_w_0
  replace c_w_1 : w7.cell? ⟨w2.heap.size, 1, none⟩ = some (.slice wa' D.vals.length wc') := (hb.cell (p := ⟨w2.heap.size, 1, none⟩) l_w).trans c_w_1
  replace c_x_0 : w7.cell? ⟨w3.heap.size, 0, none⟩ = some (.slice xa x0.keys.length xc) := (hb.cell (p := ⟨w3.heap.size, 0, none⟩) l_x).trans c_x_0
  replace c_x_1 : w7.cell? ⟨w3.heap.size, 1, none⟩ = some (.slice xa' x0.vals.length xc') := (hb.cell (p := ⟨w3.heap.size, 1, none⟩) l_x).trans c_x_1
  replace c_g_0 : w7.cell? ⟨w4.heap.size, 0, none⟩ = some (.slice ga D.keys.length gc) := (hb.cell (p := ⟨w4.heap.size, 0, none⟩) l_g).trans c_g_0
  replace c_g_1 : w7.cell? ⟨w4.heap.size, 1, none⟩ = some (.slice ga' D.vals.length gc') := (hb.cell (p := ⟨w4.heap.size, 1, none⟩) l_g).trans c_g_1
  replace l_A : W.heap.size < w7.heap.size := Nat.lt_of_lt_of_le l_A hb.size
  replace l_w : w2.heap.size < w7.heap.size := Nat.lt_of_lt_of_le l_w hb.size
  replace l_x : w3.heap.size < w7.heap.size := Nat.lt_of_lt_of_le l_x hb.size
  replace l_g : w4.heap.size < w7.heap.size := Nat.lt_of_lt_of_le l_g hb.size
  replace LA : Live (Old W) W w7 := LA.call hb
  replace LW : Live (New w1.heap.size w2) w2 w7 := LW.call hb
  replace LG : Live (New a_x.heap.size w4) w4 w7 := LG.call hb
  have y_w7 : w6.heap.size ≤ w7.heap.size := hb.size
  replace zP : W.heap.size ≤ w7.heap.size := bP.size
  clear hb
  go_wp2_with fail
  refine (markArr_one _ (by exact hog.same LG.same) (by exact LG.lt) hmkD).mono ?_
  rintro e w8 ⟨m, hm, rfl, hoff, hmg⟩
  replace bP : Below W.heap.size W w8 := bw_off bP zP hoff (by intro b hb; simp only [New] at hb; omega)
  replace c_A_0 : w8.cell? ⟨W.heap.size, 0, none⟩ = some (.slice a0 x0.keys.length c0) := (hoff.cell (p := ⟨W.heap.size, 0, none⟩) l_A (by intro hq; simp only [New] at hq; omega)).trans c_A_0
  replace c_A_1 : w8.cell? ⟨W.heap.size, 1, none⟩ = some (.slice a1 x0.vals.length c1) := (hoff.cell (p := ⟨W.heap.size, 1, none⟩) l_A (by intro hq; simp only [New] at hq; omega)).trans c_A_1
  replace c_w_0 : w8.cell? ⟨w2.heap.size, 0, none⟩ = some (.slice wa D.keys.length wc) := (hoff.cell (p := ⟨w2.heap.size, 0, none⟩) l_w (by intro hq; simp only [New] at hq; omega)).trans c_w_0
  replace c_w_1 : w8.cell? ⟨w2.heap.size, 1, none⟩ = some (.slice wa' D.vals.length wc') := (hoff.cell (p := ⟨w2.heap.size, 1, none⟩) l_w (by intro hq; simp only [New] at hq; omega)).trans c_w_1
  replace c_x_0 : w8.cell? ⟨w3.heap.size, 0, none⟩ = some (.slice xa x0.keys.length xc) := (hoff.cell (p := ⟨w3.heap.size, 0, none⟩) l_x (by intro hq; simp only [New] at hq; omega)).trans c_x_0
  replace c_x_1 : w8.cell? ⟨w3.heap.size, 1, none⟩ = some (.slice xa' x0.vals.length xc') := (hoff.cell (p := ⟨w3.heap.size, 1, none⟩) l_x (by intro hq; simp only [New] at hq; omega)).trans c_x_1
  replace c_g_0 : w8.cell? ⟨w4.heap.size, 0, none⟩ = some (.slice ga D.keys.length gc) := (hoff.cell (p := ⟨w4.heap.size, 0, none⟩) l_g (by intro hq; simp only [New] at hq; omega)).trans c_g_0
  replace c_g_1 : w8.cell? ⟨w4.heap.size, 1, none⟩ = some (.slice ga' D.vals.length gc') := (hoff.cell (p := ⟨w4.heap.size, 1, none⟩) l_g (by intro hq; simp only [New] at hq; omega)).trans c_g_1
  replace l_A : W.heap.size < w8.heap.size := Nat.lt_of_lt_of_le l_A hoff.size
  replace l_w : w2.heap.size < w8.heap.size := Nat.lt_of_lt_of_le l_w hoff.size
  replace l_x : w3.heap.size < w8.heap.size := Nat.lt_of_lt_of_le l_x hoff.size
  replace l_g : w4.heap.size < w8.heap.size := Nat.lt_of_lt_of_le l_g hoff.size
  replace LA : Live (Old W) W w8 := LA.off hoff (by intro b hb hT; simp only [New, Old] at hb hT; omega)
  replace LW : Live (New w1.heap.size w2) w2 w8 := LW.off hoff (by intro b hb hT; simp only [New, Old] at hb hT; omega)
  have y_w8 : w7.heap.size ≤ w8.heap.size := hoff.size
  replace zP : W.heap.size ≤ w8.heap.size := bP.size
  clear hoff hog hrg LG
  have LM : Live (New a_x.heap.size w4) w8 w8 := Live.refl fun b hb => by simp only [New] at hb; omega
  have hm0 : ¬ (m : Int) < 0 := by omega
  have HM := hid hm
  clear hm
  go_wp2_with fail
  refine (heldArr_one _ (by exact hmg.same LM.same) (by exact LM.lt) hmkD).mono ?_
  rintro e w9 ⟨q, hq, rfl, hb⟩
  obtain rfl : m = q := by have := HM.out; omega
  clear hq
  replace bP : Below W.heap.size W w9 := bw_call bP zP hb
  replace c_A_0 : w9.cell? ⟨W.heap.size, 0, none⟩ = some (.slice a0 x0.keys.length c0) := (hb.cell (p := ⟨W.heap.size, 0, none⟩) l_A).trans c_A_0
  replace c_A_1 : w9.cell? ⟨W.heap.size, 1, none⟩ = some (.slice a1 x0.vals.length c1) := (hb.cell (p := ⟨W.heap.size, 1, none⟩) l_A).trans c_A_1
  replace c_w_0 : w9.cell? ⟨w2.heap.size, 0, none⟩ = some (.slice wa D.keys.length wc) := (hb.cell (p := ⟨w2.heap.size, 0, none⟩) l_w).trans c_w_0
  replace c_w_1 : w9.cell? ⟨w2.heap.size, 1, none⟩ = some (.slice wa' D.vals.length wc') := (hb.cell (p := ⟨w2.heap.size, 1, none⟩) l_w).trans c_w_1
  replace c_x_0 : w9.cell? ⟨w3.heap.size, 0, none⟩ = some (.slice xa x0.keys.length xc) := (hb.cell (p := ⟨w3.heap.size, 0, none⟩) l_x).trans c_x_0
  replace c_x_1 : w9.cell? ⟨w3.heap.size, 1, none⟩ = some (.slice xa' x0.vals.length xc') := (hb.cell (p := ⟨w3.heap.size, 1, none⟩) l_x).trans c_x_1
  replace c_g_0 : w9.cell? ⟨w4.heap.size, 0, none⟩ = some (.slice ga D.keys.length gc) := (hb.cell (p := ⟨w4.heap.size, 0, none⟩) l_g).trans c_g_0
  replace c_g_1 : w9.cell? ⟨w4.heap.size, 1, none⟩ = some (.slice ga' D.vals.length gc') := (hb.cell (p := ⟨w4.heap.size, 1, none⟩) l_g).trans c_g_1
  replace l_A : W.heap.size < w9.heap.size := Nat.lt_of_lt_of_le l_A hb.size
  replace l_w : w2.heap.size < w9.heap.size := Nat.lt_of_lt_of_le l_w hb.size
  replace l_x : w3.heap.size < w9.heap.size := Nat.lt_of_lt_of_le l_x hb.size
  replace l_g : w4.heap.size < w9.heap.size := Nat.lt_of_lt_of_le l_g hb.size
  replace LA : Live (Old W) W w9 := LA.call hb
  replace LW : Live (New w1.heap.size w2) w2 w9 := LW.call hb
  replace LM : Live (New a_x.heap.size w4) w8 w9 := LM.call hb
  have y_w9 : w8.heap.size ≤ w9.heap.size := hb.size
  replace zP : W.heap.size ≤ w9.heap.size := bP.size
  clear hb
  go_wp2_with fail
  refine (toArr_any _ (by exact LA.rd h0) hzz0).mono ?_
  rintro e w10 ⟨t, rfl, hrt, hb⟩
  replace bP : Below W.heap.size W w10 := bw_call bP zP hb
  replace c_A_0 : w10.cell? ⟨W.heap.size, 0, none⟩ = some (.slice a0 x0.keys.length c0) := (hb.cell (p := ⟨W.heap.size, 0, none⟩) l_A).trans c_A_0
  replace c_A_1 : w10.cell? ⟨W.heap.size, 1, none⟩ = some (.slice a1 x0.vals.length c1) := (hb.cell (p := ⟨W.heap.size, 1, none⟩) l_A).trans c_A_1
  replace c_w_0 : w10.cell? ⟨w2.heap.size, 0, none⟩ = some (.slice wa D.keys.length wc) := (hb.cell (p := ⟨w2.heap.size, 0, none⟩) l_w).trans c_w_0
  replace c_w_1 : w10.cell? ⟨w2.heap.size, 1, none⟩ = some (.slice wa' D.vals.length wc') := (hb.cell (p := ⟨w2.heap.size, 1, none⟩) l_w).trans c_w_1
  replace c_x_0 : w10.cell? ⟨w3.heap.size, 0, none⟩ = some (.slice xa x0.keys.length xc) := (hb.cell (p := ⟨w3.heap.size, 0, none⟩) l_x).trans c_x_0
  replace c_x_1 : w10.cell? ⟨w3.heap.size, 1, none⟩ = some (.slice xa' x0.vals.length xc') := (hb.cell (p := ⟨w3.heap.size, 1, none⟩) l_x).trans c_x_1
  replace c_g_0 : w10.cell? ⟨w4.heap.size, 0, none⟩ = some (.slice ga D.keys.length gc) := (hb.cell (p := ⟨w4.heap.size, 0, none⟩) l_g).trans c_g_0
  replace c_g_1 : w10.cell? ⟨w4.heap.size, 1, none⟩ = some (.slice ga' D.vals.length gc') := (hb.cell (p := ⟨w4.heap.size, 1, none⟩) l_g).trans c_g_1
  replace l_A : W.heap.size < w10.heap.size := Nat.lt_of_lt_of_le l_A hb.size
  replace l_w : w2.heap.size < w10.heap.size := Nat.lt_of_lt_of_le l_w hb.size
  replace l_x : w3.heap.size < w10.heap.size := Nat.lt_of_lt_of_le l_x hb.size
  replace l_g : w4.heap.size < w10.heap.size := Nat.lt_of_lt_of_le l_g hb.size
  replace LA : Live (Old W) W w10 := LA.call hb
  replace LW : Live (New w1.heap.size w2) w2 w10 := LW.call hb
  replace LM : Live (New a_x.heap.size w4) w8 w10 := LM.call hb
  have y_w10 : w9.heap.size ≤ w10.heap.size := hb.size
  replace zP : W.heap.size ≤ w10.heap.size := bP.size
  clear hb
  have LT : Live (New w9.heap.size w10) w10 w10 := Live.refl fun b hb => hb.2
  obtain ⟨ta, tc, ta', tc', hcs, _, _⟩ := rdArr hrt
  obtain rfl := arr_of_list hcs
  clear hcs
  go_wp2_with fail
  refine (hiD.out _ _ (by exact LT.rd hrt)).mono ?_
  rintro e w11 ⟨h, rfl, hrh, hoh, hb⟩
  replace bP : Below W.heap.size W w11 := bw_call bP zP hb
  replace c_A_0 : w11.cell? ⟨W.heap.size, 0, none⟩ = some (.slice a0 x0.keys.length c0) := (hb.cell (p := ⟨W.heap.size, 0, none⟩) l_A).trans c_A_0
  replace c_A_1 : w11.cell? ⟨W.heap.size, 1, none⟩ = some (.slice a1 x0.vals.length c1) := (hb.cell (p := ⟨W.heap.size, 1, none⟩) l_A).trans c_A_1
  replace c_w_0 : w11.cell? ⟨w2.heap.size, 0, none⟩ = some (.slice wa D.keys.length wc) := (hb.cell (p := ⟨w2.heap.size, 0, none⟩) l_w).trans c_w_0
  replace c_w_1 : w11.cell? ⟨w2.heap.size, 1, none⟩ = some (.slice wa' D.vals.length wc') := (hb.cell (p := ⟨w2.heap.size, 1, none⟩) l_w).trans c_w_1
  replace c_x_0 : w11.cell? ⟨w3.heap.size, 0, none⟩ = some (.slice xa x0.keys.length xc) := (hb.cell (p := ⟨w3.heap.size, 0, none⟩) l_x).trans c_x_0
  replace c_x_1 : w11.cell? ⟨w3.heap.size, 1, none⟩ = some (.slice xa' x0.vals.length xc') := (hb.cell (p := ⟨w3.heap.size, 1, none⟩) l_x).trans c_x_1
  replace c_g_0 : w11.cell? ⟨w4.heap.size, 0, none⟩ = some (.slice ga D.keys.length gc) := (hb.cell (p := ⟨w4.heap.size, 0, none⟩) l_g).trans c_g_0
  replace c_g_1 : w11.cell? ⟨w4.heap.size, 1, none⟩ = some (.slice ga' D.vals.length gc') := (hb.cell (p := ⟨w4.heap.size, 1, none⟩) l_g).trans c_g_1
  replace l_A : W.heap.size < w11.heap.size := Nat.lt_of_lt_of_le l_A hb.size
  replace l_w : w2.heap.size < w11.heap.size := Nat.lt_of_lt_of_le l_w hb.size
  replace l_x : w3.heap.size < w11.heap.size := Nat.lt_of_lt_of_le l_x hb.size
  replace l_g : w4.heap.size < w11.heap.size := Nat.lt_of_lt_of_le l_g hb.size
  replace LA : Live (Old W) W w11 := LA.call hb
  replace LW : Live (New w1.heap.size w2) w2 w11 := LW.call hb
  replace LM : Live (New a_x.heap.size w4) w8 w11 := LM.call hb
  replace LT : Live (New w9.heap.size w10) w10 w11 := LT.call hb
  have y_w11 : w10.heap.size ≤ w11.heap.size := hb.size
  replace zP : W.heap.size ≤ w11.heap.size := bP.size
  clear hb
  have LH : Live (New w10.heap.size w11) w11 w11 := Live.refl fun b hb => hb.2
  obtain ⟨ha, hc, ha', hc', hcs, _, _⟩ := rdArr hrh
  obtain rfl := arr_of_list hcs
  clear hcs
  go_wp2_with fail
  obtain ⟨a_h, hw_a_h⟩ : ∃ v, w11.alloc (.cells #[.slice ha D.keys.length hc, .slice ha' D.vals.length hc'] 29) = v := ⟨_, rfl⟩
  have x_a_h : Below w11.heap.size w11 a_h := by rw [← hw_a_h]; exact ext_alloc _ _
  have z_a_h : w11.heap.size < a_h.heap.size := by rw [← hw_a_h]; simp
  have c_h_0 : a_h.cell? ⟨w11.heap.size, 0, none⟩ = some (.slice ha D.keys.length hc) := by rw [← hw_a_h]; simp
  have c_h_1 : a_h.cell? ⟨w11.heap.size, 1, none⟩ = some (.slice ha' D.vals.length hc') := by rw [← hw_a_h]; simp
  replace bP : Below W.heap.size W a_h := bw_call bP zP x_a_h
  replace c_A_0 : a_h.cell? ⟨W.heap.size, 0, none⟩ = some (.slice a0 x0.keys.length c0) := (x_a_h.cell (p := ⟨W.heap.size, 0, none⟩) l_A).trans c_A_0
  replace c_A_1 : a_h.cell? ⟨W.heap.size, 1, none⟩ = some (.slice a1 x0.vals.length c1) := (x_a_h.cell (p := ⟨W.heap.size, 1, none⟩) l_A).trans c_A_1
  replace c_w_0 : a_h.cell? ⟨w2.heap.size, 0, none⟩ = some (.slice wa D.keys.length wc) := (x_a_h.cell (p := ⟨w2.heap.size, 0, none⟩) l_w).trans c_w_0
  replace c_w_1 : a_h.cell? ⟨w2.heap.size, 1, none⟩ = some (.slice wa' D.vals.length wc') := (x_a_h.cell (p := ⟨w2.heap.size, 1, none⟩) l_w).trans c_w_1
  replace c_x_0 : a_h.cell? ⟨w3.heap.size, 0, none⟩ = some (.slice xa x0.keys.length xc) := (x_a_h.cell (p := ⟨w3.heap.size, 0, none⟩) l_x).trans c_x_0
  replace c_x_1 : a_h.cell? ⟨w3.heap.size, 1, none⟩ = some (.slice xa' x0.vals.length xc') := (x_a_h.cell (p := ⟨w3.heap.size, 1, none⟩) l_x).trans c_x_1
  replace c_g_0 : a_h.cell? ⟨w4.heap.size, 0, none⟩ = some (.slice ga D.keys.length gc) := (x_a_h.cell (p := ⟨w4.heap.size, 0, none⟩) l_g).trans c_g_0
  replace c_g_1 : a_h.cell? ⟨w4.heap.size, 1, none⟩ = some (.slice ga' D.vals.length gc') := (x_a_h.cell (p := ⟨w4.heap.size, 1, none⟩) l_g).trans c_g_1
  replace l_A : W.heap.size < a_h.heap.size := Nat.lt_of_lt_of_le l_A x_a_h.size
  replace l_w : w2.heap.size < a_h.heap.size := Nat.lt_of_lt_of_le l_w x_a_h.size
  replace l_x : w3.heap.size < a_h.heap.size := Nat.lt_of_lt_of_le l_x x_a_h.size
  replace l_g : w4.heap.size < a_h.heap.size := Nat.lt_of_lt_of_le l_g x_a_h.size
  replace LA : Live (Old W) W a_h := LA.call x_a_h
  replace LW : Live (New w1.heap.size w2) w2 a_h := LW.call x_a_h
  replace LM : Live (New a_x.heap.size w4) w8 a_h := LM.call x_a_h
  replace LT : Live (New w9.heap.size w10) w10 a_h := LT.call x_a_h
  replace LH : Live (New w10.heap.size w11) w11 a_h := LH.call x_a_h
  have y_a_h : w11.heap.size ≤ a_h.heap.size := x_a_h.size
  replace zP : W.heap.size ≤ a_h.heap.size := bP.size
  have l_h : w11.heap.size < a_h.heap.size := z_a_h
  rw [hw_a_h]
  clear hw_a_h x_a_h
  refine (eqArr_same _ (by exact LH.rd hrh) (by exact LW.rd hrw)).mono ?_
  rintro e w12 ⟨rfl, hb⟩
  replace bP : Below W.heap.size W w12 := bw_call bP zP hb
  replace c_A_0 : w12.cell? ⟨W.heap.size, 0, none⟩ = some (.slice a0 x0.keys.length c0) := (hb.cell (p := ⟨W.heap.size, 0, none⟩) l_A).trans c_A_0
  replace c_A_1 : w12.cell? ⟨W.heap.size, 1, none⟩ = some (.slice a1 x0.vals.length c1) := (hb.cell (p := ⟨W.heap.size, 1, none⟩) l_A).trans c_A_1
  replace c_w_0 : w12.cell? ⟨w2.heap.size, 0, none⟩ = some (.slice wa D.keys.length wc) := (hb.cell (p := ⟨w2.heap.size, 0, none⟩) l_w).trans c_w_0
  replace c_w_1 : w12.cell? ⟨w2.heap.size, 1, none⟩ = some (.slice wa' D.vals.length wc') := (hb.cell (p := ⟨w2.heap.size, 1, none⟩) l_w).trans c_w_1
  replace c_x_0 : w12.cell? ⟨w3.heap.size, 0, none⟩ = some (.slice xa x0.keys.length xc) := (hb.cell (p := ⟨w3.heap.size, 0, none⟩) l_x).trans c_x_0
  replace c_x_1 : w12.cell? ⟨w3.heap.size, 1, none⟩ = some (.slice xa' x0.vals.length xc') := (hb.cell (p := ⟨w3.heap.size, 1, none⟩) l_x).trans c_x_1
  replace c_g_0 : w12.cell? ⟨w4.heap.size, 0, none⟩ = some (.slice ga D.keys.length gc) := (hb.cell (p := ⟨w4.heap.size, 0, none⟩) l_g).trans c_g_0
  replace c_g_1 : w12.cell? ⟨w4.heap.size, 1, none⟩ = some (.slice ga' D.vals.length gc') := (hb.cell (p := ⟨w4.heap.size, 1, none⟩) l_g).trans c_g_1
  replace c_h_0 : w12.cell? ⟨w11.heap.size, 0, none⟩ = some (.slice ha D.keys.length hc) := (hb.cell (p := ⟨w11.heap.size, 0, none⟩) l_h).trans c_h_0
  replace c_h_1 : w12.cell? ⟨w11.heap.size, 1, none⟩ = some (.slice ha' D.vals.length hc') := (hb.cell (p := ⟨w11.heap.size, 1, none⟩) l_h).trans c_h_1
  replace l_A : W.heap.size < w12.heap.size := Nat.lt_of_lt_of_le l_A hb.size
  replace l_w : w2.heap.size < w12.heap.size := Nat.lt_of_lt_of_le l_w hb.size
  replace l_x : w3.heap.size < w12.heap.size := Nat.lt_of_lt_of_le l_x hb.size
  replace l_g : w4.heap.size < w12.heap.size := Nat.lt_of_lt_of_le l_g hb.size
  replace l_h : w11.heap.size < w12.heap.size := Nat.lt_of_lt_of_le l_h hb.size
  replace LA : Live (Old W) W w12 := LA.call hb
  replace LW : Live (New w1.heap.size w2) w2 w12 := LW.call hb
  replace LM : Live (New a_x.heap.size w4) w8 w12 := LM.call hb
  replace LT : Live (New w9.heap.size w10) w10 w12 := LT.call hb
  replace LH : Live (New w10.heap.size w11) w11 w12 := LH.call hb
  have y_w12 : a_h.heap.size ≤ w12.heap.size := hb.size
  replace zP : W.heap.size ≤ w12.heap.size := bP.size
  clear hb
  go_wp2_with fail
  refine (heldArr_one _ (by exact hmg.same LM.same) (by exact LM.lt) hmkD).mono ?_
  rintro e w13 ⟨q, hq, rfl, hb⟩
  obtain rfl : m = q := by have := HM.out; omega
  clear hq
  replace bP : Below W.heap.size W w13 := bw_call bP zP hb
  replace c_A_0 : w13.cell? ⟨W.heap.size, 0, none⟩ = some (.slice a0 x0.keys.length c0) := (hb.cell (p := ⟨W.heap.size, 0, none⟩) l_A).trans c_A_0
  replace c_A_1 : w13.cell? ⟨W.heap.size, 1, none⟩ = some (.slice a1 x0.vals.length c1) := (hb.cell (p := ⟨W.heap.size, 1, none⟩) l_A).trans c_A_1
  replace c_w_0 : w13.cell? ⟨w2.heap.size, 0, none⟩ = some (.slice wa D.keys.length wc) := (hb.cell (p := ⟨w2.heap.size, 0, none⟩) l_w).trans c_w_0
  replace c_w_1 : w13.cell? ⟨w2.heap.size, 1, none⟩ = some (.slice wa' D.vals.length wc') := (hb.cell (p := ⟨w2.heap.size, 1, none⟩) l_w).trans c_w_1
  replace c_x_0 : w13.cell? ⟨w3.heap.size, 0, none⟩ = some (.slice xa x0.keys.length xc) := (hb.cell (p := ⟨w3.heap.size, 0, none⟩) l_x).trans c_x_0
  replace c_x_1 : w13.cell? ⟨w3.heap.size, 1, none⟩ = some (.slice xa' x0.vals.length xc') := (hb.cell (p := ⟨w3.heap.size, 1, none⟩) l_x).trans c_x_1
  replace c_g_0 : w13.cell? ⟨w4.heap.size, 0, none⟩ = some (.slice ga D.keys.length gc) := (hb.cell (p := ⟨w4.heap.size, 0, none⟩) l_g).trans c_g_0
  replace c_g_1 : w13.cell? ⟨w4.heap.size, 1, none⟩ = some (.slice ga' D.vals.length gc') := (hb.cell (p := ⟨w4.heap.size, 1, none⟩) l_g).trans c_g_1
  replace c_h_0 : w13.cell? ⟨w11.heap.size, 0, none⟩ = some (.slice ha D.keys.length hc) := (hb.cell (p := ⟨w11.heap.size, 0, none⟩) l_h).trans c_h_0
  replace c_h_1 : w13.cell? ⟨w11.heap.size, 1, none⟩ = some (.slice ha' D.vals.length hc') := (hb.cell (p := ⟨w11.heap.size, 1, none⟩) l_h).trans c_h_1
  replace l_A : W.heap.size < w13.heap.size := Nat.lt_of_lt_of_le l_A hb.size
  replace l_w : w2.heap.size < w13.heap.size := Nat.lt_of_lt_of_le l_w hb.size
  replace l_x : w3.heap.size < w13.heap.size := Nat.lt_of_lt_of_le l_x hb.size
  replace l_g : w4.heap.size < w13.heap.size := Nat.lt_of_lt_of_le l_g hb.size
  replace l_h : w11.heap.size < w13.heap.size := Nat.lt_of_lt_of_le l_h hb.size
  replace LA : Live (Old W) W w13 := LA.call hb
  replace LW : Live (New w1.heap.size w2) w2 w13 := LW.call hb
  replace LM : Live (New a_x.heap.size w4) w8 w13 := LM.call hb
  replace LT : Live (New w9.heap.size w10) w10 w13 := LT.call hb
  replace LH : Live (New w10.heap.size w11) w11 w13 := LH.call hb
  have y_w13 : w12.heap.size ≤ w13.heap.size := hb.size
  replace zP : W.heap.size ≤ w13.heap.size := bP.size
  clear hb
  go_wp2
  go_ret
  exact ⟨rfl, bP⟩
end Go.Proofs.Ytenfpfjpcpmhiaa
