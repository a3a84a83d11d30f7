/-
  What is proved here: the reference's ArrPut: what it returns. No condition but the size.
-/
import Derived.Test.YtenfpfjpcpmhiaaDoorPutSt
namespace Go.Proofs.YtenfpfjpcpmhiaaDoor
open Go.RowKit
set_option linter.unusedVariables false
set_option linter.unusedSimpArgs false

set_option maxHeartbeats 8000000 in
set_option maxRecDepth 100000 in
theorem specPut {cs ys : Array Value} {x : Arr} {y : Val} (s : ByteArray) (W : World) (h : Rd.rd (Old W) W cs.toList x) (hy : Rd.rd (Old W) W ys.toList y) (hn : x.keys.length ≤ 1048576) (hsz : Hid (s.size ≤ 9223372036854775807)) :
    Calls Tryd.prog 8 #[.agg cs, .string s, .agg ys] W fun e w' => ∃ cs' : Array Value, e = .returned (.tuple #[.agg cs', .bool (putOk x s y)]) ∧ Rd.rd (New W.heap.size w') w' cs'.toList (arrPut x s y) ∧ Below W.heap.size W w' := by
  have H0 := h
  obtain ⟨a0, c0, a1, c1, hcs, f0, f1⟩ := rdArr h
  obtain rfl := arr_of_list hcs
  obtain ⟨hds, k0, k1, k2, k3⟩ := rdVal hy
  obtain rfl := arr_of_list hds
  have HVK := hid (fillK_ok (vals_ok f1) x.keys.length)
  have HSK := hid (strs_ok f0)
  have HYK : Hid (vOk y) := hid ⟨k0, k1, k2, k3⟩
  have HY := hy
  have F0 := f0
  have hle := arrAt_le x s
  clear hcs hds f0 f1 h hy
  obtain ⟨ii, hi, hz0, hz1, hz2⟩ := info_parts infoS
  obtain ⟨jj, ki, kz0, kz1, kz2⟩ := info_parts infoV
  go_enter Tryd.func8, Tryd.ntmps8
  have bP : Below W.heap.size W W := Below.refl _ _
  have zP : W.heap.size ≤ W.heap.size := Nat.le_refl _
  have LA : Live (Old W) W W := Live.refl fun b hb => hb
  go_wp2_with fail
  obtain ⟨a_A, hw_a_A⟩ : ∃ v, W.alloc (.cells #[.slice a0 x.keys.length c0, .slice a1 x.vals.length c1] 34) = v := ⟨_, rfl⟩
  have x_a_A : Below W.heap.size W a_A := by rw [← hw_a_A]; exact ext_alloc _ _
  have s_a_A : a_A.heap.size = W.heap.size + 1 := by rw [← hw_a_A]; simp
  have c_A_0 : a_A.cell? ⟨W.heap.size, 0, none⟩ = some (.slice a0 x.keys.length c0) := by rw [← hw_a_A]; simp
  have c_A_1 : a_A.cell? ⟨W.heap.size, 1, none⟩ = some (.slice a1 x.vals.length c1) := by rw [← hw_a_A]; simp
  have l_A : W.heap.size < a_A.heap.size := by omega
  replace bP : Below W.heap.size W a_A := bw_call bP zP x_a_A
  replace LA : Live (Old W) W a_A := LA.call x_a_A
  have y_a_A : W.heap.size ≤ a_A.heap.size := x_a_A.size
  replace zP : W.heap.size ≤ a_A.heap.size := bP.size
  rw [hw_a_A]
  clear hw_a_A x_a_A
  obtain ⟨a_V, hw_a_V⟩ : ∃ v, a_A.alloc (.cells #[.int .i64 y.kind, .bool y.num.neg, .string y.num.dig, .int .i64 y.num.exp, .string y.text] 40) = v := ⟨_, rfl⟩
  have x_a_V : Below a_A.heap.size a_A a_V := by rw [← hw_a_V]; exact ext_alloc _ _
  have s_a_V : a_V.heap.size = a_A.heap.size + 1 := by rw [← hw_a_V]; simp
  have c_V_0 : a_V.cell? ⟨a_A.heap.size, 0, none⟩ = some (.int .i64 y.kind) := by rw [← hw_a_V]; simp
  have c_V_1 : a_V.cell? ⟨a_A.heap.size, 1, none⟩ = some (.bool y.num.neg) := by rw [← hw_a_V]; simp
  have c_V_2 : a_V.cell? ⟨a_A.heap.size, 2, none⟩ = some (.string y.num.dig) := by rw [← hw_a_V]; simp
  have c_V_3 : a_V.cell? ⟨a_A.heap.size, 3, none⟩ = some (.int .i64 y.num.exp) := by rw [← hw_a_V]; simp
  have c_V_4 : a_V.cell? ⟨a_A.heap.size, 4, none⟩ = some (.string y.text) := by rw [← hw_a_V]; simp
  have l_V : a_A.heap.size < a_V.heap.size := by omega
  replace bP : Below W.heap.size W a_V := bw_call bP zP x_a_V
  replace c_A_0 : a_V.cell? ⟨W.heap.size, 0, none⟩ = some (.slice a0 x.keys.length c0) := (x_a_V.cell (p := ⟨W.heap.size, 0, none⟩) l_A).trans c_A_0
  replace c_A_1 : a_V.cell? ⟨W.heap.size, 1, none⟩ = some (.slice a1 x.vals.length c1) := (x_a_V.cell (p := ⟨W.heap.size, 1, none⟩) l_A).trans c_A_1
  replace l_A : W.heap.size < a_V.heap.size := Nat.lt_of_lt_of_le l_A x_a_V.size
  replace LA : Live (Old W) W a_V := LA.call x_a_V
  have y_a_V : a_A.heap.size ≤ a_V.heap.size := x_a_V.size
  replace zP : W.heap.size ≤ a_V.heap.size := bP.size
  rw [s_a_A] at c_V_0 c_V_1 c_V_2 c_V_3 c_V_4 l_V
  rw [hw_a_V]
  clear hw_a_V x_a_V
  obtain ⟨a_R, hw_a_R⟩ : ∃ v, a_V.alloc (.cells #[.slice none 0 0, .slice none 0 0] 34) = v := ⟨_, rfl⟩
  have x_a_R : Below a_V.heap.size a_V a_R := by rw [← hw_a_R]; exact ext_alloc _ _
  have s_a_R : a_R.heap.size = a_V.heap.size + 1 := by rw [← hw_a_R]; simp
  have c_R_0 : a_R.cell? ⟨a_V.heap.size, 0, none⟩ = some (.slice none 0 0) := by rw [← hw_a_R]; simp
  have c_R_1 : a_R.cell? ⟨a_V.heap.size, 1, none⟩ = some (.slice none 0 0) := by rw [← hw_a_R]; simp
  have z_R_0 : a_R.frozen? ⟨a_V.heap.size, 0, none⟩ = false := by rw [← hw_a_R]; simp
  have z_R_1 : a_R.frozen? ⟨a_V.heap.size, 1, none⟩ = false := by rw [← hw_a_R]; simp
  have l_R : a_V.heap.size < a_R.heap.size := by omega
  replace bP : Below W.heap.size W a_R := bw_call bP zP x_a_R
  replace c_A_0 : a_R.cell? ⟨W.heap.size, 0, none⟩ = some (.slice a0 x.keys.length c0) := (x_a_R.cell (p := ⟨W.heap.size, 0, none⟩) l_A).trans c_A_0
  replace c_A_1 : a_R.cell? ⟨W.heap.size, 1, none⟩ = some (.slice a1 x.vals.length c1) := (x_a_R.cell (p := ⟨W.heap.size, 1, none⟩) l_A).trans c_A_1
  replace c_V_0 : a_R.cell? ⟨W.heap.size + 1, 0, none⟩ = some (.int .i64 y.kind) := (x_a_R.cell (p := ⟨W.heap.size + 1, 0, none⟩) l_V).trans c_V_0
  replace c_V_1 : a_R.cell? ⟨W.heap.size + 1, 1, none⟩ = some (.bool y.num.neg) := (x_a_R.cell (p := ⟨W.heap.size + 1, 1, none⟩) l_V).trans c_V_1
  replace c_V_2 : a_R.cell? ⟨W.heap.size + 1, 2, none⟩ = some (.string y.num.dig) := (x_a_R.cell (p := ⟨W.heap.size + 1, 2, none⟩) l_V).trans c_V_2
  replace c_V_3 : a_R.cell? ⟨W.heap.size + 1, 3, none⟩ = some (.int .i64 y.num.exp) := (x_a_R.cell (p := ⟨W.heap.size + 1, 3, none⟩) l_V).trans c_V_3
  replace c_V_4 : a_R.cell? ⟨W.heap.size + 1, 4, none⟩ = some (.string y.text) := (x_a_R.cell (p := ⟨W.heap.size + 1, 4, none⟩) l_V).trans c_V_4
  replace l_A : W.heap.size < a_R.heap.size := Nat.lt_of_lt_of_le l_A x_a_R.size
  replace l_V : W.heap.size + 1 < a_R.heap.size := Nat.lt_of_lt_of_le l_V x_a_R.size
  replace LA : Live (Old W) W a_R := LA.call x_a_R
  have y_a_R : a_V.heap.size ≤ a_R.heap.size := x_a_R.size
  replace zP : W.heap.size ≤ a_R.heap.size := bP.size
  rw [s_a_V, s_a_A] at c_R_0 c_R_1 z_R_0 z_R_1 l_R
  rw [hw_a_R]
  clear hw_a_R x_a_R
  clear s_a_A s_a_V s_a_R
  refine (specCopy_own _ (by exact LA.rd H0) hn).mono ?_
  rintro e w1 ⟨g, ck, v, rfl, hb, C, hC, hou, hgC, hov⟩
  have hR : W.heap.size + 1 + 1 < a_R.heap.size := l_R
  replace z_R_0 : w1.frozen? ⟨W.heap.size + 1 + 1, 0, none⟩ = false := (hb.frozen (p := ⟨W.heap.size + 1 + 1, 0, none⟩) l_R).trans z_R_0
  replace z_R_1 : w1.frozen? ⟨W.heap.size + 1 + 1, 1, none⟩ = false := (hb.frozen (p := ⟨W.heap.size + 1 + 1, 1, none⟩) l_R).trans z_R_1
  replace bP : Below W.heap.size W w1 := bw_call bP zP hb
  replace c_A_0 : w1.cell? ⟨W.heap.size, 0, none⟩ = some (.slice a0 x.keys.length c0) := (hb.cell (p := ⟨W.heap.size, 0, none⟩) l_A).trans c_A_0
  replace c_A_1 : w1.cell? ⟨W.heap.size, 1, none⟩ = some (.slice a1 x.vals.length c1) := (hb.cell (p := ⟨W.heap.size, 1, none⟩) l_A).trans c_A_1
  replace c_V_0 : w1.cell? ⟨W.heap.size + 1, 0, none⟩ = some (.int .i64 y.kind) := (hb.cell (p := ⟨W.heap.size + 1, 0, none⟩) l_V).trans c_V_0
  replace c_V_1 : w1.cell? ⟨W.heap.size + 1, 1, none⟩ = some (.bool y.num.neg) := (hb.cell (p := ⟨W.heap.size + 1, 1, none⟩) l_V).trans c_V_1
  replace c_V_2 : w1.cell? ⟨W.heap.size + 1, 2, none⟩ = some (.string y.num.dig) := (hb.cell (p := ⟨W.heap.size + 1, 2, none⟩) l_V).trans c_V_2
  replace c_V_3 : w1.cell? ⟨W.heap.size + 1, 3, none⟩ = some (.int .i64 y.num.exp) := (hb.cell (p := ⟨W.heap.size + 1, 3, none⟩) l_V).trans c_V_3
  replace c_V_4 : w1.cell? ⟨W.heap.size + 1, 4, none⟩ = some (.string y.text) := (hb.cell (p := ⟨W.heap.size + 1, 4, none⟩) l_V).trans c_V_4
  replace c_R_0 : w1.cell? ⟨W.heap.size + 1 + 1, 0, none⟩ = some (.slice none 0 0) := (hb.cell (p := ⟨W.heap.size + 1 + 1, 0, none⟩) l_R).trans c_R_0
  replace c_R_1 : w1.cell? ⟨W.heap.size + 1 + 1, 1, none⟩ = some (.slice none 0 0) := (hb.cell (p := ⟨W.heap.size + 1 + 1, 1, none⟩) l_R).trans c_R_1
  replace l_A : W.heap.size < w1.heap.size := Nat.lt_of_lt_of_le l_A hb.size
  replace l_V : W.heap.size + 1 < w1.heap.size := Nat.lt_of_lt_of_le l_V hb.size
  replace l_R : W.heap.size + 1 + 1 < w1.heap.size := Nat.lt_of_lt_of_le l_R hb.size
  replace LA : Live (Old W) W w1 := LA.call hb
  have y_w1 : a_R.heap.size ≤ w1.heap.size := hb.size
  replace zP : W.heap.size ≤ w1.heap.size := bP.size
  clear hb
  obtain ⟨av, cv, rfl⟩ := own_sl hov
  have hg1 := hou.lt g rfl
  have HOU := hid hou
  have HOV := hid hov
  clear hou hov
  go_wp2_with fail
  obtain ⟨a_N, hw_a_N⟩ : ∃ v, w1.alloc (.cells #[.slice (some ⟨g, 0, none⟩) x.keys.length ck, .slice av x.keys.length cv] 34) = v := ⟨_, rfl⟩
  have x_a_N : Below w1.heap.size w1 a_N := by rw [← hw_a_N]; exact ext_alloc _ _
  have z_a_N : w1.heap.size < a_N.heap.size := by rw [← hw_a_N]; simp
  have c_N_0 : a_N.cell? ⟨w1.heap.size, 0, none⟩ = some (.slice (some ⟨g, 0, none⟩) x.keys.length ck) := by rw [← hw_a_N]; simp
  have c_N_1 : a_N.cell? ⟨w1.heap.size, 1, none⟩ = some (.slice av x.keys.length cv) := by rw [← hw_a_N]; simp
  have z_N_1 : a_N.frozen? ⟨w1.heap.size, 1, none⟩ = false := by rw [← hw_a_N]; simp
  have z_N_0 : a_N.frozen? ⟨w1.heap.size, 0, none⟩ = false := by rw [← hw_a_N]; simp
  replace z_R_0 : a_N.frozen? ⟨W.heap.size + 1 + 1, 0, none⟩ = false := (x_a_N.frozen (p := ⟨W.heap.size + 1 + 1, 0, none⟩) l_R).trans z_R_0
  replace z_R_1 : a_N.frozen? ⟨W.heap.size + 1 + 1, 1, none⟩ = false := (x_a_N.frozen (p := ⟨W.heap.size + 1 + 1, 1, none⟩) l_R).trans z_R_1
  replace bP : Below W.heap.size W a_N := bw_call bP zP x_a_N
  replace c_A_0 : a_N.cell? ⟨W.heap.size, 0, none⟩ = some (.slice a0 x.keys.length c0) := (x_a_N.cell (p := ⟨W.heap.size, 0, none⟩) l_A).trans c_A_0
  replace c_A_1 : a_N.cell? ⟨W.heap.size, 1, none⟩ = some (.slice a1 x.vals.length c1) := (x_a_N.cell (p := ⟨W.heap.size, 1, none⟩) l_A).trans c_A_1
  replace c_V_0 : a_N.cell? ⟨W.heap.size + 1, 0, none⟩ = some (.int .i64 y.kind) := (x_a_N.cell (p := ⟨W.heap.size + 1, 0, none⟩) l_V).trans c_V_0
  replace c_V_1 : a_N.cell? ⟨W.heap.size + 1, 1, none⟩ = some (.bool y.num.neg) := (x_a_N.cell (p := ⟨W.heap.size + 1, 1, none⟩) l_V).trans c_V_1
  replace c_V_2 : a_N.cell? ⟨W.heap.size + 1, 2, none⟩ = some (.string y.num.dig) := (x_a_N.cell (p := ⟨W.heap.size + 1, 2, none⟩) l_V).trans c_V_2
  replace c_V_3 : a_N.cell? ⟨W.heap.size + 1, 3, none⟩ = some (.int .i64 y.num.exp) := (x_a_N.cell (p := ⟨W.heap.size + 1, 3, none⟩) l_V).trans c_V_3
  replace c_V_4 : a_N.cell? ⟨W.heap.size + 1, 4, none⟩ = some (.string y.text) := (x_a_N.cell (p := ⟨W.heap.size + 1, 4, none⟩) l_V).trans c_V_4
  replace c_R_0 : a_N.cell? ⟨W.heap.size + 1 + 1, 0, none⟩ = some (.slice none 0 0) := (x_a_N.cell (p := ⟨W.heap.size + 1 + 1, 0, none⟩) l_R).trans c_R_0
  replace c_R_1 : a_N.cell? ⟨W.heap.size + 1 + 1, 1, none⟩ = some (.slice none 0 0) := (x_a_N.cell (p := ⟨W.heap.size + 1 + 1, 1, none⟩) l_R).trans c_R_1
  replace l_A : W.heap.size < a_N.heap.size := Nat.lt_of_lt_of_le l_A x_a_N.size
  replace l_V : W.heap.size + 1 < a_N.heap.size := Nat.lt_of_lt_of_le l_V x_a_N.size
  replace l_R : W.heap.size + 1 + 1 < a_N.heap.size := Nat.lt_of_lt_of_le l_R x_a_N.size
  replace LA : Live (Old W) W a_N := LA.call x_a_N
  have y_a_N : w1.heap.size ≤ a_N.heap.size := x_a_N.size
  replace zP : W.heap.size ≤ a_N.heap.size := bP.size
  have l_N : w1.heap.size < a_N.heap.size := z_a_N
  rw [hw_a_N]
  have y_N := x_a_N; clear hw_a_N x_a_N
  have HOU9 := hid (own_later HOU.out y_N)
  have HOV9 := hid (own_later HOV.out y_N)
  refine (specArrAt s _ (by exact LA.rd H0)).mono ?_
  rintro e w2 ⟨rfl, hb⟩
  replace HOU9 := hid (own_later HOU9.out hb)
  replace HOV9 := hid (own_later HOV9.out hb)
  replace z_R_0 : w2.frozen? ⟨W.heap.size + 1 + 1, 0, none⟩ = false := (hb.frozen (p := ⟨W.heap.size + 1 + 1, 0, none⟩) l_R).trans z_R_0
  replace z_R_1 : w2.frozen? ⟨W.heap.size + 1 + 1, 1, none⟩ = false := (hb.frozen (p := ⟨W.heap.size + 1 + 1, 1, none⟩) l_R).trans z_R_1
  replace z_N_0 : w2.frozen? ⟨w1.heap.size, 0, none⟩ = false := (hb.frozen (p := ⟨w1.heap.size, 0, none⟩) l_N).trans z_N_0
  replace z_N_1 : w2.frozen? ⟨w1.heap.size, 1, none⟩ = false := (hb.frozen (p := ⟨w1.heap.size, 1, none⟩) l_N).trans z_N_1
  replace bP : Below W.heap.size W w2 := bw_call bP zP hb
  replace c_A_0 : w2.cell? ⟨W.heap.size, 0, none⟩ = some (.slice a0 x.keys.length c0) := (hb.cell (p := ⟨W.heap.size, 0, none⟩) l_A).trans c_A_0
  replace c_A_1 : w2.cell? ⟨W.heap.size, 1, none⟩ = some (.slice a1 x.vals.length c1) := (hb.cell (p := ⟨W.heap.size, 1, none⟩) l_A).trans c_A_1
  replace c_V_0 : w2.cell? ⟨W.heap.size + 1, 0, none⟩ = some (.int .i64 y.kind) := (hb.cell (p := ⟨W.heap.size + 1, 0, none⟩) l_V).trans c_V_0
  replace c_V_1 : w2.cell? ⟨W.heap.size + 1, 1, none⟩ = some (.bool y.num.neg) := (hb.cell (p := ⟨W.heap.size + 1, 1, none⟩) l_V).trans c_V_1
  replace c_V_2 : w2.cell? ⟨W.heap.size + 1, 2, none⟩ = some (.string y.num.dig) := (hb.cell (p := ⟨W.heap.size + 1, 2, none⟩) l_V).trans c_V_2
  replace c_V_3 : w2.cell? ⟨W.heap.size + 1, 3, none⟩ = some (.int .i64 y.num.exp) := (hb.cell (p := ⟨W.heap.size + 1, 3, none⟩) l_V).trans c_V_3
  replace c_V_4 : w2.cell? ⟨W.heap.size + 1, 4, none⟩ = some (.string y.text) := (hb.cell (p := ⟨W.heap.size + 1, 4, none⟩) l_V).trans c_V_4
  replace c_R_0 : w2.cell? ⟨W.heap.size + 1 + 1, 0, none⟩ = some (.slice none 0 0) := (hb.cell (p := ⟨W.heap.size + 1 + 1, 0, none⟩) l_R).trans c_R_0
  replace c_R_1 : w2.cell? ⟨W.heap.size + 1 + 1, 1, none⟩ = some (.slice none 0 0) := (hb.cell (p := ⟨W.heap.size + 1 + 1, 1, none⟩) l_R).trans c_R_1
  replace c_N_0 : w2.cell? ⟨w1.heap.size, 0, none⟩ = some (.slice (some ⟨g, 0, none⟩) x.keys.length ck) := (hb.cell (p := ⟨w1.heap.size, 0, none⟩) l_N).trans c_N_0
  replace c_N_1 : w2.cell? ⟨w1.heap.size, 1, none⟩ = some (.slice av x.keys.length cv) := (hb.cell (p := ⟨w1.heap.size, 1, none⟩) l_N).trans c_N_1
  replace l_A : W.heap.size < w2.heap.size := Nat.lt_of_lt_of_le l_A hb.size
  replace l_V : W.heap.size + 1 < w2.heap.size := Nat.lt_of_lt_of_le l_V hb.size
  replace l_R : W.heap.size + 1 + 1 < w2.heap.size := Nat.lt_of_lt_of_le l_R hb.size
  replace l_N : w1.heap.size < w2.heap.size := Nat.lt_of_lt_of_le l_N hb.size
  replace LA : Live (Old W) W w2 := LA.call hb
  have y_w2 : a_N.heap.size ≤ w2.heap.size := hb.size
  replace zP : W.heap.size ≤ w2.heap.size := bP.size
  clear hb
  obtain ⟨k, hk⟩ : ∃ k, arrAt x s = k := ⟨_, rfl⟩
  have HK := hid hk
  rw [hk] at hle ⊢
  clear hk
  go_wp2_with fail
  refine (specTextOk s _).mono ?_
  rintro e w3 ⟨rfl, hb⟩
  replace HOU9 := hid (own_later HOU9.out hb)
  replace HOV9 := hid (own_later HOV9.out hb)
  replace z_R_0 : w3.frozen? ⟨W.heap.size + 1 + 1, 0, none⟩ = false := (hb.frozen (p := ⟨W.heap.size + 1 + 1, 0, none⟩) l_R).trans z_R_0
  replace z_R_1 : w3.frozen? ⟨W.heap.size + 1 + 1, 1, none⟩ = false := (hb.frozen (p := ⟨W.heap.size + 1 + 1, 1, none⟩) l_R).trans z_R_1
  replace z_N_0 : w3.frozen? ⟨w1.heap.size, 0, none⟩ = false := (hb.frozen (p := ⟨w1.heap.size, 0, none⟩) l_N).trans z_N_0
  replace z_N_1 : w3.frozen? ⟨w1.heap.size, 1, none⟩ = false := (hb.frozen (p := ⟨w1.heap.size, 1, none⟩) l_N).trans z_N_1
  replace bP : Below W.heap.size W w3 := bw_call bP zP hb
  replace c_A_0 : w3.cell? ⟨W.heap.size, 0, none⟩ = some (.slice a0 x.keys.length c0) := (hb.cell (p := ⟨W.heap.size, 0, none⟩) l_A).trans c_A_0
  replace c_A_1 : w3.cell? ⟨W.heap.size, 1, none⟩ = some (.slice a1 x.vals.length c1) := (hb.cell (p := ⟨W.heap.size, 1, none⟩) l_A).trans c_A_1
  replace c_V_0 : w3.cell? ⟨W.heap.size + 1, 0, none⟩ = some (.int .i64 y.kind) := (hb.cell (p := ⟨W.heap.size + 1, 0, none⟩) l_V).trans c_V_0
  replace c_V_1 : w3.cell? ⟨W.heap.size + 1, 1, none⟩ = some (.bool y.num.neg) := (hb.cell (p := ⟨W.heap.size + 1, 1, none⟩) l_V).trans c_V_1
  replace c_V_2 : w3.cell? ⟨W.heap.size + 1, 2, none⟩ = some (.string y.num.dig) := (hb.cell (p := ⟨W.heap.size + 1, 2, none⟩) l_V).trans c_V_2
  replace c_V_3 : w3.cell? ⟨W.heap.size + 1, 3, none⟩ = some (.int .i64 y.num.exp) := (hb.cell (p := ⟨W.heap.size + 1, 3, none⟩) l_V).trans c_V_3
  replace c_V_4 : w3.cell? ⟨W.heap.size + 1, 4, none⟩ = some (.string y.text) := (hb.cell (p := ⟨W.heap.size + 1, 4, none⟩) l_V).trans c_V_4
  replace c_R_0 : w3.cell? ⟨W.heap.size + 1 + 1, 0, none⟩ = some (.slice none 0 0) := (hb.cell (p := ⟨W.heap.size + 1 + 1, 0, none⟩) l_R).trans c_R_0
  replace c_R_1 : w3.cell? ⟨W.heap.size + 1 + 1, 1, none⟩ = some (.slice none 0 0) := (hb.cell (p := ⟨W.heap.size + 1 + 1, 1, none⟩) l_R).trans c_R_1
  replace c_N_0 : w3.cell? ⟨w1.heap.size, 0, none⟩ = some (.slice (some ⟨g, 0, none⟩) x.keys.length ck) := (hb.cell (p := ⟨w1.heap.size, 0, none⟩) l_N).trans c_N_0
  replace c_N_1 : w3.cell? ⟨w1.heap.size, 1, none⟩ = some (.slice av x.keys.length cv) := (hb.cell (p := ⟨w1.heap.size, 1, none⟩) l_N).trans c_N_1
  replace l_A : W.heap.size < w3.heap.size := Nat.lt_of_lt_of_le l_A hb.size
  replace l_V : W.heap.size + 1 < w3.heap.size := Nat.lt_of_lt_of_le l_V hb.size
  replace l_R : W.heap.size + 1 + 1 < w3.heap.size := Nat.lt_of_lt_of_le l_R hb.size
  replace l_N : w1.heap.size < w3.heap.size := Nat.lt_of_lt_of_le l_N hb.size
  replace LA : Live (Old W) W w3 := LA.call hb
  have y_w3 : w2.heap.size ≤ w3.heap.size := hb.size
  replace zP : W.heap.size ≤ w3.heap.size := bP.size
  clear hb
  rcases hts : okText s with _ | _
  · have HP : Hid (putOk x s y = false) := hid (by unfold putOk; rw [hts]; rfl)
    clear hts
    have HR := hid (show arrPut x s y = arrFill x by unfold arrPut; rw [HP.out]; rfl)
    have HV6 : Hid (World.ownsRow _ _ _ _ _ (fillK x.vals x.keys.length).length _) := hid (by rw [fillK_len]; exact HOV9.out)
    go_wp2
    refine bodyPost_ret (v := .tuple #[.agg #[.slice (some ⟨g, 0, none⟩) x.keys.length ck, .slice av x.keys.length cv], .bool false]) (by simp [results, Tryd.results8, go_sem, c_R_0, c_R_1, z_R_0, z_R_1, l_R]) rfl ⟨_, by rw [HP.out], ?_, ?_⟩
    · rw [HR.out]
      exact rdArr_own (B := a_R.heap.size) (C := C) (e1 := 9) (e2 := 40) (by exact ownsRow_setCell_below (ownsRow_setCell_below HOU9.out (show W.heap.size + 1 + 1 < _ by omega) _) (show W.heap.size + 1 + 1 < _ by omega) _) (by exact ownsRow_setCell_below (ownsRow_setCell_below HV6.out (show W.heap.size + 1 + 1 < _ by omega) _) (show W.heap.size + 1 + 1 < _ by omega) _) (by omega) (by omega) (HSK.out) (HVK.out)
    · repeat' (first | (with_reducible exact bP) | (with_reducible refine Below.setCell ?_ ?_ _) | (with_reducible refine Below.alloc ?_ ?_ _) | (simp; done) | (simp; omega) | omega)
  go_wp2_with fail
  refine (specValOk _ (by exact LA.rd HY)).mono ?_
  rintro e w4 ⟨rfl, hb⟩
  replace HOU9 := hid (own_later HOU9.out hb)
  replace HOV9 := hid (own_later HOV9.out hb)
  replace z_R_0 : w4.frozen? ⟨W.heap.size + 1 + 1, 0, none⟩ = false := (hb.frozen (p := ⟨W.heap.size + 1 + 1, 0, none⟩) l_R).trans z_R_0
  replace z_R_1 : w4.frozen? ⟨W.heap.size + 1 + 1, 1, none⟩ = false := (hb.frozen (p := ⟨W.heap.size + 1 + 1, 1, none⟩) l_R).trans z_R_1
  replace z_N_0 : w4.frozen? ⟨w1.heap.size, 0, none⟩ = false := (hb.frozen (p := ⟨w1.heap.size, 0, none⟩) l_N).trans z_N_0
  replace z_N_1 : w4.frozen? ⟨w1.heap.size, 1, none⟩ = false := (hb.frozen (p := ⟨w1.heap.size, 1, none⟩) l_N).trans z_N_1
  replace bP : Below W.heap.size W w4 := bw_call bP zP hb
  replace c_A_0 : w4.cell? ⟨W.heap.size, 0, none⟩ = some (.slice a0 x.keys.length c0) := (hb.cell (p := ⟨W.heap.size, 0, none⟩) l_A).trans c_A_0
  replace c_A_1 : w4.cell? ⟨W.heap.size, 1, none⟩ = some (.slice a1 x.vals.length c1) := (hb.cell (p := ⟨W.heap.size, 1, none⟩) l_A).trans c_A_1
  replace c_V_0 : w4.cell? ⟨W.heap.size + 1, 0, none⟩ = some (.int .i64 y.kind) := (hb.cell (p := ⟨W.heap.size + 1, 0, none⟩) l_V).trans c_V_0
  replace c_V_1 : w4.cell? ⟨W.heap.size + 1, 1, none⟩ = some (.bool y.num.neg) := (hb.cell (p := ⟨W.heap.size + 1, 1, none⟩) l_V).trans c_V_1
  replace c_V_2 : w4.cell? ⟨W.heap.size + 1, 2, none⟩ = some (.string y.num.dig) := (hb.cell (p := ⟨W.heap.size + 1, 2, none⟩) l_V).trans c_V_2
  replace c_V_3 : w4.cell? ⟨W.heap.size + 1, 3, none⟩ = some (.int .i64 y.num.exp) := (hb.cell (p := ⟨W.heap.size + 1, 3, none⟩) l_V).trans c_V_3
  replace c_V_4 : w4.cell? ⟨W.heap.size + 1, 4, none⟩ = some (.string y.text) := (hb.cell (p := ⟨W.heap.size + 1, 4, none⟩) l_V).trans c_V_4
  replace c_R_0 : w4.cell? ⟨W.heap.size + 1 + 1, 0, none⟩ = some (.slice none 0 0) := (hb.cell (p := ⟨W.heap.size + 1 + 1, 0, none⟩) l_R).trans c_R_0
  replace c_R_1 : w4.cell? ⟨W.heap.size + 1 + 1, 1, none⟩ = some (.slice none 0 0) := (hb.cell (p := ⟨W.heap.size + 1 + 1, 1, none⟩) l_R).trans c_R_1
  replace c_N_0 : w4.cell? ⟨w1.heap.size, 0, none⟩ = some (.slice (some ⟨g, 0, none⟩) x.keys.length ck) := (hb.cell (p := ⟨w1.heap.size, 0, none⟩) l_N).trans c_N_0
  replace c_N_1 : w4.cell? ⟨w1.heap.size, 1, none⟩ = some (.slice av x.keys.length cv) := (hb.cell (p := ⟨w1.heap.size, 1, none⟩) l_N).trans c_N_1
  replace l_A : W.heap.size < w4.heap.size := Nat.lt_of_lt_of_le l_A hb.size
  replace l_V : W.heap.size + 1 < w4.heap.size := Nat.lt_of_lt_of_le l_V hb.size
  replace l_R : W.heap.size + 1 + 1 < w4.heap.size := Nat.lt_of_lt_of_le l_R hb.size
  replace l_N : w1.heap.size < w4.heap.size := Nat.lt_of_lt_of_le l_N hb.size
  replace LA : Live (Old W) W w4 := LA.call hb
  have y_w4 : w3.heap.size ≤ w4.heap.size := hb.size
  replace zP : W.heap.size ≤ w4.heap.size := bP.size
  clear hb
  rcases hvs : valOk y with _ | _
  · have HP : Hid (putOk x s y = false) := hid (by unfold putOk; rw [hvs, Bool.and_false]; rfl)
    clear hts hvs
    have HR := hid (show arrPut x s y = arrFill x by unfold arrPut; rw [HP.out]; rfl)
    have HV6 : Hid (World.ownsRow _ _ _ _ _ (fillK x.vals x.keys.length).length _) := hid (by rw [fillK_len]; exact HOV9.out)
    go_wp2
    refine bodyPost_ret (v := .tuple #[.agg #[.slice (some ⟨g, 0, none⟩) x.keys.length ck, .slice av x.keys.length cv], .bool false]) (by simp [results, Tryd.results8, go_sem, c_R_0, c_R_1, z_R_0, z_R_1, l_R]) rfl ⟨_, by rw [HP.out], ?_, ?_⟩
    · rw [HR.out]
      exact rdArr_own (B := a_R.heap.size) (C := C) (e1 := 9) (e2 := 40) (by exact ownsRow_setCell_below (ownsRow_setCell_below HOU9.out (show W.heap.size + 1 + 1 < _ by omega) _) (show W.heap.size + 1 + 1 < _ by omega) _) (by exact ownsRow_setCell_below (ownsRow_setCell_below HV6.out (show W.heap.size + 1 + 1 < _ by omega) _) (show W.heap.size + 1 + 1 < _ by omega) _) (by omega) (by omega) (HSK.out) (HVK.out)
    · repeat' (first | (with_reducible exact bP) | (with_reducible refine Below.setCell ?_ ?_ _) | (with_reducible refine Below.alloc ?_ ?_ _) | (simp; done) | (simp; omega) | omega)
  by_cases hat : k < 0
  · by_cases hlen : 200 ≤ x.keys.length
    · have hlen' : (200 : Int) ≤ (x.keys.length : Int) := by omega
      have HP : Hid (putOk x s y = false) := hid (by unfold putOk; rw [hts, hvs, HK.out, decide_eq_true hat, decide_eq_true hlen]; rfl)
      clear hts hvs
      have HR := hid (show arrPut x s y = arrFill x by unfold arrPut; rw [HP.out]; rfl)
      have HV6 : Hid (World.ownsRow _ _ _ _ _ (fillK x.vals x.keys.length).length _) := hid (by rw [fillK_len]; exact HOV9.out)
      go_wp2
      refine bodyPost_ret (v := .tuple #[.agg #[.slice (some ⟨g, 0, none⟩) x.keys.length ck, .slice av x.keys.length cv], .bool false]) (by simp [results, Tryd.results8, go_sem, c_R_0, c_R_1, z_R_0, z_R_1, l_R]) rfl ⟨_, by rw [HP.out], ?_, ?_⟩
      · rw [HR.out]
        exact rdArr_own (B := a_R.heap.size) (C := C) (e1 := 9) (e2 := 40) (by exact ownsRow_setCell_below (ownsRow_setCell_below HOU9.out (show W.heap.size + 1 + 1 < _ by omega) _) (show W.heap.size + 1 + 1 < _ by omega) _) (by exact ownsRow_setCell_below (ownsRow_setCell_below HV6.out (show W.heap.size + 1 + 1 < _ by omega) _) (show W.heap.size + 1 + 1 < _ by omega) _) (by omega) (by omega) (HSK.out) (HVK.out)
      · repeat' (first | (with_reducible exact bP) | (with_reducible refine Below.setCell ?_ ?_ _) | (with_reducible refine Below.alloc ?_ ?_ _) | (simp; done) | (simp; omega) | omega)
    · have hlen' : ¬ (200 : Int) ≤ (x.keys.length : Int) := by omega
      have HP : Hid (putOk x s y = true) := hid (by unfold putOk; rw [hts, hvs, HK.out, decide_eq_true hat, decide_eq_false hlen]; rfl)
      have HR := hid (show arrPut x s y = ⟨x.keys ++ [s], fillK x.vals x.keys.length ++ [y]⟩ by unfold arrPut arrSet; rw [HP.out, HK.out, if_pos rfl, if_pos hat])
      clear hts hvs
      have hss : s.size ≤ 9223372036854775807 := hsz.out
      have ST0 : PutSt w4 a_R.heap.size w1.heap.size w4 x.keys.length x.keys.length (.slice (some ⟨g, 0, none⟩) x.keys.length ck) (.slice av x.keys.length cv) (strCellsL x.keys) (valsCells (fillK x.vals x.keys.length)) := ⟨Below.refl _ _, HOU9.out, ownsRow_mono HOV9.out hC, fun q h1 h2 => by have := (HOV9.out.lt q h2).1; simp [Value.ownBlock] at h1; omega, fun e => by simp [Value.ownBlock] at e; omega, fun e => by have := (HOV.out.lt _ e).2; omega, by omega, by omega, by omega⟩
      have ST1 := ST0.alloc (.cells #[.string s] 9)
      have BA := ST0.blk #[.string s] 9
      go_wp2_with ((at_builtin; refine wpList_append_lies _ rfl (.tmp 37) (.tmp 39) 22 rfl a_R.heap.size 9 ii (.string ⟨#[]⟩) 1 16 Tryd.underlying22 hi hz0 hz1 hz2 rfl (by decide) (.slice (some ⟨g, 0, none⟩) x.keys.length ck) x.keys.length (strCellsL x.keys) rfl ST1.hu ⟨w4.heap.size, 0, none⟩ 1 1 [.string s] rfl rfl (World.news_of_block (cs := #[.string s]) (t := 9) (fr := (0, 0)) BA.hp) (by intro u hu; simp at hu; subst hu; rfl) (by decide) (by unfold maxLen; omega) (by omega) ST1.hB _ rfl ?_))
      intro g2 p2 q2 how hgw haw hlw
      have ST2 := ST1.apU (by simp) how hgw haw
      have hbx := (ST1.box_u hgw).trans (heap_alloc_old w4 (.cells #[.string s] 9) ST0.h9)
      have d_N_0 := (World.cell?_of_block (a := ⟨w1.heap.size, 0, none⟩) hbx).trans c_N_0
      have d_N_1 := (World.cell?_of_block (a := ⟨w1.heap.size, 1, none⟩) hbx).trans c_N_1
      have e_N_0 := (World.frozen?_of_block (a := ⟨w1.heap.size, 0, none⟩) hbx).trans z_N_0
      have e_N_1 := (World.frozen?_of_block (a := ⟨w1.heap.size, 1, none⟩) hbx).trans z_N_1
      have m_N : w1.heap.size < q2.heap.size := ST2.h9
      have d_V_0 := (ST2.bel.cell (p := ⟨W.heap.size + 1, 0, none⟩) (show W.heap.size + 1 < _ by omega)).trans c_V_0
      have d_V_1 := (ST2.bel.cell (p := ⟨W.heap.size + 1, 1, none⟩) (show W.heap.size + 1 < _ by omega)).trans c_V_1
      have d_V_2 := (ST2.bel.cell (p := ⟨W.heap.size + 1, 2, none⟩) (show W.heap.size + 1 < _ by omega)).trans c_V_2
      have d_V_3 := (ST2.bel.cell (p := ⟨W.heap.size + 1, 3, none⟩) (show W.heap.size + 1 < _ by omega)).trans c_V_3
      have d_V_4 := (ST2.bel.cell (p := ⟨W.heap.size + 1, 4, none⟩) (show W.heap.size + 1 < _ by omega)).trans c_V_4
      have m_V : W.heap.size + 1 < q2.heap.size := Nat.lt_of_lt_of_le l_V ST2.bel.size
      have d_R_0 := (ST2.bel.cell (p := ⟨W.heap.size + 1 + 1, 0, none⟩) hR).trans c_R_0
      have d_R_1 := (ST2.bel.cell (p := ⟨W.heap.size + 1 + 1, 1, none⟩) hR).trans c_R_1
      have e_R_0 := (ST2.bel.frozen (p := ⟨W.heap.size + 1 + 1, 0, none⟩) hR).trans z_R_0
      have e_R_1 := (ST2.bel.frozen (p := ⟨W.heap.size + 1 + 1, 1, none⟩) hR).trans z_R_1
      have m_R : W.heap.size + 1 + 1 < q2.heap.size := Nat.lt_of_lt_of_le l_R ST2.bel.size
      have ST3 := (ST2.set9 (o := 0) (.slice (some ⟨g2, 0, none⟩) (x.keys.length + 1) p2)).alloc (.cells #[.int .i64 y.kind, .bool y.num.neg, .string y.num.dig, .int .i64 y.num.exp, .string y.text] 40)
      have BB := (ST2.set9 (o := 0) (.slice (some ⟨g2, 0, none⟩) (x.keys.length + 1) p2)).blk #[.int .i64 y.kind, .bool y.num.neg, .string y.num.dig, .int .i64 y.num.exp, .string y.text] 40
      rw [show (q2.setCell ⟨w1.heap.size, 0, none⟩ (.slice (some ⟨g2, 0, none⟩) (x.keys.length + 1) p2)).heap.size = q2.heap.size by simp [World.setCell]] at BB
      clear how hgw haw hlw hbx ST0 ST1 BA
      clear c_V_0 c_V_1 c_V_2 c_V_3 c_V_4 c_R_0 c_R_1 z_R_0 z_R_1 c_N_0 c_N_1 z_N_0 z_N_1
      go_wp2_with ((at_builtin; refine wpList_append_lies _ rfl (.tmp 43) (.tmp 45) 32 rfl a_R.heap.size 40 jj (.agg #[.int .i64 0, .bool false, .string ⟨#[]⟩, .int .i64 0, .string ⟨#[]⟩]) 5 56 Tryd.underlying32 ki kz0 kz1 kz2 rfl (by decide) (.slice av x.keys.length cv) x.keys.length (valsCells (fillK x.vals x.keys.length)) rfl ST3.hv ⟨q2.heap.size, 0, none⟩ 1 1 [.int .i64 y.kind, .bool y.num.neg, .string y.num.dig, .int .i64 y.num.exp, .string y.text] rfl rfl (World.news_of_block (cs := #[.int .i64 y.kind, .bool y.num.neg, .string y.num.dig, .int .i64 y.num.exp, .string y.text]) (t := 40) (fr := (0, 0)) BB.hp) (one_valCells y) (by decide) (by unfold maxLen; omega) (by omega) ST3.hB _ rfl ?_))
      intro g4 p4 q4 how hgw haw hlw
      have ST4 := ST3.apV (by simp [World.setCell]) how hgw haw
      have hbx := (ST3.box_v hgw).trans (heap_alloc_old _ (.cells #[.int .i64 y.kind, .bool y.num.neg, .string y.num.dig, .int .i64 y.num.exp, .string y.text] 40) (ST2.set9 (o := 0) (.slice (some ⟨g2, 0, none⟩) (x.keys.length + 1) p2)).h9)
      have f_N_0 := (World.cell?_of_block (a := ⟨w1.heap.size, 0, none⟩) hbx).trans (World.cell?_setCell_same _ _ _ d_N_0)
      have f_N_1 := (World.cell?_of_block (a := ⟨w1.heap.size, 1, none⟩) hbx).trans ((World.cell?_setCell_other _ _ _ _ (by simp)).trans d_N_1)
      have h_N_0 := (World.frozen?_of_block (a := ⟨w1.heap.size, 0, none⟩) hbx).trans ((World.frozen?_setCell _ _ _ _).trans e_N_0)
      have h_N_1 := (World.frozen?_of_block (a := ⟨w1.heap.size, 1, none⟩) hbx).trans ((World.frozen?_setCell _ _ _ _).trans e_N_1)
      have i_N : w1.heap.size < q4.heap.size := ST4.h9
      have f_R_0 := (ST4.bel.cell (p := ⟨W.heap.size + 1 + 1, 0, none⟩) hR).trans ((ST2.bel.cell (p := ⟨W.heap.size + 1 + 1, 0, none⟩) hR).symm.trans d_R_0)
      have f_R_1 := (ST4.bel.cell (p := ⟨W.heap.size + 1 + 1, 1, none⟩) hR).trans ((ST2.bel.cell (p := ⟨W.heap.size + 1 + 1, 1, none⟩) hR).symm.trans d_R_1)
      have h_R_0 := (ST4.bel.frozen (p := ⟨W.heap.size + 1 + 1, 0, none⟩) hR).trans ((ST2.bel.frozen (p := ⟨W.heap.size + 1 + 1, 0, none⟩) hR).symm.trans e_R_0)
      have h_R_1 := (ST4.bel.frozen (p := ⟨W.heap.size + 1 + 1, 1, none⟩) hR).trans ((ST2.bel.frozen (p := ⟨W.heap.size + 1 + 1, 1, none⟩) hR).symm.trans e_R_1)
      have i_R : W.heap.size + 1 + 1 < q4.heap.size := Nat.lt_of_lt_of_le l_R ST4.bel.size
      have ST5 := ST4.set9 (o := 1) (.slice (some ⟨g4, 0, none⟩) (x.keys.length + 1) p4)
      have HU6 : Hid (World.ownsRow _ _ _ _ _ (x.keys ++ [s]).length (strCellsL (x.keys ++ [s]))) := hid (by rw [List.length_append, strCells_append]; exact ST5.hu)
      have HV6 : Hid (World.ownsRow _ _ _ _ _ (fillK x.vals x.keys.length ++ [y]).length (valsCells (fillK x.vals x.keys.length ++ [y]))) := hid (by rw [List.length_append, fillK_len, valsCells_append, (show valsCells [y] = valCells y by simp [valsCells])]; exact ST5.hv)
      have bF : Below W.heap.size W (q4.setCell ⟨w1.heap.size, 1, none⟩ (.slice (some ⟨g4, 0, none⟩) (x.keys.length + 1) p4)) := ⟨ST5.bel.os.trans bP.os, ST5.bel.tape.trans bP.tape, ST5.bel.output.trans bP.output, Nat.le_trans bP.size ST5.bel.size, fun c hc => (ST5.bel.block c (by omega)).trans (bP.block c hc)⟩
      clear how hgw haw hlw hbx ST2 ST3 ST4 ST5 BB
      clear d_V_0 d_V_1 d_V_2 d_V_3 d_V_4 d_R_0 d_R_1 e_R_0 e_R_1 d_N_0 d_N_1 e_N_0 e_N_1
      go_wp2
      refine bodyPost_ret (v := .tuple #[.agg #[.slice (some ⟨g2, 0, none⟩) (x.keys.length + 1) p2, .slice (some ⟨g4, 0, none⟩) (x.keys.length + 1) p4], .bool true]) (by simp [results, Tryd.results8, go_sem, f_R_0, f_R_1, h_R_0, h_R_1, i_R]) rfl ⟨_, by rw [HP.out], ?_, ?_⟩
      · rw [HR.out]
        exact rdArr_own (B := a_R.heap.size) (C := a_R.heap.size) (e1 := 9) (e2 := 40) (by exact ownsRow_setCell_below (ownsRow_setCell_below HU6.out (show W.heap.size + 1 + 1 < _ by omega) _) (show W.heap.size + 1 + 1 < _ by omega) _) (by exact ownsRow_setCell_below (ownsRow_setCell_below HV6.out (show W.heap.size + 1 + 1 < _ by omega) _) (show W.heap.size + 1 + 1 < _ by omega) _) (by omega) (by omega) (by intro t ht; rcases List.mem_append.1 ht with h | h; exact HSK.out t h; (simp only [List.mem_singleton] at h; subst h; exact hss)) (by intro t ht; rcases List.mem_append.1 ht with h | h; exact HVK.out t h; (simp only [List.mem_singleton] at h; subst h; exact HYK.out))
      · repeat' (first | (with_reducible exact bF) | (with_reducible refine Below.setCell ?_ ?_ _) | (with_reducible refine Below.alloc ?_ ?_ _) | (simp; done) | (simp; omega) | omega)
  · have HP : Hid (putOk x s y = true) := hid (by unfold putOk; rw [hts, hvs, HK.out, decide_eq_false hat]; rfl)
    obtain ⟨j, rfl⟩ := Int.eq_ofNat_of_zero_le (show 0 ≤ k by omega)
    have hjn : j < x.keys.length := by omega
    have HR := hid (show arrPut x s y = ⟨x.keys, (fillK x.vals x.keys.length).set j y⟩ by unfold arrPut arrSet; rw [HP.out, HK.out, if_pos rfl, if_neg hat]; rfl)
    clear hts hvs
    have hov := HOV9.out
    obtain ⟨gv, cv', hv, hgv1, hgv2⟩ := hov.form (by omega)
    simp only [Value.slice.injEq, true_and] at hv
    obtain ⟨rfl, rfl⟩ := hv
    have hjz : (j : Int) < (x.keys.length : Int) := by omega
    obtain ⟨e0, m0⟩ : ∃ v, w4.cell? ⟨gv, j * 5, none⟩ = some v := by rw [hov.cellAt _ (by omega)]; exact ⟨_, List.getElem?_eq_getElem (by rw [valsCells_len, fillK_len]; omega)⟩
    have n0 := hov.frozenAt (j * 5)
    obtain ⟨e1, m1⟩ : ∃ v, w4.cell? ⟨gv, j * 5 + 1, none⟩ = some v := by rw [hov.cellAt _ (by omega)]; exact ⟨_, List.getElem?_eq_getElem (by rw [valsCells_len, fillK_len]; omega)⟩
    have n1 := hov.frozenAt (j * 5 + 1)
    obtain ⟨e2, m2⟩ : ∃ v, w4.cell? ⟨gv, j * 5 + 2, none⟩ = some v := by rw [hov.cellAt _ (by omega)]; exact ⟨_, List.getElem?_eq_getElem (by rw [valsCells_len, fillK_len]; omega)⟩
    have n2 := hov.frozenAt (j * 5 + 2)
    obtain ⟨e3, m3⟩ : ∃ v, w4.cell? ⟨gv, j * 5 + 3, none⟩ = some v := by rw [hov.cellAt _ (by omega)]; exact ⟨_, List.getElem?_eq_getElem (by rw [valsCells_len, fillK_len]; omega)⟩
    have n3 := hov.frozenAt (j * 5 + 3)
    obtain ⟨e4, m4⟩ : ∃ v, w4.cell? ⟨gv, j * 5 + 4, none⟩ = some v := by rw [hov.cellAt _ (by omega)]; exact ⟨_, List.getElem?_eq_getElem (by rw [valsCells_len, fillK_len]; omega)⟩
    have n4 := hov.frozenAt (j * 5 + 4)
    have gl : gv < w4.heap.size := (hov.lt gv rfl).2
    have HS6 : Hid (World.ownsRow _ _ _ _ _ ((fillK x.vals x.keys.length).set j y).length _) := hid (by rw [List.length_set, fillK_len]; exact own_set5 hov j y (by rw [fillK_len]; exact hjn))
    have hgN : gv ≠ w1.heap.size := by have := (HOV.out.lt gv rfl).2; omega
    have hgR : gv ≠ W.heap.size + 1 + 1 := by omega
    have hgu : (.slice (some ⟨g, 0, none⟩) x.keys.length ck : Value).ownBlock ≠ some gv := fun e => by simp [Value.ownBlock] at e; omega
    clear hov
    go_wp2
    refine bodyPost_ret (v := .tuple #[.agg #[.slice (some ⟨g, 0, none⟩) x.keys.length ck, .slice (some ⟨gv, 0, none⟩) x.keys.length cv], .bool true]) (by simp [results, Tryd.results8, go_sem, c_R_0, c_R_1, z_R_0, z_R_1, l_R]) rfl ⟨_, by rw [HP.out], ?_, ?_⟩
    · rw [HR.out]
      exact rdArr_own (B := a_R.heap.size) (C := C) (e1 := 9) (e2 := 40) (by exact ownsRow_setCell_below (ownsRow_setCell_below (ownsRow_setCell_other (ownsRow_setCell_other (ownsRow_setCell_other (ownsRow_setCell_other (ownsRow_setCell_other HOU9.out hgu _) hgu _) hgu _) hgu _) hgu _) (show W.heap.size + 1 + 1 < _ by omega) _) (show W.heap.size + 1 + 1 < _ by omega) _) (by exact ownsRow_setCell_below (ownsRow_setCell_below HS6.out (show W.heap.size + 1 + 1 < _ by omega) _) (show W.heap.size + 1 + 1 < _ by omega) _) (by omega) (by omega) (HSK.out) (by intro t ht; rcases List.mem_or_eq_of_mem_set ht with h | h; exact HVK.out t h; (subst h; exact HYK.out))
    · repeat' (first | (with_reducible exact bP) | (with_reducible refine Below.setCell ?_ ?_ _) | (with_reducible refine Below.alloc ?_ ?_ _) | (simp; done) | (simp; omega) | omega)
end Go.Proofs.YtenfpfjpcpmhiaaDoor
