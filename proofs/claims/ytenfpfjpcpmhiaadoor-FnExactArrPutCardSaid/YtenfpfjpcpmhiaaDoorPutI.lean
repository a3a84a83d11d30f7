/-
  What is proved here: the program's ArrPut: what it returns. No condition but the size.
-/
import Derived.Test.YtenfpfjpcpmhiaaDoorPutSt
namespace Go.Proofs.YtenfpfjpcpmhiaaDoor
open Go.RowKit
set_option linter.unusedVariables false
set_option linter.unusedSimpArgs false

set_option maxHeartbeats 8000000 in
set_option maxRecDepth 100000 in
theorem implPut {cs ys : Array Value} {x : Arr} {y : Val} (s : ByteArray) (W : World) (h : Rd.rd (Old W) W cs.toList x) (hy : Rd.rd (Old W) W ys.toList y) (hn : x.keys.length ≤ 1048576) (hsz : Hid (s.size ≤ 9223372036854775807)) (hT : Tabs W) :
    Calls Tryd.prog 11 #[.agg cs, .string s, .agg ys] W fun e w' => ∃ cs' : Array Value, e = .returned (.tuple #[.agg cs', .bool (putOk x s y)]) ∧ Rd.rd (New W.heap.size w') w' cs'.toList (arrPut x s y) ∧ OwArr (New W.heap.size w') w' (arrPut x s y) cs' ∧ Below W.heap.size W w' := by
  have H0 := h
  obtain ⟨a0, c0, a1, c1, hcs, f0, f1⟩ := rdArr h
  obtain rfl := arr_of_list hcs
  obtain ⟨hds, k0, k1, k2, k3⟩ := rdVal hy
  obtain rfl := arr_of_list hds
  have HVK := hid (fillK_ok (vals_ok f1) x.keys.length)
  have HSK := hid (strs_ok f0)
  have HYK : Hid (vOk y) := hid ⟨k0, k1, k2, k3⟩
  have HY := hy
  have F0 := f0
  have hle := arrAt_le x s
  clear hcs hds f0 f1 h hy
  obtain ⟨ii, hi, hz0, hz1, hz2⟩ := info_parts infoS
  obtain ⟨jj, ki, kz0, kz1, kz2⟩ := info_parts infoV
  have HAT := hid (show nameAt x.keys s - 1 = arrAt x s from rfl)
  go_enter Tryd.func11, Tryd.ntmps11
  have bP : Below W.heap.size W W := Below.refl _ _
  have zP : W.heap.size ≤ W.heap.size := Nat.le_refl _
  have LA : Live (Old W) W W := Live.refl fun b hb => hb
  go_wp2_with fail
  obtain ⟨a_A, hw_a_A⟩ : ∃ v, W.alloc (.cells #[.slice a0 x.keys.length c0, .slice a1 x.vals.length c1] 34) = v := ⟨_, rfl⟩
  have x_a_A : Below W.heap.size W a_A := by rw [← hw_a_A]; exact ext_alloc _ _
  have s_a_A : a_A.heap.size = W.heap.size + 1 := by rw [← hw_a_A]; simp
  have c_A_0 : a_A.cell? ⟨W.heap.size, 0, none⟩ = some (.slice a0 x.keys.length c0) := by rw [← hw_a_A]; simp
  have c_A_1 : a_A.cell? ⟨W.heap.size, 1, none⟩ = some (.slice a1 x.vals.length c1) := by rw [← hw_a_A]; simp
  have l_A : W.heap.size < a_A.heap.size := by omega
  replace hT : Tabs a_A := tabs_below hT x_a_A
  replace bP : Below W.heap.size W a_A := bw_call bP zP x_a_A
  replace LA : Live (Old W) W a_A := LA.call x_a_A
  have y_a_A : W.heap.size ≤ a_A.heap.size := x_a_A.size
  replace zP : W.heap.size ≤ a_A.heap.size := bP.size
  rw [hw_a_A]
  clear hw_a_A x_a_A
  obtain ⟨a_V, hw_a_V⟩ : ∃ v, a_A.alloc (.cells #[.int .i64 y.kind, .bool y.num.neg, .string y.num.dig, .int .i64 y.num.exp, .string y.text] 40) = v := ⟨_, rfl⟩
  have x_a_V : Below a_A.heap.size a_A a_V := by rw [← hw_a_V]; exact ext_alloc _ _
  have s_a_V : a_V.heap.size = a_A.heap.size + 1 := by rw [← hw_a_V]; simp
  have c_V_0 : a_V.cell? ⟨a_A.heap.size, 0, none⟩ = some (.int .i64 y.kind) := by rw [← hw_a_V]; simp
  have c_V_1 : a_V.cell? ⟨a_A.heap.size, 1, none⟩ = some (.bool y.num.neg) := by rw [← hw_a_V]; simp
  have c_V_2 : a_V.cell? ⟨a_A.heap.size, 2, none⟩ = some (.string y.num.dig) := by rw [← hw_a_V]; simp
  have c_V_3 : a_V.cell? ⟨a_A.heap.size, 3, none⟩ = some (.int .i64 y.num.exp) := by rw [← hw_a_V]; simp
  have c_V_4 : a_V.cell? ⟨a_A.heap.size, 4, none⟩ = some (.string y.text) := by rw [← hw_a_V]; simp
  have l_V : a_A.heap.size < a_V.heap.size := by omega
  replace hT : Tabs a_V := tabs_below hT x_a_V
  replace bP : Below W.heap.size W a_V := bw_call bP zP x_a_V
  replace c_A_0 : a_V.cell? ⟨W.heap.size, 0, none⟩ = some (.slice a0 x.keys.length c0) := (x_a_V.cell (p := ⟨W.heap.size, 0, none⟩) l_A).trans c_A_0
  replace c_A_1 : a_V.cell? ⟨W.heap.size, 1, none⟩ = some (.slice a1 x.vals.length c1) := (x_a_V.cell (p := ⟨W.heap.size, 1, none⟩) l_A).trans c_A_1
  replace l_A : W.heap.size < a_V.heap.size := Nat.lt_of_lt_of_le l_A x_a_V.size
  replace LA : Live (Old W) W a_V := LA.call x_a_V
  have y_a_V : a_A.heap.size ≤ a_V.heap.size := x_a_V.size
  replace zP : W.heap.size ≤ a_V.heap.size := bP.size
  rw [s_a_A] at c_V_0 c_V_1 c_V_2 c_V_3 c_V_4 l_V
  rw [hw_a_V]
  clear hw_a_V x_a_V
  obtain ⟨a_R, hw_a_R⟩ : ∃ v, a_V.alloc (.cells #[.slice none 0 0, .slice none 0 0] 34) = v := ⟨_, rfl⟩
  have x_a_R : Below a_V.heap.size a_V a_R := by rw [← hw_a_R]; exact ext_alloc _ _
  have s_a_R : a_R.heap.size = a_V.heap.size + 1 := by rw [← hw_a_R]; simp
  have c_R_0 : a_R.cell? ⟨a_V.heap.size, 0, none⟩ = some (.slice none 0 0) := by rw [← hw_a_R]; simp
  have c_R_1 : a_R.cell? ⟨a_V.heap.size, 1, none⟩ = some (.slice none 0 0) := by rw [← hw_a_R]; simp
  have z_R_0 : a_R.frozen? ⟨a_V.heap.size, 0, none⟩ = false := by rw [← hw_a_R]; simp
  have z_R_1 : a_R.frozen? ⟨a_V.heap.size, 1, none⟩ = false := by rw [← hw_a_R]; simp
  have l_R : a_V.heap.size < a_R.heap.size := by omega
  replace hT : Tabs a_R := tabs_below hT x_a_R
  replace bP : Below W.heap.size W a_R := bw_call bP zP x_a_R
  replace c_A_0 : a_R.cell? ⟨W.heap.size, 0, none⟩ = some (.slice a0 x.keys.length c0) := (x_a_R.cell (p := ⟨W.heap.size, 0, none⟩) l_A).trans c_A_0
  replace c_A_1 : a_R.cell? ⟨W.heap.size, 1, none⟩ = some (.slice a1 x.vals.length c1) := (x_a_R.cell (p := ⟨W.heap.size, 1, none⟩) l_A).trans c_A_1
  replace c_V_0 : a_R.cell? ⟨W.heap.size + 1, 0, none⟩ = some (.int .i64 y.kind) := (x_a_R.cell (p := ⟨W.heap.size + 1, 0, none⟩) l_V).trans c_V_0
  replace c_V_1 : a_R.cell? ⟨W.heap.size + 1, 1, none⟩ = some (.bool y.num.neg) := (x_a_R.cell (p := ⟨W.heap.size + 1, 1, none⟩) l_V).trans c_V_1
  replace c_V_2 : a_R.cell? ⟨W.heap.size + 1, 2, none⟩ = some (.string y.num.dig) := (x_a_R.cell (p := ⟨W.heap.size + 1, 2, none⟩) l_V).trans c_V_2
  replace c_V_3 : a_R.cell? ⟨W.heap.size + 1, 3, none⟩ = some (.int .i64 y.num.exp) := (x_a_R.cell (p := ⟨W.heap.size + 1, 3, none⟩) l_V).trans c_V_3
  replace c_V_4 : a_R.cell? ⟨W.heap.size + 1, 4, none⟩ = some (.string y.text) := (x_a_R.cell (p := ⟨W.heap.size + 1, 4, none⟩) l_V).trans c_V_4
  replace l_A : W.heap.size < a_R.heap.size := Nat.lt_of_lt_of_le l_A x_a_R.size
  replace l_V : W.heap.size + 1 < a_R.heap.size := Nat.lt_of_lt_of_le l_V x_a_R.size
  replace LA : Live (Old W) W a_R := LA.call x_a_R
  have y_a_R : a_V.heap.size ≤ a_R.heap.size := x_a_R.size
  replace zP : W.heap.size ≤ a_R.heap.size := bP.size
  rw [s_a_V, s_a_A] at c_R_0 c_R_1 z_R_0 z_R_1 l_R
  rw [hw_a_R]
  clear hw_a_R x_a_R
  clear s_a_A s_a_V s_a_R
  refine (sIndexStr s _ (by exact LA.rd F0)).mono ?_
  rintro e w1 ⟨rfl, rfl⟩
  rw [HAT.out]
  clear HAT
  obtain ⟨k, hk⟩ : ∃ k, arrAt x s = k := ⟨_, rfl⟩
  have HK := hid hk
  rw [hk] at hle ⊢
  clear hk
  go_wp2_with fail
  refine (implTextOk s _ hT).mono ?_
  rintro e w2 ⟨rfl, hb⟩
  replace z_R_0 : w2.frozen? ⟨W.heap.size + 1 + 1, 0, none⟩ = false := (hb.frozen (p := ⟨W.heap.size + 1 + 1, 0, none⟩) l_R).trans z_R_0
  replace z_R_1 : w2.frozen? ⟨W.heap.size + 1 + 1, 1, none⟩ = false := (hb.frozen (p := ⟨W.heap.size + 1 + 1, 1, none⟩) l_R).trans z_R_1
  replace hT : Tabs w2 := tabs_below hT hb
  replace bP : Below W.heap.size W w2 := bw_call bP zP hb
  replace c_A_0 : w2.cell? ⟨W.heap.size, 0, none⟩ = some (.slice a0 x.keys.length c0) := (hb.cell (p := ⟨W.heap.size, 0, none⟩) l_A).trans c_A_0
  replace c_A_1 : w2.cell? ⟨W.heap.size, 1, none⟩ = some (.slice a1 x.vals.length c1) := (hb.cell (p := ⟨W.heap.size, 1, none⟩) l_A).trans c_A_1
  replace c_V_0 : w2.cell? ⟨W.heap.size + 1, 0, none⟩ = some (.int .i64 y.kind) := (hb.cell (p := ⟨W.heap.size + 1, 0, none⟩) l_V).trans c_V_0
  replace c_V_1 : w2.cell? ⟨W.heap.size + 1, 1, none⟩ = some (.bool y.num.neg) := (hb.cell (p := ⟨W.heap.size + 1, 1, none⟩) l_V).trans c_V_1
  replace c_V_2 : w2.cell? ⟨W.heap.size + 1, 2, none⟩ = some (.string y.num.dig) := (hb.cell (p := ⟨W.heap.size + 1, 2, none⟩) l_V).trans c_V_2
  replace c_V_3 : w2.cell? ⟨W.heap.size + 1, 3, none⟩ = some (.int .i64 y.num.exp) := (hb.cell (p := ⟨W.heap.size + 1, 3, none⟩) l_V).trans c_V_3
  replace c_V_4 : w2.cell? ⟨W.heap.size + 1, 4, none⟩ = some (.string y.text) := (hb.cell (p := ⟨W.heap.size + 1, 4, none⟩) l_V).trans c_V_4
  replace c_R_0 : w2.cell? ⟨W.heap.size + 1 + 1, 0, none⟩ = some (.slice none 0 0) := (hb.cell (p := ⟨W.heap.size + 1 + 1, 0, none⟩) l_R).trans c_R_0
  replace c_R_1 : w2.cell? ⟨W.heap.size + 1 + 1, 1, none⟩ = some (.slice none 0 0) := (hb.cell (p := ⟨W.heap.size + 1 + 1, 1, none⟩) l_R).trans c_R_1
  replace l_A : W.heap.size < w2.heap.size := Nat.lt_of_lt_of_le l_A hb.size
  replace l_V : W.heap.size + 1 < w2.heap.size := Nat.lt_of_lt_of_le l_V hb.size
  replace l_R : W.heap.size + 1 + 1 < w2.heap.size := Nat.lt_of_lt_of_le l_R hb.size
  replace LA : Live (Old W) W w2 := LA.call hb
  have y_w2 : a_R.heap.size ≤ w2.heap.size := hb.size
  replace zP : W.heap.size ≤ w2.heap.size := bP.size
  clear hb
  rcases hts : okText s with _ | _
  · have HP : Hid (putOk x s y = false) := hid (by unfold putOk; rw [hts]; rfl)
    clear hts
    go_wp2_with fail
    have HR := hid (show arrPut x s y = arrFill x by unfold arrPut; rw [HP.out]; rfl)
    have l_R_b1 := l_R
    refine (implFilled _ (by exact LA.rd H0) hn).mono ?_
    rintro e w3 ⟨_, u, v, rfl, rfl, hb, C, hC, hou, ⟨gv, rfl, hgv⟩, hov⟩
    replace z_R_0 : w3.frozen? ⟨W.heap.size + 1 + 1, 0, none⟩ = false := (hb.frozen (p := ⟨W.heap.size + 1 + 1, 0, none⟩) l_R).trans z_R_0
    replace z_R_1 : w3.frozen? ⟨W.heap.size + 1 + 1, 1, none⟩ = false := (hb.frozen (p := ⟨W.heap.size + 1 + 1, 1, none⟩) l_R).trans z_R_1
    replace hT : Tabs w3 := tabs_below hT hb
    replace bP : Below W.heap.size W w3 := bw_call bP zP hb
    replace c_A_0 : w3.cell? ⟨W.heap.size, 0, none⟩ = some (.slice a0 x.keys.length c0) := (hb.cell (p := ⟨W.heap.size, 0, none⟩) l_A).trans c_A_0
    replace c_A_1 : w3.cell? ⟨W.heap.size, 1, none⟩ = some (.slice a1 x.vals.length c1) := (hb.cell (p := ⟨W.heap.size, 1, none⟩) l_A).trans c_A_1
    replace c_V_0 : w3.cell? ⟨W.heap.size + 1, 0, none⟩ = some (.int .i64 y.kind) := (hb.cell (p := ⟨W.heap.size + 1, 0, none⟩) l_V).trans c_V_0
    replace c_V_1 : w3.cell? ⟨W.heap.size + 1, 1, none⟩ = some (.bool y.num.neg) := (hb.cell (p := ⟨W.heap.size + 1, 1, none⟩) l_V).trans c_V_1
    replace c_V_2 : w3.cell? ⟨W.heap.size + 1, 2, none⟩ = some (.string y.num.dig) := (hb.cell (p := ⟨W.heap.size + 1, 2, none⟩) l_V).trans c_V_2
    replace c_V_3 : w3.cell? ⟨W.heap.size + 1, 3, none⟩ = some (.int .i64 y.num.exp) := (hb.cell (p := ⟨W.heap.size + 1, 3, none⟩) l_V).trans c_V_3
    replace c_V_4 : w3.cell? ⟨W.heap.size + 1, 4, none⟩ = some (.string y.text) := (hb.cell (p := ⟨W.heap.size + 1, 4, none⟩) l_V).trans c_V_4
    replace c_R_0 : w3.cell? ⟨W.heap.size + 1 + 1, 0, none⟩ = some (.slice none 0 0) := (hb.cell (p := ⟨W.heap.size + 1 + 1, 0, none⟩) l_R).trans c_R_0
    replace c_R_1 : w3.cell? ⟨W.heap.size + 1 + 1, 1, none⟩ = some (.slice none 0 0) := (hb.cell (p := ⟨W.heap.size + 1 + 1, 1, none⟩) l_R).trans c_R_1
    replace l_A : W.heap.size < w3.heap.size := Nat.lt_of_lt_of_le l_A hb.size
    replace l_V : W.heap.size + 1 < w3.heap.size := Nat.lt_of_lt_of_le l_V hb.size
    replace l_R : W.heap.size + 1 + 1 < w3.heap.size := Nat.lt_of_lt_of_le l_R hb.size
    replace LA : Live (Old W) W w3 := LA.call hb
    have y_w3 : w2.heap.size ≤ w3.heap.size := hb.size
    replace zP : W.heap.size ≤ w3.heap.size := bP.size
    clear hb
    obtain ⟨au, cu, rfl⟩ := own_sl hou
    have hgv1 := hov.lt gv rfl
    have hR : W.heap.size + 1 + 1 < w2.heap.size := l_R_b1
    clear l_R_b1
    have HOU := hid hou
    have HOV := hid hov
    clear hou hov
    go_wp2

    refine bodyPost_ret (v := .tuple #[.agg #[.slice au x.keys.length cu, .slice (some ⟨gv, 0, none⟩) x.keys.length x.keys.length], .bool false]) (by simp [results, Tryd.results11, go_sem, c_R_0, c_R_1, z_R_0, z_R_1, l_R]) rfl ⟨_, by rw [HP.out], ?_, ?_, ?_⟩
    · rw [HR.out]
      exact rdArr_own (B := C) (C := w2.heap.size) (e1 := 9) (e2 := 40) (by repeat' (first | exact HOU.out | (refine ownsRow_setCell_below ?_ ?_ _) | (refine ownsRow_setCell_other ?_ hgu _) | (show W.heap.size + 1 + 1 < _; omega))) (by repeat' (first | exact (show World.ownsRow _ _ _ _ _ (fillK x.vals x.keys.length).length _ by rw [fillK_len]; exact HOV.out) | (refine ownsRow_setCell_below ?_ ?_ _) | (refine ownsRow_setCell_other ?_ hgu _) | (show W.heap.size + 1 + 1 < _; omega))) (by omega) (by omega) (HSK.out) (HVK.out)
    · rw [HR.out]
      exact owArr_own (B := C) (C := w2.heap.size) (e1 := 9) (e2 := 40) (by repeat' (first | exact HOU.out | (refine ownsRow_setCell_below ?_ ?_ _) | (refine ownsRow_setCell_other ?_ hgu _) | (show W.heap.size + 1 + 1 < _; omega))) (by repeat' (first | exact (show World.ownsRow _ _ _ _ _ (fillK x.vals x.keys.length).length _ by rw [fillK_len]; exact HOV.out) | (refine ownsRow_setCell_below ?_ ?_ _) | (refine ownsRow_setCell_other ?_ hgu _) | (show W.heap.size + 1 + 1 < _; omega))) (by omega) (by omega) (fun q h1 h2 => by have := (HOU.out.lt q h1).1; simp [Value.ownBlock] at h2; omega)
    · repeat' (first | (with_reducible exact bP) | (with_reducible refine Below.setCell ?_ ?_ _) | (with_reducible refine Below.alloc ?_ ?_ _) | (simp; done) | (simp; omega) | omega)
  go_wp2_with fail
  refine (implIsVal _ (by exact LA.rd HY) hT).mono ?_
  rintro e w3 ⟨rfl, hb⟩
  replace z_R_0 : w3.frozen? ⟨W.heap.size + 1 + 1, 0, none⟩ = false := (hb.frozen (p := ⟨W.heap.size + 1 + 1, 0, none⟩) l_R).trans z_R_0
  replace z_R_1 : w3.frozen? ⟨W.heap.size + 1 + 1, 1, none⟩ = false := (hb.frozen (p := ⟨W.heap.size + 1 + 1, 1, none⟩) l_R).trans z_R_1
  replace hT : Tabs w3 := tabs_below hT hb
  replace bP : Below W.heap.size W w3 := bw_call bP zP hb
  replace c_A_0 : w3.cell? ⟨W.heap.size, 0, none⟩ = some (.slice a0 x.keys.length c0) := (hb.cell (p := ⟨W.heap.size, 0, none⟩) l_A).trans c_A_0
  replace c_A_1 : w3.cell? ⟨W.heap.size, 1, none⟩ = some (.slice a1 x.vals.length c1) := (hb.cell (p := ⟨W.heap.size, 1, none⟩) l_A).trans c_A_1
  replace c_V_0 : w3.cell? ⟨W.heap.size + 1, 0, none⟩ = some (.int .i64 y.kind) := (hb.cell (p := ⟨W.heap.size + 1, 0, none⟩) l_V).trans c_V_0
  replace c_V_1 : w3.cell? ⟨W.heap.size + 1, 1, none⟩ = some (.bool y.num.neg) := (hb.cell (p := ⟨W.heap.size + 1, 1, none⟩) l_V).trans c_V_1
  replace c_V_2 : w3.cell? ⟨W.heap.size + 1, 2, none⟩ = some (.string y.num.dig) := (hb.cell (p := ⟨W.heap.size + 1, 2, none⟩) l_V).trans c_V_2
  replace c_V_3 : w3.cell? ⟨W.heap.size + 1, 3, none⟩ = some (.int .i64 y.num.exp) := (hb.cell (p := ⟨W.heap.size + 1, 3, none⟩) l_V).trans c_V_3
  replace c_V_4 : w3.cell? ⟨W.heap.size + 1, 4, none⟩ = some (.string y.text) := (hb.cell (p := ⟨W.heap.size + 1, 4, none⟩) l_V).trans c_V_4
  replace c_R_0 : w3.cell? ⟨W.heap.size + 1 + 1, 0, none⟩ = some (.slice none 0 0) := (hb.cell (p := ⟨W.heap.size + 1 + 1, 0, none⟩) l_R).trans c_R_0
  replace c_R_1 : w3.cell? ⟨W.heap.size + 1 + 1, 1, none⟩ = some (.slice none 0 0) := (hb.cell (p := ⟨W.heap.size + 1 + 1, 1, none⟩) l_R).trans c_R_1
  replace l_A : W.heap.size < w3.heap.size := Nat.lt_of_lt_of_le l_A hb.size
  replace l_V : W.heap.size + 1 < w3.heap.size := Nat.lt_of_lt_of_le l_V hb.size
  replace l_R : W.heap.size + 1 + 1 < w3.heap.size := Nat.lt_of_lt_of_le l_R hb.size
  replace LA : Live (Old W) W w3 := LA.call hb
  have y_w3 : w2.heap.size ≤ w3.heap.size := hb.size
  replace zP : W.heap.size ≤ w3.heap.size := bP.size
  clear hb
  rcases hvs : valOk y with _ | _
  · have HP : Hid (putOk x s y = false) := hid (by unfold putOk; rw [hvs, Bool.and_false]; rfl)
    clear hts hvs
    go_wp2_with fail
    have HR := hid (show arrPut x s y = arrFill x by unfold arrPut; rw [HP.out]; rfl)
    have l_R_b2 := l_R
    refine (implFilled _ (by exact LA.rd H0) hn).mono ?_
    rintro e w4 ⟨_, u, v, rfl, rfl, hb, C, hC, hou, ⟨gv, rfl, hgv⟩, hov⟩
    replace z_R_0 : w4.frozen? ⟨W.heap.size + 1 + 1, 0, none⟩ = false := (hb.frozen (p := ⟨W.heap.size + 1 + 1, 0, none⟩) l_R).trans z_R_0
    replace z_R_1 : w4.frozen? ⟨W.heap.size + 1 + 1, 1, none⟩ = false := (hb.frozen (p := ⟨W.heap.size + 1 + 1, 1, none⟩) l_R).trans z_R_1
    replace hT : Tabs w4 := tabs_below hT hb
    replace bP : Below W.heap.size W w4 := bw_call bP zP hb
    replace c_A_0 : w4.cell? ⟨W.heap.size, 0, none⟩ = some (.slice a0 x.keys.length c0) := (hb.cell (p := ⟨W.heap.size, 0, none⟩) l_A).trans c_A_0
    replace c_A_1 : w4.cell? ⟨W.heap.size, 1, none⟩ = some (.slice a1 x.vals.length c1) := (hb.cell (p := ⟨W.heap.size, 1, none⟩) l_A).trans c_A_1
    replace c_V_0 : w4.cell? ⟨W.heap.size + 1, 0, none⟩ = some (.int .i64 y.kind) := (hb.cell (p := ⟨W.heap.size + 1, 0, none⟩) l_V).trans c_V_0
    replace c_V_1 : w4.cell? ⟨W.heap.size + 1, 1, none⟩ = some (.bool y.num.neg) := (hb.cell (p := ⟨W.heap.size + 1, 1, none⟩) l_V).trans c_V_1
    replace c_V_2 : w4.cell? ⟨W.heap.size + 1, 2, none⟩ = some (.string y.num.dig) := (hb.cell (p := ⟨W.heap.size + 1, 2, none⟩) l_V).trans c_V_2
    replace c_V_3 : w4.cell? ⟨W.heap.size + 1, 3, none⟩ = some (.int .i64 y.num.exp) := (hb.cell (p := ⟨W.heap.size + 1, 3, none⟩) l_V).trans c_V_3
    replace c_V_4 : w4.cell? ⟨W.heap.size + 1, 4, none⟩ = some (.string y.text) := (hb.cell (p := ⟨W.heap.size + 1, 4, none⟩) l_V).trans c_V_4
    replace c_R_0 : w4.cell? ⟨W.heap.size + 1 + 1, 0, none⟩ = some (.slice none 0 0) := (hb.cell (p := ⟨W.heap.size + 1 + 1, 0, none⟩) l_R).trans c_R_0
    replace c_R_1 : w4.cell? ⟨W.heap.size + 1 + 1, 1, none⟩ = some (.slice none 0 0) := (hb.cell (p := ⟨W.heap.size + 1 + 1, 1, none⟩) l_R).trans c_R_1
    replace l_A : W.heap.size < w4.heap.size := Nat.lt_of_lt_of_le l_A hb.size
    replace l_V : W.heap.size + 1 < w4.heap.size := Nat.lt_of_lt_of_le l_V hb.size
    replace l_R : W.heap.size + 1 + 1 < w4.heap.size := Nat.lt_of_lt_of_le l_R hb.size
    replace LA : Live (Old W) W w4 := LA.call hb
    have y_w4 : w3.heap.size ≤ w4.heap.size := hb.size
    replace zP : W.heap.size ≤ w4.heap.size := bP.size
    clear hb
    obtain ⟨au, cu, rfl⟩ := own_sl hou
    have hgv1 := hov.lt gv rfl
    have hR : W.heap.size + 1 + 1 < w3.heap.size := l_R_b2
    clear l_R_b2
    have HOU := hid hou
    have HOV := hid hov
    clear hou hov
    go_wp2

    refine bodyPost_ret (v := .tuple #[.agg #[.slice au x.keys.length cu, .slice (some ⟨gv, 0, none⟩) x.keys.length x.keys.length], .bool false]) (by simp [results, Tryd.results11, go_sem, c_R_0, c_R_1, z_R_0, z_R_1, l_R]) rfl ⟨_, by rw [HP.out], ?_, ?_, ?_⟩
    · rw [HR.out]
      exact rdArr_own (B := C) (C := w3.heap.size) (e1 := 9) (e2 := 40) (by repeat' (first | exact HOU.out | (refine ownsRow_setCell_below ?_ ?_ _) | (refine ownsRow_setCell_other ?_ hgu _) | (show W.heap.size + 1 + 1 < _; omega))) (by repeat' (first | exact (show World.ownsRow _ _ _ _ _ (fillK x.vals x.keys.length).length _ by rw [fillK_len]; exact HOV.out) | (refine ownsRow_setCell_below ?_ ?_ _) | (refine ownsRow_setCell_other ?_ hgu _) | (show W.heap.size + 1 + 1 < _; omega))) (by omega) (by omega) (HSK.out) (HVK.out)
    · rw [HR.out]
      exact owArr_own (B := C) (C := w3.heap.size) (e1 := 9) (e2 := 40) (by repeat' (first | exact HOU.out | (refine ownsRow_setCell_below ?_ ?_ _) | (refine ownsRow_setCell_other ?_ hgu _) | (show W.heap.size + 1 + 1 < _; omega))) (by repeat' (first | exact (show World.ownsRow _ _ _ _ _ (fillK x.vals x.keys.length).length _ by rw [fillK_len]; exact HOV.out) | (refine ownsRow_setCell_below ?_ ?_ _) | (refine ownsRow_setCell_other ?_ hgu _) | (show W.heap.size + 1 + 1 < _; omega))) (by omega) (by omega) (fun q h1 h2 => by have := (HOU.out.lt q h1).1; simp [Value.ownBlock] at h2; omega)
    · repeat' (first | (with_reducible exact bP) | (with_reducible refine Below.setCell ?_ ?_ _) | (with_reducible refine Below.alloc ?_ ?_ _) | (simp; done) | (simp; omega) | omega)
  by_cases hat : k < 0
  · by_cases hlen : 200 ≤ x.keys.length
    · have hlen' : (200 : Int) ≤ (x.keys.length : Int) := by omega
      have HP : Hid (putOk x s y = false) := hid (by unfold putOk; rw [hts, hvs, HK.out, decide_eq_true hat, decide_eq_true hlen]; rfl)
      clear hts hvs
      go_wp2_with fail
      have HR := hid (show arrPut x s y = arrFill x by unfold arrPut; rw [HP.out]; rfl)
      have l_R_b3 := l_R
      refine (implFilled _ (by exact LA.rd H0) hn).mono ?_
      rintro e w4 ⟨_, u, v, rfl, rfl, hb, C, hC, hou, ⟨gv, rfl, hgv⟩, hov⟩
      replace z_R_0 : w4.frozen? ⟨W.heap.size + 1 + 1, 0, none⟩ = false := (hb.frozen (p := ⟨W.heap.size + 1 + 1, 0, none⟩) l_R).trans z_R_0
      replace z_R_1 : w4.frozen? ⟨W.heap.size + 1 + 1, 1, none⟩ = false := (hb.frozen (p := ⟨W.heap.size + 1 + 1, 1, none⟩) l_R).trans z_R_1
      replace hT : Tabs w4 := tabs_below hT hb
      replace bP : Below W.heap.size W w4 := bw_call bP zP hb
      replace c_A_0 : w4.cell? ⟨W.heap.size, 0, none⟩ = some (.slice a0 x.keys.length c0) := (hb.cell (p := ⟨W.heap.size, 0, none⟩) l_A).trans c_A_0
      replace c_A_1 : w4.cell? ⟨W.heap.size, 1, none⟩ = some (.slice a1 x.vals.length c1) := (hb.cell (p := ⟨W.heap.size, 1, none⟩) l_A).trans c_A_1
      replace c_V_0 : w4.cell? ⟨W.heap.size + 1, 0, none⟩ = some (.int .i64 y.kind) := (hb.cell (p := ⟨W.heap.size + 1, 0, none⟩) l_V).trans c_V_0
      replace c_V_1 : w4.cell? ⟨W.heap.size + 1, 1, none⟩ = some (.bool y.num.neg) := (hb.cell (p := ⟨W.heap.size + 1, 1, none⟩) l_V).trans c_V_1
      replace c_V_2 : w4.cell? ⟨W.heap.size + 1, 2, none⟩ = some (.string y.num.dig) := (hb.cell (p := ⟨W.heap.size + 1, 2, none⟩) l_V).trans c_V_2
      replace c_V_3 : w4.cell? ⟨W.heap.size + 1, 3, none⟩ = some (.int .i64 y.num.exp) := (hb.cell (p := ⟨W.heap.size + 1, 3, none⟩) l_V).trans c_V_3
      replace c_V_4 : w4.cell? ⟨W.heap.size + 1, 4, none⟩ = some (.string y.text) := (hb.cell (p := ⟨W.heap.size + 1, 4, none⟩) l_V).trans c_V_4
      replace c_R_0 : w4.cell? ⟨W.heap.size + 1 + 1, 0, none⟩ = some (.slice none 0 0) := (hb.cell (p := ⟨W.heap.size + 1 + 1, 0, none⟩) l_R).trans c_R_0
      replace c_R_1 : w4.cell? ⟨W.heap.size + 1 + 1, 1, none⟩ = some (.slice none 0 0) := (hb.cell (p := ⟨W.heap.size + 1 + 1, 1, none⟩) l_R).trans c_R_1
      replace l_A : W.heap.size < w4.heap.size := Nat.lt_of_lt_of_le l_A hb.size
      replace l_V : W.heap.size + 1 < w4.heap.size := Nat.lt_of_lt_of_le l_V hb.size
      replace l_R : W.heap.size + 1 + 1 < w4.heap.size := Nat.lt_of_lt_of_le l_R hb.size
      replace LA : Live (Old W) W w4 := LA.call hb
      have y_w4 : w3.heap.size ≤ w4.heap.size := hb.size
      replace zP : W.heap.size ≤ w4.heap.size := bP.size
      clear hb
      obtain ⟨au, cu, rfl⟩ := own_sl hou
      have hgv1 := hov.lt gv rfl
      have hR : W.heap.size + 1 + 1 < w3.heap.size := l_R_b3
      clear l_R_b3
      have HOU := hid hou
      have HOV := hid hov
      clear hou hov
      go_wp2

      refine bodyPost_ret (v := .tuple #[.agg #[.slice au x.keys.length cu, .slice (some ⟨gv, 0, none⟩) x.keys.length x.keys.length], .bool false]) (by simp [results, Tryd.results11, go_sem, c_R_0, c_R_1, z_R_0, z_R_1, l_R]) rfl ⟨_, by rw [HP.out], ?_, ?_, ?_⟩
      · rw [HR.out]
        exact rdArr_own (B := C) (C := w3.heap.size) (e1 := 9) (e2 := 40) (by repeat' (first | exact HOU.out | (refine ownsRow_setCell_below ?_ ?_ _) | (refine ownsRow_setCell_other ?_ hgu _) | (show W.heap.size + 1 + 1 < _; omega))) (by repeat' (first | exact (show World.ownsRow _ _ _ _ _ (fillK x.vals x.keys.length).length _ by rw [fillK_len]; exact HOV.out) | (refine ownsRow_setCell_below ?_ ?_ _) | (refine ownsRow_setCell_other ?_ hgu _) | (show W.heap.size + 1 + 1 < _; omega))) (by omega) (by omega) (HSK.out) (HVK.out)
      · rw [HR.out]
        exact owArr_own (B := C) (C := w3.heap.size) (e1 := 9) (e2 := 40) (by repeat' (first | exact HOU.out | (refine ownsRow_setCell_below ?_ ?_ _) | (refine ownsRow_setCell_other ?_ hgu _) | (show W.heap.size + 1 + 1 < _; omega))) (by repeat' (first | exact (show World.ownsRow _ _ _ _ _ (fillK x.vals x.keys.length).length _ by rw [fillK_len]; exact HOV.out) | (refine ownsRow_setCell_below ?_ ?_ _) | (refine ownsRow_setCell_other ?_ hgu _) | (show W.heap.size + 1 + 1 < _; omega))) (by omega) (by omega) (fun q h1 h2 => by have := (HOU.out.lt q h1).1; simp [Value.ownBlock] at h2; omega)
      · repeat' (first | (with_reducible exact bP) | (with_reducible refine Below.setCell ?_ ?_ _) | (with_reducible refine Below.alloc ?_ ?_ _) | (simp; done) | (simp; omega) | omega)
    · have hlen' : ¬ (200 : Int) ≤ (x.keys.length : Int) := by omega
      have HP : Hid (putOk x s y = true) := hid (by unfold putOk; rw [hts, hvs, HK.out, decide_eq_true hat, decide_eq_false hlen]; rfl)
      have HR := hid (show arrPut x s y = ⟨x.keys ++ [s], fillK x.vals x.keys.length ++ [y]⟩ by unfold arrPut arrSet; rw [HP.out, HK.out, if_pos rfl, if_pos hat])
      clear hts hvs
      go_wp2_with fail
      have l_R_g := l_R
      refine (implFilled _ (by exact LA.rd H0) hn).mono ?_
      rintro e w4 ⟨_, u, v, rfl, rfl, hb, C, hC, hou, ⟨gv, rfl, hgv⟩, hov⟩
      replace z_R_0 : w4.frozen? ⟨W.heap.size + 1 + 1, 0, none⟩ = false := (hb.frozen (p := ⟨W.heap.size + 1 + 1, 0, none⟩) l_R).trans z_R_0
      replace z_R_1 : w4.frozen? ⟨W.heap.size + 1 + 1, 1, none⟩ = false := (hb.frozen (p := ⟨W.heap.size + 1 + 1, 1, none⟩) l_R).trans z_R_1
      replace hT : Tabs w4 := tabs_below hT hb
      replace bP : Below W.heap.size W w4 := bw_call bP zP hb
      replace c_A_0 : w4.cell? ⟨W.heap.size, 0, none⟩ = some (.slice a0 x.keys.length c0) := (hb.cell (p := ⟨W.heap.size, 0, none⟩) l_A).trans c_A_0
      replace c_A_1 : w4.cell? ⟨W.heap.size, 1, none⟩ = some (.slice a1 x.vals.length c1) := (hb.cell (p := ⟨W.heap.size, 1, none⟩) l_A).trans c_A_1
      replace c_V_0 : w4.cell? ⟨W.heap.size + 1, 0, none⟩ = some (.int .i64 y.kind) := (hb.cell (p := ⟨W.heap.size + 1, 0, none⟩) l_V).trans c_V_0
      replace c_V_1 : w4.cell? ⟨W.heap.size + 1, 1, none⟩ = some (.bool y.num.neg) := (hb.cell (p := ⟨W.heap.size + 1, 1, none⟩) l_V).trans c_V_1
      replace c_V_2 : w4.cell? ⟨W.heap.size + 1, 2, none⟩ = some (.string y.num.dig) := (hb.cell (p := ⟨W.heap.size + 1, 2, none⟩) l_V).trans c_V_2
      replace c_V_3 : w4.cell? ⟨W.heap.size + 1, 3, none⟩ = some (.int .i64 y.num.exp) := (hb.cell (p := ⟨W.heap.size + 1, 3, none⟩) l_V).trans c_V_3
      replace c_V_4 : w4.cell? ⟨W.heap.size + 1, 4, none⟩ = some (.string y.text) := (hb.cell (p := ⟨W.heap.size + 1, 4, none⟩) l_V).trans c_V_4
      replace c_R_0 : w4.cell? ⟨W.heap.size + 1 + 1, 0, none⟩ = some (.slice none 0 0) := (hb.cell (p := ⟨W.heap.size + 1 + 1, 0, none⟩) l_R).trans c_R_0
      replace c_R_1 : w4.cell? ⟨W.heap.size + 1 + 1, 1, none⟩ = some (.slice none 0 0) := (hb.cell (p := ⟨W.heap.size + 1 + 1, 1, none⟩) l_R).trans c_R_1
      replace l_A : W.heap.size < w4.heap.size := Nat.lt_of_lt_of_le l_A hb.size
      replace l_V : W.heap.size + 1 < w4.heap.size := Nat.lt_of_lt_of_le l_V hb.size
      replace l_R : W.heap.size + 1 + 1 < w4.heap.size := Nat.lt_of_lt_of_le l_R hb.size
      replace LA : Live (Old W) W w4 := LA.call hb
      have y_w4 : w3.heap.size ≤ w4.heap.size := hb.size
      replace zP : W.heap.size ≤ w4.heap.size := bP.size
      clear hb
      obtain ⟨au, cu, rfl⟩ := own_sl hou
      have hgv1 := hov.lt gv rfl
      have hR : W.heap.size + 1 + 1 < w3.heap.size := l_R_g
      clear l_R_g
      have HOU := hid hou
      have HOV := hid hov
      clear hou hov
      go_wp2_with fail
      obtain ⟨a_N, hw_a_N⟩ : ∃ v, w4.alloc (.cells #[.slice au x.keys.length cu, .slice (some ⟨gv, 0, none⟩) x.keys.length x.keys.length] 34) = v := ⟨_, rfl⟩
      have x_a_N : Below w4.heap.size w4 a_N := by rw [← hw_a_N]; exact ext_alloc _ _
      have z_a_N : w4.heap.size < a_N.heap.size := by rw [← hw_a_N]; simp
      have c_N_0 : a_N.cell? ⟨w4.heap.size, 0, none⟩ = some (.slice au x.keys.length cu) := by rw [← hw_a_N]; simp
      have c_N_1 : a_N.cell? ⟨w4.heap.size, 1, none⟩ = some (.slice (some ⟨gv, 0, none⟩) x.keys.length x.keys.length) := by rw [← hw_a_N]; simp
      replace z_R_0 : a_N.frozen? ⟨W.heap.size + 1 + 1, 0, none⟩ = false := (x_a_N.frozen (p := ⟨W.heap.size + 1 + 1, 0, none⟩) l_R).trans z_R_0
      replace z_R_1 : a_N.frozen? ⟨W.heap.size + 1 + 1, 1, none⟩ = false := (x_a_N.frozen (p := ⟨W.heap.size + 1 + 1, 1, none⟩) l_R).trans z_R_1
      replace hT : Tabs a_N := tabs_below hT x_a_N
      replace bP : Below W.heap.size W a_N := bw_call bP zP x_a_N
      replace c_A_0 : a_N.cell? ⟨W.heap.size, 0, none⟩ = some (.slice a0 x.keys.length c0) := (x_a_N.cell (p := ⟨W.heap.size, 0, none⟩) l_A).trans c_A_0
      replace c_A_1 : a_N.cell? ⟨W.heap.size, 1, none⟩ = some (.slice a1 x.vals.length c1) := (x_a_N.cell (p := ⟨W.heap.size, 1, none⟩) l_A).trans c_A_1
      replace c_V_0 : a_N.cell? ⟨W.heap.size + 1, 0, none⟩ = some (.int .i64 y.kind) := (x_a_N.cell (p := ⟨W.heap.size + 1, 0, none⟩) l_V).trans c_V_0
      replace c_V_1 : a_N.cell? ⟨W.heap.size + 1, 1, none⟩ = some (.bool y.num.neg) := (x_a_N.cell (p := ⟨W.heap.size + 1, 1, none⟩) l_V).trans c_V_1
      replace c_V_2 : a_N.cell? ⟨W.heap.size + 1, 2, none⟩ = some (.string y.num.dig) := (x_a_N.cell (p := ⟨W.heap.size + 1, 2, none⟩) l_V).trans c_V_2
      replace c_V_3 : a_N.cell? ⟨W.heap.size + 1, 3, none⟩ = some (.int .i64 y.num.exp) := (x_a_N.cell (p := ⟨W.heap.size + 1, 3, none⟩) l_V).trans c_V_3
      replace c_V_4 : a_N.cell? ⟨W.heap.size + 1, 4, none⟩ = some (.string y.text) := (x_a_N.cell (p := ⟨W.heap.size + 1, 4, none⟩) l_V).trans c_V_4
      replace c_R_0 : a_N.cell? ⟨W.heap.size + 1 + 1, 0, none⟩ = some (.slice none 0 0) := (x_a_N.cell (p := ⟨W.heap.size + 1 + 1, 0, none⟩) l_R).trans c_R_0
      replace c_R_1 : a_N.cell? ⟨W.heap.size + 1 + 1, 1, none⟩ = some (.slice none 0 0) := (x_a_N.cell (p := ⟨W.heap.size + 1 + 1, 1, none⟩) l_R).trans c_R_1
      replace l_A : W.heap.size < a_N.heap.size := Nat.lt_of_lt_of_le l_A x_a_N.size
      replace l_V : W.heap.size + 1 < a_N.heap.size := Nat.lt_of_lt_of_le l_V x_a_N.size
      replace l_R : W.heap.size + 1 + 1 < a_N.heap.size := Nat.lt_of_lt_of_le l_R x_a_N.size
      replace LA : Live (Old W) W a_N := LA.call x_a_N
      have y_a_N : w4.heap.size ≤ a_N.heap.size := x_a_N.size
      replace zP : W.heap.size ≤ a_N.heap.size := bP.size
      have l_N : w4.heap.size < a_N.heap.size := z_a_N
      rw [hw_a_N]
      have y_N := x_a_N; clear hw_a_N x_a_N
      have ST : PutSt a_N w3.heap.size w4.heap.size a_N x.keys.length x.keys.length (.slice au x.keys.length cu) (.slice (some ⟨gv, 0, none⟩) x.keys.length x.keys.length) (strCellsL x.keys) (valsCells (fillK x.vals x.keys.length)) := ⟨Below.refl _ _, own_later (ownsRow_mono HOU.out hC) y_N, own_later HOV.out y_N, fun q h1 h2 => by have := (HOU.out.lt q h1).1; simp [Value.ownBlock] at h2; omega, fun e => by have := (HOU.out.lt _ e).2; omega, fun e => by simp [Value.ownBlock] at e; omega, by omega, by omega, by omega⟩
      have hss : s.size ≤ 9223372036854775807 := hsz.out
      have ST0 := ST.drew
      have hb9_0 : a_N.drew.heap[w4.heap.size]? = a_N.heap[w4.heap.size]? := rfl
      go_wp2_with fail
      refine wp_region_held_drew (S := fun w' => w'.heap[w4.heap.size]? = a_N.heap[w4.heap.size]? ∧ w'.heap[W.heap.size + 1]? = a_N.heap[W.heap.size + 1]?) (by kernel_rfl) ?_ (fun hHeld => ?_)
      · exact ⟨rfl, rfl⟩
      refine wpAnyH_take (i := 0) (v := ?_) rfl (by kernel_rfl) (by kernel_rfl) (by kernel_rfl) (fun _ _ _ h => h) (Or.inl ⟨by rfl, ?_⟩) (by assumption) ?_
      rotate_left
      · (intro w' hSw; (try dsimp only at hSw); go_simp; try (with_reducible rfl))
      change wpAnyH _ _ _ _ _ _ _ (Act.put _ (some 38) _) _
      try simp only [Act.put, List.setIfInBounds_toArray, List.set_cons_zero, List.set_cons_succ]
      refine wpAnyH_take (i := 1) (v := ?_) rfl (by kernel_rfl) (by kernel_rfl) (by kernel_rfl) (fun _ _ _ h => h) (Or.inl ⟨by rfl, ?_⟩) (by assumption) ?_
      rotate_left
      · (intro w' hSw; (try dsimp only at hSw); (have g0 := (World.cell?_of_block (a := ⟨w4.heap.size, 0, none⟩) hSw.1).trans c_N_0; go_simp; try (with_reducible rfl)))
      change wpAnyH _ _ _ _ _ _ _ (Act.put _ (some 39) _) _
      try simp only [Act.put, List.setIfInBounds_toArray, List.set_cons_zero, List.set_cons_succ]
      refine wpAnyH_take (i := 2) (v := ?_) rfl (by kernel_rfl) (by kernel_rfl) (by kernel_rfl) (fun _ _ _ h => h) (Or.inl ⟨by rfl, ?_⟩) (by assumption) ?_
      rotate_left
      · (intro w' hSw; (try dsimp only at hSw); go_simp; try (with_reducible rfl))
      change wpAnyH _ _ _ _ _ _ _ (Act.put _ (some 40) _) _
      try simp only [Act.put, List.setIfInBounds_toArray, List.set_cons_zero, List.set_cons_succ]
      refine wpAnyH_take (i := 5) (v := ?_) rfl (by kernel_rfl) (by kernel_rfl) (by kernel_rfl) (fun _ _ _ h => h) (Or.inl ⟨by rfl, ?_⟩) (by assumption) ?_
      rotate_left
      · (intro w' hSw; (try dsimp only at hSw); go_simp; try (with_reducible rfl))
      change wpAnyH _ _ _ _ _ _ _ (Act.put _ (some 43) _) _
      try simp only [Act.put, List.setIfInBounds_toArray, List.set_cons_zero, List.set_cons_succ]
      refine wpAnyH_take (i := 6) (v := ?_) rfl (by kernel_rfl) (by kernel_rfl) (by kernel_rfl) (fun _ _ _ h => h) (Or.inl ⟨by rfl, ?_⟩) (by assumption) ?_
      rotate_left
      · (intro w' hSw; (try dsimp only at hSw); (have g0 := (World.cell?_of_block (a := ⟨w4.heap.size, 1, none⟩) hSw.1).trans c_N_1; go_simp; try (with_reducible rfl)))
      change wpAnyH _ _ _ _ _ _ _ (Act.put _ (some 44) _) _
      try simp only [Act.put, List.setIfInBounds_toArray, List.set_cons_zero, List.set_cons_succ]
      refine wpAnyH_take (i := 7) (v := ?_) rfl (by kernel_rfl) (by kernel_rfl) (by kernel_rfl) (fun _ _ _ h => h) (Or.inl ⟨by rfl, ?_⟩) (by assumption) ?_
      rotate_left
      · (intro w' hSw; (try dsimp only at hSw); (have g0 := (World.cell?_of_block (a := ⟨W.heap.size + 1, 0, none⟩) hSw.2).trans c_V_0; have g1 := (World.cell?_of_block (a := ⟨W.heap.size + 1, 1, none⟩) hSw.2).trans c_V_1; have g2 := (World.cell?_of_block (a := ⟨W.heap.size + 1, 2, none⟩) hSw.2).trans c_V_2; have g3 := (World.cell?_of_block (a := ⟨W.heap.size + 1, 3, none⟩) hSw.2).trans c_V_3; have g4 := (World.cell?_of_block (a := ⟨W.heap.size + 1, 4, none⟩) hSw.2).trans c_V_4; go_simp; try (with_reducible rfl)))
      change wpAnyH _ _ _ _ _ _ _ (Act.put _ (some 45) _) _
      try simp only [Act.put, List.setIfInBounds_toArray, List.set_cons_zero, List.set_cons_succ]
      refine wpAnyH_ready (rs := [3, 8]) (by kernel_rfl) (by simp) ?_
      refine AllReadyH.cons (i := 3) rfl (fun K hK => ?_) ?_
      · simp only [List.getElem_toArray, List.getElem_cons_succ, List.getElem_cons_zero]
        rw [if_pos (by rfl)]
        go_simp
        have ST1 := ST0.alloc (.cells #[.string s] 9)
        have hb9_1 : (a_N.drew.alloc (.cells #[.string s] 9)).heap[w4.heap.size]? = a_N.heap[w4.heap.size]? := (heap_alloc_old a_N.drew _ ST0.h9).trans hb9_0
        have BA := ST0.blk #[.string s] 9
        refine hK.out _ _ ?_ (fun hHeld => ?_)
        · first | trivial | ((try dsimp only); exact ⟨hb9_1, ST1.bel.block _ (by omega)⟩)
        clear hK K
        try simp only [Act.put, List.setIfInBounds_toArray, List.set_cons_zero, List.set_cons_succ]
        refine wpAnyH_ready (rs := [4, 8]) (by kernel_rfl) (by simp) ?_
        refine AllReadyH.cons (i := 4) rfl (fun K hK => ?_) ?_
        · simp only [List.getElem_toArray, List.getElem_cons_succ, List.getElem_cons_zero]
          rw [if_pos (by rfl)]
          refine wp_append_lies _ (.tmp 39) (.tmp 41) 22 rfl w3.heap.size 9 ii (.string ⟨#[]⟩) 1 16 Tryd.underlying22 hi hz0 hz1 hz2 rfl (by decide) (.slice au x.keys.length cu) x.keys.length (strCellsL x.keys) (by first | rfl | simp [Act.eval, Act.put]) ST1.hu ⟨a_N.drew.heap.size, 0, none⟩ 1 1 [.string s] (by first | rfl | simp [Act.eval, Act.put]) rfl (World.news_of_block (cs := #[.string s]) (t := 9) (fr := (0, 0)) BA.hp) (by intro u hu; simp at hu; subst hu; rfl) (by decide) (by unfold maxLen; omega) (by omega) ST1.hB _ rfl ?_
          intro g2 p2 q2 how hgw haw hlw
          have ST2 := ST1.apU rfl how hgw haw
          have hb9_2 := (ST1.box_u hgw).trans hb9_1
          replace BA := BA.apU (n' := x.keys.length + 1) (cap := p2) rfl hgw haw
          clear how hgw haw hlw
          have r_0 := (ST2.bel.cell (p := ⟨W.heap.size + 1 + 1, 0, none⟩) hR).trans c_R_0
          have r_1 := (ST2.bel.cell (p := ⟨W.heap.size + 1 + 1, 1, none⟩) hR).trans c_R_1
          have rz_0 := (ST2.bel.frozen (p := ⟨W.heap.size + 1 + 1, 0, none⟩) hR).trans z_R_0
          have rz_1 := (ST2.bel.frozen (p := ⟨W.heap.size + 1 + 1, 1, none⟩) hR).trans z_R_1
          have rl : W.heap.size + 1 + 1 < q2.heap.size := Nat.lt_of_lt_of_le l_R ST2.bel.size
          refine hK.out _ _ ?_ (fun hHeld => ?_)
          · first | trivial | ((try dsimp only); exact ⟨hb9_2, ST2.bel.block _ (by omega)⟩)
          clear hK K
          try simp only [Act.put, List.setIfInBounds_toArray, List.set_cons_zero, List.set_cons_succ]
          refine wpAnyH_ready (rs := [8]) (by kernel_rfl) (by simp) ?_
          refine AllReadyH.cons (i := 8) rfl (fun K hK => ?_) AllReadyH.nil
          simp only [List.getElem_toArray, List.getElem_cons_succ, List.getElem_cons_zero]
          rw [if_pos (by rfl)]
          go_simp
          have ST3 := ST2.alloc (.cells #[.int .i64 y.kind, .bool y.num.neg, .string y.num.dig, .int .i64 y.num.exp, .string y.text] 40)
          have hb9_3 : (q2.alloc (.cells #[.int .i64 y.kind, .bool y.num.neg, .string y.num.dig, .int .i64 y.num.exp, .string y.text] 40)).heap[w4.heap.size]? = a_N.heap[w4.heap.size]? := (heap_alloc_old q2 _ ST2.h9).trans hb9_2
          have BB := ST2.blk #[.int .i64 y.kind, .bool y.num.neg, .string y.num.dig, .int .i64 y.num.exp, .string y.text] 40
          replace BA := BA.alloc (.cells #[.int .i64 y.kind, .bool y.num.neg, .string y.num.dig, .int .i64 y.num.exp, .string y.text] 40)
          refine hK.out _ _ ?_ (fun hHeld => ?_)
          · first | trivial | ((try dsimp only); exact ⟨hb9_3, ST3.bel.block _ (by omega)⟩)
          clear hK K
          try simp only [Act.put, List.setIfInBounds_toArray, List.set_cons_zero, List.set_cons_succ]
          refine wpAnyH_ready (rs := [9]) (by kernel_rfl) (by simp) ?_
          refine AllReadyH.cons (i := 9) rfl (fun K hK => ?_) AllReadyH.nil
          simp only [List.getElem_toArray, List.getElem_cons_succ, List.getElem_cons_zero]
          rw [if_pos (by rfl)]
          refine wp_append_lies _ (.tmp 44) (.tmp 46) 32 rfl w3.heap.size 40 jj (.agg #[.int .i64 0, .bool false, .string ⟨#[]⟩, .int .i64 0, .string ⟨#[]⟩]) 5 56 Tryd.underlying32 ki kz0 kz1 kz2 rfl (by decide) (.slice (some ⟨gv, 0, none⟩) x.keys.length x.keys.length) x.keys.length (valsCells (fillK x.vals x.keys.length)) (by first | rfl | simp [Act.eval, Act.put]) ST3.hv ⟨q2.heap.size, 0, none⟩ 1 1 [.int .i64 y.kind, .bool y.num.neg, .string y.num.dig, .int .i64 y.num.exp, .string y.text] (by first | rfl | simp [Act.eval, Act.put]) rfl (World.news_of_block (cs := #[.int .i64 y.kind, .bool y.num.neg, .string y.num.dig, .int .i64 y.num.exp, .string y.text]) (t := 40) (fr := (0, 0)) BB.hp) (one_valCells y) (by decide) (by unfold maxLen; omega) (by omega) ST3.hB _ rfl ?_
          intro g4 p4 q4 how hgw haw hlw
          have ST4 := ST3.apV rfl how hgw haw
          have hb9_4 := (ST3.box_v hgw).trans hb9_3
          replace BA := BA.apV (m' := x.keys.length + 1) (cap := p4) rfl hgw haw
          replace BB := BB.apV (m' := x.keys.length + 1) (cap := p4) rfl hgw haw
          clear how hgw haw hlw
          have r_0 := (ST4.bel.cell (p := ⟨W.heap.size + 1 + 1, 0, none⟩) hR).trans c_R_0
          have r_1 := (ST4.bel.cell (p := ⟨W.heap.size + 1 + 1, 1, none⟩) hR).trans c_R_1
          have rz_0 := (ST4.bel.frozen (p := ⟨W.heap.size + 1 + 1, 0, none⟩) hR).trans z_R_0
          have rz_1 := (ST4.bel.frozen (p := ⟨W.heap.size + 1 + 1, 1, none⟩) hR).trans z_R_1
          have rl : W.heap.size + 1 + 1 < q4.heap.size := Nat.lt_of_lt_of_le l_R ST4.bel.size
          refine hK.out _ _ ?_ (fun hHeld => ?_)
          · first | trivial | ((try dsimp only); exact ⟨hb9_4, ST4.bel.block _ (by omega)⟩)
          clear hK K
          try simp only [Act.put, List.setIfInBounds_toArray, List.set_cons_zero, List.set_cons_succ]
          refine wpAnyH_take (i := 10) (v := ?_) rfl (by kernel_rfl) (by kernel_rfl) (by kernel_rfl) (fun _ _ _ h => h) (Or.inl ⟨by rfl, ?_⟩) (by assumption) ?_
          rotate_left
          · (intro w' hSw; (try dsimp only at hSw); go_simp; try (with_reducible rfl))
          change wpAnyH _ _ _ _ _ _ _ (Act.put _ (some 48) _) _
          try simp only [Act.put, List.setIfInBounds_toArray, List.set_cons_zero, List.set_cons_succ]
          refine wpAnyH_ready (rs := [11]) (by kernel_rfl) (by simp) ?_
          refine AllReadyH.cons (i := 11) rfl (fun K hK => ?_) AllReadyH.nil
          simp only [List.getElem_toArray, List.getElem_cons_succ, List.getElem_cons_zero]
          rw [if_pos (by rfl)]
          go_simp
          refine hK.out _ _ ?_ (fun hHeld => ?_)
          · first | trivial | ((try dsimp only); exact ⟨(heap_setCell_other _ _ _ _ (by intro e; simp only at e; omega)).trans ((heap_setCell_other _ _ _ _ (by intro e; simp only at e; omega)).trans hb9_4), (heap_setCell_other _ _ _ _ (by intro e; simp only at e; omega)).trans ((heap_setCell_other _ _ _ _ (by intro e; simp only at e; omega)).trans (ST4.bel.block _ (by omega)))⟩)
          clear hK K
          try simp only [Act.put, List.setIfInBounds_toArray, List.set_cons_zero, List.set_cons_succ]
          refine wpAnyH_take (i := 12) (v := ?_) rfl (by kernel_rfl) (by kernel_rfl) (by kernel_rfl) (fun _ _ _ h => h) (Or.inl ⟨by rfl, ?_⟩) (by assumption) ?_
          rotate_left
          · (intro w' hSw; (try dsimp only at hSw); go_simp; try (with_reducible rfl))
          change wpAnyH _ _ _ _ _ _ _ (Act.put _ (some 7) _) _
          try simp only [Act.put, List.setIfInBounds_toArray, List.set_cons_zero, List.set_cons_succ]
          refine wpAnyH_done (by kernel_rfl) ?_ _
          have bF : Below W.heap.size W q4 := ⟨ST4.bel.os.trans bP.os, ST4.bel.tape.trans bP.tape, ST4.bel.output.trans bP.output, Nat.le_trans bP.size ST4.bel.size, fun c hc => (ST4.bel.block c (by omega)).trans (bP.block c hc)⟩
          have HU := hid ST4.hu
          have HV := hid ST4.hv
          have HNE := hid ST4.ne
          have hsz := ST4.hB
          clear ST0 hb9_0 ST1 hb9_1 ST2 hb9_2 ST3 hb9_3 ST4 hb9_4 hHeld
          go_wp2
          refine bodyPost_ret (v := .tuple #[.agg #[.slice (some ⟨g2, 0, none⟩) (x.keys.length + 1) p2, .slice (some ⟨g4, 0, none⟩) (x.keys.length + 1) p4], .bool true]) (by simp [results, Tryd.results11, go_sem, r_0, r_1, rz_0, rz_1, rl]) rfl ⟨_, by rw [HP.out], ?_, ?_, ?_⟩
          · rw [HR.out]
            exact rdArr_own (B := w3.heap.size) (C := w3.heap.size) (e1 := 9) (e2 := 40) (by repeat' (first | exact (show World.ownsRow _ _ _ _ _ (x.keys ++ [s]).length _ by rw [List.length_append, strCells_append]; exact HU.out) | (refine ownsRow_setCell_below ?_ ?_ _) | (refine ownsRow_setCell_other ?_ hgu _) | (show W.heap.size + 1 + 1 < _; omega))) (by repeat' (first | exact (show World.ownsRow _ _ _ _ _ (fillK x.vals x.keys.length ++ [y]).length _ by rw [List.length_append, fillK_len, valsCells_append, (show valsCells [y] = valCells y by simp [valsCells])]; exact HV.out) | (refine ownsRow_setCell_below ?_ ?_ _) | (refine ownsRow_setCell_other ?_ hgu _) | (show W.heap.size + 1 + 1 < _; omega))) (by omega) (by omega) (by intro t ht; rcases List.mem_append.1 ht with h | h; exact HSK.out t h; (simp only [List.mem_singleton] at h; subst h; exact hss)) (by intro t ht; rcases List.mem_append.1 ht with h | h; exact HVK.out t h; (simp only [List.mem_singleton] at h; subst h; exact HYK.out))
          · rw [HR.out]
            exact owArr_own (B := w3.heap.size) (C := w3.heap.size) (e1 := 9) (e2 := 40) (by repeat' (first | exact (show World.ownsRow _ _ _ _ _ (x.keys ++ [s]).length _ by rw [List.length_append, strCells_append]; exact HU.out) | (refine ownsRow_setCell_below ?_ ?_ _) | (refine ownsRow_setCell_other ?_ hgu _) | (show W.heap.size + 1 + 1 < _; omega))) (by repeat' (first | exact (show World.ownsRow _ _ _ _ _ (fillK x.vals x.keys.length ++ [y]).length _ by rw [List.length_append, fillK_len, valsCells_append, (show valsCells [y] = valCells y by simp [valsCells])]; exact HV.out) | (refine ownsRow_setCell_below ?_ ?_ _) | (refine ownsRow_setCell_other ?_ hgu _) | (show W.heap.size + 1 + 1 < _; omega))) (by omega) (by omega) (HNE.out)
          · repeat' (first | (with_reducible exact bF) | (with_reducible refine Below.setCell ?_ ?_ _) | (with_reducible refine Below.alloc ?_ ?_ _) | (simp; done) | (simp; omega) | omega)
        refine AllReadyH.cons (i := 8) rfl (fun K hK => ?_) ?_
        · simp only [List.getElem_toArray, List.getElem_cons_succ, List.getElem_cons_zero]
          rw [if_pos (by rfl)]
          go_simp
          have ST2 := ST1.alloc (.cells #[.int .i64 y.kind, .bool y.num.neg, .string y.num.dig, .int .i64 y.num.exp, .string y.text] 40)
          have hb9_2 : ((a_N.drew.alloc (.cells #[.string s] 9)).alloc (.cells #[.int .i64 y.kind, .bool y.num.neg, .string y.num.dig, .int .i64 y.num.exp, .string y.text] 40)).heap[w4.heap.size]? = a_N.heap[w4.heap.size]? := (heap_alloc_old (a_N.drew.alloc (.cells #[.string s] 9)) _ ST1.h9).trans hb9_1
          have BB := ST1.blk #[.int .i64 y.kind, .bool y.num.neg, .string y.num.dig, .int .i64 y.num.exp, .string y.text] 40
          replace BA := BA.alloc (.cells #[.int .i64 y.kind, .bool y.num.neg, .string y.num.dig, .int .i64 y.num.exp, .string y.text] 40)
          refine hK.out _ _ ?_ (fun hHeld => ?_)
          · first | trivial | ((try dsimp only); exact ⟨hb9_2, ST2.bel.block _ (by omega)⟩)
          clear hK K
          try simp only [Act.put, List.setIfInBounds_toArray, List.set_cons_zero, List.set_cons_succ]
          refine wpAnyH_ready (rs := [4]) (by kernel_rfl) (by simp) ?_
          refine AllReadyH.cons (i := 4) rfl (fun K hK => ?_) AllReadyH.nil
          simp only [List.getElem_toArray, List.getElem_cons_succ, List.getElem_cons_zero]
          rw [if_pos (by rfl)]
          refine wp_append_lies _ (.tmp 39) (.tmp 41) 22 rfl w3.heap.size 9 ii (.string ⟨#[]⟩) 1 16 Tryd.underlying22 hi hz0 hz1 hz2 rfl (by decide) (.slice au x.keys.length cu) x.keys.length (strCellsL x.keys) (by first | rfl | simp [Act.eval, Act.put]) ST2.hu ⟨a_N.drew.heap.size, 0, none⟩ 1 1 [.string s] (by first | rfl | simp [Act.eval, Act.put]) rfl (World.news_of_block (cs := #[.string s]) (t := 9) (fr := (0, 0)) BA.hp) (by intro u hu; simp at hu; subst hu; rfl) (by decide) (by unfold maxLen; omega) (by omega) ST2.hB _ rfl ?_
          intro g3 p3 q3 how hgw haw hlw
          have ST3 := ST2.apU rfl how hgw haw
          have hb9_3 := (ST2.box_u hgw).trans hb9_2
          replace BA := BA.apU (n' := x.keys.length + 1) (cap := p3) rfl hgw haw
          replace BB := BB.apU (n' := x.keys.length + 1) (cap := p3) rfl hgw haw
          clear how hgw haw hlw
          have r_0 := (ST3.bel.cell (p := ⟨W.heap.size + 1 + 1, 0, none⟩) hR).trans c_R_0
          have r_1 := (ST3.bel.cell (p := ⟨W.heap.size + 1 + 1, 1, none⟩) hR).trans c_R_1
          have rz_0 := (ST3.bel.frozen (p := ⟨W.heap.size + 1 + 1, 0, none⟩) hR).trans z_R_0
          have rz_1 := (ST3.bel.frozen (p := ⟨W.heap.size + 1 + 1, 1, none⟩) hR).trans z_R_1
          have rl : W.heap.size + 1 + 1 < q3.heap.size := Nat.lt_of_lt_of_le l_R ST3.bel.size
          refine hK.out _ _ ?_ (fun hHeld => ?_)
          · first | trivial | ((try dsimp only); exact ⟨hb9_3, ST3.bel.block _ (by omega)⟩)
          clear hK K
          try simp only [Act.put, List.setIfInBounds_toArray, List.set_cons_zero, List.set_cons_succ]
          refine wpAnyH_ready (rs := [9]) (by kernel_rfl) (by simp) ?_
          refine AllReadyH.cons (i := 9) rfl (fun K hK => ?_) AllReadyH.nil
          simp only [List.getElem_toArray, List.getElem_cons_succ, List.getElem_cons_zero]
          rw [if_pos (by rfl)]
          refine wp_append_lies _ (.tmp 44) (.tmp 46) 32 rfl w3.heap.size 40 jj (.agg #[.int .i64 0, .bool false, .string ⟨#[]⟩, .int .i64 0, .string ⟨#[]⟩]) 5 56 Tryd.underlying32 ki kz0 kz1 kz2 rfl (by decide) (.slice (some ⟨gv, 0, none⟩) x.keys.length x.keys.length) x.keys.length (valsCells (fillK x.vals x.keys.length)) (by first | rfl | simp [Act.eval, Act.put]) ST3.hv ⟨(a_N.drew.alloc (.cells #[.string s] 9)).heap.size, 0, none⟩ 1 1 [.int .i64 y.kind, .bool y.num.neg, .string y.num.dig, .int .i64 y.num.exp, .string y.text] (by first | rfl | simp [Act.eval, Act.put]) rfl (World.news_of_block (cs := #[.int .i64 y.kind, .bool y.num.neg, .string y.num.dig, .int .i64 y.num.exp, .string y.text]) (t := 40) (fr := (0, 0)) BB.hp) (one_valCells y) (by decide) (by unfold maxLen; omega) (by omega) ST3.hB _ rfl ?_
          intro g4 p4 q4 how hgw haw hlw
          have ST4 := ST3.apV rfl how hgw haw
          have hb9_4 := (ST3.box_v hgw).trans hb9_3
          replace BA := BA.apV (m' := x.keys.length + 1) (cap := p4) rfl hgw haw
          replace BB := BB.apV (m' := x.keys.length + 1) (cap := p4) rfl hgw haw
          clear how hgw haw hlw
          have r_0 := (ST4.bel.cell (p := ⟨W.heap.size + 1 + 1, 0, none⟩) hR).trans c_R_0
          have r_1 := (ST4.bel.cell (p := ⟨W.heap.size + 1 + 1, 1, none⟩) hR).trans c_R_1
          have rz_0 := (ST4.bel.frozen (p := ⟨W.heap.size + 1 + 1, 0, none⟩) hR).trans z_R_0
          have rz_1 := (ST4.bel.frozen (p := ⟨W.heap.size + 1 + 1, 1, none⟩) hR).trans z_R_1
          have rl : W.heap.size + 1 + 1 < q4.heap.size := Nat.lt_of_lt_of_le l_R ST4.bel.size
          refine hK.out _ _ ?_ (fun hHeld => ?_)
          · first | trivial | ((try dsimp only); exact ⟨hb9_4, ST4.bel.block _ (by omega)⟩)
          clear hK K
          try simp only [Act.put, List.setIfInBounds_toArray, List.set_cons_zero, List.set_cons_succ]
          refine wpAnyH_take (i := 10) (v := ?_) rfl (by kernel_rfl) (by kernel_rfl) (by kernel_rfl) (fun _ _ _ h => h) (Or.inl ⟨by rfl, ?_⟩) (by assumption) ?_
          rotate_left
          · (intro w' hSw; (try dsimp only at hSw); go_simp; try (with_reducible rfl))
          change wpAnyH _ _ _ _ _ _ _ (Act.put _ (some 48) _) _
          try simp only [Act.put, List.setIfInBounds_toArray, List.set_cons_zero, List.set_cons_succ]
          refine wpAnyH_ready (rs := [11]) (by kernel_rfl) (by simp) ?_
          refine AllReadyH.cons (i := 11) rfl (fun K hK => ?_) AllReadyH.nil
          simp only [List.getElem_toArray, List.getElem_cons_succ, List.getElem_cons_zero]
          rw [if_pos (by rfl)]
          go_simp
          refine hK.out _ _ ?_ (fun hHeld => ?_)
          · first | trivial | ((try dsimp only); exact ⟨(heap_setCell_other _ _ _ _ (by intro e; simp only at e; omega)).trans ((heap_setCell_other _ _ _ _ (by intro e; simp only at e; omega)).trans hb9_4), (heap_setCell_other _ _ _ _ (by intro e; simp only at e; omega)).trans ((heap_setCell_other _ _ _ _ (by intro e; simp only at e; omega)).trans (ST4.bel.block _ (by omega)))⟩)
          clear hK K
          try simp only [Act.put, List.setIfInBounds_toArray, List.set_cons_zero, List.set_cons_succ]
          refine wpAnyH_take (i := 12) (v := ?_) rfl (by kernel_rfl) (by kernel_rfl) (by kernel_rfl) (fun _ _ _ h => h) (Or.inl ⟨by rfl, ?_⟩) (by assumption) ?_
          rotate_left
          · (intro w' hSw; (try dsimp only at hSw); go_simp; try (with_reducible rfl))
          change wpAnyH _ _ _ _ _ _ _ (Act.put _ (some 7) _) _
          try simp only [Act.put, List.setIfInBounds_toArray, List.set_cons_zero, List.set_cons_succ]
          refine wpAnyH_done (by kernel_rfl) ?_ _
          have bF : Below W.heap.size W q4 := ⟨ST4.bel.os.trans bP.os, ST4.bel.tape.trans bP.tape, ST4.bel.output.trans bP.output, Nat.le_trans bP.size ST4.bel.size, fun c hc => (ST4.bel.block c (by omega)).trans (bP.block c hc)⟩
          have HU := hid ST4.hu
          have HV := hid ST4.hv
          have HNE := hid ST4.ne
          have hsz := ST4.hB
          clear ST0 hb9_0 ST1 hb9_1 ST2 hb9_2 ST3 hb9_3 ST4 hb9_4 hHeld
          go_wp2
          refine bodyPost_ret (v := .tuple #[.agg #[.slice (some ⟨g3, 0, none⟩) (x.keys.length + 1) p3, .slice (some ⟨g4, 0, none⟩) (x.keys.length + 1) p4], .bool true]) (by simp [results, Tryd.results11, go_sem, r_0, r_1, rz_0, rz_1, rl]) rfl ⟨_, by rw [HP.out], ?_, ?_, ?_⟩
          · rw [HR.out]
            exact rdArr_own (B := w3.heap.size) (C := w3.heap.size) (e1 := 9) (e2 := 40) (by repeat' (first | exact (show World.ownsRow _ _ _ _ _ (x.keys ++ [s]).length _ by rw [List.length_append, strCells_append]; exact HU.out) | (refine ownsRow_setCell_below ?_ ?_ _) | (refine ownsRow_setCell_other ?_ hgu _) | (show W.heap.size + 1 + 1 < _; omega))) (by repeat' (first | exact (show World.ownsRow _ _ _ _ _ (fillK x.vals x.keys.length ++ [y]).length _ by rw [List.length_append, fillK_len, valsCells_append, (show valsCells [y] = valCells y by simp [valsCells])]; exact HV.out) | (refine ownsRow_setCell_below ?_ ?_ _) | (refine ownsRow_setCell_other ?_ hgu _) | (show W.heap.size + 1 + 1 < _; omega))) (by omega) (by omega) (by intro t ht; rcases List.mem_append.1 ht with h | h; exact HSK.out t h; (simp only [List.mem_singleton] at h; subst h; exact hss)) (by intro t ht; rcases List.mem_append.1 ht with h | h; exact HVK.out t h; (simp only [List.mem_singleton] at h; subst h; exact HYK.out))
          · rw [HR.out]
            exact owArr_own (B := w3.heap.size) (C := w3.heap.size) (e1 := 9) (e2 := 40) (by repeat' (first | exact (show World.ownsRow _ _ _ _ _ (x.keys ++ [s]).length _ by rw [List.length_append, strCells_append]; exact HU.out) | (refine ownsRow_setCell_below ?_ ?_ _) | (refine ownsRow_setCell_other ?_ hgu _) | (show W.heap.size + 1 + 1 < _; omega))) (by repeat' (first | exact (show World.ownsRow _ _ _ _ _ (fillK x.vals x.keys.length ++ [y]).length _ by rw [List.length_append, fillK_len, valsCells_append, (show valsCells [y] = valCells y by simp [valsCells])]; exact HV.out) | (refine ownsRow_setCell_below ?_ ?_ _) | (refine ownsRow_setCell_other ?_ hgu _) | (show W.heap.size + 1 + 1 < _; omega))) (by omega) (by omega) (HNE.out)
          · repeat' (first | (with_reducible exact bF) | (with_reducible refine Below.setCell ?_ ?_ _) | (with_reducible refine Below.alloc ?_ ?_ _) | (simp; done) | (simp; omega) | omega)
        exact AllReadyH.nil
      refine AllReadyH.cons (i := 8) rfl (fun K hK => ?_) ?_
      · simp only [List.getElem_toArray, List.getElem_cons_succ, List.getElem_cons_zero]
        rw [if_pos (by rfl)]
        go_simp
        have ST1 := ST0.alloc (.cells #[.int .i64 y.kind, .bool y.num.neg, .string y.num.dig, .int .i64 y.num.exp, .string y.text] 40)
        have hb9_1 : (a_N.drew.alloc (.cells #[.int .i64 y.kind, .bool y.num.neg, .string y.num.dig, .int .i64 y.num.exp, .string y.text] 40)).heap[w4.heap.size]? = a_N.heap[w4.heap.size]? := (heap_alloc_old a_N.drew _ ST0.h9).trans hb9_0
        have BB := ST0.blk #[.int .i64 y.kind, .bool y.num.neg, .string y.num.dig, .int .i64 y.num.exp, .string y.text] 40
        refine hK.out _ _ ?_ (fun hHeld => ?_)
        · first | trivial | ((try dsimp only); exact ⟨hb9_1, ST1.bel.block _ (by omega)⟩)
        clear hK K
        try simp only [Act.put, List.setIfInBounds_toArray, List.set_cons_zero, List.set_cons_succ]
        refine wpAnyH_ready (rs := [3]) (by kernel_rfl) (by simp) ?_
        refine AllReadyH.cons (i := 3) rfl (fun K hK => ?_) AllReadyH.nil
        simp only [List.getElem_toArray, List.getElem_cons_succ, List.getElem_cons_zero]
        rw [if_pos (by rfl)]
        go_simp
        have ST2 := ST1.alloc (.cells #[.string s] 9)
        have hb9_2 : ((a_N.drew.alloc (.cells #[.int .i64 y.kind, .bool y.num.neg, .string y.num.dig, .int .i64 y.num.exp, .string y.text] 40)).alloc (.cells #[.string s] 9)).heap[w4.heap.size]? = a_N.heap[w4.heap.size]? := (heap_alloc_old (a_N.drew.alloc (.cells #[.int .i64 y.kind, .bool y.num.neg, .string y.num.dig, .int .i64 y.num.exp, .string y.text] 40)) _ ST1.h9).trans hb9_1
        have BA := ST1.blk #[.string s] 9
        replace BB := BB.alloc (.cells #[.string s] 9)
        refine hK.out _ _ ?_ (fun hHeld => ?_)
        · first | trivial | ((try dsimp only); exact ⟨hb9_2, ST2.bel.block _ (by omega)⟩)
        clear hK K
        try simp only [Act.put, List.setIfInBounds_toArray, List.set_cons_zero, List.set_cons_succ]
        refine wpAnyH_ready (rs := [4]) (by kernel_rfl) (by simp) ?_
        refine AllReadyH.cons (i := 4) rfl (fun K hK => ?_) AllReadyH.nil
        simp only [List.getElem_toArray, List.getElem_cons_succ, List.getElem_cons_zero]
        rw [if_pos (by rfl)]
        refine wp_append_lies _ (.tmp 39) (.tmp 41) 22 rfl w3.heap.size 9 ii (.string ⟨#[]⟩) 1 16 Tryd.underlying22 hi hz0 hz1 hz2 rfl (by decide) (.slice au x.keys.length cu) x.keys.length (strCellsL x.keys) (by first | rfl | simp [Act.eval, Act.put]) ST2.hu ⟨(a_N.drew.alloc (.cells #[.int .i64 y.kind, .bool y.num.neg, .string y.num.dig, .int .i64 y.num.exp, .string y.text] 40)).heap.size, 0, none⟩ 1 1 [.string s] (by first | rfl | simp [Act.eval, Act.put]) rfl (World.news_of_block (cs := #[.string s]) (t := 9) (fr := (0, 0)) BA.hp) (by intro u hu; simp at hu; subst hu; rfl) (by decide) (by unfold maxLen; omega) (by omega) ST2.hB _ rfl ?_
        intro g3 p3 q3 how hgw haw hlw
        have ST3 := ST2.apU rfl how hgw haw
        have hb9_3 := (ST2.box_u hgw).trans hb9_2
        replace BB := BB.apU (n' := x.keys.length + 1) (cap := p3) rfl hgw haw
        replace BA := BA.apU (n' := x.keys.length + 1) (cap := p3) rfl hgw haw
        clear how hgw haw hlw
        have r_0 := (ST3.bel.cell (p := ⟨W.heap.size + 1 + 1, 0, none⟩) hR).trans c_R_0
        have r_1 := (ST3.bel.cell (p := ⟨W.heap.size + 1 + 1, 1, none⟩) hR).trans c_R_1
        have rz_0 := (ST3.bel.frozen (p := ⟨W.heap.size + 1 + 1, 0, none⟩) hR).trans z_R_0
        have rz_1 := (ST3.bel.frozen (p := ⟨W.heap.size + 1 + 1, 1, none⟩) hR).trans z_R_1
        have rl : W.heap.size + 1 + 1 < q3.heap.size := Nat.lt_of_lt_of_le l_R ST3.bel.size
        refine hK.out _ _ ?_ (fun hHeld => ?_)
        · first | trivial | ((try dsimp only); exact ⟨hb9_3, ST3.bel.block _ (by omega)⟩)
        clear hK K
        try simp only [Act.put, List.setIfInBounds_toArray, List.set_cons_zero, List.set_cons_succ]
        refine wpAnyH_ready (rs := [9]) (by kernel_rfl) (by simp) ?_
        refine AllReadyH.cons (i := 9) rfl (fun K hK => ?_) AllReadyH.nil
        simp only [List.getElem_toArray, List.getElem_cons_succ, List.getElem_cons_zero]
        rw [if_pos (by rfl)]
        refine wp_append_lies _ (.tmp 44) (.tmp 46) 32 rfl w3.heap.size 40 jj (.agg #[.int .i64 0, .bool false, .string ⟨#[]⟩, .int .i64 0, .string ⟨#[]⟩]) 5 56 Tryd.underlying32 ki kz0 kz1 kz2 rfl (by decide) (.slice (some ⟨gv, 0, none⟩) x.keys.length x.keys.length) x.keys.length (valsCells (fillK x.vals x.keys.length)) (by first | rfl | simp [Act.eval, Act.put]) ST3.hv ⟨a_N.drew.heap.size, 0, none⟩ 1 1 [.int .i64 y.kind, .bool y.num.neg, .string y.num.dig, .int .i64 y.num.exp, .string y.text] (by first | rfl | simp [Act.eval, Act.put]) rfl (World.news_of_block (cs := #[.int .i64 y.kind, .bool y.num.neg, .string y.num.dig, .int .i64 y.num.exp, .string y.text]) (t := 40) (fr := (0, 0)) BB.hp) (one_valCells y) (by decide) (by unfold maxLen; omega) (by omega) ST3.hB _ rfl ?_
        intro g4 p4 q4 how hgw haw hlw
        have ST4 := ST3.apV rfl how hgw haw
        have hb9_4 := (ST3.box_v hgw).trans hb9_3
        replace BB := BB.apV (m' := x.keys.length + 1) (cap := p4) rfl hgw haw
        replace BA := BA.apV (m' := x.keys.length + 1) (cap := p4) rfl hgw haw
        clear how hgw haw hlw
        have r_0 := (ST4.bel.cell (p := ⟨W.heap.size + 1 + 1, 0, none⟩) hR).trans c_R_0
        have r_1 := (ST4.bel.cell (p := ⟨W.heap.size + 1 + 1, 1, none⟩) hR).trans c_R_1
        have rz_0 := (ST4.bel.frozen (p := ⟨W.heap.size + 1 + 1, 0, none⟩) hR).trans z_R_0
        have rz_1 := (ST4.bel.frozen (p := ⟨W.heap.size + 1 + 1, 1, none⟩) hR).trans z_R_1
        have rl : W.heap.size + 1 + 1 < q4.heap.size := Nat.lt_of_lt_of_le l_R ST4.bel.size
        refine hK.out _ _ ?_ (fun hHeld => ?_)
        · first | trivial | ((try dsimp only); exact ⟨hb9_4, ST4.bel.block _ (by omega)⟩)
        clear hK K
        try simp only [Act.put, List.setIfInBounds_toArray, List.set_cons_zero, List.set_cons_succ]
        refine wpAnyH_take (i := 10) (v := ?_) rfl (by kernel_rfl) (by kernel_rfl) (by kernel_rfl) (fun _ _ _ h => h) (Or.inl ⟨by rfl, ?_⟩) (by assumption) ?_
        rotate_left
        · (intro w' hSw; (try dsimp only at hSw); go_simp; try (with_reducible rfl))
        change wpAnyH _ _ _ _ _ _ _ (Act.put _ (some 48) _) _
        try simp only [Act.put, List.setIfInBounds_toArray, List.set_cons_zero, List.set_cons_succ]
        refine wpAnyH_ready (rs := [11]) (by kernel_rfl) (by simp) ?_
        refine AllReadyH.cons (i := 11) rfl (fun K hK => ?_) AllReadyH.nil
        simp only [List.getElem_toArray, List.getElem_cons_succ, List.getElem_cons_zero]
        rw [if_pos (by rfl)]
        go_simp
        refine hK.out _ _ ?_ (fun hHeld => ?_)
        · first | trivial | ((try dsimp only); exact ⟨(heap_setCell_other _ _ _ _ (by intro e; simp only at e; omega)).trans ((heap_setCell_other _ _ _ _ (by intro e; simp only at e; omega)).trans hb9_4), (heap_setCell_other _ _ _ _ (by intro e; simp only at e; omega)).trans ((heap_setCell_other _ _ _ _ (by intro e; simp only at e; omega)).trans (ST4.bel.block _ (by omega)))⟩)
        clear hK K
        try simp only [Act.put, List.setIfInBounds_toArray, List.set_cons_zero, List.set_cons_succ]
        refine wpAnyH_take (i := 12) (v := ?_) rfl (by kernel_rfl) (by kernel_rfl) (by kernel_rfl) (fun _ _ _ h => h) (Or.inl ⟨by rfl, ?_⟩) (by assumption) ?_
        rotate_left
        · (intro w' hSw; (try dsimp only at hSw); go_simp; try (with_reducible rfl))
        change wpAnyH _ _ _ _ _ _ _ (Act.put _ (some 7) _) _
        try simp only [Act.put, List.setIfInBounds_toArray, List.set_cons_zero, List.set_cons_succ]
        refine wpAnyH_done (by kernel_rfl) ?_ _
        have bF : Below W.heap.size W q4 := ⟨ST4.bel.os.trans bP.os, ST4.bel.tape.trans bP.tape, ST4.bel.output.trans bP.output, Nat.le_trans bP.size ST4.bel.size, fun c hc => (ST4.bel.block c (by omega)).trans (bP.block c hc)⟩
        have HU := hid ST4.hu
        have HV := hid ST4.hv
        have HNE := hid ST4.ne
        have hsz := ST4.hB
        clear ST0 hb9_0 ST1 hb9_1 ST2 hb9_2 ST3 hb9_3 ST4 hb9_4 hHeld
        go_wp2
        refine bodyPost_ret (v := .tuple #[.agg #[.slice (some ⟨g3, 0, none⟩) (x.keys.length + 1) p3, .slice (some ⟨g4, 0, none⟩) (x.keys.length + 1) p4], .bool true]) (by simp [results, Tryd.results11, go_sem, r_0, r_1, rz_0, rz_1, rl]) rfl ⟨_, by rw [HP.out], ?_, ?_, ?_⟩
        · rw [HR.out]
          exact rdArr_own (B := w3.heap.size) (C := w3.heap.size) (e1 := 9) (e2 := 40) (by repeat' (first | exact (show World.ownsRow _ _ _ _ _ (x.keys ++ [s]).length _ by rw [List.length_append, strCells_append]; exact HU.out) | (refine ownsRow_setCell_below ?_ ?_ _) | (refine ownsRow_setCell_other ?_ hgu _) | (show W.heap.size + 1 + 1 < _; omega))) (by repeat' (first | exact (show World.ownsRow _ _ _ _ _ (fillK x.vals x.keys.length ++ [y]).length _ by rw [List.length_append, fillK_len, valsCells_append, (show valsCells [y] = valCells y by simp [valsCells])]; exact HV.out) | (refine ownsRow_setCell_below ?_ ?_ _) | (refine ownsRow_setCell_other ?_ hgu _) | (show W.heap.size + 1 + 1 < _; omega))) (by omega) (by omega) (by intro t ht; rcases List.mem_append.1 ht with h | h; exact HSK.out t h; (simp only [List.mem_singleton] at h; subst h; exact hss)) (by intro t ht; rcases List.mem_append.1 ht with h | h; exact HVK.out t h; (simp only [List.mem_singleton] at h; subst h; exact HYK.out))
        · rw [HR.out]
          exact owArr_own (B := w3.heap.size) (C := w3.heap.size) (e1 := 9) (e2 := 40) (by repeat' (first | exact (show World.ownsRow _ _ _ _ _ (x.keys ++ [s]).length _ by rw [List.length_append, strCells_append]; exact HU.out) | (refine ownsRow_setCell_below ?_ ?_ _) | (refine ownsRow_setCell_other ?_ hgu _) | (show W.heap.size + 1 + 1 < _; omega))) (by repeat' (first | exact (show World.ownsRow _ _ _ _ _ (fillK x.vals x.keys.length ++ [y]).length _ by rw [List.length_append, fillK_len, valsCells_append, (show valsCells [y] = valCells y by simp [valsCells])]; exact HV.out) | (refine ownsRow_setCell_below ?_ ?_ _) | (refine ownsRow_setCell_other ?_ hgu _) | (show W.heap.size + 1 + 1 < _; omega))) (by omega) (by omega) (HNE.out)
        · repeat' (first | (with_reducible exact bF) | (with_reducible refine Below.setCell ?_ ?_ _) | (with_reducible refine Below.alloc ?_ ?_ _) | (simp; done) | (simp; omega) | omega)
      exact AllReadyH.nil
  · have HP : Hid (putOk x s y = true) := hid (by unfold putOk; rw [hts, hvs, HK.out, decide_eq_false hat]; rfl)
    obtain ⟨j, rfl⟩ := Int.eq_ofNat_of_zero_le (show 0 ≤ k by omega)
    have hjn : j < x.keys.length := by omega
    have HR := hid (show arrPut x s y = ⟨x.keys, (fillK x.vals x.keys.length).set j y⟩ by unfold arrPut arrSet; rw [HP.out, HK.out, if_pos rfl, if_neg hat]; rfl)
    clear hts hvs
    go_wp2_with fail
    have l_R_g := l_R
    refine (implFilled _ (by exact LA.rd H0) hn).mono ?_
    rintro e w4 ⟨_, u, v, rfl, rfl, hb, C, hC, hou, ⟨gv, rfl, hgv⟩, hov⟩
    replace z_R_0 : w4.frozen? ⟨W.heap.size + 1 + 1, 0, none⟩ = false := (hb.frozen (p := ⟨W.heap.size + 1 + 1, 0, none⟩) l_R).trans z_R_0
    replace z_R_1 : w4.frozen? ⟨W.heap.size + 1 + 1, 1, none⟩ = false := (hb.frozen (p := ⟨W.heap.size + 1 + 1, 1, none⟩) l_R).trans z_R_1
    replace hT : Tabs w4 := tabs_below hT hb
    replace bP : Below W.heap.size W w4 := bw_call bP zP hb
    replace c_A_0 : w4.cell? ⟨W.heap.size, 0, none⟩ = some (.slice a0 x.keys.length c0) := (hb.cell (p := ⟨W.heap.size, 0, none⟩) l_A).trans c_A_0
    replace c_A_1 : w4.cell? ⟨W.heap.size, 1, none⟩ = some (.slice a1 x.vals.length c1) := (hb.cell (p := ⟨W.heap.size, 1, none⟩) l_A).trans c_A_1
    replace c_V_0 : w4.cell? ⟨W.heap.size + 1, 0, none⟩ = some (.int .i64 y.kind) := (hb.cell (p := ⟨W.heap.size + 1, 0, none⟩) l_V).trans c_V_0
    replace c_V_1 : w4.cell? ⟨W.heap.size + 1, 1, none⟩ = some (.bool y.num.neg) := (hb.cell (p := ⟨W.heap.size + 1, 1, none⟩) l_V).trans c_V_1
    replace c_V_2 : w4.cell? ⟨W.heap.size + 1, 2, none⟩ = some (.string y.num.dig) := (hb.cell (p := ⟨W.heap.size + 1, 2, none⟩) l_V).trans c_V_2
    replace c_V_3 : w4.cell? ⟨W.heap.size + 1, 3, none⟩ = some (.int .i64 y.num.exp) := (hb.cell (p := ⟨W.heap.size + 1, 3, none⟩) l_V).trans c_V_3
    replace c_V_4 : w4.cell? ⟨W.heap.size + 1, 4, none⟩ = some (.string y.text) := (hb.cell (p := ⟨W.heap.size + 1, 4, none⟩) l_V).trans c_V_4
    replace c_R_0 : w4.cell? ⟨W.heap.size + 1 + 1, 0, none⟩ = some (.slice none 0 0) := (hb.cell (p := ⟨W.heap.size + 1 + 1, 0, none⟩) l_R).trans c_R_0
    replace c_R_1 : w4.cell? ⟨W.heap.size + 1 + 1, 1, none⟩ = some (.slice none 0 0) := (hb.cell (p := ⟨W.heap.size + 1 + 1, 1, none⟩) l_R).trans c_R_1
    replace l_A : W.heap.size < w4.heap.size := Nat.lt_of_lt_of_le l_A hb.size
    replace l_V : W.heap.size + 1 < w4.heap.size := Nat.lt_of_lt_of_le l_V hb.size
    replace l_R : W.heap.size + 1 + 1 < w4.heap.size := Nat.lt_of_lt_of_le l_R hb.size
    replace LA : Live (Old W) W w4 := LA.call hb
    have y_w4 : w3.heap.size ≤ w4.heap.size := hb.size
    replace zP : W.heap.size ≤ w4.heap.size := bP.size
    clear hb
    obtain ⟨au, cu, rfl⟩ := own_sl hou
    have hgv1 := hov.lt gv rfl
    have hR : W.heap.size + 1 + 1 < w3.heap.size := l_R_g
    clear l_R_g
    have hjz : (j : Int) < (x.keys.length : Int) := by omega
    obtain ⟨e0, m0⟩ : ∃ v, w4.cell? ⟨gv, j * 5, none⟩ = some v := by rw [hov.cellAt _ (by omega)]; exact ⟨_, List.getElem?_eq_getElem (by rw [valsCells_len, fillK_len]; omega)⟩
    have n0 := hov.frozenAt (j * 5)
    obtain ⟨e1, m1⟩ : ∃ v, w4.cell? ⟨gv, j * 5 + 1, none⟩ = some v := by rw [hov.cellAt _ (by omega)]; exact ⟨_, List.getElem?_eq_getElem (by rw [valsCells_len, fillK_len]; omega)⟩
    have n1 := hov.frozenAt (j * 5 + 1)
    obtain ⟨e2, m2⟩ : ∃ v, w4.cell? ⟨gv, j * 5 + 2, none⟩ = some v := by rw [hov.cellAt _ (by omega)]; exact ⟨_, List.getElem?_eq_getElem (by rw [valsCells_len, fillK_len]; omega)⟩
    have n2 := hov.frozenAt (j * 5 + 2)
    obtain ⟨e3, m3⟩ : ∃ v, w4.cell? ⟨gv, j * 5 + 3, none⟩ = some v := by rw [hov.cellAt _ (by omega)]; exact ⟨_, List.getElem?_eq_getElem (by rw [valsCells_len, fillK_len]; omega)⟩
    have n3 := hov.frozenAt (j * 5 + 3)
    obtain ⟨e4, m4⟩ : ∃ v, w4.cell? ⟨gv, j * 5 + 4, none⟩ = some v := by rw [hov.cellAt _ (by omega)]; exact ⟨_, List.getElem?_eq_getElem (by rw [valsCells_len, fillK_len]; omega)⟩
    have n4 := hov.frozenAt (j * 5 + 4)
    have gl : gv < w4.heap.size := by omega
    have HOU := hid hou
    have HOV := hid hov
    clear hou hov
    have HS5 := hid (own_set5 HOV.out j y (by rw [fillK_len]; exact hjn))
    have HU9 := HOU
    have HS6 : Hid (World.ownsRow _ _ _ _ _ ((fillK x.vals x.keys.length).set j y).length _) := hid (by rw [List.length_set, fillK_len]; exact HS5.out)
    have hgN : gv ≠ w4.heap.size := by omega
    have hgR : gv ≠ W.heap.size + 1 + 1 := by omega
    have hgu : (Value.slice au x.keys.length cu).ownBlock ≠ some gv := fun e => by have := (HOU.out.lt _ e).1; omega
    have hRC : W.heap.size + 1 + 1 < C := by omega
    go_wp2
    refine bodyPost_ret (v := .tuple #[.agg #[.slice au x.keys.length cu, .slice (some ⟨gv, 0, none⟩) x.keys.length x.keys.length], .bool true]) (by simp [results, Tryd.results11, go_sem, c_R_0, c_R_1, z_R_0, z_R_1, l_R]) rfl ⟨_, by rw [HP.out], ?_, ?_, ?_⟩
    · rw [HR.out]
      exact rdArr_own (B := C) (C := w3.heap.size) (e1 := 9) (e2 := 40) (by exact World.ownsRow.alloc (ownsRow_setCell_below (ownsRow_setCell_below (ownsRow_setCell_other (ownsRow_setCell_other (ownsRow_setCell_other (ownsRow_setCell_other (ownsRow_setCell_other HU9.out hgu _) hgu _) hgu _) hgu _) hgu _) hRC _) hRC _) _) (by exact World.ownsRow.alloc (ownsRow_setCell_below (ownsRow_setCell_below HS6.out hR _) hR _) _) (by omega) (by omega) (HSK.out) (by intro t ht; rcases List.mem_or_eq_of_mem_set ht with h | h; exact HVK.out t h; (subst h; exact HYK.out))
    · rw [HR.out]
      exact owArr_own (B := C) (C := w3.heap.size) (e1 := 9) (e2 := 40) (by exact World.ownsRow.alloc (ownsRow_setCell_below (ownsRow_setCell_below (ownsRow_setCell_other (ownsRow_setCell_other (ownsRow_setCell_other (ownsRow_setCell_other (ownsRow_setCell_other HU9.out hgu _) hgu _) hgu _) hgu _) hgu _) hRC _) hRC _) _) (by exact World.ownsRow.alloc (ownsRow_setCell_below (ownsRow_setCell_below HS6.out hR _) hR _) _) (by omega) (by omega) (fun q h1 h2 => by simp only [Value.ownBlock, Option.some.injEq] at h2; subst h2; exact hgu h1)
    · repeat' (first | (with_reducible exact bP) | (with_reducible refine Below.setCell ?_ ?_ _) | (with_reducible refine Below.alloc ?_ ?_ _) | (simp; done) | (simp; omega) | omega)
end Go.Proofs.YtenfpfjpcpmhiaaDoor
