/-
  What is proved here: the walks of FnExactValArith. The condition 'Tabs' (where it stands) says that the library's tables for UTF-8 lie in the world.
-/
import Derived.Test.YthfmhenphnllfaaGreatDoorValArith
import Derived.Test.YthfmhenphnllfaaGreatDoorTabs3
import Derived.Deep.RegionHeld3
namespace Go.Proofs.YthfmhenphnllfaaGreatDoor
open Go.RowKit
set_option linter.unusedVariables false
set_option linter.unusedSimpArgs false

/-- what all the orders of a drawn part share, and the rest from there -/
theorem wp_cut {P : Program} {c : Code} {K : Act → World → Prop} {Q' : Exit → Act → World → Prop} {a : Act} {w : World} (R : Act → Act → World → Prop) (h : c.wp P (Exit.then (R a) (fun _ _ _ => False)) a w) (k : ∀ a' w', R a a' w' → K a' w') : c.wp P (Exit.then K Q') a w :=
  Code.wp_mono (hq := by
    intro e a' w' hR
    cases e with
    | normal => exact k a' w' hR
    | _ => exact hR.elim) (h := h)
set_option maxRecDepth 100000 in
set_option maxHeartbeats 4000000 in
theorem fnExactValArith_walk (W : World) (hT : TP W) (hM : Mx W) {v0 : Value} {x0 : Int} {cs1 : Array Value} {x1 : Val} {cs2 : Array Value} {x2 : Val} (h0 : Rd.rd (Old W) W [v0] x0) (h1 : Rd.rd (Old W) W cs1.toList x1) (h2 : Rd.rd (Old W) W cs2.toList x2) :
    Calls Tryz.prog 3 #[v0, .agg cs1, .agg cs2] W fun e w' => e = .returned (.bool true) ∧ Below W.heap.size W w' := by
  obtain ⟨e0, b0⟩ := h0
  obtain rfl : v0 = .int .i64 x0 := by simpa using e0
  clear e0
  obtain ⟨hcs1, p1f0, p1f2, p1f3, p1f4⟩ := rdVal h1
  obtain rfl := arr_of_list hcs1
  clear hcs1
  obtain ⟨hcs2, p2f0, p2f2, p2f3, p2f4⟩ := rdVal h2
  obtain rfl := arr_of_list hcs2
  clear hcs2
  by_cases hz1 : (Sz.sz x1 : Int) ≤ 1048576
  rotate_left
  · go_enter Tryz.func3, Tryz.ntmps3
    go_wp2_with fail
    refine (szVal_any _ _ (by exact Rd.later (by repeat' (first | (with_reducible exact Below.refl _ _) | (with_reducible refine ext_trans ?_ (ext_alloc _ _)) | (with_reducible refine Below.drew ?_) | (with_reducible refine Below.setCell ?_ ?_ _) | (simp; done) | (simp; omega) | omega)) h1) (by omega) (by omega)).mono ?_
    rintro e w0 ⟨rfl, hb0⟩
    rw [szOut_bad (by omega)]
    obtain ⟨hc0, hf0⟩ := bcell hb0
    have hl0_0 : W.heap.size < w0.heap.size := by have := hb0.size; (try simp at this); omega
    have hl0_1 : W.heap.size + 1 < w0.heap.size := by have := hb0.size; (try simp at this); omega
    go_wp2
    go_ret
    exact ⟨rfl, (by repeat' (first | (with_reducible exact Below.refl _ _) | (with_reducible refine ext_trans ?_ hb0) | (with_reducible refine ext_trans ?_ (ext_alloc _ _)) | (with_reducible refine Below.drew ?_) | (with_reducible refine Below.setCell ?_ ?_ _) | (simp; done) | (simp; omega) | omega))⟩
  by_cases hz2 : (Sz.sz x1 : Int) + (Sz.sz x2 : Int) ≤ 1048576
  rotate_left
  · go_enter Tryz.func3, Tryz.ntmps3
    go_wp2_with fail
    refine (szVal_any _ _ (by exact Rd.later (by repeat' (first | (with_reducible exact Below.refl _ _) | (with_reducible refine ext_trans ?_ (ext_alloc _ _)) | (with_reducible refine Below.drew ?_) | (with_reducible refine Below.setCell ?_ ?_ _) | (simp; done) | (simp; omega) | omega)) h1) (by omega) (by omega)).mono ?_
    rintro e w0 ⟨rfl, hb0⟩
    rw [szOut_val (by omega)]
    obtain ⟨hc0, hf0⟩ := bcell hb0
    have hl0_0 : W.heap.size < w0.heap.size := by have := hb0.size; (try simp at this); omega
    have hl0_1 : W.heap.size + 1 < w0.heap.size := by have := hb0.size; (try simp at this); omega
    go_wp2_with fail
    refine (szVal_any _ _ (by exact Rd.later (by repeat' (first | (with_reducible exact Below.refl _ _) | (with_reducible refine ext_trans ?_ hb0) | (with_reducible refine ext_trans ?_ (ext_alloc _ _)) | (with_reducible refine Below.drew ?_) | (with_reducible refine Below.setCell ?_ ?_ _) | (simp; done) | (simp; omega) | omega)) h2) (by omega) (by omega)).mono ?_
    rintro e w1 ⟨rfl, hb1⟩
    rw [szOut_bad (by omega)]
    obtain ⟨hc1, hf1⟩ := bcell hb1
    have hl1_0 : W.heap.size < w1.heap.size := by have := hb1.size; (try simp at this); omega
    have hl1_1 : W.heap.size + 1 < w1.heap.size := by have := hb1.size; (try simp at this); omega
    go_wp2
    go_ret
    exact ⟨rfl, (by repeat' (first | (with_reducible exact Below.refl _ _) | (with_reducible refine ext_trans ?_ hb1) | (with_reducible refine ext_trans ?_ hb0) | (with_reducible refine ext_trans ?_ (ext_alloc _ _)) | (with_reducible refine Below.drew ?_) | (with_reducible refine Below.setCell ?_ ?_ _) | (simp; done) | (simp; omega) | omega))⟩
  go_enter Tryz.func3, Tryz.ntmps3
  go_wp2_with fail
  refine (szVal_any _ _ (by exact Rd.later (by repeat' (first | (with_reducible exact Below.refl _ _) | (with_reducible refine ext_trans ?_ (ext_alloc _ _)) | (with_reducible refine Below.drew ?_) | (with_reducible refine Below.setCell ?_ ?_ _) | (simp; done) | (simp; omega) | omega)) h1) (by omega) (by omega)).mono ?_
  rintro e w0 ⟨rfl, hb0⟩
  rw [szOut_val (by omega)]
  obtain ⟨hc0, hf0⟩ := bcell hb0
  have hl0_0 : W.heap.size < w0.heap.size := by have := hb0.size; (try simp at this); omega
  have hl0_1 : W.heap.size + 1 < w0.heap.size := by have := hb0.size; (try simp at this); omega
  go_wp2_with fail
  refine (szVal_any _ _ (by exact Rd.later (by repeat' (first | (with_reducible exact Below.refl _ _) | (with_reducible refine ext_trans ?_ hb0) | (with_reducible refine ext_trans ?_ (ext_alloc _ _)) | (with_reducible refine Below.drew ?_) | (with_reducible refine Below.setCell ?_ ?_ _) | (simp; done) | (simp; omega) | omega)) h2) (by omega) (by omega)).mono ?_
  rintro e w1 ⟨rfl, hb1⟩
  rw [szOut_val (by omega)]
  obtain ⟨hc1, hf1⟩ := bcell hb1
  have hl1_0 : W.heap.size < w1.heap.size := by have := hb1.size; (try simp at this); omega
  have hl1_1 : W.heap.size + 1 < w1.heap.size := by have := hb1.size; (try simp at this); omega
  have hzz1 : Sz.sz x1 ≤ 1048576 := by omega
  have hzz2 : Sz.sz x2 ≤ 1048576 := by omega
  go_wp2_with fail
  obtain ⟨RR8, hRR8⟩ : ∃ RR : Act → Act → World → Prop, RR = (fun a a' w' => ∃ (bk : Nat) (z23 z24 z25 z26 z27 z28 z22 z29 z30 : Value), a' = (((((((((((a.put (some 23) z23).put (some 24) z24).put (some 25) z25).put (some 26) z26).put (some 27) z27).put (some 28) z28).put (some 22) z22).put (some 29) z29).put (some 30) z30).put (some 8) (.pointer (some ⟨bk, 0, none⟩))).put (some 9) (.int .i64 (arithV x0 x1 x2).2)) ∧ w1.heap.size ≤ bk ∧ bk < w'.heap.size ∧ Below w1.heap.size w1 w' ∧ w'.cell? ⟨bk, 0, none⟩ = some (.int .i64 (arithV x0 x1 x2).1.kind) ∧ w'.cell? ⟨bk, 1, none⟩ = some (.bool (arithV x0 x1 x2).1.num.neg) ∧ w'.cell? ⟨bk, 2, none⟩ = some (.string (arithV x0 x1 x2).1.num.dig) ∧ w'.cell? ⟨bk, 3, none⟩ = some (.int .i64 (arithV x0 x1 x2).1.num.exp) ∧ w'.cell? ⟨bk, 4, none⟩ = some (.string (arithV x0 x1 x2).1.text)) := ⟨_, rfl⟩
  have HRR8 := hid hRR8
  clear hRR8
  refine wp_cut RR8 ?_ ?_
  · have k00 := keeps_cells hb1 ⟨W.heap.size, 0, none⟩ (.int .i64 x1.kind) (keeps_cells hb0 ⟨W.heap.size, 0, none⟩ (.int .i64 x1.kind) (by go_simp))
    have k01 := keeps_cells hb1 ⟨W.heap.size, 1, none⟩ (.bool x1.num.neg) (keeps_cells hb0 ⟨W.heap.size, 1, none⟩ (.bool x1.num.neg) (by go_simp))
    have k02 := keeps_cells hb1 ⟨W.heap.size, 2, none⟩ (.string x1.num.dig) (keeps_cells hb0 ⟨W.heap.size, 2, none⟩ (.string x1.num.dig) (by go_simp))
    have k03 := keeps_cells hb1 ⟨W.heap.size, 3, none⟩ (.int .i64 x1.num.exp) (keeps_cells hb0 ⟨W.heap.size, 3, none⟩ (.int .i64 x1.num.exp) (by go_simp))
    have k04 := keeps_cells hb1 ⟨W.heap.size, 4, none⟩ (.string x1.text) (keeps_cells hb0 ⟨W.heap.size, 4, none⟩ (.string x1.text) (by go_simp))
    have k10 := keeps_cells hb1 ⟨W.heap.size + 1, 0, none⟩ (.int .i64 x2.kind) (keeps_cells hb0 ⟨W.heap.size + 1, 0, none⟩ (.int .i64 x2.kind) (by go_simp))
    have k11 := keeps_cells hb1 ⟨W.heap.size + 1, 1, none⟩ (.bool x2.num.neg) (keeps_cells hb0 ⟨W.heap.size + 1, 1, none⟩ (.bool x2.num.neg) (by go_simp))
    have k12 := keeps_cells hb1 ⟨W.heap.size + 1, 2, none⟩ (.string x2.num.dig) (keeps_cells hb0 ⟨W.heap.size + 1, 2, none⟩ (.string x2.num.dig) (by go_simp))
    have k13 := keeps_cells hb1 ⟨W.heap.size + 1, 3, none⟩ (.int .i64 x2.num.exp) (keeps_cells hb0 ⟨W.heap.size + 1, 3, none⟩ (.int .i64 x2.num.exp) (by go_simp))
    have k14 := keeps_cells hb1 ⟨W.heap.size + 1, 4, none⟩ (.string x2.text) (keeps_cells hb0 ⟨W.heap.size + 1, 4, none⟩ (.string x2.text) (by go_simp))
    have kl0 : W.heap.size < w1.heap.size := by first | assumption | omega
    have kl1 : W.heap.size + 1 < w1.heap.size := by first | assumption | omega
    clear hc0 hf0 hc1 hf1
    refine wp_region_held_drew (S := fun w' => Below w1.heap.size w1 w') (by kernel_rfl) ?_ (fun hHeld => ?_)
    · exact (by repeat' (first | (with_reducible exact Below.refl _ _) | (with_reducible refine ext_trans ?_ hbC) | (with_reducible refine ext_trans ?_ hbB) | (with_reducible refine ext_trans ?_ hbA) | (with_reducible refine ext_trans ?_ (ext_alloc _ _)) | (with_reducible refine Below.drew ?_) | (with_reducible refine Below.setCell ?_ ?_ _) | (simp; done) | (simp; omega) | omega))
    refine wpAnyH_take (i := 0) (v := ?_) rfl (by kernel_rfl) (by kernel_rfl) (by kernel_rfl) (fun _ _ _ h => h) (Or.inl ⟨by rfl, ?_⟩) (by assumption) ?_
    rotate_left
    · (intro w' hSw; (try dsimp only at hSw); go_simp; try (with_reducible rfl))
    change wpAnyH _ _ _ _ _ _ _ (Act.put _ (some 23) _) _
    try simp only [Act.put, List.setIfInBounds_toArray, List.set_cons_zero, List.set_cons_succ]
    refine wpAnyH_take (i := 1) (v := ?_) rfl (by kernel_rfl) (by kernel_rfl) (by kernel_rfl) (fun _ _ _ h => h) (Or.inl ⟨by rfl, ?_⟩) (by assumption) ?_
    rotate_left
    · (intro w' hSw; (try dsimp only at hSw); (have q0 := (hSw.cell (p := ⟨W.heap.size, 0, none⟩) kl0).trans k00; have q1 := (hSw.cell (p := ⟨W.heap.size, 1, none⟩) kl0).trans k01; have q2 := (hSw.cell (p := ⟨W.heap.size, 2, none⟩) kl0).trans k02; have q3 := (hSw.cell (p := ⟨W.heap.size, 3, none⟩) kl0).trans k03; have q4 := (hSw.cell (p := ⟨W.heap.size, 4, none⟩) kl0).trans k04); go_simp; try (with_reducible rfl))
    change wpAnyH _ _ _ _ _ _ _ (Act.put _ (some 24) _) _
    try simp only [Act.put, List.setIfInBounds_toArray, List.set_cons_zero, List.set_cons_succ]
    refine wpAnyH_take (i := 3) (v := ?_) rfl (by kernel_rfl) (by kernel_rfl) (by kernel_rfl) (fun _ _ _ h => h) (Or.inl ⟨by rfl, ?_⟩) (by assumption) ?_
    rotate_left
    · (intro w' hSw; (try dsimp only at hSw); (have q0 := (hSw.cell (p := ⟨W.heap.size + 1, 0, none⟩) kl1).trans k10; have q1 := (hSw.cell (p := ⟨W.heap.size + 1, 1, none⟩) kl1).trans k11; have q2 := (hSw.cell (p := ⟨W.heap.size + 1, 2, none⟩) kl1).trans k12; have q3 := (hSw.cell (p := ⟨W.heap.size + 1, 3, none⟩) kl1).trans k13; have q4 := (hSw.cell (p := ⟨W.heap.size + 1, 4, none⟩) kl1).trans k14); go_simp; try (with_reducible rfl))
    change wpAnyH _ _ _ _ _ _ _ (Act.put _ (some 26) _) _
    try simp only [Act.put, List.setIfInBounds_toArray, List.set_cons_zero, List.set_cons_succ]
    refine wpAnyH_ready (rs := [2, 9]) (by kernel_rfl) (by simp) ?_
    refine AllReadyH.cons (i := 2) rfl (fun K hK => ?_) ?_
    · simp only [List.getElem_toArray, List.getElem_cons_succ, List.getElem_cons_zero]
      rw [if_pos (by rfl)]
      go_simp
      (go_at_call 8; refine (toVal_any _ (by exact Rd.later (by repeat' (first | (with_reducible exact Below.refl _ _) | (with_reducible refine ext_trans ?_ hbC) | (with_reducible refine ext_trans ?_ hbB) | (with_reducible refine ext_trans ?_ hbA) | (with_reducible refine ext_trans ?_ hb1) | (with_reducible refine ext_trans ?_ hb0) | (with_reducible refine ext_trans ?_ (ext_alloc _ _)) | (with_reducible refine Below.drew ?_) | (with_reducible refine Below.setCell ?_ ?_ _) | (simp; done) | (simp; omega) | omega)) h1) hzz1).mono ?_; rintro e tA ⟨qA, rfl, hrA, hbA⟩; go_wp2_with fail)
      replace hrA := Rd.old hrA
      obtain ⟨hcsA, _⟩ := rdVal hrA
      obtain rfl := arr_of_list hcsA
      clear hcsA
      refine hK.out _ _ ?_ (fun hHeld => ?_)
      · ((try dsimp only); exact ext_trans hHeld hbA)
      clear hK K
      try simp only [Act.put, List.setIfInBounds_toArray, List.set_cons_zero, List.set_cons_succ]
      refine wpAnyH_ready (rs := [4, 9]) (by kernel_rfl) (by simp) ?_
      refine AllReadyH.cons (i := 4) rfl (fun K hK => ?_) ?_
      · simp only [List.getElem_toArray, List.getElem_cons_succ, List.getElem_cons_zero]
        rw [if_pos (by rfl)]
        go_simp
        (go_at_call 8; refine (toVal_any _ (by exact Rd.later (by repeat' (first | (with_reducible exact Below.refl _ _) | (with_reducible refine ext_trans ?_ hbC) | (with_reducible refine ext_trans ?_ hbB) | (with_reducible refine ext_trans ?_ hbA) | (with_reducible refine ext_trans ?_ hb1) | (with_reducible refine ext_trans ?_ hb0) | (with_reducible refine ext_trans ?_ (ext_alloc _ _)) | (with_reducible refine Below.drew ?_) | (with_reducible refine Below.setCell ?_ ?_ _) | (simp; done) | (simp; omega) | omega)) h2) hzz2).mono ?_; rintro e tB ⟨qB, rfl, hrB, hbB⟩; go_wp2_with fail)
        replace hrB := Rd.old hrB
        obtain ⟨hcsB, _⟩ := rdVal hrB
        obtain rfl := arr_of_list hcsB
        clear hcsB
        refine hK.out _ _ ?_ (fun hHeld => ?_)
        · ((try dsimp only); exact ext_trans hHeld hbB)
        clear hK K
        try simp only [Act.put, List.setIfInBounds_toArray, List.set_cons_zero, List.set_cons_succ]
        refine wpAnyH_ready (rs := [5, 9]) (by kernel_rfl) (by simp) ?_
        refine AllReadyH.cons (i := 5) rfl (fun K hK => ?_) ?_
        · simp only [List.getElem_toArray, List.getElem_cons_succ, List.getElem_cons_zero]
          rw [if_pos (by rfl)]
          go_simp
          (go_at_call 7; refine (specValArith x0 _ (by exact Rd.later (by repeat' (first | (with_reducible exact Below.refl _ _) | (with_reducible refine ext_trans ?_ hbC) | (with_reducible refine ext_trans ?_ hbB) | (with_reducible refine ext_trans ?_ hbA) | (with_reducible refine ext_trans ?_ hb1) | (with_reducible refine ext_trans ?_ hb0) | (with_reducible refine ext_trans ?_ (ext_alloc _ _)) | (with_reducible refine Below.drew ?_) | (with_reducible refine Below.setCell ?_ ?_ _) | (simp; done) | (simp; omega) | omega)) hrA) (by exact Rd.later (by repeat' (first | (with_reducible exact Below.refl _ _) | (with_reducible refine ext_trans ?_ hbC) | (with_reducible refine ext_trans ?_ hbB) | (with_reducible refine ext_trans ?_ hbA) | (with_reducible refine ext_trans ?_ hb1) | (with_reducible refine ext_trans ?_ hb0) | (with_reducible refine ext_trans ?_ (ext_alloc _ _)) | (with_reducible refine Below.drew ?_) | (with_reducible refine Below.setCell ?_ ?_ _) | (simp; done) | (simp; omega) | omega)) hrB) b0).mono ?_; simp only [arithT]; rintro e tC ⟨rfl, hbC⟩; go_wp2_with fail)
          refine hK.out _ _ ?_ (fun hHeld => ?_)
          · ((try dsimp only); exact ext_trans hHeld hbC)
          clear hK K
          try simp only [Act.put, List.setIfInBounds_toArray, List.set_cons_zero, List.set_cons_succ]
          refine wpAnyH_take (i := 6) (v := ?_) rfl (by kernel_rfl) (by kernel_rfl) (by kernel_rfl) (fun _ _ _ h => h) (Or.inl ⟨by rfl, ?_⟩) (by assumption) ?_
          rotate_left
          · (intro w' hSw; (try dsimp only at hSw); go_simp; try (with_reducible rfl))
          change wpAnyH _ _ _ _ _ _ _ (Act.put _ (some 22) _) _
          try simp only [Act.put, List.setIfInBounds_toArray, List.set_cons_zero, List.set_cons_succ]
          refine wpAnyH_take (i := 7) (v := ?_) rfl (by kernel_rfl) (by kernel_rfl) (by kernel_rfl) (fun _ _ _ h => h) (Or.inl ⟨by rfl, ?_⟩) (by assumption) ?_
          rotate_left
          · (intro w' hSw; (try dsimp only at hSw); go_simp; try (with_reducible rfl))
          change wpAnyH _ _ _ _ _ _ _ (Act.put _ (some 29) _) _
          try simp only [Act.put, List.setIfInBounds_toArray, List.set_cons_zero, List.set_cons_succ]
          refine wpAnyH_take (i := 8) (v := ?_) rfl (by kernel_rfl) (by kernel_rfl) (by kernel_rfl) (fun _ _ _ h => h) (Or.inl ⟨by rfl, ?_⟩) (by assumption) ?_
          rotate_left
          · (intro w' hSw; (try dsimp only at hSw); go_simp; try (with_reducible rfl))
          change wpAnyH _ _ _ _ _ _ _ (Act.put _ (some 30) _) _
          try simp only [Act.put, List.setIfInBounds_toArray, List.set_cons_zero, List.set_cons_succ]
          refine wpAnyH_ready (rs := [9]) (by kernel_rfl) (by simp) ?_
          refine AllReadyH.cons (i := 9) rfl (fun K hK => ?_) AllReadyH.nil
          simp only [List.getElem_toArray, List.getElem_cons_succ, List.getElem_cons_zero]
          rw [if_pos (by rfl)]
          go_simp
          have hHC := hHeld
          have gle : w1.heap.size ≤ tC.heap.size := hHeld.size
          have gl : tC.heap.size < (tC.alloc (.cells #[.int .i64 0, .bool false, .string ⟨#[]⟩, .int .i64 0, .string ⟨#[]⟩] 29)).heap.size := by simp
          have g0 : (tC.alloc (.cells #[.int .i64 0, .bool false, .string ⟨#[]⟩, .int .i64 0, .string ⟨#[]⟩] 29)).cell? ⟨tC.heap.size, 0, none⟩ = some (.int .i64 0) := by go_simp
          have g1 : (tC.alloc (.cells #[.int .i64 0, .bool false, .string ⟨#[]⟩, .int .i64 0, .string ⟨#[]⟩] 29)).cell? ⟨tC.heap.size, 1, none⟩ = some (.bool false) := by go_simp
          have g2 : (tC.alloc (.cells #[.int .i64 0, .bool false, .string ⟨#[]⟩, .int .i64 0, .string ⟨#[]⟩] 29)).cell? ⟨tC.heap.size, 2, none⟩ = some (.string ⟨#[]⟩) := by go_simp
          have g3 : (tC.alloc (.cells #[.int .i64 0, .bool false, .string ⟨#[]⟩, .int .i64 0, .string ⟨#[]⟩] 29)).cell? ⟨tC.heap.size, 3, none⟩ = some (.int .i64 0) := by go_simp
          have g4 : (tC.alloc (.cells #[.int .i64 0, .bool false, .string ⟨#[]⟩, .int .i64 0, .string ⟨#[]⟩] 29)).cell? ⟨tC.heap.size, 4, none⟩ = some (.string ⟨#[]⟩) := by go_simp
          have gz0 : (tC.alloc (.cells #[.int .i64 0, .bool false, .string ⟨#[]⟩, .int .i64 0, .string ⟨#[]⟩] 29)).frozen? ⟨tC.heap.size, 0, none⟩ = false := by go_simp
          have gz1 : (tC.alloc (.cells #[.int .i64 0, .bool false, .string ⟨#[]⟩, .int .i64 0, .string ⟨#[]⟩] 29)).frozen? ⟨tC.heap.size, 1, none⟩ = false := by go_simp
          have gz2 : (tC.alloc (.cells #[.int .i64 0, .bool false, .string ⟨#[]⟩, .int .i64 0, .string ⟨#[]⟩] 29)).frozen? ⟨tC.heap.size, 2, none⟩ = false := by go_simp
          have gz3 : (tC.alloc (.cells #[.int .i64 0, .bool false, .string ⟨#[]⟩, .int .i64 0, .string ⟨#[]⟩] 29)).frozen? ⟨tC.heap.size, 3, none⟩ = false := by go_simp
          have gz4 : (tC.alloc (.cells #[.int .i64 0, .bool false, .string ⟨#[]⟩, .int .i64 0, .string ⟨#[]⟩] 29)).frozen? ⟨tC.heap.size, 4, none⟩ = false := by go_simp
          refine hK.out _ _ ?_ (fun hHeld => ?_)
          · ((try dsimp only); exact ext_trans hHeld (ext_alloc _ _))
          clear hK K
          try simp only [Act.put, List.setIfInBounds_toArray, List.set_cons_zero, List.set_cons_succ]
          refine wpAnyH_ready (rs := [10]) (by kernel_rfl) (by simp) ?_
          refine AllReadyH.cons (i := 10) rfl (fun K hK => ?_) AllReadyH.nil
          simp only [List.getElem_toArray, List.getElem_cons_succ, List.getElem_cons_zero]
          rw [if_pos (by rfl)]
          go_simp
          refine hK.out _ _ ?_ (fun hHeld => ?_)
          · ((try dsimp only); exact ext_trans hHC (ext_alloc _ _))
          clear hK K
          try simp only [Act.put, List.setIfInBounds_toArray, List.set_cons_zero, List.set_cons_succ]
          refine wpAnyH_take (i := 11) (v := ?_) rfl (by kernel_rfl) (by kernel_rfl) (by kernel_rfl) (fun _ _ _ h => h) (Or.inl ⟨by rfl, ?_⟩) (by assumption) ?_
          rotate_left
          · (intro w' hSw; (try dsimp only at hSw); go_simp; try (with_reducible rfl))
          change wpAnyH _ _ _ _ _ _ _ (Act.put _ (some 9) _) _
          try simp only [Act.put, List.setIfInBounds_toArray, List.set_cons_zero, List.set_cons_succ]
          refine wpAnyH_done (by kernel_rfl) ?_ _
          dsimp only [Exit.then]
          rw [HRR8.out]
          refine ⟨tC.heap.size, .int .i64 x0, .agg #[.int .i64 x1.kind, .bool x1.num.neg, .string x1.num.dig, .int .i64 x1.num.exp, .string x1.text], .agg #[.int .i64 x1.kind, .bool x1.num.neg, .string x1.num.dig, .int .i64 x1.num.exp, .string x1.text], .agg #[.int .i64 x2.kind, .bool x2.num.neg, .string x2.num.dig, .int .i64 x2.num.exp, .string x2.text], .agg #[.int .i64 x2.kind, .bool x2.num.neg, .string x2.num.dig, .int .i64 x2.num.exp, .string x2.text], .tuple #[.agg #[.int .i64 (arithV x0 x1 x2).1.kind, .bool (arithV x0 x1 x2).1.num.neg, .string (arithV x0 x1 x2).1.num.dig, .int .i64 (arithV x0 x1 x2).1.num.exp, .string (arithV x0 x1 x2).1.text], .int .i64 (arithV x0 x1 x2).2], .tuple #[.agg #[.int .i64 (arithV x0 x1 x2).1.kind, .bool (arithV x0 x1 x2).1.num.neg, .string (arithV x0 x1 x2).1.num.dig, .int .i64 (arithV x0 x1 x2).1.num.exp, .string (arithV x0 x1 x2).1.text], .int .i64 (arithV x0 x1 x2).2], .agg #[.int .i64 (arithV x0 x1 x2).1.kind, .bool (arithV x0 x1 x2).1.num.neg, .string (arithV x0 x1 x2).1.num.dig, .int .i64 (arithV x0 x1 x2).1.num.exp, .string (arithV x0 x1 x2).1.text], .int .i64 (arithV x0 x1 x2).2, ?_, gle, ?_, hHeld, ?_⟩
          · simp only [Act.put, List.setIfInBounds_toArray, List.set_cons_zero, List.set_cons_succ]
          · first | (simp; done) | (simpa using gl)
          · refine ⟨?_, ?_, ?_, ?_, ?_⟩ <;> first | (simp [go_sem, gl, g0, g1, g2, g3, g4]; done) | (go_simp; done)
        refine AllReadyH.cons (i := 9) rfl (fun K hK => ?_) ?_
        · simp only [List.getElem_toArray, List.getElem_cons_succ, List.getElem_cons_zero]
          rw [if_pos (by rfl)]
          go_simp
          have hHC := hHeld
          have gle : w1.heap.size ≤ tB.heap.size := hHeld.size
          have gl : tB.heap.size < (tB.alloc (.cells #[.int .i64 0, .bool false, .string ⟨#[]⟩, .int .i64 0, .string ⟨#[]⟩] 29)).heap.size := by simp
          have g0 : (tB.alloc (.cells #[.int .i64 0, .bool false, .string ⟨#[]⟩, .int .i64 0, .string ⟨#[]⟩] 29)).cell? ⟨tB.heap.size, 0, none⟩ = some (.int .i64 0) := by go_simp
          have g1 : (tB.alloc (.cells #[.int .i64 0, .bool false, .string ⟨#[]⟩, .int .i64 0, .string ⟨#[]⟩] 29)).cell? ⟨tB.heap.size, 1, none⟩ = some (.bool false) := by go_simp
          have g2 : (tB.alloc (.cells #[.int .i64 0, .bool false, .string ⟨#[]⟩, .int .i64 0, .string ⟨#[]⟩] 29)).cell? ⟨tB.heap.size, 2, none⟩ = some (.string ⟨#[]⟩) := by go_simp
          have g3 : (tB.alloc (.cells #[.int .i64 0, .bool false, .string ⟨#[]⟩, .int .i64 0, .string ⟨#[]⟩] 29)).cell? ⟨tB.heap.size, 3, none⟩ = some (.int .i64 0) := by go_simp
          have g4 : (tB.alloc (.cells #[.int .i64 0, .bool false, .string ⟨#[]⟩, .int .i64 0, .string ⟨#[]⟩] 29)).cell? ⟨tB.heap.size, 4, none⟩ = some (.string ⟨#[]⟩) := by go_simp
          have gz0 : (tB.alloc (.cells #[.int .i64 0, .bool false, .string ⟨#[]⟩, .int .i64 0, .string ⟨#[]⟩] 29)).frozen? ⟨tB.heap.size, 0, none⟩ = false := by go_simp
          have gz1 : (tB.alloc (.cells #[.int .i64 0, .bool false, .string ⟨#[]⟩, .int .i64 0, .string ⟨#[]⟩] 29)).frozen? ⟨tB.heap.size, 1, none⟩ = false := by go_simp
          have gz2 : (tB.alloc (.cells #[.int .i64 0, .bool false, .string ⟨#[]⟩, .int .i64 0, .string ⟨#[]⟩] 29)).frozen? ⟨tB.heap.size, 2, none⟩ = false := by go_simp
          have gz3 : (tB.alloc (.cells #[.int .i64 0, .bool false, .string ⟨#[]⟩, .int .i64 0, .string ⟨#[]⟩] 29)).frozen? ⟨tB.heap.size, 3, none⟩ = false := by go_simp
          have gz4 : (tB.alloc (.cells #[.int .i64 0, .bool false, .string ⟨#[]⟩, .int .i64 0, .string ⟨#[]⟩] 29)).frozen? ⟨tB.heap.size, 4, none⟩ = false := by go_simp
          refine hK.out _ _ ?_ (fun hHeld => ?_)
          · ((try dsimp only); exact ext_trans hHeld (ext_alloc _ _))
          clear hK K
          try simp only [Act.put, List.setIfInBounds_toArray, List.set_cons_zero, List.set_cons_succ]
          refine wpAnyH_ready (rs := [5]) (by kernel_rfl) (by simp) ?_
          refine AllReadyH.cons (i := 5) rfl (fun K hK => ?_) AllReadyH.nil
          simp only [List.getElem_toArray, List.getElem_cons_succ, List.getElem_cons_zero]
          rw [if_pos (by rfl)]
          go_simp
          (go_at_call 7; refine (specValArith x0 _ (by exact Rd.later (by repeat' (first | (with_reducible exact Below.refl _ _) | (with_reducible refine ext_trans ?_ hbC) | (with_reducible refine ext_trans ?_ hbB) | (with_reducible refine ext_trans ?_ hbA) | (with_reducible refine ext_trans ?_ hb1) | (with_reducible refine ext_trans ?_ hb0) | (with_reducible refine ext_trans ?_ (ext_alloc _ _)) | (with_reducible refine Below.drew ?_) | (with_reducible refine Below.setCell ?_ ?_ _) | (simp; done) | (simp; omega) | omega)) hrA) (by exact Rd.later (by repeat' (first | (with_reducible exact Below.refl _ _) | (with_reducible refine ext_trans ?_ hbC) | (with_reducible refine ext_trans ?_ hbB) | (with_reducible refine ext_trans ?_ hbA) | (with_reducible refine ext_trans ?_ hb1) | (with_reducible refine ext_trans ?_ hb0) | (with_reducible refine ext_trans ?_ (ext_alloc _ _)) | (with_reducible refine Below.drew ?_) | (with_reducible refine Below.setCell ?_ ?_ _) | (simp; done) | (simp; omega) | omega)) hrB) b0).mono ?_; simp only [arithT]; rintro e tC ⟨rfl, hbC⟩; go_wp2_with fail)
          replace g0 := (hbC.cell (p := ⟨tB.heap.size, 0, none⟩) gl).trans g0
          replace g1 := (hbC.cell (p := ⟨tB.heap.size, 1, none⟩) gl).trans g1
          replace g2 := (hbC.cell (p := ⟨tB.heap.size, 2, none⟩) gl).trans g2
          replace g3 := (hbC.cell (p := ⟨tB.heap.size, 3, none⟩) gl).trans g3
          replace g4 := (hbC.cell (p := ⟨tB.heap.size, 4, none⟩) gl).trans g4
          replace gz0 := (hbC.frozen (p := ⟨tB.heap.size, 0, none⟩) gl).trans gz0
          replace gz1 := (hbC.frozen (p := ⟨tB.heap.size, 1, none⟩) gl).trans gz1
          replace gz2 := (hbC.frozen (p := ⟨tB.heap.size, 2, none⟩) gl).trans gz2
          replace gz3 := (hbC.frozen (p := ⟨tB.heap.size, 3, none⟩) gl).trans gz3
          replace gz4 := (hbC.frozen (p := ⟨tB.heap.size, 4, none⟩) gl).trans gz4
          replace gl := Nat.lt_of_lt_of_le gl hbC.size
          refine hK.out _ _ ?_ (fun hHeld => ?_)
          · ((try dsimp only); exact ext_trans hHeld hbC)
          clear hK K
          try simp only [Act.put, List.setIfInBounds_toArray, List.set_cons_zero, List.set_cons_succ]
          refine wpAnyH_take (i := 6) (v := ?_) rfl (by kernel_rfl) (by kernel_rfl) (by kernel_rfl) (fun _ _ _ h => h) (Or.inl ⟨by rfl, ?_⟩) (by assumption) ?_
          rotate_left
          · (intro w' hSw; (try dsimp only at hSw); go_simp; try (with_reducible rfl))
          change wpAnyH _ _ _ _ _ _ _ (Act.put _ (some 22) _) _
          try simp only [Act.put, List.setIfInBounds_toArray, List.set_cons_zero, List.set_cons_succ]
          refine wpAnyH_take (i := 7) (v := ?_) rfl (by kernel_rfl) (by kernel_rfl) (by kernel_rfl) (fun _ _ _ h => h) (Or.inl ⟨by rfl, ?_⟩) (by assumption) ?_
          rotate_left
          · (intro w' hSw; (try dsimp only at hSw); go_simp; try (with_reducible rfl))
          change wpAnyH _ _ _ _ _ _ _ (Act.put _ (some 29) _) _
          try simp only [Act.put, List.setIfInBounds_toArray, List.set_cons_zero, List.set_cons_succ]
          refine wpAnyH_take (i := 8) (v := ?_) rfl (by kernel_rfl) (by kernel_rfl) (by kernel_rfl) (fun _ _ _ h => h) (Or.inl ⟨by rfl, ?_⟩) (by assumption) ?_
          rotate_left
          · (intro w' hSw; (try dsimp only at hSw); go_simp; try (with_reducible rfl))
          change wpAnyH _ _ _ _ _ _ _ (Act.put _ (some 30) _) _
          try simp only [Act.put, List.setIfInBounds_toArray, List.set_cons_zero, List.set_cons_succ]
          refine wpAnyH_ready (rs := [10]) (by kernel_rfl) (by simp) ?_
          refine AllReadyH.cons (i := 10) rfl (fun K hK => ?_) AllReadyH.nil
          simp only [List.getElem_toArray, List.getElem_cons_succ, List.getElem_cons_zero]
          rw [if_pos (by rfl)]
          go_simp
          refine hK.out _ _ ?_ (fun hHeld => ?_)
          · ((try dsimp only); (refine Below.setCell ?_ gle _; refine Below.setCell ?_ gle _; refine Below.setCell ?_ gle _; refine Below.setCell ?_ gle _; refine Below.setCell ?_ gle _; exact hHeld))
          clear hK K
          try simp only [Act.put, List.setIfInBounds_toArray, List.set_cons_zero, List.set_cons_succ]
          refine wpAnyH_take (i := 11) (v := ?_) rfl (by kernel_rfl) (by kernel_rfl) (by kernel_rfl) (fun _ _ _ h => h) (Or.inl ⟨by rfl, ?_⟩) (by assumption) ?_
          rotate_left
          · (intro w' hSw; (try dsimp only at hSw); go_simp; try (with_reducible rfl))
          change wpAnyH _ _ _ _ _ _ _ (Act.put _ (some 9) _) _
          try simp only [Act.put, List.setIfInBounds_toArray, List.set_cons_zero, List.set_cons_succ]
          refine wpAnyH_done (by kernel_rfl) ?_ _
          dsimp only [Exit.then]
          rw [HRR8.out]
          refine ⟨tB.heap.size, .int .i64 x0, .agg #[.int .i64 x1.kind, .bool x1.num.neg, .string x1.num.dig, .int .i64 x1.num.exp, .string x1.text], .agg #[.int .i64 x1.kind, .bool x1.num.neg, .string x1.num.dig, .int .i64 x1.num.exp, .string x1.text], .agg #[.int .i64 x2.kind, .bool x2.num.neg, .string x2.num.dig, .int .i64 x2.num.exp, .string x2.text], .agg #[.int .i64 x2.kind, .bool x2.num.neg, .string x2.num.dig, .int .i64 x2.num.exp, .string x2.text], .tuple #[.agg #[.int .i64 (arithV x0 x1 x2).1.kind, .bool (arithV x0 x1 x2).1.num.neg, .string (arithV x0 x1 x2).1.num.dig, .int .i64 (arithV x0 x1 x2).1.num.exp, .string (arithV x0 x1 x2).1.text], .int .i64 (arithV x0 x1 x2).2], .tuple #[.agg #[.int .i64 (arithV x0 x1 x2).1.kind, .bool (arithV x0 x1 x2).1.num.neg, .string (arithV x0 x1 x2).1.num.dig, .int .i64 (arithV x0 x1 x2).1.num.exp, .string (arithV x0 x1 x2).1.text], .int .i64 (arithV x0 x1 x2).2], .agg #[.int .i64 (arithV x0 x1 x2).1.kind, .bool (arithV x0 x1 x2).1.num.neg, .string (arithV x0 x1 x2).1.num.dig, .int .i64 (arithV x0 x1 x2).1.num.exp, .string (arithV x0 x1 x2).1.text], .int .i64 (arithV x0 x1 x2).2, ?_, gle, ?_, hHeld, ?_⟩
          · simp only [Act.put, List.setIfInBounds_toArray, List.set_cons_zero, List.set_cons_succ]
          · first | (simp; done) | (simpa using gl)
          · refine ⟨?_, ?_, ?_, ?_, ?_⟩ <;> first | (simp [go_sem, gl, g0, g1, g2, g3, g4]; done) | (go_simp; done)
        exact AllReadyH.nil
      refine AllReadyH.cons (i := 9) rfl (fun K hK => ?_) ?_
      · simp only [List.getElem_toArray, List.getElem_cons_succ, List.getElem_cons_zero]
        rw [if_pos (by rfl)]
        go_simp
        have hHC := hHeld
        have gle : w1.heap.size ≤ tA.heap.size := hHeld.size
        have gl : tA.heap.size < (tA.alloc (.cells #[.int .i64 0, .bool false, .string ⟨#[]⟩, .int .i64 0, .string ⟨#[]⟩] 29)).heap.size := by simp
        have g0 : (tA.alloc (.cells #[.int .i64 0, .bool false, .string ⟨#[]⟩, .int .i64 0, .string ⟨#[]⟩] 29)).cell? ⟨tA.heap.size, 0, none⟩ = some (.int .i64 0) := by go_simp
        have g1 : (tA.alloc (.cells #[.int .i64 0, .bool false, .string ⟨#[]⟩, .int .i64 0, .string ⟨#[]⟩] 29)).cell? ⟨tA.heap.size, 1, none⟩ = some (.bool false) := by go_simp
        have g2 : (tA.alloc (.cells #[.int .i64 0, .bool false, .string ⟨#[]⟩, .int .i64 0, .string ⟨#[]⟩] 29)).cell? ⟨tA.heap.size, 2, none⟩ = some (.string ⟨#[]⟩) := by go_simp
        have g3 : (tA.alloc (.cells #[.int .i64 0, .bool false, .string ⟨#[]⟩, .int .i64 0, .string ⟨#[]⟩] 29)).cell? ⟨tA.heap.size, 3, none⟩ = some (.int .i64 0) := by go_simp
        have g4 : (tA.alloc (.cells #[.int .i64 0, .bool false, .string ⟨#[]⟩, .int .i64 0, .string ⟨#[]⟩] 29)).cell? ⟨tA.heap.size, 4, none⟩ = some (.string ⟨#[]⟩) := by go_simp
        have gz0 : (tA.alloc (.cells #[.int .i64 0, .bool false, .string ⟨#[]⟩, .int .i64 0, .string ⟨#[]⟩] 29)).frozen? ⟨tA.heap.size, 0, none⟩ = false := by go_simp
        have gz1 : (tA.alloc (.cells #[.int .i64 0, .bool false, .string ⟨#[]⟩, .int .i64 0, .string ⟨#[]⟩] 29)).frozen? ⟨tA.heap.size, 1, none⟩ = false := by go_simp
        have gz2 : (tA.alloc (.cells #[.int .i64 0, .bool false, .string ⟨#[]⟩, .int .i64 0, .string ⟨#[]⟩] 29)).frozen? ⟨tA.heap.size, 2, none⟩ = false := by go_simp
        have gz3 : (tA.alloc (.cells #[.int .i64 0, .bool false, .string ⟨#[]⟩, .int .i64 0, .string ⟨#[]⟩] 29)).frozen? ⟨tA.heap.size, 3, none⟩ = false := by go_simp
        have gz4 : (tA.alloc (.cells #[.int .i64 0, .bool false, .string ⟨#[]⟩, .int .i64 0, .string ⟨#[]⟩] 29)).frozen? ⟨tA.heap.size, 4, none⟩ = false := by go_simp
        refine hK.out _ _ ?_ (fun hHeld => ?_)
        · ((try dsimp only); exact ext_trans hHeld (ext_alloc _ _))
        clear hK K
        try simp only [Act.put, List.setIfInBounds_toArray, List.set_cons_zero, List.set_cons_succ]
        refine wpAnyH_ready (rs := [4]) (by kernel_rfl) (by simp) ?_
        refine AllReadyH.cons (i := 4) rfl (fun K hK => ?_) AllReadyH.nil
        simp only [List.getElem_toArray, List.getElem_cons_succ, List.getElem_cons_zero]
        rw [if_pos (by rfl)]
        go_simp
        (go_at_call 8; refine (toVal_any _ (by exact Rd.later (by repeat' (first | (with_reducible exact Below.refl _ _) | (with_reducible refine ext_trans ?_ hbC) | (with_reducible refine ext_trans ?_ hbB) | (with_reducible refine ext_trans ?_ hbA) | (with_reducible refine ext_trans ?_ hb1) | (with_reducible refine ext_trans ?_ hb0) | (with_reducible refine ext_trans ?_ (ext_alloc _ _)) | (with_reducible refine Below.drew ?_) | (with_reducible refine Below.setCell ?_ ?_ _) | (simp; done) | (simp; omega) | omega)) h2) hzz2).mono ?_; rintro e tB ⟨qB, rfl, hrB, hbB⟩; go_wp2_with fail)
        replace hrB := Rd.old hrB
        obtain ⟨hcsB, _⟩ := rdVal hrB
        obtain rfl := arr_of_list hcsB
        clear hcsB
        replace g0 := (hbB.cell (p := ⟨tA.heap.size, 0, none⟩) gl).trans g0
        replace g1 := (hbB.cell (p := ⟨tA.heap.size, 1, none⟩) gl).trans g1
        replace g2 := (hbB.cell (p := ⟨tA.heap.size, 2, none⟩) gl).trans g2
        replace g3 := (hbB.cell (p := ⟨tA.heap.size, 3, none⟩) gl).trans g3
        replace g4 := (hbB.cell (p := ⟨tA.heap.size, 4, none⟩) gl).trans g4
        replace gz0 := (hbB.frozen (p := ⟨tA.heap.size, 0, none⟩) gl).trans gz0
        replace gz1 := (hbB.frozen (p := ⟨tA.heap.size, 1, none⟩) gl).trans gz1
        replace gz2 := (hbB.frozen (p := ⟨tA.heap.size, 2, none⟩) gl).trans gz2
        replace gz3 := (hbB.frozen (p := ⟨tA.heap.size, 3, none⟩) gl).trans gz3
        replace gz4 := (hbB.frozen (p := ⟨tA.heap.size, 4, none⟩) gl).trans gz4
        replace gl := Nat.lt_of_lt_of_le gl hbB.size
        refine hK.out _ _ ?_ (fun hHeld => ?_)
        · ((try dsimp only); exact ext_trans hHeld hbB)
        clear hK K
        try simp only [Act.put, List.setIfInBounds_toArray, List.set_cons_zero, List.set_cons_succ]
        refine wpAnyH_ready (rs := [5]) (by kernel_rfl) (by simp) ?_
        refine AllReadyH.cons (i := 5) rfl (fun K hK => ?_) AllReadyH.nil
        simp only [List.getElem_toArray, List.getElem_cons_succ, List.getElem_cons_zero]
        rw [if_pos (by rfl)]
        go_simp
        (go_at_call 7; refine (specValArith x0 _ (by exact Rd.later (by repeat' (first | (with_reducible exact Below.refl _ _) | (with_reducible refine ext_trans ?_ hbC) | (with_reducible refine ext_trans ?_ hbB) | (with_reducible refine ext_trans ?_ hbA) | (with_reducible refine ext_trans ?_ hb1) | (with_reducible refine ext_trans ?_ hb0) | (with_reducible refine ext_trans ?_ (ext_alloc _ _)) | (with_reducible refine Below.drew ?_) | (with_reducible refine Below.setCell ?_ ?_ _) | (simp; done) | (simp; omega) | omega)) hrA) (by exact Rd.later (by repeat' (first | (with_reducible exact Below.refl _ _) | (with_reducible refine ext_trans ?_ hbC) | (with_reducible refine ext_trans ?_ hbB) | (with_reducible refine ext_trans ?_ hbA) | (with_reducible refine ext_trans ?_ hb1) | (with_reducible refine ext_trans ?_ hb0) | (with_reducible refine ext_trans ?_ (ext_alloc _ _)) | (with_reducible refine Below.drew ?_) | (with_reducible refine Below.setCell ?_ ?_ _) | (simp; done) | (simp; omega) | omega)) hrB) b0).mono ?_; simp only [arithT]; rintro e tC ⟨rfl, hbC⟩; go_wp2_with fail)
        replace g0 := (hbC.cell (p := ⟨tA.heap.size, 0, none⟩) gl).trans g0
        replace g1 := (hbC.cell (p := ⟨tA.heap.size, 1, none⟩) gl).trans g1
        replace g2 := (hbC.cell (p := ⟨tA.heap.size, 2, none⟩) gl).trans g2
        replace g3 := (hbC.cell (p := ⟨tA.heap.size, 3, none⟩) gl).trans g3
        replace g4 := (hbC.cell (p := ⟨tA.heap.size, 4, none⟩) gl).trans g4
        replace gz0 := (hbC.frozen (p := ⟨tA.heap.size, 0, none⟩) gl).trans gz0
        replace gz1 := (hbC.frozen (p := ⟨tA.heap.size, 1, none⟩) gl).trans gz1
        replace gz2 := (hbC.frozen (p := ⟨tA.heap.size, 2, none⟩) gl).trans gz2
        replace gz3 := (hbC.frozen (p := ⟨tA.heap.size, 3, none⟩) gl).trans gz3
        replace gz4 := (hbC.frozen (p := ⟨tA.heap.size, 4, none⟩) gl).trans gz4
        replace gl := Nat.lt_of_lt_of_le gl hbC.size
        refine hK.out _ _ ?_ (fun hHeld => ?_)
        · ((try dsimp only); exact ext_trans hHeld hbC)
        clear hK K
        try simp only [Act.put, List.setIfInBounds_toArray, List.set_cons_zero, List.set_cons_succ]
        refine wpAnyH_take (i := 6) (v := ?_) rfl (by kernel_rfl) (by kernel_rfl) (by kernel_rfl) (fun _ _ _ h => h) (Or.inl ⟨by rfl, ?_⟩) (by assumption) ?_
        rotate_left
        · (intro w' hSw; (try dsimp only at hSw); go_simp; try (with_reducible rfl))
        change wpAnyH _ _ _ _ _ _ _ (Act.put _ (some 22) _) _
        try simp only [Act.put, List.setIfInBounds_toArray, List.set_cons_zero, List.set_cons_succ]
        refine wpAnyH_take (i := 7) (v := ?_) rfl (by kernel_rfl) (by kernel_rfl) (by kernel_rfl) (fun _ _ _ h => h) (Or.inl ⟨by rfl, ?_⟩) (by assumption) ?_
        rotate_left
        · (intro w' hSw; (try dsimp only at hSw); go_simp; try (with_reducible rfl))
        change wpAnyH _ _ _ _ _ _ _ (Act.put _ (some 29) _) _
        try simp only [Act.put, List.setIfInBounds_toArray, List.set_cons_zero, List.set_cons_succ]
        refine wpAnyH_take (i := 8) (v := ?_) rfl (by kernel_rfl) (by kernel_rfl) (by kernel_rfl) (fun _ _ _ h => h) (Or.inl ⟨by rfl, ?_⟩) (by assumption) ?_
        rotate_left
        · (intro w' hSw; (try dsimp only at hSw); go_simp; try (with_reducible rfl))
        change wpAnyH _ _ _ _ _ _ _ (Act.put _ (some 30) _) _
        try simp only [Act.put, List.setIfInBounds_toArray, List.set_cons_zero, List.set_cons_succ]
        refine wpAnyH_ready (rs := [10]) (by kernel_rfl) (by simp) ?_
        refine AllReadyH.cons (i := 10) rfl (fun K hK => ?_) AllReadyH.nil
        simp only [List.getElem_toArray, List.getElem_cons_succ, List.getElem_cons_zero]
        rw [if_pos (by rfl)]
        go_simp
        refine hK.out _ _ ?_ (fun hHeld => ?_)
        · ((try dsimp only); (refine Below.setCell ?_ gle _; refine Below.setCell ?_ gle _; refine Below.setCell ?_ gle _; refine Below.setCell ?_ gle _; refine Below.setCell ?_ gle _; exact hHeld))
        clear hK K
        try simp only [Act.put, List.setIfInBounds_toArray, List.set_cons_zero, List.set_cons_succ]
        refine wpAnyH_take (i := 11) (v := ?_) rfl (by kernel_rfl) (by kernel_rfl) (by kernel_rfl) (fun _ _ _ h => h) (Or.inl ⟨by rfl, ?_⟩) (by assumption) ?_
        rotate_left
        · (intro w' hSw; (try dsimp only at hSw); go_simp; try (with_reducible rfl))
        change wpAnyH _ _ _ _ _ _ _ (Act.put _ (some 9) _) _
        try simp only [Act.put, List.setIfInBounds_toArray, List.set_cons_zero, List.set_cons_succ]
        refine wpAnyH_done (by kernel_rfl) ?_ _
        dsimp only [Exit.then]
        rw [HRR8.out]
        refine ⟨tA.heap.size, .int .i64 x0, .agg #[.int .i64 x1.kind, .bool x1.num.neg, .string x1.num.dig, .int .i64 x1.num.exp, .string x1.text], .agg #[.int .i64 x1.kind, .bool x1.num.neg, .string x1.num.dig, .int .i64 x1.num.exp, .string x1.text], .agg #[.int .i64 x2.kind, .bool x2.num.neg, .string x2.num.dig, .int .i64 x2.num.exp, .string x2.text], .agg #[.int .i64 x2.kind, .bool x2.num.neg, .string x2.num.dig, .int .i64 x2.num.exp, .string x2.text], .tuple #[.agg #[.int .i64 (arithV x0 x1 x2).1.kind, .bool (arithV x0 x1 x2).1.num.neg, .string (arithV x0 x1 x2).1.num.dig, .int .i64 (arithV x0 x1 x2).1.num.exp, .string (arithV x0 x1 x2).1.text], .int .i64 (arithV x0 x1 x2).2], .tuple #[.agg #[.int .i64 (arithV x0 x1 x2).1.kind, .bool (arithV x0 x1 x2).1.num.neg, .string (arithV x0 x1 x2).1.num.dig, .int .i64 (arithV x0 x1 x2).1.num.exp, .string (arithV x0 x1 x2).1.text], .int .i64 (arithV x0 x1 x2).2], .agg #[.int .i64 (arithV x0 x1 x2).1.kind, .bool (arithV x0 x1 x2).1.num.neg, .string (arithV x0 x1 x2).1.num.dig, .int .i64 (arithV x0 x1 x2).1.num.exp, .string (arithV x0 x1 x2).1.text], .int .i64 (arithV x0 x1 x2).2, ?_, gle, ?_, hHeld, ?_⟩
        · simp only [Act.put, List.setIfInBounds_toArray, List.set_cons_zero, List.set_cons_succ]
        · first | (simp; done) | (simpa using gl)
        · refine ⟨?_, ?_, ?_, ?_, ?_⟩ <;> first | (simp [go_sem, gl, g0, g1, g2, g3, g4]; done) | (go_simp; done)
      exact AllReadyH.nil
    refine AllReadyH.cons (i := 9) rfl (fun K hK => ?_) ?_
    · simp only [List.getElem_toArray, List.getElem_cons_succ, List.getElem_cons_zero]
      rw [if_pos (by rfl)]
      go_simp
      have hHC := hHeld
      have gle : w1.heap.size ≤ w1.heap.size := hHeld.size
      have gl : w1.heap.size < (w1.drew.alloc (.cells #[.int .i64 0, .bool false, .string ⟨#[]⟩, .int .i64 0, .string ⟨#[]⟩] 29)).heap.size := by simp
      have g0 : (w1.drew.alloc (.cells #[.int .i64 0, .bool false, .string ⟨#[]⟩, .int .i64 0, .string ⟨#[]⟩] 29)).cell? ⟨w1.heap.size, 0, none⟩ = some (.int .i64 0) := by go_simp
      have g1 : (w1.drew.alloc (.cells #[.int .i64 0, .bool false, .string ⟨#[]⟩, .int .i64 0, .string ⟨#[]⟩] 29)).cell? ⟨w1.heap.size, 1, none⟩ = some (.bool false) := by go_simp
      have g2 : (w1.drew.alloc (.cells #[.int .i64 0, .bool false, .string ⟨#[]⟩, .int .i64 0, .string ⟨#[]⟩] 29)).cell? ⟨w1.heap.size, 2, none⟩ = some (.string ⟨#[]⟩) := by go_simp
      have g3 : (w1.drew.alloc (.cells #[.int .i64 0, .bool false, .string ⟨#[]⟩, .int .i64 0, .string ⟨#[]⟩] 29)).cell? ⟨w1.heap.size, 3, none⟩ = some (.int .i64 0) := by go_simp
      have g4 : (w1.drew.alloc (.cells #[.int .i64 0, .bool false, .string ⟨#[]⟩, .int .i64 0, .string ⟨#[]⟩] 29)).cell? ⟨w1.heap.size, 4, none⟩ = some (.string ⟨#[]⟩) := by go_simp
      have gz0 : (w1.drew.alloc (.cells #[.int .i64 0, .bool false, .string ⟨#[]⟩, .int .i64 0, .string ⟨#[]⟩] 29)).frozen? ⟨w1.heap.size, 0, none⟩ = false := by go_simp
      have gz1 : (w1.drew.alloc (.cells #[.int .i64 0, .bool false, .string ⟨#[]⟩, .int .i64 0, .string ⟨#[]⟩] 29)).frozen? ⟨w1.heap.size, 1, none⟩ = false := by go_simp
      have gz2 : (w1.drew.alloc (.cells #[.int .i64 0, .bool false, .string ⟨#[]⟩, .int .i64 0, .string ⟨#[]⟩] 29)).frozen? ⟨w1.heap.size, 2, none⟩ = false := by go_simp
      have gz3 : (w1.drew.alloc (.cells #[.int .i64 0, .bool false, .string ⟨#[]⟩, .int .i64 0, .string ⟨#[]⟩] 29)).frozen? ⟨w1.heap.size, 3, none⟩ = false := by go_simp
      have gz4 : (w1.drew.alloc (.cells #[.int .i64 0, .bool false, .string ⟨#[]⟩, .int .i64 0, .string ⟨#[]⟩] 29)).frozen? ⟨w1.heap.size, 4, none⟩ = false := by go_simp
      refine hK.out _ _ ?_ (fun hHeld => ?_)
      · ((try dsimp only); exact ext_trans hHeld (ext_alloc _ _))
      clear hK K
      try simp only [Act.put, List.setIfInBounds_toArray, List.set_cons_zero, List.set_cons_succ]
      refine wpAnyH_ready (rs := [2]) (by kernel_rfl) (by simp) ?_
      refine AllReadyH.cons (i := 2) rfl (fun K hK => ?_) AllReadyH.nil
      simp only [List.getElem_toArray, List.getElem_cons_succ, List.getElem_cons_zero]
      rw [if_pos (by rfl)]
      go_simp
      (go_at_call 8; refine (toVal_any _ (by exact Rd.later (by repeat' (first | (with_reducible exact Below.refl _ _) | (with_reducible refine ext_trans ?_ hbC) | (with_reducible refine ext_trans ?_ hbB) | (with_reducible refine ext_trans ?_ hbA) | (with_reducible refine ext_trans ?_ hb1) | (with_reducible refine ext_trans ?_ hb0) | (with_reducible refine ext_trans ?_ (ext_alloc _ _)) | (with_reducible refine Below.drew ?_) | (with_reducible refine Below.setCell ?_ ?_ _) | (simp; done) | (simp; omega) | omega)) h1) hzz1).mono ?_; rintro e tA ⟨qA, rfl, hrA, hbA⟩; go_wp2_with fail)
      replace hrA := Rd.old hrA
      obtain ⟨hcsA, _⟩ := rdVal hrA
      obtain rfl := arr_of_list hcsA
      clear hcsA
      replace g0 := (hbA.cell (p := ⟨w1.heap.size, 0, none⟩) gl).trans g0
      replace g1 := (hbA.cell (p := ⟨w1.heap.size, 1, none⟩) gl).trans g1
      replace g2 := (hbA.cell (p := ⟨w1.heap.size, 2, none⟩) gl).trans g2
      replace g3 := (hbA.cell (p := ⟨w1.heap.size, 3, none⟩) gl).trans g3
      replace g4 := (hbA.cell (p := ⟨w1.heap.size, 4, none⟩) gl).trans g4
      replace gz0 := (hbA.frozen (p := ⟨w1.heap.size, 0, none⟩) gl).trans gz0
      replace gz1 := (hbA.frozen (p := ⟨w1.heap.size, 1, none⟩) gl).trans gz1
      replace gz2 := (hbA.frozen (p := ⟨w1.heap.size, 2, none⟩) gl).trans gz2
      replace gz3 := (hbA.frozen (p := ⟨w1.heap.size, 3, none⟩) gl).trans gz3
      replace gz4 := (hbA.frozen (p := ⟨w1.heap.size, 4, none⟩) gl).trans gz4
      replace gl := Nat.lt_of_lt_of_le gl hbA.size
      refine hK.out _ _ ?_ (fun hHeld => ?_)
      · ((try dsimp only); exact ext_trans hHeld hbA)
      clear hK K
      try simp only [Act.put, List.setIfInBounds_toArray, List.set_cons_zero, List.set_cons_succ]
      refine wpAnyH_ready (rs := [4]) (by kernel_rfl) (by simp) ?_
      refine AllReadyH.cons (i := 4) rfl (fun K hK => ?_) AllReadyH.nil
      simp only [List.getElem_toArray, List.getElem_cons_succ, List.getElem_cons_zero]
      rw [if_pos (by rfl)]
      go_simp
      (go_at_call 8; refine (toVal_any _ (by exact Rd.later (by repeat' (first | (with_reducible exact Below.refl _ _) | (with_reducible refine ext_trans ?_ hbC) | (with_reducible refine ext_trans ?_ hbB) | (with_reducible refine ext_trans ?_ hbA) | (with_reducible refine ext_trans ?_ hb1) | (with_reducible refine ext_trans ?_ hb0) | (with_reducible refine ext_trans ?_ (ext_alloc _ _)) | (with_reducible refine Below.drew ?_) | (with_reducible refine Below.setCell ?_ ?_ _) | (simp; done) | (simp; omega) | omega)) h2) hzz2).mono ?_; rintro e tB ⟨qB, rfl, hrB, hbB⟩; go_wp2_with fail)
      replace hrB := Rd.old hrB
      obtain ⟨hcsB, _⟩ := rdVal hrB
      obtain rfl := arr_of_list hcsB
      clear hcsB
      replace g0 := (hbB.cell (p := ⟨w1.heap.size, 0, none⟩) gl).trans g0
      replace g1 := (hbB.cell (p := ⟨w1.heap.size, 1, none⟩) gl).trans g1
      replace g2 := (hbB.cell (p := ⟨w1.heap.size, 2, none⟩) gl).trans g2
      replace g3 := (hbB.cell (p := ⟨w1.heap.size, 3, none⟩) gl).trans g3
      replace g4 := (hbB.cell (p := ⟨w1.heap.size, 4, none⟩) gl).trans g4
      replace gz0 := (hbB.frozen (p := ⟨w1.heap.size, 0, none⟩) gl).trans gz0
      replace gz1 := (hbB.frozen (p := ⟨w1.heap.size, 1, none⟩) gl).trans gz1
      replace gz2 := (hbB.frozen (p := ⟨w1.heap.size, 2, none⟩) gl).trans gz2
      replace gz3 := (hbB.frozen (p := ⟨w1.heap.size, 3, none⟩) gl).trans gz3
      replace gz4 := (hbB.frozen (p := ⟨w1.heap.size, 4, none⟩) gl).trans gz4
      replace gl := Nat.lt_of_lt_of_le gl hbB.size
      refine hK.out _ _ ?_ (fun hHeld => ?_)
      · ((try dsimp only); exact ext_trans hHeld hbB)
      clear hK K
      try simp only [Act.put, List.setIfInBounds_toArray, List.set_cons_zero, List.set_cons_succ]
      refine wpAnyH_ready (rs := [5]) (by kernel_rfl) (by simp) ?_
      refine AllReadyH.cons (i := 5) rfl (fun K hK => ?_) AllReadyH.nil
      simp only [List.getElem_toArray, List.getElem_cons_succ, List.getElem_cons_zero]
      rw [if_pos (by rfl)]
      go_simp
      (go_at_call 7; refine (specValArith x0 _ (by exact Rd.later (by repeat' (first | (with_reducible exact Below.refl _ _) | (with_reducible refine ext_trans ?_ hbC) | (with_reducible refine ext_trans ?_ hbB) | (with_reducible refine ext_trans ?_ hbA) | (with_reducible refine ext_trans ?_ hb1) | (with_reducible refine ext_trans ?_ hb0) | (with_reducible refine ext_trans ?_ (ext_alloc _ _)) | (with_reducible refine Below.drew ?_) | (with_reducible refine Below.setCell ?_ ?_ _) | (simp; done) | (simp; omega) | omega)) hrA) (by exact Rd.later (by repeat' (first | (with_reducible exact Below.refl _ _) | (with_reducible refine ext_trans ?_ hbC) | (with_reducible refine ext_trans ?_ hbB) | (with_reducible refine ext_trans ?_ hbA) | (with_reducible refine ext_trans ?_ hb1) | (with_reducible refine ext_trans ?_ hb0) | (with_reducible refine ext_trans ?_ (ext_alloc _ _)) | (with_reducible refine Below.drew ?_) | (with_reducible refine Below.setCell ?_ ?_ _) | (simp; done) | (simp; omega) | omega)) hrB) b0).mono ?_; simp only [arithT]; rintro e tC ⟨rfl, hbC⟩; go_wp2_with fail)
      replace g0 := (hbC.cell (p := ⟨w1.heap.size, 0, none⟩) gl).trans g0
      replace g1 := (hbC.cell (p := ⟨w1.heap.size, 1, none⟩) gl).trans g1
      replace g2 := (hbC.cell (p := ⟨w1.heap.size, 2, none⟩) gl).trans g2
      replace g3 := (hbC.cell (p := ⟨w1.heap.size, 3, none⟩) gl).trans g3
      replace g4 := (hbC.cell (p := ⟨w1.heap.size, 4, none⟩) gl).trans g4
      replace gz0 := (hbC.frozen (p := ⟨w1.heap.size, 0, none⟩) gl).trans gz0
      replace gz1 := (hbC.frozen (p := ⟨w1.heap.size, 1, none⟩) gl).trans gz1
      replace gz2 := (hbC.frozen (p := ⟨w1.heap.size, 2, none⟩) gl).trans gz2
      replace gz3 := (hbC.frozen (p := ⟨w1.heap.size, 3, none⟩) gl).trans gz3
      replace gz4 := (hbC.frozen (p := ⟨w1.heap.size, 4, none⟩) gl).trans gz4
      replace gl := Nat.lt_of_lt_of_le gl hbC.size
      refine hK.out _ _ ?_ (fun hHeld => ?_)
      · ((try dsimp only); exact ext_trans hHeld hbC)
      clear hK K
      try simp only [Act.put, List.setIfInBounds_toArray, List.set_cons_zero, List.set_cons_succ]
      refine wpAnyH_take (i := 6) (v := ?_) rfl (by kernel_rfl) (by kernel_rfl) (by kernel_rfl) (fun _ _ _ h => h) (Or.inl ⟨by rfl, ?_⟩) (by assumption) ?_
      rotate_left
      · (intro w' hSw; (try dsimp only at hSw); go_simp; try (with_reducible rfl))
      change wpAnyH _ _ _ _ _ _ _ (Act.put _ (some 22) _) _
      try simp only [Act.put, List.setIfInBounds_toArray, List.set_cons_zero, List.set_cons_succ]
      refine wpAnyH_take (i := 7) (v := ?_) rfl (by kernel_rfl) (by kernel_rfl) (by kernel_rfl) (fun _ _ _ h => h) (Or.inl ⟨by rfl, ?_⟩) (by assumption) ?_
      rotate_left
      · (intro w' hSw; (try dsimp only at hSw); go_simp; try (with_reducible rfl))
      change wpAnyH _ _ _ _ _ _ _ (Act.put _ (some 29) _) _
      try simp only [Act.put, List.setIfInBounds_toArray, List.set_cons_zero, List.set_cons_succ]
      refine wpAnyH_take (i := 8) (v := ?_) rfl (by kernel_rfl) (by kernel_rfl) (by kernel_rfl) (fun _ _ _ h => h) (Or.inl ⟨by rfl, ?_⟩) (by assumption) ?_
      rotate_left
      · (intro w' hSw; (try dsimp only at hSw); go_simp; try (with_reducible rfl))
      change wpAnyH _ _ _ _ _ _ _ (Act.put _ (some 30) _) _
      try simp only [Act.put, List.setIfInBounds_toArray, List.set_cons_zero, List.set_cons_succ]
      refine wpAnyH_ready (rs := [10]) (by kernel_rfl) (by simp) ?_
      refine AllReadyH.cons (i := 10) rfl (fun K hK => ?_) AllReadyH.nil
      simp only [List.getElem_toArray, List.getElem_cons_succ, List.getElem_cons_zero]
      rw [if_pos (by rfl)]
      go_simp
      refine hK.out _ _ ?_ (fun hHeld => ?_)
      · ((try dsimp only); (refine Below.setCell ?_ gle _; refine Below.setCell ?_ gle _; refine Below.setCell ?_ gle _; refine Below.setCell ?_ gle _; refine Below.setCell ?_ gle _; exact hHeld))
      clear hK K
      try simp only [Act.put, List.setIfInBounds_toArray, List.set_cons_zero, List.set_cons_succ]
      refine wpAnyH_take (i := 11) (v := ?_) rfl (by kernel_rfl) (by kernel_rfl) (by kernel_rfl) (fun _ _ _ h => h) (Or.inl ⟨by rfl, ?_⟩) (by assumption) ?_
      rotate_left
      · (intro w' hSw; (try dsimp only at hSw); go_simp; try (with_reducible rfl))
      change wpAnyH _ _ _ _ _ _ _ (Act.put _ (some 9) _) _
      try simp only [Act.put, List.setIfInBounds_toArray, List.set_cons_zero, List.set_cons_succ]
      refine wpAnyH_done (by kernel_rfl) ?_ _
      dsimp only [Exit.then]
      rw [HRR8.out]
      refine ⟨w1.heap.size, .int .i64 x0, .agg #[.int .i64 x1.kind, .bool x1.num.neg, .string x1.num.dig, .int .i64 x1.num.exp, .string x1.text], .agg #[.int .i64 x1.kind, .bool x1.num.neg, .string x1.num.dig, .int .i64 x1.num.exp, .string x1.text], .agg #[.int .i64 x2.kind, .bool x2.num.neg, .string x2.num.dig, .int .i64 x2.num.exp, .string x2.text], .agg #[.int .i64 x2.kind, .bool x2.num.neg, .string x2.num.dig, .int .i64 x2.num.exp, .string x2.text], .tuple #[.agg #[.int .i64 (arithV x0 x1 x2).1.kind, .bool (arithV x0 x1 x2).1.num.neg, .string (arithV x0 x1 x2).1.num.dig, .int .i64 (arithV x0 x1 x2).1.num.exp, .string (arithV x0 x1 x2).1.text], .int .i64 (arithV x0 x1 x2).2], .tuple #[.agg #[.int .i64 (arithV x0 x1 x2).1.kind, .bool (arithV x0 x1 x2).1.num.neg, .string (arithV x0 x1 x2).1.num.dig, .int .i64 (arithV x0 x1 x2).1.num.exp, .string (arithV x0 x1 x2).1.text], .int .i64 (arithV x0 x1 x2).2], .agg #[.int .i64 (arithV x0 x1 x2).1.kind, .bool (arithV x0 x1 x2).1.num.neg, .string (arithV x0 x1 x2).1.num.dig, .int .i64 (arithV x0 x1 x2).1.num.exp, .string (arithV x0 x1 x2).1.text], .int .i64 (arithV x0 x1 x2).2, ?_, gle, ?_, hHeld, ?_⟩
      · simp only [Act.put, List.setIfInBounds_toArray, List.set_cons_zero, List.set_cons_succ]
      · first | (simp; done) | (simpa using gl)
      · refine ⟨?_, ?_, ?_, ?_, ?_⟩ <;> first | (simp [go_sem, gl, g0, g1, g2, g3, g4]; done) | (go_simp; done)
    exact AllReadyH.nil
  · intro a' w2 hR8
    rw [HRR8.out] at hR8
    obtain ⟨bk8, z8_23, z8_24, z8_25, z8_26, z8_27, z8_28, z8_22, z8_29, z8_30, rfl, hbk8, hbl8, hbR8, m80, m81, m82, m83, m84⟩ := hR8
    clear HRR8
    try simp only [Act.put, List.setIfInBounds_toArray, List.set_cons_zero, List.set_cons_succ]
    go_wp2_with fail
    obtain ⟨RR9, hRR9⟩ : ∃ RR : Act → Act → World → Prop, RR = (fun a a' w' => ∃ (bk : Nat) (z32 z33 z34 z35 z36 z37 z31 z38 z39 : Value), a' = (((((((((((a.put (some 32) z32).put (some 33) z33).put (some 34) z34).put (some 35) z35).put (some 36) z36).put (some 37) z37).put (some 31) z31).put (some 38) z38).put (some 39) z39).put (some 10) (.pointer (some ⟨bk, 0, none⟩))).put (some 11) (.int .i64 (arithV x0 x1 x2).2)) ∧ w2.heap.size ≤ bk ∧ bk < w'.heap.size ∧ Below w2.heap.size w2 w' ∧ w'.cell? ⟨bk, 0, none⟩ = some (.int .i64 (arithV x0 x1 x2).1.kind) ∧ w'.cell? ⟨bk, 1, none⟩ = some (.bool (arithV x0 x1 x2).1.num.neg) ∧ w'.cell? ⟨bk, 2, none⟩ = some (.string (arithV x0 x1 x2).1.num.dig) ∧ w'.cell? ⟨bk, 3, none⟩ = some (.int .i64 (arithV x0 x1 x2).1.num.exp) ∧ w'.cell? ⟨bk, 4, none⟩ = some (.string (arithV x0 x1 x2).1.text)) := ⟨_, rfl⟩
    have HRR9 := hid hRR9
    clear hRR9
    refine wp_cut RR9 ?_ ?_
    · have k00 := keeps_cells hbR8 ⟨W.heap.size, 0, none⟩ (.int .i64 x1.kind) (keeps_cells hb1 ⟨W.heap.size, 0, none⟩ (.int .i64 x1.kind) (keeps_cells hb0 ⟨W.heap.size, 0, none⟩ (.int .i64 x1.kind) (by go_simp)))
      have k01 := keeps_cells hbR8 ⟨W.heap.size, 1, none⟩ (.bool x1.num.neg) (keeps_cells hb1 ⟨W.heap.size, 1, none⟩ (.bool x1.num.neg) (keeps_cells hb0 ⟨W.heap.size, 1, none⟩ (.bool x1.num.neg) (by go_simp)))
      have k02 := keeps_cells hbR8 ⟨W.heap.size, 2, none⟩ (.string x1.num.dig) (keeps_cells hb1 ⟨W.heap.size, 2, none⟩ (.string x1.num.dig) (keeps_cells hb0 ⟨W.heap.size, 2, none⟩ (.string x1.num.dig) (by go_simp)))
      have k03 := keeps_cells hbR8 ⟨W.heap.size, 3, none⟩ (.int .i64 x1.num.exp) (keeps_cells hb1 ⟨W.heap.size, 3, none⟩ (.int .i64 x1.num.exp) (keeps_cells hb0 ⟨W.heap.size, 3, none⟩ (.int .i64 x1.num.exp) (by go_simp)))
      have k04 := keeps_cells hbR8 ⟨W.heap.size, 4, none⟩ (.string x1.text) (keeps_cells hb1 ⟨W.heap.size, 4, none⟩ (.string x1.text) (keeps_cells hb0 ⟨W.heap.size, 4, none⟩ (.string x1.text) (by go_simp)))
      have k10 := keeps_cells hbR8 ⟨W.heap.size + 1, 0, none⟩ (.int .i64 x2.kind) (keeps_cells hb1 ⟨W.heap.size + 1, 0, none⟩ (.int .i64 x2.kind) (keeps_cells hb0 ⟨W.heap.size + 1, 0, none⟩ (.int .i64 x2.kind) (by go_simp)))
      have k11 := keeps_cells hbR8 ⟨W.heap.size + 1, 1, none⟩ (.bool x2.num.neg) (keeps_cells hb1 ⟨W.heap.size + 1, 1, none⟩ (.bool x2.num.neg) (keeps_cells hb0 ⟨W.heap.size + 1, 1, none⟩ (.bool x2.num.neg) (by go_simp)))
      have k12 := keeps_cells hbR8 ⟨W.heap.size + 1, 2, none⟩ (.string x2.num.dig) (keeps_cells hb1 ⟨W.heap.size + 1, 2, none⟩ (.string x2.num.dig) (keeps_cells hb0 ⟨W.heap.size + 1, 2, none⟩ (.string x2.num.dig) (by go_simp)))
      have k13 := keeps_cells hbR8 ⟨W.heap.size + 1, 3, none⟩ (.int .i64 x2.num.exp) (keeps_cells hb1 ⟨W.heap.size + 1, 3, none⟩ (.int .i64 x2.num.exp) (keeps_cells hb0 ⟨W.heap.size + 1, 3, none⟩ (.int .i64 x2.num.exp) (by go_simp)))
      have k14 := keeps_cells hbR8 ⟨W.heap.size + 1, 4, none⟩ (.string x2.text) (keeps_cells hb1 ⟨W.heap.size + 1, 4, none⟩ (.string x2.text) (keeps_cells hb0 ⟨W.heap.size + 1, 4, none⟩ (.string x2.text) (by go_simp)))
      have kl0 : W.heap.size < w2.heap.size := by have sz_hbR8 := hbR8.size; first | assumption | omega
      have kl1 : W.heap.size + 1 < w2.heap.size := by have sz_hbR8 := hbR8.size; first | assumption | omega
      clear hc0 hf0 hc1 hf1
      refine wp_region_held_drew (S := fun w' => Below w2.heap.size w2 w') (by kernel_rfl) ?_ (fun hHeld => ?_)
      · exact (by repeat' (first | (with_reducible exact Below.refl _ _) | (with_reducible refine ext_trans ?_ hbC) | (with_reducible refine ext_trans ?_ hbB) | (with_reducible refine ext_trans ?_ hbA) | (with_reducible refine ext_trans ?_ (ext_alloc _ _)) | (with_reducible refine Below.drew ?_) | (with_reducible refine Below.setCell ?_ ?_ _) | (simp; done) | (simp; omega) | omega))
      refine wpAnyH_take (i := 0) (v := ?_) rfl (by kernel_rfl) (by kernel_rfl) (by kernel_rfl) (fun _ _ _ h => h) (Or.inl ⟨by rfl, ?_⟩) (by assumption) ?_
      rotate_left
      · (intro w' hSw; (try dsimp only at hSw); go_simp; try (with_reducible rfl))
      change wpAnyH _ _ _ _ _ _ _ (Act.put _ (some 32) _) _
      try simp only [Act.put, List.setIfInBounds_toArray, List.set_cons_zero, List.set_cons_succ]
      refine wpAnyH_take (i := 1) (v := ?_) rfl (by kernel_rfl) (by kernel_rfl) (by kernel_rfl) (fun _ _ _ h => h) (Or.inl ⟨by rfl, ?_⟩) (by assumption) ?_
      rotate_left
      · (intro w' hSw; (try dsimp only at hSw); (have q0 := (hSw.cell (p := ⟨W.heap.size, 0, none⟩) kl0).trans k00; have q1 := (hSw.cell (p := ⟨W.heap.size, 1, none⟩) kl0).trans k01; have q2 := (hSw.cell (p := ⟨W.heap.size, 2, none⟩) kl0).trans k02; have q3 := (hSw.cell (p := ⟨W.heap.size, 3, none⟩) kl0).trans k03; have q4 := (hSw.cell (p := ⟨W.heap.size, 4, none⟩) kl0).trans k04); go_simp; try (with_reducible rfl))
      change wpAnyH _ _ _ _ _ _ _ (Act.put _ (some 33) _) _
      try simp only [Act.put, List.setIfInBounds_toArray, List.set_cons_zero, List.set_cons_succ]
      refine wpAnyH_take (i := 3) (v := ?_) rfl (by kernel_rfl) (by kernel_rfl) (by kernel_rfl) (fun _ _ _ h => h) (Or.inl ⟨by rfl, ?_⟩) (by assumption) ?_
      rotate_left
      · (intro w' hSw; (try dsimp only at hSw); (have q0 := (hSw.cell (p := ⟨W.heap.size + 1, 0, none⟩) kl1).trans k10; have q1 := (hSw.cell (p := ⟨W.heap.size + 1, 1, none⟩) kl1).trans k11; have q2 := (hSw.cell (p := ⟨W.heap.size + 1, 2, none⟩) kl1).trans k12; have q3 := (hSw.cell (p := ⟨W.heap.size + 1, 3, none⟩) kl1).trans k13; have q4 := (hSw.cell (p := ⟨W.heap.size + 1, 4, none⟩) kl1).trans k14); go_simp; try (with_reducible rfl))
      change wpAnyH _ _ _ _ _ _ _ (Act.put _ (some 35) _) _
      try simp only [Act.put, List.setIfInBounds_toArray, List.set_cons_zero, List.set_cons_succ]
      refine wpAnyH_ready (rs := [2, 9]) (by kernel_rfl) (by simp) ?_
      refine AllReadyH.cons (i := 2) rfl (fun K hK => ?_) ?_
      · simp only [List.getElem_toArray, List.getElem_cons_succ, List.getElem_cons_zero]
        rw [if_pos (by rfl)]
        go_simp
        (go_at_call 8; refine (toVal_any _ (by exact Rd.later (by repeat' (first | (with_reducible exact Below.refl _ _) | (with_reducible refine ext_trans ?_ hbC) | (with_reducible refine ext_trans ?_ hbB) | (with_reducible refine ext_trans ?_ hbA) | (with_reducible refine ext_trans ?_ hbR8) | (with_reducible refine ext_trans ?_ hb1) | (with_reducible refine ext_trans ?_ hb0) | (with_reducible refine ext_trans ?_ (ext_alloc _ _)) | (with_reducible refine Below.drew ?_) | (with_reducible refine Below.setCell ?_ ?_ _) | (simp; done) | (simp; omega) | omega)) h1) hzz1).mono ?_; rintro e tA ⟨qA, rfl, hrA, hbA⟩; go_wp2_with fail)
        replace hrA := Rd.old hrA
        obtain ⟨hcsA, _⟩ := rdVal hrA
        obtain rfl := arr_of_list hcsA
        clear hcsA
        refine hK.out _ _ ?_ (fun hHeld => ?_)
        · ((try dsimp only); exact ext_trans hHeld hbA)
        clear hK K
        try simp only [Act.put, List.setIfInBounds_toArray, List.set_cons_zero, List.set_cons_succ]
        refine wpAnyH_ready (rs := [4, 9]) (by kernel_rfl) (by simp) ?_
        refine AllReadyH.cons (i := 4) rfl (fun K hK => ?_) ?_
        · simp only [List.getElem_toArray, List.getElem_cons_succ, List.getElem_cons_zero]
          rw [if_pos (by rfl)]
          go_simp
          (go_at_call 8; refine (toVal_any _ (by exact Rd.later (by repeat' (first | (with_reducible exact Below.refl _ _) | (with_reducible refine ext_trans ?_ hbC) | (with_reducible refine ext_trans ?_ hbB) | (with_reducible refine ext_trans ?_ hbA) | (with_reducible refine ext_trans ?_ hbR8) | (with_reducible refine ext_trans ?_ hb1) | (with_reducible refine ext_trans ?_ hb0) | (with_reducible refine ext_trans ?_ (ext_alloc _ _)) | (with_reducible refine Below.drew ?_) | (with_reducible refine Below.setCell ?_ ?_ _) | (simp; done) | (simp; omega) | omega)) h2) hzz2).mono ?_; rintro e tB ⟨qB, rfl, hrB, hbB⟩; go_wp2_with fail)
          replace hrB := Rd.old hrB
          obtain ⟨hcsB, _⟩ := rdVal hrB
          obtain rfl := arr_of_list hcsB
          clear hcsB
          refine hK.out _ _ ?_ (fun hHeld => ?_)
          · ((try dsimp only); exact ext_trans hHeld hbB)
          clear hK K
          try simp only [Act.put, List.setIfInBounds_toArray, List.set_cons_zero, List.set_cons_succ]
          refine wpAnyH_ready (rs := [5, 9]) (by kernel_rfl) (by simp) ?_
          refine AllReadyH.cons (i := 5) rfl (fun K hK => ?_) ?_
          · simp only [List.getElem_toArray, List.getElem_cons_succ, List.getElem_cons_zero]
            rw [if_pos (by rfl)]
            go_simp
            (go_at_call 9; refine (implValArith x0 _ (by exact Rd.later (by repeat' (first | (with_reducible exact Below.refl _ _) | (with_reducible refine ext_trans ?_ hbC) | (with_reducible refine ext_trans ?_ hbB) | (with_reducible refine ext_trans ?_ hbA) | (with_reducible refine ext_trans ?_ hbR8) | (with_reducible refine ext_trans ?_ hb1) | (with_reducible refine ext_trans ?_ hb0) | (with_reducible refine ext_trans ?_ (ext_alloc _ _)) | (with_reducible refine Below.drew ?_) | (with_reducible refine Below.setCell ?_ ?_ _) | (simp; done) | (simp; omega) | omega)) hrA) (by exact Rd.later (by repeat' (first | (with_reducible exact Below.refl _ _) | (with_reducible refine ext_trans ?_ hbC) | (with_reducible refine ext_trans ?_ hbB) | (with_reducible refine ext_trans ?_ hbA) | (with_reducible refine ext_trans ?_ hbR8) | (with_reducible refine ext_trans ?_ hb1) | (with_reducible refine ext_trans ?_ hb0) | (with_reducible refine ext_trans ?_ (ext_alloc _ _)) | (with_reducible refine Below.drew ?_) | (with_reducible refine Below.setCell ?_ ?_ _) | (simp; done) | (simp; omega) | omega)) hrB) b0 (tabs_below hT.1 (by repeat' (first | (with_reducible exact Below.refl _ _) | (with_reducible refine ext_trans ?_ hbC) | (with_reducible refine ext_trans ?_ hbB) | (with_reducible refine ext_trans ?_ hbA) | (with_reducible refine ext_trans ?_ hbR8) | (with_reducible refine ext_trans ?_ hb1) | (with_reducible refine ext_trans ?_ hb0) | (with_reducible refine ext_trans ?_ (ext_alloc _ _)) | (with_reducible refine Below.drew ?_) | (with_reducible refine Below.setCell ?_ ?_ _) | (simp; done) | (simp; omega) | omega))) (mx_below hM (by repeat' (first | (with_reducible exact Below.refl _ _) | (with_reducible refine ext_trans ?_ hbC) | (with_reducible refine ext_trans ?_ hbB) | (with_reducible refine ext_trans ?_ hbA) | (with_reducible refine ext_trans ?_ hbR8) | (with_reducible refine ext_trans ?_ hb1) | (with_reducible refine ext_trans ?_ hb0) | (with_reducible refine ext_trans ?_ (ext_alloc _ _)) | (with_reducible refine Below.drew ?_) | (with_reducible refine Below.setCell ?_ ?_ _) | (simp; done) | (simp; omega) | omega)))).mono ?_; simp only [arithT]; rintro e tC ⟨rfl, hbC⟩; go_wp2_with fail)
            refine hK.out _ _ ?_ (fun hHeld => ?_)
            · ((try dsimp only); exact ext_trans hHeld hbC)
            clear hK K
            try simp only [Act.put, List.setIfInBounds_toArray, List.set_cons_zero, List.set_cons_succ]
            refine wpAnyH_take (i := 6) (v := ?_) rfl (by kernel_rfl) (by kernel_rfl) (by kernel_rfl) (fun _ _ _ h => h) (Or.inl ⟨by rfl, ?_⟩) (by assumption) ?_
            rotate_left
            · (intro w' hSw; (try dsimp only at hSw); go_simp; try (with_reducible rfl))
            change wpAnyH _ _ _ _ _ _ _ (Act.put _ (some 31) _) _
            try simp only [Act.put, List.setIfInBounds_toArray, List.set_cons_zero, List.set_cons_succ]
            refine wpAnyH_take (i := 7) (v := ?_) rfl (by kernel_rfl) (by kernel_rfl) (by kernel_rfl) (fun _ _ _ h => h) (Or.inl ⟨by rfl, ?_⟩) (by assumption) ?_
            rotate_left
            · (intro w' hSw; (try dsimp only at hSw); go_simp; try (with_reducible rfl))
            change wpAnyH _ _ _ _ _ _ _ (Act.put _ (some 38) _) _
            try simp only [Act.put, List.setIfInBounds_toArray, List.set_cons_zero, List.set_cons_succ]
            refine wpAnyH_take (i := 8) (v := ?_) rfl (by kernel_rfl) (by kernel_rfl) (by kernel_rfl) (fun _ _ _ h => h) (Or.inl ⟨by rfl, ?_⟩) (by assumption) ?_
            rotate_left
            · (intro w' hSw; (try dsimp only at hSw); go_simp; try (with_reducible rfl))
            change wpAnyH _ _ _ _ _ _ _ (Act.put _ (some 39) _) _
            try simp only [Act.put, List.setIfInBounds_toArray, List.set_cons_zero, List.set_cons_succ]
            refine wpAnyH_ready (rs := [9]) (by kernel_rfl) (by simp) ?_
            refine AllReadyH.cons (i := 9) rfl (fun K hK => ?_) AllReadyH.nil
            simp only [List.getElem_toArray, List.getElem_cons_succ, List.getElem_cons_zero]
            rw [if_pos (by rfl)]
            go_simp
            have hHC := hHeld
            have gle : w2.heap.size ≤ tC.heap.size := hHeld.size
            have gl : tC.heap.size < (tC.alloc (.cells #[.int .i64 0, .bool false, .string ⟨#[]⟩, .int .i64 0, .string ⟨#[]⟩] 29)).heap.size := by simp
            have g0 : (tC.alloc (.cells #[.int .i64 0, .bool false, .string ⟨#[]⟩, .int .i64 0, .string ⟨#[]⟩] 29)).cell? ⟨tC.heap.size, 0, none⟩ = some (.int .i64 0) := by go_simp
            have g1 : (tC.alloc (.cells #[.int .i64 0, .bool false, .string ⟨#[]⟩, .int .i64 0, .string ⟨#[]⟩] 29)).cell? ⟨tC.heap.size, 1, none⟩ = some (.bool false) := by go_simp
            have g2 : (tC.alloc (.cells #[.int .i64 0, .bool false, .string ⟨#[]⟩, .int .i64 0, .string ⟨#[]⟩] 29)).cell? ⟨tC.heap.size, 2, none⟩ = some (.string ⟨#[]⟩) := by go_simp
            have g3 : (tC.alloc (.cells #[.int .i64 0, .bool false, .string ⟨#[]⟩, .int .i64 0, .string ⟨#[]⟩] 29)).cell? ⟨tC.heap.size, 3, none⟩ = some (.int .i64 0) := by go_simp
            have g4 : (tC.alloc (.cells #[.int .i64 0, .bool false, .string ⟨#[]⟩, .int .i64 0, .string ⟨#[]⟩] 29)).cell? ⟨tC.heap.size, 4, none⟩ = some (.string ⟨#[]⟩) := by go_simp
            have gz0 : (tC.alloc (.cells #[.int .i64 0, .bool false, .string ⟨#[]⟩, .int .i64 0, .string ⟨#[]⟩] 29)).frozen? ⟨tC.heap.size, 0, none⟩ = false := by go_simp
            have gz1 : (tC.alloc (.cells #[.int .i64 0, .bool false, .string ⟨#[]⟩, .int .i64 0, .string ⟨#[]⟩] 29)).frozen? ⟨tC.heap.size, 1, none⟩ = false := by go_simp
            have gz2 : (tC.alloc (.cells #[.int .i64 0, .bool false, .string ⟨#[]⟩, .int .i64 0, .string ⟨#[]⟩] 29)).frozen? ⟨tC.heap.size, 2, none⟩ = false := by go_simp
            have gz3 : (tC.alloc (.cells #[.int .i64 0, .bool false, .string ⟨#[]⟩, .int .i64 0, .string ⟨#[]⟩] 29)).frozen? ⟨tC.heap.size, 3, none⟩ = false := by go_simp
            have gz4 : (tC.alloc (.cells #[.int .i64 0, .bool false, .string ⟨#[]⟩, .int .i64 0, .string ⟨#[]⟩] 29)).frozen? ⟨tC.heap.size, 4, none⟩ = false := by go_simp
            refine hK.out _ _ ?_ (fun hHeld => ?_)
            · ((try dsimp only); exact ext_trans hHeld (ext_alloc _ _))
            clear hK K
            try simp only [Act.put, List.setIfInBounds_toArray, List.set_cons_zero, List.set_cons_succ]
            refine wpAnyH_ready (rs := [10]) (by kernel_rfl) (by simp) ?_
            refine AllReadyH.cons (i := 10) rfl (fun K hK => ?_) AllReadyH.nil
            simp only [List.getElem_toArray, List.getElem_cons_succ, List.getElem_cons_zero]
            rw [if_pos (by rfl)]
            go_simp
            refine hK.out _ _ ?_ (fun hHeld => ?_)
            · ((try dsimp only); exact ext_trans hHC (ext_alloc _ _))
            clear hK K
            try simp only [Act.put, List.setIfInBounds_toArray, List.set_cons_zero, List.set_cons_succ]
            refine wpAnyH_take (i := 11) (v := ?_) rfl (by kernel_rfl) (by kernel_rfl) (by kernel_rfl) (fun _ _ _ h => h) (Or.inl ⟨by rfl, ?_⟩) (by assumption) ?_
            rotate_left
            · (intro w' hSw; (try dsimp only at hSw); go_simp; try (with_reducible rfl))
            change wpAnyH _ _ _ _ _ _ _ (Act.put _ (some 11) _) _
            try simp only [Act.put, List.setIfInBounds_toArray, List.set_cons_zero, List.set_cons_succ]
            refine wpAnyH_done (by kernel_rfl) ?_ _
            dsimp only [Exit.then]
            rw [HRR9.out]
            refine ⟨tC.heap.size, .int .i64 x0, .agg #[.int .i64 x1.kind, .bool x1.num.neg, .string x1.num.dig, .int .i64 x1.num.exp, .string x1.text], .agg #[.int .i64 x1.kind, .bool x1.num.neg, .string x1.num.dig, .int .i64 x1.num.exp, .string x1.text], .agg #[.int .i64 x2.kind, .bool x2.num.neg, .string x2.num.dig, .int .i64 x2.num.exp, .string x2.text], .agg #[.int .i64 x2.kind, .bool x2.num.neg, .string x2.num.dig, .int .i64 x2.num.exp, .string x2.text], .tuple #[.agg #[.int .i64 (arithV x0 x1 x2).1.kind, .bool (arithV x0 x1 x2).1.num.neg, .string (arithV x0 x1 x2).1.num.dig, .int .i64 (arithV x0 x1 x2).1.num.exp, .string (arithV x0 x1 x2).1.text], .int .i64 (arithV x0 x1 x2).2], .tuple #[.agg #[.int .i64 (arithV x0 x1 x2).1.kind, .bool (arithV x0 x1 x2).1.num.neg, .string (arithV x0 x1 x2).1.num.dig, .int .i64 (arithV x0 x1 x2).1.num.exp, .string (arithV x0 x1 x2).1.text], .int .i64 (arithV x0 x1 x2).2], .agg #[.int .i64 (arithV x0 x1 x2).1.kind, .bool (arithV x0 x1 x2).1.num.neg, .string (arithV x0 x1 x2).1.num.dig, .int .i64 (arithV x0 x1 x2).1.num.exp, .string (arithV x0 x1 x2).1.text], .int .i64 (arithV x0 x1 x2).2, ?_, gle, ?_, hHeld, ?_⟩
            · simp only [Act.put, List.setIfInBounds_toArray, List.set_cons_zero, List.set_cons_succ]
            · first | (simp; done) | (simpa using gl)
            · refine ⟨?_, ?_, ?_, ?_, ?_⟩ <;> first | (simp [go_sem, gl, g0, g1, g2, g3, g4]; done) | (go_simp; done)
          refine AllReadyH.cons (i := 9) rfl (fun K hK => ?_) ?_
          · simp only [List.getElem_toArray, List.getElem_cons_succ, List.getElem_cons_zero]
            rw [if_pos (by rfl)]
            go_simp
            have hHC := hHeld
            have gle : w2.heap.size ≤ tB.heap.size := hHeld.size
            have gl : tB.heap.size < (tB.alloc (.cells #[.int .i64 0, .bool false, .string ⟨#[]⟩, .int .i64 0, .string ⟨#[]⟩] 29)).heap.size := by simp
            have g0 : (tB.alloc (.cells #[.int .i64 0, .bool false, .string ⟨#[]⟩, .int .i64 0, .string ⟨#[]⟩] 29)).cell? ⟨tB.heap.size, 0, none⟩ = some (.int .i64 0) := by go_simp
            have g1 : (tB.alloc (.cells #[.int .i64 0, .bool false, .string ⟨#[]⟩, .int .i64 0, .string ⟨#[]⟩] 29)).cell? ⟨tB.heap.size, 1, none⟩ = some (.bool false) := by go_simp
            have g2 : (tB.alloc (.cells #[.int .i64 0, .bool false, .string ⟨#[]⟩, .int .i64 0, .string ⟨#[]⟩] 29)).cell? ⟨tB.heap.size, 2, none⟩ = some (.string ⟨#[]⟩) := by go_simp
            have g3 : (tB.alloc (.cells #[.int .i64 0, .bool false, .string ⟨#[]⟩, .int .i64 0, .string ⟨#[]⟩] 29)).cell? ⟨tB.heap.size, 3, none⟩ = some (.int .i64 0) := by go_simp
            have g4 : (tB.alloc (.cells #[.int .i64 0, .bool false, .string ⟨#[]⟩, .int .i64 0, .string ⟨#[]⟩] 29)).cell? ⟨tB.heap.size, 4, none⟩ = some (.string ⟨#[]⟩) := by go_simp
            have gz0 : (tB.alloc (.cells #[.int .i64 0, .bool false, .string ⟨#[]⟩, .int .i64 0, .string ⟨#[]⟩] 29)).frozen? ⟨tB.heap.size, 0, none⟩ = false := by go_simp
            have gz1 : (tB.alloc (.cells #[.int .i64 0, .bool false, .string ⟨#[]⟩, .int .i64 0, .string ⟨#[]⟩] 29)).frozen? ⟨tB.heap.size, 1, none⟩ = false := by go_simp
            have gz2 : (tB.alloc (.cells #[.int .i64 0, .bool false, .string ⟨#[]⟩, .int .i64 0, .string ⟨#[]⟩] 29)).frozen? ⟨tB.heap.size, 2, none⟩ = false := by go_simp
            have gz3 : (tB.alloc (.cells #[.int .i64 0, .bool false, .string ⟨#[]⟩, .int .i64 0, .string ⟨#[]⟩] 29)).frozen? ⟨tB.heap.size, 3, none⟩ = false := by go_simp
            have gz4 : (tB.alloc (.cells #[.int .i64 0, .bool false, .string ⟨#[]⟩, .int .i64 0, .string ⟨#[]⟩] 29)).frozen? ⟨tB.heap.size, 4, none⟩ = false := by go_simp
            refine hK.out _ _ ?_ (fun hHeld => ?_)
            · ((try dsimp only); exact ext_trans hHeld (ext_alloc _ _))
            clear hK K
            try simp only [Act.put, List.setIfInBounds_toArray, List.set_cons_zero, List.set_cons_succ]
            refine wpAnyH_ready (rs := [5]) (by kernel_rfl) (by simp) ?_
            refine AllReadyH.cons (i := 5) rfl (fun K hK => ?_) AllReadyH.nil
            simp only [List.getElem_toArray, List.getElem_cons_succ, List.getElem_cons_zero]
            rw [if_pos (by rfl)]
            go_simp
            (go_at_call 9; refine (implValArith x0 _ (by exact Rd.later (by repeat' (first | (with_reducible exact Below.refl _ _) | (with_reducible refine ext_trans ?_ hbC) | (with_reducible refine ext_trans ?_ hbB) | (with_reducible refine ext_trans ?_ hbA) | (with_reducible refine ext_trans ?_ hbR8) | (with_reducible refine ext_trans ?_ hb1) | (with_reducible refine ext_trans ?_ hb0) | (with_reducible refine ext_trans ?_ (ext_alloc _ _)) | (with_reducible refine Below.drew ?_) | (with_reducible refine Below.setCell ?_ ?_ _) | (simp; done) | (simp; omega) | omega)) hrA) (by exact Rd.later (by repeat' (first | (with_reducible exact Below.refl _ _) | (with_reducible refine ext_trans ?_ hbC) | (with_reducible refine ext_trans ?_ hbB) | (with_reducible refine ext_trans ?_ hbA) | (with_reducible refine ext_trans ?_ hbR8) | (with_reducible refine ext_trans ?_ hb1) | (with_reducible refine ext_trans ?_ hb0) | (with_reducible refine ext_trans ?_ (ext_alloc _ _)) | (with_reducible refine Below.drew ?_) | (with_reducible refine Below.setCell ?_ ?_ _) | (simp; done) | (simp; omega) | omega)) hrB) b0 (tabs_below hT.1 (by repeat' (first | (with_reducible exact Below.refl _ _) | (with_reducible refine ext_trans ?_ hbC) | (with_reducible refine ext_trans ?_ hbB) | (with_reducible refine ext_trans ?_ hbA) | (with_reducible refine ext_trans ?_ hbR8) | (with_reducible refine ext_trans ?_ hb1) | (with_reducible refine ext_trans ?_ hb0) | (with_reducible refine ext_trans ?_ (ext_alloc _ _)) | (with_reducible refine Below.drew ?_) | (with_reducible refine Below.setCell ?_ ?_ _) | (simp; done) | (simp; omega) | omega))) (mx_below hM (by repeat' (first | (with_reducible exact Below.refl _ _) | (with_reducible refine ext_trans ?_ hbC) | (with_reducible refine ext_trans ?_ hbB) | (with_reducible refine ext_trans ?_ hbA) | (with_reducible refine ext_trans ?_ hbR8) | (with_reducible refine ext_trans ?_ hb1) | (with_reducible refine ext_trans ?_ hb0) | (with_reducible refine ext_trans ?_ (ext_alloc _ _)) | (with_reducible refine Below.drew ?_) | (with_reducible refine Below.setCell ?_ ?_ _) | (simp; done) | (simp; omega) | omega)))).mono ?_; simp only [arithT]; rintro e tC ⟨rfl, hbC⟩; go_wp2_with fail)
            replace g0 := (hbC.cell (p := ⟨tB.heap.size, 0, none⟩) gl).trans g0
            replace g1 := (hbC.cell (p := ⟨tB.heap.size, 1, none⟩) gl).trans g1
            replace g2 := (hbC.cell (p := ⟨tB.heap.size, 2, none⟩) gl).trans g2
            replace g3 := (hbC.cell (p := ⟨tB.heap.size, 3, none⟩) gl).trans g3
            replace g4 := (hbC.cell (p := ⟨tB.heap.size, 4, none⟩) gl).trans g4
            replace gz0 := (hbC.frozen (p := ⟨tB.heap.size, 0, none⟩) gl).trans gz0
            replace gz1 := (hbC.frozen (p := ⟨tB.heap.size, 1, none⟩) gl).trans gz1
            replace gz2 := (hbC.frozen (p := ⟨tB.heap.size, 2, none⟩) gl).trans gz2
            replace gz3 := (hbC.frozen (p := ⟨tB.heap.size, 3, none⟩) gl).trans gz3
            replace gz4 := (hbC.frozen (p := ⟨tB.heap.size, 4, none⟩) gl).trans gz4
            replace gl := Nat.lt_of_lt_of_le gl hbC.size
            refine hK.out _ _ ?_ (fun hHeld => ?_)
            · ((try dsimp only); exact ext_trans hHeld hbC)
            clear hK K
            try simp only [Act.put, List.setIfInBounds_toArray, List.set_cons_zero, List.set_cons_succ]
            refine wpAnyH_take (i := 6) (v := ?_) rfl (by kernel_rfl) (by kernel_rfl) (by kernel_rfl) (fun _ _ _ h => h) (Or.inl ⟨by rfl, ?_⟩) (by assumption) ?_
            rotate_left
            · (intro w' hSw; (try dsimp only at hSw); go_simp; try (with_reducible rfl))
            change wpAnyH _ _ _ _ _ _ _ (Act.put _ (some 31) _) _
            try simp only [Act.put, List.setIfInBounds_toArray, List.set_cons_zero, List.set_cons_succ]
            refine wpAnyH_take (i := 7) (v := ?_) rfl (by kernel_rfl) (by kernel_rfl) (by kernel_rfl) (fun _ _ _ h => h) (Or.inl ⟨by rfl, ?_⟩) (by assumption) ?_
            rotate_left
            · (intro w' hSw; (try dsimp only at hSw); go_simp; try (with_reducible rfl))
            change wpAnyH _ _ _ _ _ _ _ (Act.put _ (some 38) _) _
            try simp only [Act.put, List.setIfInBounds_toArray, List.set_cons_zero, List.set_cons_succ]
            refine wpAnyH_take (i := 8) (v := ?_) rfl (by kernel_rfl) (by kernel_rfl) (by kernel_rfl) (fun _ _ _ h => h) (Or.inl ⟨by rfl, ?_⟩) (by assumption) ?_
            rotate_left
            · (intro w' hSw; (try dsimp only at hSw); go_simp; try (with_reducible rfl))
            change wpAnyH _ _ _ _ _ _ _ (Act.put _ (some 39) _) _
            try simp only [Act.put, List.setIfInBounds_toArray, List.set_cons_zero, List.set_cons_succ]
            refine wpAnyH_ready (rs := [10]) (by kernel_rfl) (by simp) ?_
            refine AllReadyH.cons (i := 10) rfl (fun K hK => ?_) AllReadyH.nil
            simp only [List.getElem_toArray, List.getElem_cons_succ, List.getElem_cons_zero]
            rw [if_pos (by rfl)]
            go_simp
            refine hK.out _ _ ?_ (fun hHeld => ?_)
            · ((try dsimp only); (refine Below.setCell ?_ gle _; refine Below.setCell ?_ gle _; refine Below.setCell ?_ gle _; refine Below.setCell ?_ gle _; refine Below.setCell ?_ gle _; exact hHeld))
            clear hK K
            try simp only [Act.put, List.setIfInBounds_toArray, List.set_cons_zero, List.set_cons_succ]
            refine wpAnyH_take (i := 11) (v := ?_) rfl (by kernel_rfl) (by kernel_rfl) (by kernel_rfl) (fun _ _ _ h => h) (Or.inl ⟨by rfl, ?_⟩) (by assumption) ?_
            rotate_left
            · (intro w' hSw; (try dsimp only at hSw); go_simp; try (with_reducible rfl))
            change wpAnyH _ _ _ _ _ _ _ (Act.put _ (some 11) _) _
            try simp only [Act.put, List.setIfInBounds_toArray, List.set_cons_zero, List.set_cons_succ]
            refine wpAnyH_done (by kernel_rfl) ?_ _
            dsimp only [Exit.then]
            rw [HRR9.out]
            refine ⟨tB.heap.size, .int .i64 x0, .agg #[.int .i64 x1.kind, .bool x1.num.neg, .string x1.num.dig, .int .i64 x1.num.exp, .string x1.text], .agg #[.int .i64 x1.kind, .bool x1.num.neg, .string x1.num.dig, .int .i64 x1.num.exp, .string x1.text], .agg #[.int .i64 x2.kind, .bool x2.num.neg, .string x2.num.dig, .int .i64 x2.num.exp, .string x2.text], .agg #[.int .i64 x2.kind, .bool x2.num.neg, .string x2.num.dig, .int .i64 x2.num.exp, .string x2.text], .tuple #[.agg #[.int .i64 (arithV x0 x1 x2).1.kind, .bool (arithV x0 x1 x2).1.num.neg, .string (arithV x0 x1 x2).1.num.dig, .int .i64 (arithV x0 x1 x2).1.num.exp, .string (arithV x0 x1 x2).1.text], .int .i64 (arithV x0 x1 x2).2], .tuple #[.agg #[.int .i64 (arithV x0 x1 x2).1.kind, .bool (arithV x0 x1 x2).1.num.neg, .string (arithV x0 x1 x2).1.num.dig, .int .i64 (arithV x0 x1 x2).1.num.exp, .string (arithV x0 x1 x2).1.text], .int .i64 (arithV x0 x1 x2).2], .agg #[.int .i64 (arithV x0 x1 x2).1.kind, .bool (arithV x0 x1 x2).1.num.neg, .string (arithV x0 x1 x2).1.num.dig, .int .i64 (arithV x0 x1 x2).1.num.exp, .string (arithV x0 x1 x2).1.text], .int .i64 (arithV x0 x1 x2).2, ?_, gle, ?_, hHeld, ?_⟩
            · simp only [Act.put, List.setIfInBounds_toArray, List.set_cons_zero, List.set_cons_succ]
            · first | (simp; done) | (simpa using gl)
            · refine ⟨?_, ?_, ?_, ?_, ?_⟩ <;> first | (simp [go_sem, gl, g0, g1, g2, g3, g4]; done) | (go_simp; done)
          exact AllReadyH.nil
        refine AllReadyH.cons (i := 9) rfl (fun K hK => ?_) ?_
        · simp only [List.getElem_toArray, List.getElem_cons_succ, List.getElem_cons_zero]
          rw [if_pos (by rfl)]
          go_simp
          have hHC := hHeld
          have gle : w2.heap.size ≤ tA.heap.size := hHeld.size
          have gl : tA.heap.size < (tA.alloc (.cells #[.int .i64 0, .bool false, .string ⟨#[]⟩, .int .i64 0, .string ⟨#[]⟩] 29)).heap.size := by simp
          have g0 : (tA.alloc (.cells #[.int .i64 0, .bool false, .string ⟨#[]⟩, .int .i64 0, .string ⟨#[]⟩] 29)).cell? ⟨tA.heap.size, 0, none⟩ = some (.int .i64 0) := by go_simp
          have g1 : (tA.alloc (.cells #[.int .i64 0, .bool false, .string ⟨#[]⟩, .int .i64 0, .string ⟨#[]⟩] 29)).cell? ⟨tA.heap.size, 1, none⟩ = some (.bool false) := by go_simp
          have g2 : (tA.alloc (.cells #[.int .i64 0, .bool false, .string ⟨#[]⟩, .int .i64 0, .string ⟨#[]⟩] 29)).cell? ⟨tA.heap.size, 2, none⟩ = some (.string ⟨#[]⟩) := by go_simp
          have g3 : (tA.alloc (.cells #[.int .i64 0, .bool false, .string ⟨#[]⟩, .int .i64 0, .string ⟨#[]⟩] 29)).cell? ⟨tA.heap.size, 3, none⟩ = some (.int .i64 0) := by go_simp
          have g4 : (tA.alloc (.cells #[.int .i64 0, .bool false, .string ⟨#[]⟩, .int .i64 0, .string ⟨#[]⟩] 29)).cell? ⟨tA.heap.size, 4, none⟩ = some (.string ⟨#[]⟩) := by go_simp
          have gz0 : (tA.alloc (.cells #[.int .i64 0, .bool false, .string ⟨#[]⟩, .int .i64 0, .string ⟨#[]⟩] 29)).frozen? ⟨tA.heap.size, 0, none⟩ = false := by go_simp
          have gz1 : (tA.alloc (.cells #[.int .i64 0, .bool false, .string ⟨#[]⟩, .int .i64 0, .string ⟨#[]⟩] 29)).frozen? ⟨tA.heap.size, 1, none⟩ = false := by go_simp
          have gz2 : (tA.alloc (.cells #[.int .i64 0, .bool false, .string ⟨#[]⟩, .int .i64 0, .string ⟨#[]⟩] 29)).frozen? ⟨tA.heap.size, 2, none⟩ = false := by go_simp
          have gz3 : (tA.alloc (.cells #[.int .i64 0, .bool false, .string ⟨#[]⟩, .int .i64 0, .string ⟨#[]⟩] 29)).frozen? ⟨tA.heap.size, 3, none⟩ = false := by go_simp
          have gz4 : (tA.alloc (.cells #[.int .i64 0, .bool false, .string ⟨#[]⟩, .int .i64 0, .string ⟨#[]⟩] 29)).frozen? ⟨tA.heap.size, 4, none⟩ = false := by go_simp
          refine hK.out _ _ ?_ (fun hHeld => ?_)
          · ((try dsimp only); exact ext_trans hHeld (ext_alloc _ _))
          clear hK K
          try simp only [Act.put, List.setIfInBounds_toArray, List.set_cons_zero, List.set_cons_succ]
          refine wpAnyH_ready (rs := [4]) (by kernel_rfl) (by simp) ?_
          refine AllReadyH.cons (i := 4) rfl (fun K hK => ?_) AllReadyH.nil
          simp only [List.getElem_toArray, List.getElem_cons_succ, List.getElem_cons_zero]
          rw [if_pos (by rfl)]
          go_simp
          (go_at_call 8; refine (toVal_any _ (by exact Rd.later (by repeat' (first | (with_reducible exact Below.refl _ _) | (with_reducible refine ext_trans ?_ hbC) | (with_reducible refine ext_trans ?_ hbB) | (with_reducible refine ext_trans ?_ hbA) | (with_reducible refine ext_trans ?_ hbR8) | (with_reducible refine ext_trans ?_ hb1) | (with_reducible refine ext_trans ?_ hb0) | (with_reducible refine ext_trans ?_ (ext_alloc _ _)) | (with_reducible refine Below.drew ?_) | (with_reducible refine Below.setCell ?_ ?_ _) | (simp; done) | (simp; omega) | omega)) h2) hzz2).mono ?_; rintro e tB ⟨qB, rfl, hrB, hbB⟩; go_wp2_with fail)
          replace hrB := Rd.old hrB
          obtain ⟨hcsB, _⟩ := rdVal hrB
          obtain rfl := arr_of_list hcsB
          clear hcsB
          replace g0 := (hbB.cell (p := ⟨tA.heap.size, 0, none⟩) gl).trans g0
          replace g1 := (hbB.cell (p := ⟨tA.heap.size, 1, none⟩) gl).trans g1
          replace g2 := (hbB.cell (p := ⟨tA.heap.size, 2, none⟩) gl).trans g2
          replace g3 := (hbB.cell (p := ⟨tA.heap.size, 3, none⟩) gl).trans g3
          replace g4 := (hbB.cell (p := ⟨tA.heap.size, 4, none⟩) gl).trans g4
          replace gz0 := (hbB.frozen (p := ⟨tA.heap.size, 0, none⟩) gl).trans gz0
          replace gz1 := (hbB.frozen (p := ⟨tA.heap.size, 1, none⟩) gl).trans gz1
          replace gz2 := (hbB.frozen (p := ⟨tA.heap.size, 2, none⟩) gl).trans gz2
          replace gz3 := (hbB.frozen (p := ⟨tA.heap.size, 3, none⟩) gl).trans gz3
          replace gz4 := (hbB.frozen (p := ⟨tA.heap.size, 4, none⟩) gl).trans gz4
          replace gl := Nat.lt_of_lt_of_le gl hbB.size
          refine hK.out _ _ ?_ (fun hHeld => ?_)
          · ((try dsimp only); exact ext_trans hHeld hbB)
          clear hK K
          try simp only [Act.put, List.setIfInBounds_toArray, List.set_cons_zero, List.set_cons_succ]
          refine wpAnyH_ready (rs := [5]) (by kernel_rfl) (by simp) ?_
          refine AllReadyH.cons (i := 5) rfl (fun K hK => ?_) AllReadyH.nil
          simp only [List.getElem_toArray, List.getElem_cons_succ, List.getElem_cons_zero]
          rw [if_pos (by rfl)]
          go_simp
          (go_at_call 9; refine (implValArith x0 _ (by exact Rd.later (by repeat' (first | (with_reducible exact Below.refl _ _) | (with_reducible refine ext_trans ?_ hbC) | (with_reducible refine ext_trans ?_ hbB) | (with_reducible refine ext_trans ?_ hbA) | (with_reducible refine ext_trans ?_ hbR8) | (with_reducible refine ext_trans ?_ hb1) | (with_reducible refine ext_trans ?_ hb0) | (with_reducible refine ext_trans ?_ (ext_alloc _ _)) | (with_reducible refine Below.drew ?_) | (with_reducible refine Below.setCell ?_ ?_ _) | (simp; done) | (simp; omega) | omega)) hrA) (by exact Rd.later (by repeat' (first | (with_reducible exact Below.refl _ _) | (with_reducible refine ext_trans ?_ hbC) | (with_reducible refine ext_trans ?_ hbB) | (with_reducible refine ext_trans ?_ hbA) | (with_reducible refine ext_trans ?_ hbR8) | (with_reducible refine ext_trans ?_ hb1) | (with_reducible refine ext_trans ?_ hb0) | (with_reducible refine ext_trans ?_ (ext_alloc _ _)) | (with_reducible refine Below.drew ?_) | (with_reducible refine Below.setCell ?_ ?_ _) | (simp; done) | (simp; omega) | omega)) hrB) b0 (tabs_below hT.1 (by repeat' (first | (with_reducible exact Below.refl _ _) | (with_reducible refine ext_trans ?_ hbC) | (with_reducible refine ext_trans ?_ hbB) | (with_reducible refine ext_trans ?_ hbA) | (with_reducible refine ext_trans ?_ hbR8) | (with_reducible refine ext_trans ?_ hb1) | (with_reducible refine ext_trans ?_ hb0) | (with_reducible refine ext_trans ?_ (ext_alloc _ _)) | (with_reducible refine Below.drew ?_) | (with_reducible refine Below.setCell ?_ ?_ _) | (simp; done) | (simp; omega) | omega))) (mx_below hM (by repeat' (first | (with_reducible exact Below.refl _ _) | (with_reducible refine ext_trans ?_ hbC) | (with_reducible refine ext_trans ?_ hbB) | (with_reducible refine ext_trans ?_ hbA) | (with_reducible refine ext_trans ?_ hbR8) | (with_reducible refine ext_trans ?_ hb1) | (with_reducible refine ext_trans ?_ hb0) | (with_reducible refine ext_trans ?_ (ext_alloc _ _)) | (with_reducible refine Below.drew ?_) | (with_reducible refine Below.setCell ?_ ?_ _) | (simp; done) | (simp; omega) | omega)))).mono ?_; simp only [arithT]; rintro e tC ⟨rfl, hbC⟩; go_wp2_with fail)
          replace g0 := (hbC.cell (p := ⟨tA.heap.size, 0, none⟩) gl).trans g0
          replace g1 := (hbC.cell (p := ⟨tA.heap.size, 1, none⟩) gl).trans g1
          replace g2 := (hbC.cell (p := ⟨tA.heap.size, 2, none⟩) gl).trans g2
          replace g3 := (hbC.cell (p := ⟨tA.heap.size, 3, none⟩) gl).trans g3
          replace g4 := (hbC.cell (p := ⟨tA.heap.size, 4, none⟩) gl).trans g4
          replace gz0 := (hbC.frozen (p := ⟨tA.heap.size, 0, none⟩) gl).trans gz0
          replace gz1 := (hbC.frozen (p := ⟨tA.heap.size, 1, none⟩) gl).trans gz1
          replace gz2 := (hbC.frozen (p := ⟨tA.heap.size, 2, none⟩) gl).trans gz2
          replace gz3 := (hbC.frozen (p := ⟨tA.heap.size, 3, none⟩) gl).trans gz3
          replace gz4 := (hbC.frozen (p := ⟨tA.heap.size, 4, none⟩) gl).trans gz4
          replace gl := Nat.lt_of_lt_of_le gl hbC.size
          refine hK.out _ _ ?_ (fun hHeld => ?_)
          · ((try dsimp only); exact ext_trans hHeld hbC)
          clear hK K
          try simp only [Act.put, List.setIfInBounds_toArray, List.set_cons_zero, List.set_cons_succ]
          refine wpAnyH_take (i := 6) (v := ?_) rfl (by kernel_rfl) (by kernel_rfl) (by kernel_rfl) (fun _ _ _ h => h) (Or.inl ⟨by rfl, ?_⟩) (by assumption) ?_
          rotate_left
          · (intro w' hSw; (try dsimp only at hSw); go_simp; try (with_reducible rfl))
          change wpAnyH _ _ _ _ _ _ _ (Act.put _ (some 31) _) _
          try simp only [Act.put, List.setIfInBounds_toArray, List.set_cons_zero, List.set_cons_succ]
          refine wpAnyH_take (i := 7) (v := ?_) rfl (by kernel_rfl) (by kernel_rfl) (by kernel_rfl) (fun _ _ _ h => h) (Or.inl ⟨by rfl, ?_⟩) (by assumption) ?_
          rotate_left
          · (intro w' hSw; (try dsimp only at hSw); go_simp; try (with_reducible rfl))
          change wpAnyH _ _ _ _ _ _ _ (Act.put _ (some 38) _) _
          try simp only [Act.put, List.setIfInBounds_toArray, List.set_cons_zero, List.set_cons_succ]
          refine wpAnyH_take (i := 8) (v := ?_) rfl (by kernel_rfl) (by kernel_rfl) (by kernel_rfl) (fun _ _ _ h => h) (Or.inl ⟨by rfl, ?_⟩) (by assumption) ?_
          rotate_left
          · (intro w' hSw; (try dsimp only at hSw); go_simp; try (with_reducible rfl))
          change wpAnyH _ _ _ _ _ _ _ (Act.put _ (some 39) _) _
          try simp only [Act.put, List.setIfInBounds_toArray, List.set_cons_zero, List.set_cons_succ]
          refine wpAnyH_ready (rs := [10]) (by kernel_rfl) (by simp) ?_
          refine AllReadyH.cons (i := 10) rfl (fun K hK => ?_) AllReadyH.nil
          simp only [List.getElem_toArray, List.getElem_cons_succ, List.getElem_cons_zero]
          rw [if_pos (by rfl)]
          go_simp
          refine hK.out _ _ ?_ (fun hHeld => ?_)
          · ((try dsimp only); (refine Below.setCell ?_ gle _; refine Below.setCell ?_ gle _; refine Below.setCell ?_ gle _; refine Below.setCell ?_ gle _; refine Below.setCell ?_ gle _; exact hHeld))
          clear hK K
          try simp only [Act.put, List.setIfInBounds_toArray, List.set_cons_zero, List.set_cons_succ]
          refine wpAnyH_take (i := 11) (v := ?_) rfl (by kernel_rfl) (by kernel_rfl) (by kernel_rfl) (fun _ _ _ h => h) (Or.inl ⟨by rfl, ?_⟩) (by assumption) ?_
          rotate_left
          · (intro w' hSw; (try dsimp only at hSw); go_simp; try (with_reducible rfl))
          change wpAnyH _ _ _ _ _ _ _ (Act.put _ (some 11) _) _
          try simp only [Act.put, List.setIfInBounds_toArray, List.set_cons_zero, List.set_cons_succ]
          refine wpAnyH_done (by kernel_rfl) ?_ _
          dsimp only [Exit.then]
          rw [HRR9.out]
          refine ⟨tA.heap.size, .int .i64 x0, .agg #[.int .i64 x1.kind, .bool x1.num.neg, .string x1.num.dig, .int .i64 x1.num.exp, .string x1.text], .agg #[.int .i64 x1.kind, .bool x1.num.neg, .string x1.num.dig, .int .i64 x1.num.exp, .string x1.text], .agg #[.int .i64 x2.kind, .bool x2.num.neg, .string x2.num.dig, .int .i64 x2.num.exp, .string x2.text], .agg #[.int .i64 x2.kind, .bool x2.num.neg, .string x2.num.dig, .int .i64 x2.num.exp, .string x2.text], .tuple #[.agg #[.int .i64 (arithV x0 x1 x2).1.kind, .bool (arithV x0 x1 x2).1.num.neg, .string (arithV x0 x1 x2).1.num.dig, .int .i64 (arithV x0 x1 x2).1.num.exp, .string (arithV x0 x1 x2).1.text], .int .i64 (arithV x0 x1 x2).2], .tuple #[.agg #[.int .i64 (arithV x0 x1 x2).1.kind, .bool (arithV x0 x1 x2).1.num.neg, .string (arithV x0 x1 x2).1.num.dig, .int .i64 (arithV x0 x1 x2).1.num.exp, .string (arithV x0 x1 x2).1.text], .int .i64 (arithV x0 x1 x2).2], .agg #[.int .i64 (arithV x0 x1 x2).1.kind, .bool (arithV x0 x1 x2).1.num.neg, .string (arithV x0 x1 x2).1.num.dig, .int .i64 (arithV x0 x1 x2).1.num.exp, .string (arithV x0 x1 x2).1.text], .int .i64 (arithV x0 x1 x2).2, ?_, gle, ?_, hHeld, ?_⟩
          · simp only [Act.put, List.setIfInBounds_toArray, List.set_cons_zero, List.set_cons_succ]
          · first | (simp; done) | (simpa using gl)
          · refine ⟨?_, ?_, ?_, ?_, ?_⟩ <;> first | (simp [go_sem, gl, g0, g1, g2, g3, g4]; done) | (go_simp; done)
        exact AllReadyH.nil
      refine AllReadyH.cons (i := 9) rfl (fun K hK => ?_) ?_
      · simp only [List.getElem_toArray, List.getElem_cons_succ, List.getElem_cons_zero]
        rw [if_pos (by rfl)]
        go_simp
        have hHC := hHeld
        have gle : w2.heap.size ≤ w2.heap.size := hHeld.size
        have gl : w2.heap.size < (w2.drew.alloc (.cells #[.int .i64 0, .bool false, .string ⟨#[]⟩, .int .i64 0, .string ⟨#[]⟩] 29)).heap.size := by simp
        have g0 : (w2.drew.alloc (.cells #[.int .i64 0, .bool false, .string ⟨#[]⟩, .int .i64 0, .string ⟨#[]⟩] 29)).cell? ⟨w2.heap.size, 0, none⟩ = some (.int .i64 0) := by go_simp
        have g1 : (w2.drew.alloc (.cells #[.int .i64 0, .bool false, .string ⟨#[]⟩, .int .i64 0, .string ⟨#[]⟩] 29)).cell? ⟨w2.heap.size, 1, none⟩ = some (.bool false) := by go_simp
        have g2 : (w2.drew.alloc (.cells #[.int .i64 0, .bool false, .string ⟨#[]⟩, .int .i64 0, .string ⟨#[]⟩] 29)).cell? ⟨w2.heap.size, 2, none⟩ = some (.string ⟨#[]⟩) := by go_simp
        have g3 : (w2.drew.alloc (.cells #[.int .i64 0, .bool false, .string ⟨#[]⟩, .int .i64 0, .string ⟨#[]⟩] 29)).cell? ⟨w2.heap.size, 3, none⟩ = some (.int .i64 0) := by go_simp
        have g4 : (w2.drew.alloc (.cells #[.int .i64 0, .bool false, .string ⟨#[]⟩, .int .i64 0, .string ⟨#[]⟩] 29)).cell? ⟨w2.heap.size, 4, none⟩ = some (.string ⟨#[]⟩) := by go_simp
        have gz0 : (w2.drew.alloc (.cells #[.int .i64 0, .bool false, .string ⟨#[]⟩, .int .i64 0, .string ⟨#[]⟩] 29)).frozen? ⟨w2.heap.size, 0, none⟩ = false := by go_simp
        have gz1 : (w2.drew.alloc (.cells #[.int .i64 0, .bool false, .string ⟨#[]⟩, .int .i64 0, .string ⟨#[]⟩] 29)).frozen? ⟨w2.heap.size, 1, none⟩ = false := by go_simp
        have gz2 : (w2.drew.alloc (.cells #[.int .i64 0, .bool false, .string ⟨#[]⟩, .int .i64 0, .string ⟨#[]⟩] 29)).frozen? ⟨w2.heap.size, 2, none⟩ = false := by go_simp
        have gz3 : (w2.drew.alloc (.cells #[.int .i64 0, .bool false, .string ⟨#[]⟩, .int .i64 0, .string ⟨#[]⟩] 29)).frozen? ⟨w2.heap.size, 3, none⟩ = false := by go_simp
        have gz4 : (w2.drew.alloc (.cells #[.int .i64 0, .bool false, .string ⟨#[]⟩, .int .i64 0, .string ⟨#[]⟩] 29)).frozen? ⟨w2.heap.size, 4, none⟩ = false := by go_simp
        refine hK.out _ _ ?_ (fun hHeld => ?_)
        · ((try dsimp only); exact ext_trans hHeld (ext_alloc _ _))
        clear hK K
        try simp only [Act.put, List.setIfInBounds_toArray, List.set_cons_zero, List.set_cons_succ]
        refine wpAnyH_ready (rs := [2]) (by kernel_rfl) (by simp) ?_
        refine AllReadyH.cons (i := 2) rfl (fun K hK => ?_) AllReadyH.nil
        simp only [List.getElem_toArray, List.getElem_cons_succ, List.getElem_cons_zero]
        rw [if_pos (by rfl)]
        go_simp
        (go_at_call 8; refine (toVal_any _ (by exact Rd.later (by repeat' (first | (with_reducible exact Below.refl _ _) | (with_reducible refine ext_trans ?_ hbC) | (with_reducible refine ext_trans ?_ hbB) | (with_reducible refine ext_trans ?_ hbA) | (with_reducible refine ext_trans ?_ hbR8) | (with_reducible refine ext_trans ?_ hb1) | (with_reducible refine ext_trans ?_ hb0) | (with_reducible refine ext_trans ?_ (ext_alloc _ _)) | (with_reducible refine Below.drew ?_) | (with_reducible refine Below.setCell ?_ ?_ _) | (simp; done) | (simp; omega) | omega)) h1) hzz1).mono ?_; rintro e tA ⟨qA, rfl, hrA, hbA⟩; go_wp2_with fail)
        replace hrA := Rd.old hrA
        obtain ⟨hcsA, _⟩ := rdVal hrA
        obtain rfl := arr_of_list hcsA
        clear hcsA
        replace g0 := (hbA.cell (p := ⟨w2.heap.size, 0, none⟩) gl).trans g0
        replace g1 := (hbA.cell (p := ⟨w2.heap.size, 1, none⟩) gl).trans g1
        replace g2 := (hbA.cell (p := ⟨w2.heap.size, 2, none⟩) gl).trans g2
        replace g3 := (hbA.cell (p := ⟨w2.heap.size, 3, none⟩) gl).trans g3
        replace g4 := (hbA.cell (p := ⟨w2.heap.size, 4, none⟩) gl).trans g4
        replace gz0 := (hbA.frozen (p := ⟨w2.heap.size, 0, none⟩) gl).trans gz0
        replace gz1 := (hbA.frozen (p := ⟨w2.heap.size, 1, none⟩) gl).trans gz1
        replace gz2 := (hbA.frozen (p := ⟨w2.heap.size, 2, none⟩) gl).trans gz2
        replace gz3 := (hbA.frozen (p := ⟨w2.heap.size, 3, none⟩) gl).trans gz3
        replace gz4 := (hbA.frozen (p := ⟨w2.heap.size, 4, none⟩) gl).trans gz4
        replace gl := Nat.lt_of_lt_of_le gl hbA.size
        refine hK.out _ _ ?_ (fun hHeld => ?_)
        · ((try dsimp only); exact ext_trans hHeld hbA)
        clear hK K
        try simp only [Act.put, List.setIfInBounds_toArray, List.set_cons_zero, List.set_cons_succ]
        refine wpAnyH_ready (rs := [4]) (by kernel_rfl) (by simp) ?_
        refine AllReadyH.cons (i := 4) rfl (fun K hK => ?_) AllReadyH.nil
        simp only [List.getElem_toArray, List.getElem_cons_succ, List.getElem_cons_zero]
        rw [if_pos (by rfl)]
        go_simp
        (go_at_call 8; refine (toVal_any _ (by exact Rd.later (by repeat' (first | (with_reducible exact Below.refl _ _) | (with_reducible refine ext_trans ?_ hbC) | (with_reducible refine ext_trans ?_ hbB) | (with_reducible refine ext_trans ?_ hbA) | (with_reducible refine ext_trans ?_ hbR8) | (with_reducible refine ext_trans ?_ hb1) | (with_reducible refine ext_trans ?_ hb0) | (with_reducible refine ext_trans ?_ (ext_alloc _ _)) | (with_reducible refine Below.drew ?_) | (with_reducible refine Below.setCell ?_ ?_ _) | (simp; done) | (simp; omega) | omega)) h2) hzz2).mono ?_; rintro e tB ⟨qB, rfl, hrB, hbB⟩; go_wp2_with fail)
        replace hrB := Rd.old hrB
        obtain ⟨hcsB, _⟩ := rdVal hrB
        obtain rfl := arr_of_list hcsB
        clear hcsB
        replace g0 := (hbB.cell (p := ⟨w2.heap.size, 0, none⟩) gl).trans g0
        replace g1 := (hbB.cell (p := ⟨w2.heap.size, 1, none⟩) gl).trans g1
        replace g2 := (hbB.cell (p := ⟨w2.heap.size, 2, none⟩) gl).trans g2
        replace g3 := (hbB.cell (p := ⟨w2.heap.size, 3, none⟩) gl).trans g3
        replace g4 := (hbB.cell (p := ⟨w2.heap.size, 4, none⟩) gl).trans g4
        replace gz0 := (hbB.frozen (p := ⟨w2.heap.size, 0, none⟩) gl).trans gz0
        replace gz1 := (hbB.frozen (p := ⟨w2.heap.size, 1, none⟩) gl).trans gz1
        replace gz2 := (hbB.frozen (p := ⟨w2.heap.size, 2, none⟩) gl).trans gz2
        replace gz3 := (hbB.frozen (p := ⟨w2.heap.size, 3, none⟩) gl).trans gz3
        replace gz4 := (hbB.frozen (p := ⟨w2.heap.size, 4, none⟩) gl).trans gz4
        replace gl := Nat.lt_of_lt_of_le gl hbB.size
        refine hK.out _ _ ?_ (fun hHeld => ?_)
        · ((try dsimp only); exact ext_trans hHeld hbB)
        clear hK K
        try simp only [Act.put, List.setIfInBounds_toArray, List.set_cons_zero, List.set_cons_succ]
        refine wpAnyH_ready (rs := [5]) (by kernel_rfl) (by simp) ?_
        refine AllReadyH.cons (i := 5) rfl (fun K hK => ?_) AllReadyH.nil
        simp only [List.getElem_toArray, List.getElem_cons_succ, List.getElem_cons_zero]
        rw [if_pos (by rfl)]
        go_simp
        (go_at_call 9; refine (implValArith x0 _ (by exact Rd.later (by repeat' (first | (with_reducible exact Below.refl _ _) | (with_reducible refine ext_trans ?_ hbC) | (with_reducible refine ext_trans ?_ hbB) | (with_reducible refine ext_trans ?_ hbA) | (with_reducible refine ext_trans ?_ hbR8) | (with_reducible refine ext_trans ?_ hb1) | (with_reducible refine ext_trans ?_ hb0) | (with_reducible refine ext_trans ?_ (ext_alloc _ _)) | (with_reducible refine Below.drew ?_) | (with_reducible refine Below.setCell ?_ ?_ _) | (simp; done) | (simp; omega) | omega)) hrA) (by exact Rd.later (by repeat' (first | (with_reducible exact Below.refl _ _) | (with_reducible refine ext_trans ?_ hbC) | (with_reducible refine ext_trans ?_ hbB) | (with_reducible refine ext_trans ?_ hbA) | (with_reducible refine ext_trans ?_ hbR8) | (with_reducible refine ext_trans ?_ hb1) | (with_reducible refine ext_trans ?_ hb0) | (with_reducible refine ext_trans ?_ (ext_alloc _ _)) | (with_reducible refine Below.drew ?_) | (with_reducible refine Below.setCell ?_ ?_ _) | (simp; done) | (simp; omega) | omega)) hrB) b0 (tabs_below hT.1 (by repeat' (first | (with_reducible exact Below.refl _ _) | (with_reducible refine ext_trans ?_ hbC) | (with_reducible refine ext_trans ?_ hbB) | (with_reducible refine ext_trans ?_ hbA) | (with_reducible refine ext_trans ?_ hbR8) | (with_reducible refine ext_trans ?_ hb1) | (with_reducible refine ext_trans ?_ hb0) | (with_reducible refine ext_trans ?_ (ext_alloc _ _)) | (with_reducible refine Below.drew ?_) | (with_reducible refine Below.setCell ?_ ?_ _) | (simp; done) | (simp; omega) | omega))) (mx_below hM (by repeat' (first | (with_reducible exact Below.refl _ _) | (with_reducible refine ext_trans ?_ hbC) | (with_reducible refine ext_trans ?_ hbB) | (with_reducible refine ext_trans ?_ hbA) | (with_reducible refine ext_trans ?_ hbR8) | (with_reducible refine ext_trans ?_ hb1) | (with_reducible refine ext_trans ?_ hb0) | (with_reducible refine ext_trans ?_ (ext_alloc _ _)) | (with_reducible refine Below.drew ?_) | (with_reducible refine Below.setCell ?_ ?_ _) | (simp; done) | (simp; omega) | omega)))).mono ?_; simp only [arithT]; rintro e tC ⟨rfl, hbC⟩; go_wp2_with fail)
        replace g0 := (hbC.cell (p := ⟨w2.heap.size, 0, none⟩) gl).trans g0
        replace g1 := (hbC.cell (p := ⟨w2.heap.size, 1, none⟩) gl).trans g1
        replace g2 := (hbC.cell (p := ⟨w2.heap.size, 2, none⟩) gl).trans g2
        replace g3 := (hbC.cell (p := ⟨w2.heap.size, 3, none⟩) gl).trans g3
        replace g4 := (hbC.cell (p := ⟨w2.heap.size, 4, none⟩) gl).trans g4
        replace gz0 := (hbC.frozen (p := ⟨w2.heap.size, 0, none⟩) gl).trans gz0
        replace gz1 := (hbC.frozen (p := ⟨w2.heap.size, 1, none⟩) gl).trans gz1
        replace gz2 := (hbC.frozen (p := ⟨w2.heap.size, 2, none⟩) gl).trans gz2
        replace gz3 := (hbC.frozen (p := ⟨w2.heap.size, 3, none⟩) gl).trans gz3
        replace gz4 := (hbC.frozen (p := ⟨w2.heap.size, 4, none⟩) gl).trans gz4
        replace gl := Nat.lt_of_lt_of_le gl hbC.size
        refine hK.out _ _ ?_ (fun hHeld => ?_)
        · ((try dsimp only); exact ext_trans hHeld hbC)
        clear hK K
        try simp only [Act.put, List.setIfInBounds_toArray, List.set_cons_zero, List.set_cons_succ]
        refine wpAnyH_take (i := 6) (v := ?_) rfl (by kernel_rfl) (by kernel_rfl) (by kernel_rfl) (fun _ _ _ h => h) (Or.inl ⟨by rfl, ?_⟩) (by assumption) ?_
        rotate_left
        · (intro w' hSw; (try dsimp only at hSw); go_simp; try (with_reducible rfl))
        change wpAnyH _ _ _ _ _ _ _ (Act.put _ (some 31) _) _
        try simp only [Act.put, List.setIfInBounds_toArray, List.set_cons_zero, List.set_cons_succ]
        refine wpAnyH_take (i := 7) (v := ?_) rfl (by kernel_rfl) (by kernel_rfl) (by kernel_rfl) (fun _ _ _ h => h) (Or.inl ⟨by rfl, ?_⟩) (by assumption) ?_
        rotate_left
        · (intro w' hSw; (try dsimp only at hSw); go_simp; try (with_reducible rfl))
        change wpAnyH _ _ _ _ _ _ _ (Act.put _ (some 38) _) _
        try simp only [Act.put, List.setIfInBounds_toArray, List.set_cons_zero, List.set_cons_succ]
        refine wpAnyH_take (i := 8) (v := ?_) rfl (by kernel_rfl) (by kernel_rfl) (by kernel_rfl) (fun _ _ _ h => h) (Or.inl ⟨by rfl, ?_⟩) (by assumption) ?_
        rotate_left
        · (intro w' hSw; (try dsimp only at hSw); go_simp; try (with_reducible rfl))
        change wpAnyH _ _ _ _ _ _ _ (Act.put _ (some 39) _) _
        try simp only [Act.put, List.setIfInBounds_toArray, List.set_cons_zero, List.set_cons_succ]
        refine wpAnyH_ready (rs := [10]) (by kernel_rfl) (by simp) ?_
        refine AllReadyH.cons (i := 10) rfl (fun K hK => ?_) AllReadyH.nil
        simp only [List.getElem_toArray, List.getElem_cons_succ, List.getElem_cons_zero]
        rw [if_pos (by rfl)]
        go_simp
        refine hK.out _ _ ?_ (fun hHeld => ?_)
        · ((try dsimp only); (refine Below.setCell ?_ gle _; refine Below.setCell ?_ gle _; refine Below.setCell ?_ gle _; refine Below.setCell ?_ gle _; refine Below.setCell ?_ gle _; exact hHeld))
        clear hK K
        try simp only [Act.put, List.setIfInBounds_toArray, List.set_cons_zero, List.set_cons_succ]
        refine wpAnyH_take (i := 11) (v := ?_) rfl (by kernel_rfl) (by kernel_rfl) (by kernel_rfl) (fun _ _ _ h => h) (Or.inl ⟨by rfl, ?_⟩) (by assumption) ?_
        rotate_left
        · (intro w' hSw; (try dsimp only at hSw); go_simp; try (with_reducible rfl))
        change wpAnyH _ _ _ _ _ _ _ (Act.put _ (some 11) _) _
        try simp only [Act.put, List.setIfInBounds_toArray, List.set_cons_zero, List.set_cons_succ]
        refine wpAnyH_done (by kernel_rfl) ?_ _
        dsimp only [Exit.then]
        rw [HRR9.out]
        refine ⟨w2.heap.size, .int .i64 x0, .agg #[.int .i64 x1.kind, .bool x1.num.neg, .string x1.num.dig, .int .i64 x1.num.exp, .string x1.text], .agg #[.int .i64 x1.kind, .bool x1.num.neg, .string x1.num.dig, .int .i64 x1.num.exp, .string x1.text], .agg #[.int .i64 x2.kind, .bool x2.num.neg, .string x2.num.dig, .int .i64 x2.num.exp, .string x2.text], .agg #[.int .i64 x2.kind, .bool x2.num.neg, .string x2.num.dig, .int .i64 x2.num.exp, .string x2.text], .tuple #[.agg #[.int .i64 (arithV x0 x1 x2).1.kind, .bool (arithV x0 x1 x2).1.num.neg, .string (arithV x0 x1 x2).1.num.dig, .int .i64 (arithV x0 x1 x2).1.num.exp, .string (arithV x0 x1 x2).1.text], .int .i64 (arithV x0 x1 x2).2], .tuple #[.agg #[.int .i64 (arithV x0 x1 x2).1.kind, .bool (arithV x0 x1 x2).1.num.neg, .string (arithV x0 x1 x2).1.num.dig, .int .i64 (arithV x0 x1 x2).1.num.exp, .string (arithV x0 x1 x2).1.text], .int .i64 (arithV x0 x1 x2).2], .agg #[.int .i64 (arithV x0 x1 x2).1.kind, .bool (arithV x0 x1 x2).1.num.neg, .string (arithV x0 x1 x2).1.num.dig, .int .i64 (arithV x0 x1 x2).1.num.exp, .string (arithV x0 x1 x2).1.text], .int .i64 (arithV x0 x1 x2).2, ?_, gle, ?_, hHeld, ?_⟩
        · simp only [Act.put, List.setIfInBounds_toArray, List.set_cons_zero, List.set_cons_succ]
        · first | (simp; done) | (simpa using gl)
        · refine ⟨?_, ?_, ?_, ?_, ?_⟩ <;> first | (simp [go_sem, gl, g0, g1, g2, g3, g4]; done) | (go_simp; done)
      exact AllReadyH.nil
    · intro a' w3 hR9
      rw [HRR9.out] at hR9
      obtain ⟨bk9, z9_32, z9_33, z9_34, z9_35, z9_36, z9_37, z9_31, z9_38, z9_39, rfl, hbk9, hbl9, hbR9, m90, m91, m92, m93, m94⟩ := hR9
      clear HRR9
      try simp only [Act.put, List.setIfInBounds_toArray, List.set_cons_zero, List.set_cons_succ]
      replace m80 := keeps_cells hbR9 _ _ m80
      replace m81 := keeps_cells hbR9 _ _ m81
      replace m82 := keeps_cells hbR9 _ _ m82
      replace m83 := keeps_cells hbR9 _ _ m83
      replace m84 := keeps_cells hbR9 _ _ m84
      clear hc0 hf0 hc1 hf1
      go_wp2_with fail
      refine (eqVal_same _ (by exact rd_arithV x0 x1 x2) (by exact rd_arithV x0 x1 x2)).mono ?_
      rintro e w4 ⟨rfl, hb4⟩
      go_wp2
      go_ret
      exact ⟨rfl, (by repeat' (first | (with_reducible exact Below.refl _ _) | (with_reducible refine ext_trans ?_ hb4) | (with_reducible refine ext_trans ?_ hbR9) | (with_reducible refine ext_trans ?_ hbR8) | (with_reducible refine ext_trans ?_ hb1) | (with_reducible refine ext_trans ?_ hb0) | (with_reducible refine ext_trans ?_ (ext_alloc _ _)) | (with_reducible refine Below.drew ?_)))⟩
end Go.Proofs.YthfmhenphnllfaaGreatDoor
