/-
  What is proved here: impl's JSON reader: bytes, digits, numbers; JsonNumber of impl. The condition 'Tabs' says that the library's tables lie in the world.
-/
import Derived.Test.YtlfkfofeenakhaaDoorJsL
import Derived.Test.YtlfkfofeenakhaaDoorRdr
import Derived.Test.YtlfkfofeenakhaaDoorValOk
import Derived.Test.YtlfkfofeenakhaaDoorLen
import Derived.Deep.QuietTactic
import Derived.BigQuiet
import Derived.IntWalk
import Derived.StillTactics
import Derived.Deep.Cut
import Derived.Deep.CutRange
namespace Go.Proofs.YtlfkfofeenakhaaDoor
open Go.RowKit
set_option linter.unusedVariables false
set_option linter.unusedSimpArgs false

/-- is a text a number? -/
def numB (s : ByteArray) : Bool := okText s && (numJ s.data.toList 0).1 && decide ((numJ s.data.toList 0).2 = s.size)
/-- a reader in its block: text, place, values begun, nodes -/
def JI (w : World) (g : Nat) (s : ByteArray) (p b : Nat) (nv : Value) : Prop :=
  w.heap[g]? = some (.cells #[.string s, .int .i64 (p : Int), .int .i64 (b : Int), nv] 55 (0, 0))
section
variable {w : World} {g : Nat} {s : ByteArray} {p b : Nat} {nv : Value}
theorem JI.cells (h : JI w g s p b nv) : w.cell? ⟨g, 0, none⟩ = some (.string s) ∧ w.cell? ⟨g, 1, none⟩ = some (.int .i64 (p : Int)) ∧ w.cell? ⟨g, 2, none⟩ = some (.int .i64 (b : Int)) ∧ w.cell? ⟨g, 3, none⟩ = some nv ∧ w.frozen? ⟨g, 1, none⟩ = false ∧ w.frozen? ⟨g, 2, none⟩ = false ∧ w.frozen? ⟨g, 3, none⟩ = false ∧ g < w.heap.size :=
  ⟨cell_of_row _ _ 0 _ _ _ h, cell_of_row _ _ 1 _ _ _ h, cell_of_row _ _ 2 _ _ _ h, cell_of_row _ _ 3 _ _ _ h, frozen_of_row _ _ 1 _ _ h, frozen_of_row _ _ 2 _ _ h, frozen_of_row _ _ 3 _ _ h, (Array.getElem?_eq_some_iff.1 h).1⟩
theorem JI.qt {w' : World} (h : JI w g s p b nv) (hq : Qt w w') : JI w' g s p b nv := hq.at h
theorem JI.setP (h : JI w g s p b nv) (q : Nat) : JI (w.setCell ⟨g, 1, none⟩ (.int .i64 (q : Int))) g s q b nv := (heap_setCell_same w g 1 _ _ _ h).trans rfl
end
def nxI (L : List UInt8) (p : Nat) : Int := if p = L.length then -1 else (gB L p : Int)
set_option maxHeartbeats 4000000 in
theorem implJNext {g : Nat} {s : ByteArray} {p b : Nat} {nv : Value} (w : World) (h : JI w g s p b nv) (hp : p ≤ s.size) :
    Calls Tryd.prog 71 #[.pointer (some ⟨g, 0, none⟩)] w fun e w' => e = .returned (.int .i64 (nxI s.data.toList p)) ∧ Qt w w' := by
  obtain ⟨c0, c1, c2, c3, y1, y2, y3, hl⟩ := h.cells
  clear h c2 c3
  by_cases hlt : p = s.size
  · have HE := hid (show nxI s.data.toList p = -1 by unfold nxI; rw [if_pos (by rw [← Lib.size_eq]; exact hlt)])
    have h1 : ((p : Int) == (s.size : Int)) = true := by rw [hlt]; exact beq_self_eq_true _
    rw [HE.out]
    go_enter Tryd.func71, Tryd.ntmps71
    go_wp2_with fail
    go_quiet (fail)
    go_wp2
    go_ret
    exact ⟨rfl, by first | exact ⟨_, rfl⟩ | exact (Qt.one _ _).trans (Qt.one _ _)⟩
  · have hl9 : p < s.size := by omega
    have HE := hid (show nxI s.data.toList p = (((s[p]'hl9).toNat : Nat) : Int) by
      unfold nxI
      rw [if_neg (by rw [← Lib.size_eq]; exact hlt), gB_at (by rw [← Lib.size_eq]; exact hl9)]
      rfl)
    have h1 : ((p : Int) == (s.size : Int)) = false := by rw [beq_eq_false_iff_ne]; omega
    have h2 : ¬ p = s.size := hlt
    have h3 : (p : Int) < (s.size : Int) := by omega
    have h0 : (0 : Int) ≤ (p : Int) := by omega
    have hb255 := (s[p]'hl9).toNat_lt
    have hwr : wrap64 (((s[p]'hl9).toNat : Nat) : Int) = (((s[p]'hl9).toNat : Nat) : Int) := IntWalk.wrap64_in _ (by omega)
    rw [HE.out]
    clear hlt
    go_enter Tryd.func71, Tryd.ntmps71
    go_wp2_with fail
    go_quiet (fail)
    go_wp2_with fail
    go_quiet (fail)
    go_wp2
    go_ret
    exact ⟨rfl, by first | exact ⟨_, rfl⟩ | exact (Qt.one _ _).trans (Qt.one _ _)⟩
theorem nxI_iff {L : List UInt8} {p c : Nat} (hc : c ≠ 0) (hp : p ≤ L.length) : nxI L p = (c : Int) ↔ gB L p = c := by
  unfold nxI
  by_cases h : p = L.length
  · rw [if_pos h, gB_end (by omega)]
    constructor
    · intro e; omega
    · intro e; exact absurd e.symm hc
  · rw [if_neg h]; omega
set_option maxHeartbeats 4000000 in
theorem implJTake {g : Nat} {s : ByteArray} {p b : Nat} {nv : Value} (c : Nat) (w : World) (h : JI w g s p b nv) (hp : p ≤ s.size) (hs : s.size ≤ 5000) (hc : c ≠ 0) :
    Calls Tryd.prog 107 #[.pointer (some ⟨g, 0, none⟩), .int .i64 (c : Int)] w fun e w' => e = .returned (.bool (decide (gB s.data.toList p = c))) ∧ JI w' g s (if gB s.data.toList p = c then p + 1 else p) b nv ∧ Kp g none w w' := by
  have CN := hid (implJNext w h hp)
  have hiff := nxI_iff (L := s.data.toList) (p := p) (c := c) hc (by rw [← Lib.size_eq]; exact hp)
  obtain ⟨N, hN⟩ : ∃ n, nxI s.data.toList p = n := ⟨_, rfl⟩
  rw [hN] at CN hiff
  have HH := hid h
  clear hN h
  by_cases hm : gB s.data.toList p = c
  · have e0 : N = (c : Int) := hiff.2 hm
    have e1 : ((c : Int) != (c : Int)) = false := by simp
    rw [e0] at CN
    rw [if_pos hm, decide_eq_true hm]
    obtain ⟨q1, hq1⟩ : ∃ x, p + 1 = x := ⟨_, rfl⟩
    have hw' : (p : Int) + 1 = (q1 : Int) := by omega
    have hw : IntKind.i64.wrap (q1 : Int) = (q1 : Int) := IntWalk.i64_in _ (by omega)
    rw [hq1]
    clear hq1 hiff e0 hm
    go_enter Tryd.func107, Tryd.ntmps107
    go_wp2_with fail
    refine CN.out.mono ?_
    rintro e w1 ⟨rfl, hq⟩
    have HJ := hid (HH.out.qt hq)
    have HQ := hid hq
    obtain ⟨c0, c1, c2, c3, y1, y2, y3, hl⟩ := HJ.out.cells
    clear c2 c3 hq
    go_wp2
    go_ret
    exact ⟨rfl, HJ.out.setP q1, HQ.out.kp.set 1 _⟩
  · have e1 : (N != (c : Int)) = true := by rw [bne_iff_ne]; exact fun e => hm (hiff.1 e)
    have e2 : ¬ N = (c : Int) := fun e => hm (hiff.1 e)
    rw [if_neg hm, decide_eq_false hm]
    clear hiff hm
    go_enter Tryd.func107, Tryd.ntmps107
    go_wp2_with fail
    refine CN.out.mono ?_
    rintro e w1 ⟨rfl, hq⟩
    have HJ := hid (HH.out.qt hq)
    have HQ := hid hq
    clear hq
    go_wp2
    go_ret
    exact ⟨rfl, HJ.out, HQ.out.kp⟩
set_option maxHeartbeats 4000000 in
theorem implDigE (s : ByteArray) (p : Nat) (w : World) (hp : p ≤ s.size) (hs : s.size ≤ 5000) :
    Calls Tryd.prog 143 #[.string s, .int .i64 (p : Int)] w fun e w' => e = .returned (.int .i64 ((dgE s.data.toList p : Nat) : Int)) ∧ w = w' := by
  obtain ⟨L, hL⟩ : ∃ L, s.data.toList = L := ⟨_, rfl⟩
  have hsl : s.size = L.length := by rw [← hL, Lib.size_eq]
  have HGI := hid (show ∀ (q : Nat) (h : q < s.size), gB L q = (s[q]'h).toNat by subst hL; intro q h; exact gB_at (by rw [← Lib.size_eq]; exact h))
  rw [hL]
  obtain ⟨R, hR⟩ : ∃ R, dgE L p = R := ⟨_, rfl⟩
  have HR := hid hR
  rw [hR]
  have HSL := hid hsl
  clear hL hsl hR
  go_enter Tryd.func143, Tryd.ntmps143
  go_wp2
  go_loopw [1] (fun v1 wr => ∃ q : Nat, q ≤ s.size ∧ v1 = .int .i64 (q : Int) ∧ w = wr ∧ Hid (dgE L q = R)) (fun v1 _ => s.size - (intOf v1).toNat)
  case atStart => exact ⟨p, hp, rfl, rfl, HR⟩
  case round =>
    obtain ⟨q, hq, rfl, rfl, HQ⟩ := hrel
    by_cases hlt : q < s.size
    · have hqi : (q : Int) < (s.size : Int) := by omega
      have hq0 : (0 : Int) ≤ (q : Int) := by omega
      have hgi := HGI.out q hlt
      obtain ⟨G, hG⟩ : ∃ G, (s[q]'hlt).toNat = G := ⟨_, rfl⟩
      rw [hG] at hgi
      have HG := hid hgi
      have hix : (((s[q]'hlt).toNat : Nat) : Int) = (G : Int) := by rw [hG]
      clear hG hgi
      by_cases h1 : 48 ≤ G
      · by_cases h2 : G ≤ 57
        · have e1 : (48 : Int) ≤ (G : Int) := by omega
          have e2 : (G : Int) ≤ 57 := by omega
          have e3 : ¬ (G : Int) < 48 := by omega
          have HST := hid (show dgE L (q + 1) = R by rw [← HQ.out]; exact (runE_step (by rw [← HSL.out]; exact hlt) (by rw [HG.out]; exact decide_eq_true ⟨h1, h2⟩)).symm)
          go_wp2
          go_roundw
          case rel => exact ⟨q + 1, by omega, by go_num, by first | rfl | trivial, HST⟩
          case measure => simp [intOf]; omega
        · have e1 : (48 : Int) ≤ (G : Int) := by omega
          have e2 : ¬ (G : Int) ≤ 57 := by omega
          have e3 : ¬ (G : Int) < 48 := by omega
          have HST := hid (show q = R by rw [← HQ.out]; exact (runE_stop (by rw [HG.out]; exact decide_eq_false (fun h => h2 h.2))).symm)
          go_wp2
          go_ret
          rw [← HST.out]
          exact ⟨rfl, rfl⟩
      · have e1 : ¬ (48 : Int) ≤ (G : Int) := by omega
        have e3 : (G : Int) < 48 := by omega
        have HST := hid (show q = R by rw [← HQ.out]; exact (runE_stop (by rw [HG.out]; exact decide_eq_false (fun h => h1 h.1))).symm)
        go_wp2
        go_ret
        rw [← HST.out]
        exact ⟨rfl, rfl⟩
    · have hqi : ¬ (q : Int) < (s.size : Int) := by omega
      have HST := hid (show q = R by rw [← HQ.out]; exact (runE_far (by rw [← HSL.out]; omega)).symm)
      go_wp2
      go_ret
      rw [← HST.out]
      exact ⟨rfl, rfl⟩
set_option maxHeartbeats 8000000 in
set_option maxRecDepth 100000 in
theorem implJDigits {g : Nat} {s : ByteArray} {p b : Nat} {nv : Value} (w : World) (h : JI w g s p b nv) (hp : p ≤ s.size) (hs : s.size ≤ 5000) :
    Calls Tryd.prog 113 #[.pointer (some ⟨g, 0, none⟩)] w fun e w' => e = .returned (.bool (decide (dgE s.data.toList p ≠ p))) ∧ JI w' g s (dgE s.data.toList p) b nv ∧ Kp g none w w' := by
  obtain ⟨L, hL⟩ : ∃ L, s.data.toList = L := ⟨_, rfl⟩
  have CE := hid (fun (w : World) => implDigE s p w hp hs)
  rw [hL] at CE ⊢
  obtain ⟨q, hq⟩ : ∃ q, dgE L p = q := ⟨_, rfl⟩
  rw [hq] at CE ⊢
  have hpq : p ≤ q := by rw [← hq]; exact runE_le _ _ _
  obtain ⟨B, hB⟩ : ∃ B, decide (q ≠ p) = B := ⟨_, rfl⟩
  rw [hB]
  have HBB := hid hB
  have HJ := hid h
  obtain ⟨c0, c1, c2, c3, y1, y2, y3, hl⟩ := h.cells
  clear hL hq h c2 c3 hB
  go_enter Tryd.func113, Tryd.ntmps113
  go_wp2_with fail
  refine wp_region_held_drew (S := fun w' => True) (by kernel_rfl) ?_ (fun hHeld => ?_)
  · trivial
  refine wpAnyH_take (i := 0) (v := ?_) rfl (by kernel_rfl) (by kernel_rfl) (by kernel_rfl) (fun _ _ _ h => h) (Or.inl ⟨by rfl, ?_⟩) (by assumption) ?_
  rotate_left
  · (intro w' hSw; (try dsimp only at hSw); go_simp; try (with_reducible rfl))
  change wpAnyH _ _ _ _ _ _ _ (Act.put _ (some 8) _) _
  try simp only [Act.put, List.setIfInBounds_toArray, List.set_cons_zero, List.set_cons_succ]
  refine wpAnyH_take (i := 1) (v := ?_) rfl (by kernel_rfl) (by kernel_rfl) (by kernel_rfl) (fun _ _ _ h => h) (Or.inl ⟨by rfl, ?_⟩) (by assumption) ?_
  rotate_left
  · (intro w' hSw; (try dsimp only at hSw); go_simp; try (with_reducible rfl))
  change wpAnyH _ _ _ _ _ _ _ (Act.put _ (some 9) _) _
  try simp only [Act.put, List.setIfInBounds_toArray, List.set_cons_zero, List.set_cons_succ]
  refine wpAnyH_take (i := 2) (v := ?_) rfl (by kernel_rfl) (by kernel_rfl) (by kernel_rfl) (fun _ _ _ h => h) (Or.inl ⟨by rfl, ?_⟩) (by assumption) ?_
  rotate_left
  · (intro w' hSw; (try dsimp only at hSw); go_simp; try (with_reducible rfl))
  change wpAnyH _ _ _ _ _ _ _ (Act.put _ (some 10) _) _
  try simp only [Act.put, List.setIfInBounds_toArray, List.set_cons_zero, List.set_cons_succ]
  refine wpAnyH_take (i := 3) (v := ?_) rfl (by kernel_rfl) (by kernel_rfl) (by kernel_rfl) (fun _ _ _ h => h) (Or.inl ⟨by rfl, ?_⟩) (by assumption) ?_
  rotate_left
  · (intro w' hSw; (try dsimp only at hSw); go_simp; try (with_reducible rfl))
  change wpAnyH _ _ _ _ _ _ _ (Act.put _ (some 11) _) _
  try simp only [Act.put, List.setIfInBounds_toArray, List.set_cons_zero, List.set_cons_succ]
  refine wpAnyH_take (i := 5) (v := ?_) rfl (by kernel_rfl) (by kernel_rfl) (by kernel_rfl) (fun _ _ _ h => h) (Or.inl ⟨by rfl, ?_⟩) (by assumption) ?_
  rotate_left
  · (intro w' hSw; (try dsimp only at hSw); go_simp; try (with_reducible rfl))
  change wpAnyH _ _ _ _ _ _ _ (Act.put _ (some 13) _) _
  try simp only [Act.put, List.setIfInBounds_toArray, List.set_cons_zero, List.set_cons_succ]
  refine wpAnyH_take (i := 6) (v := ?_) rfl (by kernel_rfl) (by kernel_rfl) (by kernel_rfl) (fun _ _ _ h => h) (Or.inl ⟨by rfl, ?_⟩) (by assumption) ?_
  rotate_left
  · (intro w' hSw; (try dsimp only at hSw); go_simp; try (with_reducible rfl))
  change wpAnyH _ _ _ _ _ _ _ (Act.put _ (some 14) _) _
  try simp only [Act.put, List.setIfInBounds_toArray, List.set_cons_zero, List.set_cons_succ]
  refine wpAnyH_take (i := 7) (v := ?_) rfl (by kernel_rfl) (by kernel_rfl) (by kernel_rfl) (fun _ _ _ h => h) (Or.inl ⟨by rfl, ?_⟩) (by assumption) ?_
  rotate_left
  · (intro w' hSw; (try dsimp only at hSw); go_simp; try (with_reducible rfl))
  change wpAnyH _ _ _ _ _ _ _ (Act.put _ (some 15) _) _
  try simp only [Act.put, List.setIfInBounds_toArray, List.set_cons_zero, List.set_cons_succ]
  refine wpAnyH_ready (rs := [4, 8]) (by kernel_rfl) (by simp) ?_
  refine AllReadyH.cons (i := 4) rfl (fun K hK => ?_) ?_
  · simp only [List.getElem_toArray, List.getElem_cons_succ, List.getElem_cons_zero]
    rw [if_pos (by rfl)]
    go_simp
    refine hK.out _ _ ?_ (fun hHeld => ?_)
    · first | trivial | ((try dsimp only); trivial)
    clear hK K
    try simp only [Act.put, List.setIfInBounds_toArray, List.set_cons_zero, List.set_cons_succ]
    refine wpAnyH_ready (rs := [8]) (by kernel_rfl) (by simp) ?_
    refine AllReadyH.cons (i := 8) rfl (fun K hK => ?_) AllReadyH.nil
    simp only [List.getElem_toArray, List.getElem_cons_succ, List.getElem_cons_zero]
    rw [if_pos (by rfl)]
    go_simp
    refine hK.out _ _ ?_ (fun hHeld => ?_)
    · first | trivial | ((try dsimp only); trivial)
    clear hK K
    try simp only [Act.put, List.setIfInBounds_toArray, List.set_cons_zero, List.set_cons_succ]
    refine wpAnyH_ready (rs := [9]) (by kernel_rfl) (by simp) ?_
    refine AllReadyH.cons (i := 9) rfl (fun K hK => ?_) AllReadyH.nil
    simp only [List.getElem_toArray, List.getElem_cons_succ, List.getElem_cons_zero]
    rw [if_pos (by rfl)]
    go_simp
    (go_at_call 143; refine (CE.out _).mono ?_; rintro e w1 ⟨rfl, rfl⟩; go_wp2_with fail)
    refine hK.out _ _ ?_ (fun hHeld => ?_)
    · first | trivial | ((try dsimp only); trivial)
    clear hK K
    try simp only [Act.put, List.setIfInBounds_toArray, List.set_cons_zero, List.set_cons_succ]
    refine wpAnyH_take (i := 10) (v := ?_) rfl (by kernel_rfl) (by kernel_rfl) (by kernel_rfl) (fun _ _ _ h => h) (Or.inl ⟨by rfl, ?_⟩) (by assumption) ?_
    rotate_left
    · (intro w' hSw; (try dsimp only at hSw); go_simp; try (with_reducible rfl))
    change wpAnyH _ _ _ _ _ _ _ (Act.put _ (some 18) _) _
    try simp only [Act.put, List.setIfInBounds_toArray, List.set_cons_zero, List.set_cons_succ]
    refine wpAnyH_take (i := 11) (v := ?_) rfl (by kernel_rfl) (by kernel_rfl) (by kernel_rfl) (fun _ _ _ h => h) (Or.inl ⟨by rfl, ?_⟩) (by assumption) ?_
    rotate_left
    · (intro w' hSw; (try dsimp only at hSw); go_simp; try (with_reducible rfl))
    change wpAnyH _ _ _ _ _ _ _ (Act.put _ (some 19) _) _
    try simp only [Act.put, List.setIfInBounds_toArray, List.set_cons_zero, List.set_cons_succ]
    refine wpAnyH_ready (rs := [12]) (by kernel_rfl) (by simp) ?_
    refine AllReadyH.cons (i := 12) rfl (fun K hK => ?_) AllReadyH.nil
    simp only [List.getElem_toArray, List.getElem_cons_succ, List.getElem_cons_zero]
    rw [if_pos (by rfl)]
    go_simp
    refine hK.out _ _ ?_ (fun hHeld => ?_)
    · first | trivial | ((try dsimp only); trivial)
    clear hK K
    try simp only [Act.put, List.setIfInBounds_toArray, List.set_cons_zero, List.set_cons_succ]
    refine wpAnyH_done (by kernel_rfl) ?_ _
    have HJD := hid (show JI (w.setCell ⟨g, 1, none⟩ (.int .i64 (q : Int))).drew g s q b nv from (JI.setP (w := w) HJ.out q).qt (Qt.one _ _))
    have HKD := hid (show Kp g none w (w.setCell ⟨g, 1, none⟩ (.int .i64 (q : Int))).drew from ((Kp.refl g none w).set 1 _).drew)
    obtain ⟨d0, d1, d2, d3, z1, z2, z3, zl⟩ := HJD.out.cells
    clear d0 d2 d3 z1 z2 z3
    by_cases hh : p = q
    · have e1 : ¬ (p : Int) < (q : Int) := by omega
      have e2 : ¬ p < q := by omega
      have HB := hid (show B = false by rw [← HBB.out]; exact decide_eq_false (fun h => h hh.symm))
      clear hh hpq
      go_wp2
      go_ret
      exact ⟨by rw [HB.out]; rfl, HJD.out, HKD.out⟩
    · have e1 : (p : Int) < (q : Int) := by omega
      have e2 : p < q := by omega
      have HB := hid (show B = true by rw [← HBB.out]; exact decide_eq_true (fun h => hh h.symm))
      clear hh hpq
      go_wp2
      go_ret
      exact ⟨by rw [HB.out]; rfl, HJD.out, HKD.out⟩
  refine AllReadyH.cons (i := 8) rfl (fun K hK => ?_) ?_
  · simp only [List.getElem_toArray, List.getElem_cons_succ, List.getElem_cons_zero]
    rw [if_pos (by rfl)]
    go_simp
    refine hK.out _ _ ?_ (fun hHeld => ?_)
    · first | trivial | ((try dsimp only); trivial)
    clear hK K
    try simp only [Act.put, List.setIfInBounds_toArray, List.set_cons_zero, List.set_cons_succ]
    refine wpAnyH_ready (rs := [4]) (by kernel_rfl) (by simp) ?_
    refine AllReadyH.cons (i := 4) rfl (fun K hK => ?_) AllReadyH.nil
    simp only [List.getElem_toArray, List.getElem_cons_succ, List.getElem_cons_zero]
    rw [if_pos (by rfl)]
    go_simp
    refine hK.out _ _ ?_ (fun hHeld => ?_)
    · first | trivial | ((try dsimp only); trivial)
    clear hK K
    try simp only [Act.put, List.setIfInBounds_toArray, List.set_cons_zero, List.set_cons_succ]
    refine wpAnyH_ready (rs := [9]) (by kernel_rfl) (by simp) ?_
    refine AllReadyH.cons (i := 9) rfl (fun K hK => ?_) AllReadyH.nil
    simp only [List.getElem_toArray, List.getElem_cons_succ, List.getElem_cons_zero]
    rw [if_pos (by rfl)]
    go_simp
    (go_at_call 143; refine (CE.out _).mono ?_; rintro e w1 ⟨rfl, rfl⟩; go_wp2_with fail)
    refine hK.out _ _ ?_ (fun hHeld => ?_)
    · first | trivial | ((try dsimp only); trivial)
    clear hK K
    try simp only [Act.put, List.setIfInBounds_toArray, List.set_cons_zero, List.set_cons_succ]
    refine wpAnyH_take (i := 10) (v := ?_) rfl (by kernel_rfl) (by kernel_rfl) (by kernel_rfl) (fun _ _ _ h => h) (Or.inl ⟨by rfl, ?_⟩) (by assumption) ?_
    rotate_left
    · (intro w' hSw; (try dsimp only at hSw); go_simp; try (with_reducible rfl))
    change wpAnyH _ _ _ _ _ _ _ (Act.put _ (some 18) _) _
    try simp only [Act.put, List.setIfInBounds_toArray, List.set_cons_zero, List.set_cons_succ]
    refine wpAnyH_take (i := 11) (v := ?_) rfl (by kernel_rfl) (by kernel_rfl) (by kernel_rfl) (fun _ _ _ h => h) (Or.inl ⟨by rfl, ?_⟩) (by assumption) ?_
    rotate_left
    · (intro w' hSw; (try dsimp only at hSw); go_simp; try (with_reducible rfl))
    change wpAnyH _ _ _ _ _ _ _ (Act.put _ (some 19) _) _
    try simp only [Act.put, List.setIfInBounds_toArray, List.set_cons_zero, List.set_cons_succ]
    refine wpAnyH_ready (rs := [12]) (by kernel_rfl) (by simp) ?_
    refine AllReadyH.cons (i := 12) rfl (fun K hK => ?_) AllReadyH.nil
    simp only [List.getElem_toArray, List.getElem_cons_succ, List.getElem_cons_zero]
    rw [if_pos (by rfl)]
    go_simp
    refine hK.out _ _ ?_ (fun hHeld => ?_)
    · first | trivial | ((try dsimp only); trivial)
    clear hK K
    try simp only [Act.put, List.setIfInBounds_toArray, List.set_cons_zero, List.set_cons_succ]
    refine wpAnyH_done (by kernel_rfl) ?_ _
    have HJD := hid (show JI (w.setCell ⟨g, 1, none⟩ (.int .i64 (q : Int))).drew g s q b nv from (JI.setP (w := w) HJ.out q).qt (Qt.one _ _))
    have HKD := hid (show Kp g none w (w.setCell ⟨g, 1, none⟩ (.int .i64 (q : Int))).drew from ((Kp.refl g none w).set 1 _).drew)
    obtain ⟨d0, d1, d2, d3, z1, z2, z3, zl⟩ := HJD.out.cells
    clear d0 d2 d3 z1 z2 z3
    by_cases hh : p = q
    · have e1 : ¬ (p : Int) < (q : Int) := by omega
      have e2 : ¬ p < q := by omega
      have HB := hid (show B = false by rw [← HBB.out]; exact decide_eq_false (fun h => h hh.symm))
      clear hh hpq
      go_wp2
      go_ret
      exact ⟨by rw [HB.out]; rfl, HJD.out, HKD.out⟩
    · have e1 : (p : Int) < (q : Int) := by omega
      have e2 : p < q := by omega
      have HB := hid (show B = true by rw [← HBB.out]; exact decide_eq_true (fun h => hh h.symm))
      clear hh hpq
      go_wp2
      go_ret
      exact ⟨by rw [HB.out]; rfl, HJD.out, HKD.out⟩
  exact AllReadyH.nil
theorem tkP_le {L : List UInt8} {p c : Nat} (hc : c ≠ 0) (h : p ≤ L.length) : (if gB L p = c then p + 1 else p) ≤ L.length := by
  split
  · rename_i e
    have := gB_lt (L := L) (i := p) (by omega)
    omega
  · exact h
set_option maxHeartbeats 16000000 in
set_option maxRecDepth 100000 in
theorem implJNum {g : Nat} {s : ByteArray} {p b : Nat} {nv : Value} (w : World) (h : JI w g s p b nv) (hp : p ≤ s.size) (hs : s.size ≤ 5000) :
    Calls Tryd.prog 78 #[.pointer (some ⟨g, 0, none⟩)] w fun e w' => e = .returned (.int .i64 (((if (numJ s.data.toList p).1 = true then 0 else 2 : Nat) : Nat) : Int)) ∧ JI w' g s (numJ s.data.toList p).2 b nv ∧ Kp g none w w' ∧ (numJ s.data.toList p).2 ≤ s.size := by
  obtain ⟨L, hL⟩ : ∃ L, s.data.toList = L := ⟨_, rfl⟩
  have hsl : s.size = L.length := by rw [← hL, Lib.size_eq]
  have CT := hid (fun (c q : Nat) (w : World) (h : JI w g s q b nv) (hq : q ≤ s.size) (hc : c ≠ 0) => implJTake c w h hq hs hc)
  have CG := hid (fun (q : Nat) (w : World) (h : JI w g s q b nv) (hq : q ≤ s.size) => implJDigits w h hq hs)
  rw [hL] at CT CG ⊢
  obtain ⟨R, hR⟩ : ∃ R, numJ L p = R := ⟨_, rfl⟩
  have HR := hid hR
  rw [hR]
  obtain ⟨RC, hRC⟩ : ∃ x, (if R.1 = true then 0 else 2 : Nat) = x := ⟨_, rfl⟩
  obtain ⟨RP, hRP⟩ : ∃ x, R.2 = x := ⟨_, rfl⟩
  rw [hRC, hRP]
  have HRR := hid (show ∀ ok q, R = (ok, q) → RP = q ∧ RC = (if ok = true then 0 else 2) by rintro ok q rfl; exact ⟨hRP.symm, hRC.symm⟩)
  clear hRC hRP
  have HTK := hid (show ∀ q c, c ≠ 0 → q ≤ s.size → (if gB L q = c then q + 1 else q) ≤ s.size by intro q c hc hq; rw [hsl] at hq ⊢; exact tkP_le hc hq)
  have HDG := hid (show ∀ q, q ≤ s.size → dgE L q ≤ s.size by intro q hq; rw [hsl] at hq ⊢; exact runE_len hq)
  have HH := hid h
  have HP := hid hp
  have HP1 := hid (HTK.out p 45 (by decide) hp)
  clear hL hsl hR h hp
  go_enter Tryd.func78, Tryd.ntmps78
  go_wp2_with fail
  refine (CT.out 45 p _ HH.out HP.out (by decide)).mono ?_
  rintro e w1 ⟨rfl, hj, hk⟩
  obtain ⟨p1, hp1⟩ : ∃ x, sgP L p = x := ⟨_, rfl⟩
  have HE1 := hid hp1
  unfold sgP at hp1
  have HL1 := hid (show p1 ≤ s.size by rw [← hp1]; exact HP1.out)
  rw [hp1] at hj
  have HJ1 := hid hj
  have HK1 := hid hk
  clear hj hk hp1 HP1
  obtain ⟨A, hA⟩ : ∃ A, intP L p1 = A := ⟨_, rfl⟩
  have HA := hid hA
  clear hA
  go_upto_region 2 with fail
  go_cut [12] from 3 (fun v wx => v = .bool (!A.1) ∧ JI wx g s A.2 b nv ∧ A.2 ≤ s.size ∧ Kp g none w wx)
  case first =>
    by_cases h48 : gB L p1 = 48
    · have HB := hid (show A = (true, p1 + 1) by rw [← HA.out]; unfold intP; rw [if_pos h48])
      have CT1 := CT.out 48 p1 _ HJ1.out HL1.out (by decide)
      have HL2 := hid (HTK.out p1 48 (by decide) HL1.out)
      rw [if_pos h48, decide_eq_true h48] at CT1
      have HL3 := hid (show p1 + 1 ≤ s.size by have h := HL2.out; rw [if_pos h48] at h; exact h)
      clear h48 HL2
      go_wp2_with fail
      refine CT1.mono ?_
      rintro e w2 ⟨rfl, hj, hk⟩
      have HJ2 := hid hj
      have HK2 := hid (HK1.out.trans hk (RowOn.refl _ _))
      clear hj hk
      go_wp2
      go_meet
      case rel => rw [HB.out]; exact ⟨rfl, HJ2.out, HL3.out, HK2.out⟩
    · have HB := hid (show A = if dgE L p1 = p1 then (false, p1) else (true, dgE L p1) by rw [← HA.out]; unfold intP; rw [if_neg h48])
      have CT1 := CT.out 48 p1 _ HJ1.out HL1.out (by decide)
      rw [if_neg h48, decide_eq_false h48] at CT1
      clear h48
      go_wp2_with fail
      refine CT1.mono ?_
      rintro e w2 ⟨rfl, hj, hk⟩
      have CG1 := CG.out p1 _ hj HL1.out
      have HK2 := hid (HK1.out.trans hk (RowOn.refl _ _))
      clear hj hk
      by_cases hd : dgE L p1 = p1
      · have HB2 := hid (show A = (false, p1) by rw [HB.out, if_pos hd])
        rw [show decide (dgE L p1 ≠ p1) = false from decide_eq_false (fun h => h hd), hd] at CG1
        clear hd
        go_wp2_with fail
        refine CG1.mono ?_
        rintro e w3 ⟨rfl, hj, hk⟩
        have HJ3 := hid hj
        have HK3 := hid (HK2.out.trans hk (RowOn.refl _ _))
        clear hj hk
        go_wp2
        go_meet
        case rel => rw [HB2.out]; exact ⟨rfl, HJ3.out, HL1.out, HK3.out⟩
      · have HB2 := hid (show A = (true, dgE L p1) by rw [HB.out, if_neg hd])
        rw [show decide (dgE L p1 ≠ p1) = true from decide_eq_true hd] at CG1
        clear hd
        go_wp2_with fail
        refine CG1.mono ?_
        rintro e w3 ⟨rfl, hj, hk⟩
        have HJ3 := hid hj
        have HK3 := hid (HK2.out.trans hk (RowOn.refl _ _))
        clear hj hk
        go_wp2
        go_meet
        case rel => rw [HB2.out]; exact ⟨rfl, HJ3.out, HDG.out _ HL1.out, HK3.out⟩
  case rest =>
  obtain ⟨rfl, hj, hA5, hk⟩ := hcut
  obtain ⟨aok, ap⟩ := A
  dsimp only at hj hA5
  have HK4 := hid hk
  have HJ4 := hid hj
  have HL4 := hid hA5
  clear hk hj hA5
  cases aok with
  | false =>
    have HRE := hid (show R = (false, ap) by rw [← HR.out]; unfold numJ; rw [HE1.out, HA.out]; rfl)
    obtain ⟨r1, r2⟩ := HRR.out _ _ HRE.out
    have HJE := hid (show RC = 2 ∧ JI wc g s RP b nv ∧ RP ≤ s.size by rw [r1, r2]; exact ⟨rfl, HJ4.out, HL4.out⟩)
    clear r1 r2
    go_wp2
    go_ret
    exact ⟨by rw [HJE.out.1]; rfl, HJE.out.2.1, HK4.out, HJE.out.2.2⟩
  | true =>
  have HR2 := hid (show R = if (frP L ap).1 = false then frP L ap else exP L (frP L ap).2 by rw [← HR.out]; unfold numJ; rw [HE1.out, HA.out]; rfl)
  obtain ⟨F, hF⟩ : ∃ F, frP L ap = F := ⟨_, rfl⟩
  rw [hF] at HR2
  have HF := hid hF
  clear hF
  go_upto_region 4 with fail
  go_cut [19] from 3 (fun v wx => v = .bool (!F.1) ∧ JI wx g s F.2 b nv ∧ F.2 ≤ s.size ∧ Kp g none w wx)
  case first =>
    by_cases h46 : gB L ap = 46
    · have HB := hid (show F = if dgE L (ap + 1) = ap + 1 then (false, ap + 1) else (true, dgE L (ap + 1)) by rw [← HF.out]; unfold frP; rw [if_pos h46])
      have CT1 := CT.out 46 ap _ HJ4.out HL4.out (by decide)
      have HL2 := hid (HTK.out ap 46 (by decide) HL4.out)
      rw [if_pos h46, decide_eq_true h46] at CT1
      have HL3 := hid (show ap + 1 ≤ s.size by have h := HL2.out; rw [if_pos h46] at h; exact h)
      clear h46 HL2
      obtain ⟨q1, hq1⟩ : ∃ x, ap + 1 = x := ⟨_, rfl⟩
      rw [hq1] at HB CT1 HL3
      clear hq1
      go_wp2_with fail
      refine CT1.mono ?_
      rintro e w2 ⟨rfl, hj, hk⟩
      have CG1 := CG.out q1 _ hj HL3.out
      have HK2 := hid (HK4.out.trans hk (RowOn.refl _ _))
      clear hj hk
      by_cases hd : dgE L q1 = q1
      · have HB2 := hid (show F = (false, q1) by rw [HB.out, if_pos hd])
        rw [show decide (dgE L q1 ≠ q1) = false from decide_eq_false (fun h => h hd), hd] at CG1
        clear hd
        go_wp2_with fail
        refine CG1.mono ?_
        rintro e w3 ⟨rfl, hj, hk⟩
        have HJ3 := hid hj
        have HK3 := hid (HK2.out.trans hk (RowOn.refl _ _))
        clear hj hk
        go_wp2
        go_meet
        case rel => rw [HB2.out]; exact ⟨rfl, HJ3.out, HL3.out, HK3.out⟩
      · have HB2 := hid (show F = (true, dgE L q1) by rw [HB.out, if_neg hd])
        rw [show decide (dgE L q1 ≠ q1) = true from decide_eq_true hd] at CG1
        clear hd
        go_wp2_with fail
        refine CG1.mono ?_
        rintro e w3 ⟨rfl, hj, hk⟩
        have HJ3 := hid hj
        have HK3 := hid (HK2.out.trans hk (RowOn.refl _ _))
        clear hj hk
        go_wp2
        go_meet
        case rel => rw [HB2.out]; exact ⟨rfl, HJ3.out, HDG.out _ HL3.out, HK3.out⟩
    · have HB := hid (show F = (true, ap) by rw [← HF.out]; unfold frP; rw [if_neg h46])
      have CT1 := CT.out 46 ap _ HJ4.out HL4.out (by decide)
      rw [if_neg h46, decide_eq_false h46] at CT1
      clear h46
      go_wp2_with fail
      refine CT1.mono ?_
      rintro e w2 ⟨rfl, hj, hk⟩
      have HJ3 := hid hj
      have HK3 := hid (HK4.out.trans hk (RowOn.refl _ _))
      clear hj hk
      go_wp2
      go_meet
      case rel => rw [HB.out]; exact ⟨rfl, HJ3.out, HL4.out, HK3.out⟩
  case rest =>
  obtain ⟨rfl, hj, hA5, hk⟩ := hcut
  obtain ⟨fok, fp⟩ := F
  dsimp only at hj hA5 HR2
  have HK5 := hid hk
  have HJ5 := hid hj
  have HL5 := hid hA5
  clear hk hj hA5
  cases fok with
  | false =>
    have HRE := hid (show R = (false, fp) by rw [HR2.out]; rfl)
    obtain ⟨r1, r2⟩ := HRR.out _ _ HRE.out
    have HJE := hid (show RC = 2 ∧ JI wc g s RP b nv ∧ RP ≤ s.size by rw [r1, r2]; exact ⟨rfl, HJ5.out, HL5.out⟩)
    clear r1 r2
    go_wp2
    go_ret
    exact ⟨by rw [HJE.out.1]; rfl, HJE.out.2.1, HK5.out, HJE.out.2.2⟩
  | true =>
  have HR3 := hid (show R = exP L fp by rw [HR2.out]; rfl)
  clear HR2
  go_upto_region 6 with fail
  obtain ⟨B6, hB6⟩ : ∃ x, decide (gB L fp = 101 ∨ gB L fp = 69) = x := ⟨_, rfl⟩
  obtain ⟨X6, hX6⟩ : ∃ x, (if gB L fp = 101 ∨ gB L fp = 69 then fp + 1 else fp) = x := ⟨_, rfl⟩
  have HB6 := hid hB6
  have HX6 := hid hX6
  clear hB6 hX6
  go_cut [25] from 3 (fun v wx => v = .bool B6 ∧ JI wx g s X6 b nv ∧ X6 ≤ s.size ∧ Kp g none w wx)
  case first =>
    by_cases h1 : gB L fp = 101
    · have CT1 := CT.out 101 fp _ HJ5.out HL5.out (by decide)
      have HL2 := HTK.out fp 101 (by decide) HL5.out
      rw [if_pos h1] at HL2
      have HL3 := hid HL2
      rw [if_pos h1, decide_eq_true h1] at CT1
      have HE6 := hid (show B6 = true ∧ X6 = fp + 1 by rw [← HB6.out, ← HX6.out, if_pos (Or.inl h1), decide_eq_true (Or.inl h1)]; exact ⟨rfl, rfl⟩)
      clear h1 HL2
      go_wp2_with fail
      refine CT1.mono ?_
      rintro e w2 ⟨rfl, hj, hk⟩
      have HJ3 := hid hj
      have HK3 := hid (HK5.out.trans hk (RowOn.refl _ _))
      clear hj hk
      go_wp2
      go_meet
      case rel => rw [HE6.out.1, HE6.out.2]; exact ⟨rfl, HJ3.out, HL3.out, HK3.out⟩
    · have CT1 := CT.out 101 fp _ HJ5.out HL5.out (by decide)
      rw [if_neg h1, decide_eq_false h1] at CT1
      by_cases h2 : gB L fp = 69
      · have HL2 := HTK.out fp 69 (by decide) HL5.out
        rw [if_pos h2] at HL2
        have HL3 := hid HL2
        have CT2 := hid (fun w (h : JI w g s fp b nv) => CT.out 69 fp w h HL5.out (by decide))
        rw [if_pos h2, decide_eq_true h2] at CT2
        have HE6 := hid (show B6 = true ∧ X6 = fp + 1 by rw [← HB6.out, ← HX6.out, if_pos (Or.inr h2), decide_eq_true (Or.inr h2)]; exact ⟨rfl, rfl⟩)
        clear h1 HL2 h2
        go_wp2_with fail
        refine CT1.mono ?_
        rintro e w2 ⟨rfl, hj, hk⟩
        have HJ3 := hid hj
        have HK3 := hid (HK5.out.trans hk (RowOn.refl _ _))
        clear hj hk
        go_wp2_with fail
        refine (CT2.out _ HJ3.out).mono ?_
        rintro e w3 ⟨rfl, hj, hk⟩
        have HJ4 := hid hj
        have HK4 := hid (HK3.out.trans hk (RowOn.refl _ _))
        clear hj hk
        go_wp2
        go_meet
        case rel => rw [HE6.out.1, HE6.out.2]; exact ⟨rfl, HJ4.out, HL3.out, HK4.out⟩
      · have CT2 := hid (fun w (h : JI w g s fp b nv) => CT.out 69 fp w h HL5.out (by decide))
        rw [if_neg h2, decide_eq_false h2] at CT2
        have hn : ¬ (gB L fp = 101 ∨ gB L fp = 69) := fun h => h.elim h1 h2
        have HE6 := hid (show B6 = false ∧ X6 = fp by rw [← HB6.out, ← HX6.out, if_neg hn, decide_eq_false hn]; exact ⟨rfl, rfl⟩)
        clear h1 h2 hn
        go_wp2_with fail
        refine CT1.mono ?_
        rintro e w2 ⟨rfl, hj, hk⟩
        have HJ3 := hid hj
        have HK3 := hid (HK5.out.trans hk (RowOn.refl _ _))
        clear hj hk
        go_wp2_with fail
        refine (CT2.out _ HJ3.out).mono ?_
        rintro e w3 ⟨rfl, hj, hk⟩
        have HJ4 := hid hj
        have HK4 := hid (HK3.out.trans hk (RowOn.refl _ _))
        clear hj hk
        go_wp2
        go_meet
        case rel => rw [HE6.out.1, HE6.out.2]; exact ⟨rfl, HJ4.out, HL5.out, HK4.out⟩
  case rest =>
  obtain ⟨rfl, hj, hA5, hk⟩ := hcut
  rw [← HB6.out]
  rw [← HX6.out] at hj hA5
  have HK6 := hid hk
  clear hk
  by_cases hE : gB L fp = 101 ∨ gB L fp = 69
  rotate_left
  · have HRE := hid (show R = (true, fp) by rw [HR3.out]; unfold exP; rw [if_neg hE])
    rw [if_neg hE] at hj
    rw [decide_eq_false hE]
    obtain ⟨r1, r2⟩ := HRR.out _ _ HRE.out
    have HJE := hid (show RC = 0 ∧ JI wc g s RP b nv ∧ RP ≤ s.size by rw [r1, r2]; exact ⟨rfl, hj, HL5.out⟩)
    clear r1 r2 hE hj hA5
    go_wp2
    go_ret
    exact ⟨by rw [HJE.out.1]; rfl, HJE.out.2.1, HK6.out, HJE.out.2.2⟩
  rw [if_pos hE] at hj hA5
  rw [decide_eq_true hE]
  obtain ⟨q1, hq1⟩ : ∃ x, fp + 1 = x := ⟨_, rfl⟩
  rw [hq1] at hj hA5
  obtain ⟨q2, hq2⟩ : ∃ x, sg2 L q1 = x := ⟨_, rfl⟩
  have HRE := hid (show R = if dgE L q2 = q2 then (false, q2) else (true, dgE L q2) by rw [HR3.out]; unfold exP; rw [if_pos hE, hq1, hq2])
  have HQ2 := hid hq2
  have HJ6 := hid hj
  have HL6 := hid hA5
  clear hE hj hA5 hq1 hq2 HR3
  have CT1 := CT.out 43 q1 _ HJ6.out HL6.out (by decide)
  have HL7 := hid (HTK.out q1 43 (by decide) HL6.out)
  obtain ⟨B3, hB3⟩ : ∃ x, decide (gB L q1 = 43) = x := ⟨_, rfl⟩
  obtain ⟨q3, hq3⟩ : ∃ x, (if gB L q1 = 43 then q1 + 1 else q1) = x := ⟨_, rfl⟩
  rw [hB3, hq3] at CT1
  rw [hq3] at HL7
  have HB3 := hid hB3
  have HQ3 := hid hq3
  clear hB3 hq3
  go_wp2_with fail
  refine CT1.mono ?_
  rintro e w7 ⟨rfl, hj, hk⟩
  have HJ7 := hid hj
  have HK7 := hid (HK6.out.trans hk (RowOn.refl _ _))
  clear hj hk
  go_upto_if 28 with fail
  go_cut [] from 3 (fun wx => JI wx g s q2 b nv ∧ q2 ≤ s.size ∧ Kp g none w wx)
  case first =>
    cases B3 with
    | true =>
      have h43 : gB L q1 = 43 := of_decide_eq_true HB3.out
      have HE3 := hid (show q2 = q3 by rw [← HQ2.out, ← HQ3.out]; unfold sg2; rw [if_pos (Or.inl h43), if_pos h43])
      clear h43
      go_wp2
      go_meet
      case rel => rw [HE3.out]; exact ⟨HJ7.out, HL7.out, HK7.out⟩
    | false =>
      have h43 : ¬ gB L q1 = 43 := of_decide_eq_false HB3.out
      have HE3 := hid (show q3 = q1 by rw [← HQ3.out, if_neg h43])
      have HE4 := hid (show (if gB L q1 = 45 then q1 + 1 else q1) = q2 by
        rw [← HQ2.out]
        unfold sg2
        by_cases h : gB L q1 = 45
        · rw [if_pos h, if_pos (Or.inr h)]
        · rw [if_neg h, if_neg (fun x => x.elim h43 h)])
      have CT2 := CT.out 45 q1 _ (HE3.out ▸ HJ7.out) HL6.out (by decide)
      have HL8 := hid (HTK.out q1 45 (by decide) HL6.out)
      rw [HE4.out] at CT2 HL8
      clear h43
      go_wp2_with fail
      refine CT2.mono ?_
      rintro e w8 ⟨rfl, hj, hk⟩
      have HJ8 := hid hj
      have HK8 := hid (HK7.out.trans hk (RowOn.refl _ _))
      clear hj hk
      go_wp2
      go_meet
      case rel => exact ⟨HJ8.out, HL8.out, HK8.out⟩
  case rest =>
  obtain ⟨hj, hq25, hk⟩ := hcut
  have HKB := hid hk
  have HLB := hid hq25
  have CG1 := CG.out q2 _ hj hq25
  clear hj hk hq25
  by_cases hd : dgE L q2 = q2
  · have HB2 := hid (show R = (false, q2) by rw [HRE.out, if_pos hd])
    rw [show decide (dgE L q2 ≠ q2) = false from decide_eq_false (fun h => h hd), hd] at CG1
    clear hd
    go_wp2_with fail
    refine CG1.mono ?_
    rintro e w3 ⟨rfl, hj, hk⟩
    obtain ⟨r1, r2⟩ := HRR.out _ _ HB2.out
    have HJE := hid (show RC = 2 ∧ JI w3 g s RP b nv ∧ RP ≤ s.size by rw [r1, r2]; exact ⟨rfl, hj, HLB.out⟩)
    have HK3 := hid (HKB.out.trans hk (RowOn.refl _ _))
    clear hj hk r1 r2
    go_wp2
    go_ret
    exact ⟨by rw [HJE.out.1]; rfl, HJE.out.2.1, HK3.out, HJE.out.2.2⟩
  · have HB2 := hid (show R = (true, dgE L q2) by rw [HRE.out, if_neg hd])
    rw [show decide (dgE L q2 ≠ q2) = true from decide_eq_true hd] at CG1
    clear hd
    go_wp2_with fail
    refine CG1.mono ?_
    rintro e w3 ⟨rfl, hj, hk⟩
    obtain ⟨r1, r2⟩ := HRR.out _ _ HB2.out
    have HJE := hid (show RC = 0 ∧ JI w3 g s RP b nv ∧ RP ≤ s.size by rw [r1, r2]; exact ⟨rfl, hj, HDG.out _ HLB.out⟩)
    have HK3 := hid (HKB.out.trans hk (RowOn.refl _ _))
    clear hj hk r1 r2
    go_wp2
    go_ret
    exact ⟨by rw [HJE.out.1]; rfl, HJE.out.2.1, HK3.out, HJE.out.2.2⟩
theorem okText_size {s : ByteArray} (h : okText s = true) : s.size ≤ 1000 := by
  unfold okText textOk runes? at h
  rw [Lib.size_eq]
  by_cases hl : s.data.toList.length ≤ 1000
  · exact hl
  · rw [if_neg hl] at h
    cases h
set_option maxHeartbeats 16000000 in
set_option maxRecDepth 100000 in
theorem implJNumber (s : ByteArray) (w : World) (hT : Tabs w) :
    Calls Tryd.prog 128 #[.string s] w fun e w' => e = .returned (.bool (numB s)) ∧ Below w.heap.size w w' := by
  have CK := hid (implTextOk s w hT)
  have hln := okText_size (s := s)
  obtain ⟨B, hB⟩ : ∃ B, okText s = B := ⟨_, rfl⟩
  rw [hB] at CK hln
  obtain ⟨R, hR⟩ : ∃ R, numB s = R := ⟨_, rfl⟩
  have HR := hid (show R = (B && (numJ s.data.toList 0).1 && decide ((numJ s.data.toList 0).2 = s.size)) by rw [← hR]; unfold numB; rw [hB])
  rw [hR]
  have HLN := hid hln
  clear hT hB hR hln
  cases B with
  | false =>
    have HR2 := hid (show R = false from HR.out)
    go_enter Tryd.func128, Tryd.ntmps128
    go_wp2_with fail
    refine CK.out.mono ?_
    rintro e w1 ⟨rfl, hb1⟩
    have HB1 := hid hb1
    clear hb1
    go_wp2
    go_ret
    exact ⟨by rw [HR2.out]; rfl, HB1.out⟩
  | true =>
    have hs5 : s.size ≤ 5000 := by have := HLN.out rfl; omega
    have CN := hid (fun (w : World) (g : Nat) (h : JI w g s 0 0 (.slice none 0 0)) => implJNum w h (Nat.zero_le _) hs5)
    obtain ⟨L, hL⟩ : ∃ L, s.data.toList = L := ⟨_, rfl⟩
    rw [hL] at CN HR
    obtain ⟨N, hN⟩ : ∃ N, numJ L 0 = N := ⟨_, rfl⟩
    rw [hN] at CN HR
    obtain ⟨n1, n2⟩ := N
    dsimp only at CN HR
    clear hL hN HLN
    go_enter Tryd.func128, Tryd.ntmps128
    go_wp2_with fail
    refine CK.out.mono ?_
    rintro e w1 ⟨rfl, hb1⟩
    have HB1 := hid hb1
    clear hb1
    go_wp2_with fail
    obtain ⟨w2, hw2⟩ : ∃ x, w1.alloc (.cells #[.string s, .int .i64 0, .int .i64 0, .slice none 0 0] 55) = x := ⟨_, rfl⟩
    obtain ⟨g, hg⟩ : ∃ x, w1.heap.size = x := ⟨_, rfl⟩
    have HJ2 := hid (show JI w2 g s 0 0 (.slice none 0 0) by rw [← hw2, ← hg]; exact heap_alloc_new w1 _)
    have HB2 := hid (show Below w.heap.size w w2 ∧ g ≤ w2.heap.size ∧ w.heap.size ≤ g by
      rw [← hw2, ← hg]
      exact ⟨ext_trans HB1.out (ext_alloc w1 _), by simp, HB1.out.size⟩)
    try rw [hw2, hg]
    clear hw2 hg
    refine (CN.out _ _ HJ2.out).mono ?_
    rintro e w3 ⟨rfl, hj, hk, hle⟩
    have HJ3 := hid hj
    have HB3 := hid (show Below w.heap.size w w3 from HB2.out.1.trans ((hk.below (g := g) HB2.out.2.1 (fun b h => by cases h)).mono HB2.out.2.2))
    clear hj hk
    cases n1 with
    | false =>
      have HR2 := hid (show R = false from HR.out)
      go_wp2
      go_ret
      exact ⟨by rw [HR2.out]; rfl, HB3.out⟩
    | true =>
      obtain ⟨c0, c1, c2, c3, y1, y2, y3, hl⟩ := HJ3.out.cells
      clear c2 c3 y1 y2 y3 c0
      by_cases hn : n2 = s.size
      · have HR2 := hid (show R = true by rw [HR.out, decide_eq_true hn]; rfl)
        have e1 : ((n2 : Int) == (s.size : Int)) = true := by rw [hn]; exact beq_self_eq_true _
        have e2 : (n2 : Int) = (s.size : Int) := by omega
        clear hn
        go_wp2
        go_ret
        exact ⟨by rw [HR2.out]; first | rfl | (simp [go_sem, *]; done), HB3.out⟩
      · have HR2 := hid (show R = false by rw [HR.out, decide_eq_false hn]; rfl)
        have e1 : ((n2 : Int) == (s.size : Int)) = false := by rw [beq_eq_false_iff_ne]; omega
        have e2 : ¬ (n2 : Int) = (s.size : Int) := by omega
        clear hn
        go_wp2
        go_ret
        exact ⟨by rw [HR2.out]; first | rfl | (simp [go_sem, *]; done), HB3.out⟩
end Go.Proofs.YtlfkfofeenakhaaDoor
