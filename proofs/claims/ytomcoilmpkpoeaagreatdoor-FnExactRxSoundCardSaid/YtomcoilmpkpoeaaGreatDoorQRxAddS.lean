/-
  What is proved here: the reference's pattern reader puts a node to its nodes. No condition but that the reader lies in memory, and sizes.
-/
import Derived.Test.YtomcoilmpkpoeaaGreatDoorQRxS1
import Derived.Test.YtomcoilmpkpoeaaGreatDoorQA
namespace Go.Proofs.YtomcoilmpkpoeaaGreatDoor
open Go.RowKit
set_option linter.unusedVariables false
set_option linter.unusedSimpArgs false

theorem blk6f {w : World} {g : Nat} {x0 x1 x2 x3 x4 x5 : Value} {t : TypeId} (h : w.heap[g]? = some (.cells #[x0, x1, x2, x3, x4, x5] t (0, 0))) :
    w.cell? ⟨g, 0, none⟩ = some x0 ∧ w.cell? ⟨g, 1, none⟩ = some x1 ∧ w.cell? ⟨g, 2, none⟩ = some x2 ∧ w.cell? ⟨g, 3, none⟩ = some x3 ∧ w.cell? ⟨g, 4, none⟩ = some x4 ∧ w.cell? ⟨g, 5, none⟩ = some x5 ∧
    w.frozen? ⟨g, 0, none⟩ = false ∧ w.frozen? ⟨g, 1, none⟩ = false ∧ w.frozen? ⟨g, 2, none⟩ = false ∧ w.frozen? ⟨g, 3, none⟩ = false ∧ w.frozen? ⟨g, 4, none⟩ = false ∧ w.frozen? ⟨g, 5, none⟩ = false ∧ g < w.heap.size := by
  have h' : w.heap[g]? = some (.cells ([x0, x1, x2, x3, x4, x5] : List Value).toArray t (0, 0)) := h
  exact ⟨cell_of_block h', cell_of_block h', cell_of_block h', cell_of_block h', cell_of_block h', cell_of_block h', frozen_of_row w g _ _ _ h', frozen_of_row w g _ _ _ h', frozen_of_row w g _ _ _ h', frozen_of_row w g _ _ _ h', frozen_of_row w g _ _ _ h', frozen_of_row w g _ _ _ h', (Array.getElem?_eq_some_iff.1 h).1⟩
def specPutNE (X : Nat → Prop) (g i d cd bd : Nat) (lv nv : Value) (w w' : World) (ns : List RxNode) (n : RxNode) (e : Ending) : Prop := ∃ nv' : Value, e = .returned (.int .i64 (ns.length : Int)) ∧ w'.heap[g]? = some (.cells #[lv, .int .i64 (i : Int), .int .i64 (cd : Int), .int .i64 (bd : Int), .int .i64 (d : Int), nv'] 87 (0, 0)) ∧ RxNs X g nv' w' (ns ++ [n]) ∧ RowOn w nv.ownBlock nv'.ownBlock ∧ Kp g nv.ownBlock w w'
set_option maxHeartbeats 16000000 in
set_option maxRecDepth 100000 in
theorem specPutN {X : Nat → Prop} {g i d cd bd : Nat} {lv nv : Value} {a1 a2 : Option Addr} {m1 m2 k1 k2 : Nat} {ns : List RxNode} {n : RxNode} (w : World) (hb : w.heap[g]? = some (.cells #[lv, .int .i64 (i : Int), .int .i64 (cd : Int), .int .i64 (bd : Int), .int .i64 (d : Int), nv] 87 (0, 0)))
    (hn : RxNs X g nv w ns) (hrd : Rd.rd (Beside X g nv.ownBlock w) w [.int .i64 n.kind, .int .i64 n.lo, .int .i64 n.hi, .bool n.neg, .slice a1 m1 k1, .slice a2 m2 k2] n) (hlen : ns.length ≤ 100000) :
    Calls Tryz.prog 116 #[.pointer (some ⟨g, 0, none⟩), .agg #[.int .i64 n.kind, .int .i64 n.lo, .int .i64 n.hi, .bool n.neg, .slice a1 m1 k1, .slice a2 m2 k2]] w fun e w' => specPutNE X g i d cd bd lv nv w w' ns n e := by
  obtain ⟨css, hown, heach⟩ := hn
  obtain ⟨ii, hi, hz0, hz1, hz2⟩ := info_parts info_rxn
  have HB := hid hb
  have hl : g < w.heap.size := (Array.getElem?_eq_some_iff.1 hb).1
  have hng : nv.ownBlock ≠ some g := fun e => by have := (hown.lt g e).1; omega
  have hlng : ¬ w.heap.size = g := by omega
  have hlng2 : ¬ g = w.heap.size := by omega
  obtain ⟨c0, c1, c2, c3, c4, c5, y0, y1, y2, y3, y4, y5, _⟩ := blk6f hb
  have HOWN := hid hown
  have HEACH := hid heach
  have HRD := hid hrd
  have HNG := hid hng
  clear hb hown heach hrd hng
  go_enter Tryz.func116, Tryz.ntmps116
  go_wp2_with fail
  refine wp_region_held_drew (S := fun w' => w'.cell? ⟨w.heap.size, 0, none⟩ = some (.int .i64 n.kind) ∧ w'.cell? ⟨w.heap.size, 1, none⟩ = some (.int .i64 n.lo) ∧ w'.cell? ⟨w.heap.size, 2, none⟩ = some (.int .i64 n.hi) ∧ w'.cell? ⟨w.heap.size, 3, none⟩ = some (.bool n.neg) ∧ w'.cell? ⟨w.heap.size, 4, none⟩ = some (.slice a1 m1 k1) ∧ w'.cell? ⟨w.heap.size, 5, none⟩ = some (.slice a2 m2 k2)) (by kernel_rfl) ?_ (fun hHeld => ?_)
  · (refine ⟨?_, ?_, ?_, ?_, ?_, ?_⟩ <;> go_simp)
  refine wpAnyH_take (i := 0) (v := ?_) rfl (by kernel_rfl) (by kernel_rfl) (by kernel_rfl) (fun _ _ _ h => h) (Or.inl ⟨by rfl, ?_⟩) (by assumption) ?_
  rotate_left
  · (intro w' hSw; (try dsimp only at hSw); go_simp; try (with_reducible rfl))
  change wpAnyH _ _ _ _ _ _ _ (Act.put _ (some 5) _) _
  try simp only [Act.put, List.setIfInBounds_toArray, List.set_cons_zero, List.set_cons_succ]
  refine wpAnyH_take (i := 1) (v := ?_) rfl (by kernel_rfl) (by kernel_rfl) (by kernel_rfl) (fun _ _ _ h => h) (Or.inl ⟨by rfl, ?_⟩) (by assumption) ?_
  rotate_left
  · (intro w' hSw; (try dsimp only at hSw); go_simp; try (with_reducible rfl))
  change wpAnyH _ _ _ _ _ _ _ (Act.put _ (some 6) _) _
  try simp only [Act.put, List.setIfInBounds_toArray, List.set_cons_zero, List.set_cons_succ]
  refine wpAnyH_take (i := 2) (v := ?_) rfl (by kernel_rfl) (by kernel_rfl) (by kernel_rfl) (fun _ _ _ h => h) (Or.inl ⟨by rfl, ?_⟩) (by assumption) ?_
  rotate_left
  · (intro w' hSw; (try dsimp only at hSw); go_simp; try (with_reducible rfl))
  change wpAnyH _ _ _ _ _ _ _ (Act.put _ (some 7) _) _
  try simp only [Act.put, List.setIfInBounds_toArray, List.set_cons_zero, List.set_cons_succ]
  refine wpAnyH_take (i := 3) (v := ?_) rfl (by kernel_rfl) (by kernel_rfl) (by kernel_rfl) (fun _ _ _ h => h) (Or.inl ⟨by rfl, ?_⟩) (by assumption) ?_
  rotate_left
  · (intro w' hSw; (try dsimp only at hSw); go_simp; try (with_reducible rfl))
  change wpAnyH _ _ _ _ _ _ _ (Act.put _ (some 8) _) _
  try simp only [Act.put, List.setIfInBounds_toArray, List.set_cons_zero, List.set_cons_succ]
  refine wpAnyH_take (i := 5) (v := ?_) rfl (by kernel_rfl) (by kernel_rfl) (by kernel_rfl) (fun _ _ _ h => h) (Or.inl ⟨by rfl, ?_⟩) (by assumption) ?_
  rotate_left
  · (intro w' hSw; (try dsimp only at hSw); go_simp; try (with_reducible rfl))
  change wpAnyH _ _ _ _ _ _ _ (Act.put _ (some 10) _) _
  try simp only [Act.put, List.setIfInBounds_toArray, List.set_cons_zero, List.set_cons_succ]
  refine wpAnyH_ready (rs := [4, 6]) (by kernel_rfl) (by simp) ?_
  refine AllReadyH.cons (i := 4) rfl (fun K hK => ?_) ?_
  · simp only [List.getElem_toArray, List.getElem_cons_succ, List.getElem_cons_zero]
    rw [if_pos (by rfl)]
    go_simp
    refine hK.out _ _ ?_ (fun hHeld => ?_)
    · first | trivial | ((try dsimp only); exact hHeld)
    clear hK K
    try simp only [Act.put, List.setIfInBounds_toArray, List.set_cons_zero, List.set_cons_succ]
    refine wpAnyH_ready (rs := [6]) (by kernel_rfl) (by simp) ?_
    refine AllReadyH.cons (i := 6) rfl (fun K hK => ?_) AllReadyH.nil
    simp only [List.getElem_toArray, List.getElem_cons_succ, List.getElem_cons_zero]
    rw [if_pos (by rfl)]
    go_simp
    refine hK.out _ _ ?_ (fun hHeld => ?_)
    · first | trivial | ((try dsimp only); (refine ⟨?_, ?_, ?_, ?_, ?_, ?_⟩ <;> go_simp))
    clear hK K
    try simp only [Act.put, List.setIfInBounds_toArray, List.set_cons_zero, List.set_cons_succ]
    refine wpAnyH_ready (rs := [7]) (by kernel_rfl) (by simp) ?_
    refine AllReadyH.cons (i := 7) rfl (fun K hK => ?_) AllReadyH.nil
    simp only [List.getElem_toArray, List.getElem_cons_succ, List.getElem_cons_zero]
    rw [if_pos (by rfl)]
    refine wp_append_lies _ (.tmp 9) (.tmp 11) 27 rfl (g + 1) 82 ii (.agg #[.int .i64 0, .int .i64 0, .int .i64 0, .bool false, .slice none 0 0, .slice none 0 0]) 6 80 Tryz.underlying27 hi hz0 hz1 hz2 rfl (by decide) nv ns.length css.flatten (by first | rfl | simp [Act.eval, Act.put]) ((HOWN.out.alloc _).drew.alloc _) ⟨w.heap.size + 1, 0, none⟩ 1 1 [.int .i64 n.kind, .int .i64 n.lo, .int .i64 n.hi, .bool n.neg, .slice a1 m1 k1, .slice a2 m2 k2] (by first | rfl | simp [Act.eval, Act.put]) rfl (World.news_of_block (B := w.heap.size + 1) (cs := #[.int .i64 n.kind, .int .i64 n.lo, .int .i64 n.hi, .bool n.neg, .slice a1 m1 k1, .slice a2 m2 k2]) (t := 82) (fr := (0, 0)) (by have h0 := heap_alloc_new (w.alloc (.cells #[.int .i64 n.kind, .int .i64 n.lo, .int .i64 n.hi, .bool n.neg, .slice a1 m1 k1, .slice a2 m2 k2] 82)).drew (.cells #[.int .i64 n.kind, .int .i64 n.lo, .int .i64 n.hi, .bool n.neg, .slice a1 m1 k1, .slice a2 m2 k2] 82); rw [show (w.alloc (.cells #[.int .i64 n.kind, .int .i64 n.lo, .int .i64 n.hi, .bool n.neg, .slice a1 m1 k1, .slice a2 m2 k2] 82)).drew.heap.size = w.heap.size + 1 by (show (w.alloc _).heap.size = _; simp)] at h0; exact h0)) (one_rxn n a1 a2 m1 m2 k1 k2) (by decide) (by unfold maxLen; omega) (by omega) (by simp; omega) _ rfl ?_
    intro g4 cap4 w5 hown5 hgrow5 hat5 hlt5
    have hk5 : Kp g nv.ownBlock w w5 := Kp.grown ((((Kp.refl g nv.ownBlock w).alloc _).drew).alloc _) hgrow5
    have hb5 : w5.heap[g]? = some (.cells #[lv, .int .i64 (i : Int), .int .i64 (cd : Int), .int .i64 (bd : Int), .int .i64 (d : Int), nv] 87 (0, 0)) := (hgrow5.block g (by simp; omega) (fun e => HNG.out e.symm)).trans (by
        show ((w.alloc _).alloc _).heap[g]? = _
        rw [(ext_alloc _ _).block g (by show g < (w.alloc _).heap.size; simp; omega)]
        exact ((ext_alloc w _).block g hl).trans HB.out)
    have hS5 : w5.cell? ⟨w.heap.size, 0, none⟩ = some (.int .i64 n.kind) ∧ w5.cell? ⟨w.heap.size, 1, none⟩ = some (.int .i64 n.lo) ∧ w5.cell? ⟨w.heap.size, 2, none⟩ = some (.int .i64 n.hi) ∧ w5.cell? ⟨w.heap.size, 3, none⟩ = some (.bool n.neg) ∧ w5.cell? ⟨w.heap.size, 4, none⟩ = some (.slice a1 m1 k1) ∧ w5.cell? ⟨w.heap.size, 5, none⟩ = some (.slice a2 m2 k2) := by
        have far : ∀ j, w5.cell? ⟨w.heap.size, j, none⟩ = (w.alloc (.cells #[.int .i64 n.kind, .int .i64 n.lo, .int .i64 n.hi, .bool n.neg, .slice a1 m1 k1, .slice a2 m2 k2] 82)).drew.cell? ⟨w.heap.size, j, none⟩ := fun j => World.cell?_of_block (a := ⟨w.heap.size, j, none⟩) ((hgrow5.block w.heap.size (by simp; omega) (fun e => by have := (HOWN.out.lt _ e.symm).2; omega)).trans ((ext_alloc _ _).block w.heap.size (by show w.heap.size < (w.alloc _).heap.size; simp)))
        refine ⟨?_, ?_, ?_, ?_, ?_, ?_⟩ <;> (rw [far]; go_simp)
    have hro : RowOn w nv.ownBlock (some g4) := by
        rcases hat5 with h | h
        · exact Or.inl h.symm
        · exact Or.inr ⟨g4, rfl, by simp at h; omega⟩
    have hl5 : g < w5.heap.size := Nat.lt_of_lt_of_le hl hk5.size
    obtain ⟨d0, d1, d2, d3, d4, d5, z0, z1, z2, z3, z4, z5, _⟩ := blk6f hb5
    have HOWN5 := hid hown5
    have HB5 := hid hb5
    clear hown5 hgrow5 hat5 hb5
    refine hK.out _ _ ?_ (fun hHeld => ?_)
    · first | trivial | ((try dsimp only); exact hS5)
    clear hK K
    try simp only [Act.put, List.setIfInBounds_toArray, List.set_cons_zero, List.set_cons_succ]
    refine wpAnyH_take (i := 8) (v := ?_) rfl (by kernel_rfl) (by kernel_rfl) (by kernel_rfl) (fun _ _ _ h => h) (Or.inl ⟨by rfl, ?_⟩) (by assumption) ?_
    rotate_left
    · (intro w' hSw; (try dsimp only at hSw); go_simp; try (with_reducible rfl))
    change wpAnyH _ _ _ _ _ _ _ (Act.put _ (some 13) _) _
    try simp only [Act.put, List.setIfInBounds_toArray, List.set_cons_zero, List.set_cons_succ]
    refine wpAnyH_take (i := 9) (v := ?_) rfl (by kernel_rfl) (by kernel_rfl) (by kernel_rfl) (fun _ _ _ h => h) (Or.inl ⟨by rfl, ?_⟩) (by assumption) ?_
    rotate_left
    · (intro w' hSw; (try dsimp only at hSw); go_simp; try (with_reducible rfl))
    change wpAnyH _ _ _ _ _ _ _ (Act.put _ (some 14) _) _
    try simp only [Act.put, List.setIfInBounds_toArray, List.set_cons_zero, List.set_cons_succ]
    refine wpAnyH_ready (rs := [10]) (by kernel_rfl) (by simp) ?_
    refine AllReadyH.cons (i := 10) rfl (fun K hK => ?_) AllReadyH.nil
    simp only [List.getElem_toArray, List.getElem_cons_succ, List.getElem_cons_zero]
    rw [if_pos (by rfl)]
    go_simp
    refine hK.out _ _ ?_ (fun hHeld => ?_)
    · first | trivial | ((try dsimp only); (refine ⟨?_, ?_, ?_, ?_, ?_, ?_⟩ <;> go_simp))
    clear hK K
    try simp only [Act.put, List.setIfInBounds_toArray, List.set_cons_zero, List.set_cons_succ]
    refine wpAnyH_done (by kernel_rfl) ?_ _
    clear hHeld
    have hb6 := blk6_set (o := 5) (.slice (some ⟨g4, 0, none⟩) (ns.length + 1) cap4) HB5.out
    have e0 : w5.setCell ⟨g, 5, none⟩ (.slice (some ⟨g4, 0, none⟩) (ns.length + 1) cap4) = w5.setCell ⟨g, 5, none⟩ (.slice (some ⟨g4, 0, none⟩) (ns.length + 1) cap4) := rfl
    have HB6 := hid hb6
    have hk6 := hk5.set 5 (.slice (some ⟨g4, 0, none⟩) (ns.length + 1) cap4)
    have HO6 := hid (ownsRow_setCell_below (a := ⟨g, 5, none⟩) HOWN5.out (by show g < g + 1; omega) (.slice (some ⟨g4, 0, none⟩) (ns.length + 1) cap4))
    clear hb6 e0
    go_wp2
    go_ret
    refine ⟨.slice (some ⟨g4, 0, none⟩) (ns.length + 1) cap4, rfl, HB6.out, ⟨css ++ [[.int .i64 n.kind, .int .i64 n.lo, .int .i64 n.hi, .bool n.neg, .slice a1 m1 k1, .slice a2 m2 k2]], ?_, ?_⟩, hro, hk6⟩
    · rw [List.length_append, List.flatten_append]
      have h0 := HO6.out
      simpa using h0
    · have h1 := hk6.each (r' := some g4) hro HEACH.out
      have h2 := hk6.rd (r' := some g4) hro HRD.out
      exact h1.snoc h2
  refine AllReadyH.cons (i := 6) rfl (fun K hK => ?_) ?_
  · simp only [List.getElem_toArray, List.getElem_cons_succ, List.getElem_cons_zero]
    rw [if_pos (by rfl)]
    go_simp
    refine hK.out _ _ ?_ (fun hHeld => ?_)
    · first | trivial | ((try dsimp only); (refine ⟨?_, ?_, ?_, ?_, ?_, ?_⟩ <;> go_simp))
    clear hK K
    try simp only [Act.put, List.setIfInBounds_toArray, List.set_cons_zero, List.set_cons_succ]
    refine wpAnyH_ready (rs := [4]) (by kernel_rfl) (by simp) ?_
    refine AllReadyH.cons (i := 4) rfl (fun K hK => ?_) AllReadyH.nil
    simp only [List.getElem_toArray, List.getElem_cons_succ, List.getElem_cons_zero]
    rw [if_pos (by rfl)]
    go_simp
    refine hK.out _ _ ?_ (fun hHeld => ?_)
    · first | trivial | ((try dsimp only); exact hHeld)
    clear hK K
    try simp only [Act.put, List.setIfInBounds_toArray, List.set_cons_zero, List.set_cons_succ]
    refine wpAnyH_ready (rs := [7]) (by kernel_rfl) (by simp) ?_
    refine AllReadyH.cons (i := 7) rfl (fun K hK => ?_) AllReadyH.nil
    simp only [List.getElem_toArray, List.getElem_cons_succ, List.getElem_cons_zero]
    rw [if_pos (by rfl)]
    refine wp_append_lies _ (.tmp 9) (.tmp 11) 27 rfl (g + 1) 82 ii (.agg #[.int .i64 0, .int .i64 0, .int .i64 0, .bool false, .slice none 0 0, .slice none 0 0]) 6 80 Tryz.underlying27 hi hz0 hz1 hz2 rfl (by decide) nv ns.length css.flatten (by first | rfl | simp [Act.eval, Act.put]) ((HOWN.out.alloc _).drew.alloc _) ⟨w.heap.size + 1, 0, none⟩ 1 1 [.int .i64 n.kind, .int .i64 n.lo, .int .i64 n.hi, .bool n.neg, .slice a1 m1 k1, .slice a2 m2 k2] (by first | rfl | simp [Act.eval, Act.put]) rfl (World.news_of_block (B := w.heap.size + 1) (cs := #[.int .i64 n.kind, .int .i64 n.lo, .int .i64 n.hi, .bool n.neg, .slice a1 m1 k1, .slice a2 m2 k2]) (t := 82) (fr := (0, 0)) (by have h0 := heap_alloc_new (w.alloc (.cells #[.int .i64 n.kind, .int .i64 n.lo, .int .i64 n.hi, .bool n.neg, .slice a1 m1 k1, .slice a2 m2 k2] 82)).drew (.cells #[.int .i64 n.kind, .int .i64 n.lo, .int .i64 n.hi, .bool n.neg, .slice a1 m1 k1, .slice a2 m2 k2] 82); rw [show (w.alloc (.cells #[.int .i64 n.kind, .int .i64 n.lo, .int .i64 n.hi, .bool n.neg, .slice a1 m1 k1, .slice a2 m2 k2] 82)).drew.heap.size = w.heap.size + 1 by (show (w.alloc _).heap.size = _; simp)] at h0; exact h0)) (one_rxn n a1 a2 m1 m2 k1 k2) (by decide) (by unfold maxLen; omega) (by omega) (by simp; omega) _ rfl ?_
    intro g4 cap4 w5 hown5 hgrow5 hat5 hlt5
    have hk5 : Kp g nv.ownBlock w w5 := Kp.grown ((((Kp.refl g nv.ownBlock w).alloc _).drew).alloc _) hgrow5
    have hb5 : w5.heap[g]? = some (.cells #[lv, .int .i64 (i : Int), .int .i64 (cd : Int), .int .i64 (bd : Int), .int .i64 (d : Int), nv] 87 (0, 0)) := (hgrow5.block g (by simp; omega) (fun e => HNG.out e.symm)).trans (by
        show ((w.alloc _).alloc _).heap[g]? = _
        rw [(ext_alloc _ _).block g (by show g < (w.alloc _).heap.size; simp; omega)]
        exact ((ext_alloc w _).block g hl).trans HB.out)
    have hS5 : w5.cell? ⟨w.heap.size, 0, none⟩ = some (.int .i64 n.kind) ∧ w5.cell? ⟨w.heap.size, 1, none⟩ = some (.int .i64 n.lo) ∧ w5.cell? ⟨w.heap.size, 2, none⟩ = some (.int .i64 n.hi) ∧ w5.cell? ⟨w.heap.size, 3, none⟩ = some (.bool n.neg) ∧ w5.cell? ⟨w.heap.size, 4, none⟩ = some (.slice a1 m1 k1) ∧ w5.cell? ⟨w.heap.size, 5, none⟩ = some (.slice a2 m2 k2) := by
        have far : ∀ j, w5.cell? ⟨w.heap.size, j, none⟩ = (w.alloc (.cells #[.int .i64 n.kind, .int .i64 n.lo, .int .i64 n.hi, .bool n.neg, .slice a1 m1 k1, .slice a2 m2 k2] 82)).drew.cell? ⟨w.heap.size, j, none⟩ := fun j => World.cell?_of_block (a := ⟨w.heap.size, j, none⟩) ((hgrow5.block w.heap.size (by simp; omega) (fun e => by have := (HOWN.out.lt _ e.symm).2; omega)).trans ((ext_alloc _ _).block w.heap.size (by show w.heap.size < (w.alloc _).heap.size; simp)))
        refine ⟨?_, ?_, ?_, ?_, ?_, ?_⟩ <;> (rw [far]; go_simp)
    have hro : RowOn w nv.ownBlock (some g4) := by
        rcases hat5 with h | h
        · exact Or.inl h.symm
        · exact Or.inr ⟨g4, rfl, by simp at h; omega⟩
    have hl5 : g < w5.heap.size := Nat.lt_of_lt_of_le hl hk5.size
    obtain ⟨d0, d1, d2, d3, d4, d5, z0, z1, z2, z3, z4, z5, _⟩ := blk6f hb5
    have HOWN5 := hid hown5
    have HB5 := hid hb5
    clear hown5 hgrow5 hat5 hb5
    refine hK.out _ _ ?_ (fun hHeld => ?_)
    · first | trivial | ((try dsimp only); exact hS5)
    clear hK K
    try simp only [Act.put, List.setIfInBounds_toArray, List.set_cons_zero, List.set_cons_succ]
    refine wpAnyH_take (i := 8) (v := ?_) rfl (by kernel_rfl) (by kernel_rfl) (by kernel_rfl) (fun _ _ _ h => h) (Or.inl ⟨by rfl, ?_⟩) (by assumption) ?_
    rotate_left
    · (intro w' hSw; (try dsimp only at hSw); go_simp; try (with_reducible rfl))
    change wpAnyH _ _ _ _ _ _ _ (Act.put _ (some 13) _) _
    try simp only [Act.put, List.setIfInBounds_toArray, List.set_cons_zero, List.set_cons_succ]
    refine wpAnyH_take (i := 9) (v := ?_) rfl (by kernel_rfl) (by kernel_rfl) (by kernel_rfl) (fun _ _ _ h => h) (Or.inl ⟨by rfl, ?_⟩) (by assumption) ?_
    rotate_left
    · (intro w' hSw; (try dsimp only at hSw); go_simp; try (with_reducible rfl))
    change wpAnyH _ _ _ _ _ _ _ (Act.put _ (some 14) _) _
    try simp only [Act.put, List.setIfInBounds_toArray, List.set_cons_zero, List.set_cons_succ]
    refine wpAnyH_ready (rs := [10]) (by kernel_rfl) (by simp) ?_
    refine AllReadyH.cons (i := 10) rfl (fun K hK => ?_) AllReadyH.nil
    simp only [List.getElem_toArray, List.getElem_cons_succ, List.getElem_cons_zero]
    rw [if_pos (by rfl)]
    go_simp
    refine hK.out _ _ ?_ (fun hHeld => ?_)
    · first | trivial | ((try dsimp only); (refine ⟨?_, ?_, ?_, ?_, ?_, ?_⟩ <;> go_simp))
    clear hK K
    try simp only [Act.put, List.setIfInBounds_toArray, List.set_cons_zero, List.set_cons_succ]
    refine wpAnyH_done (by kernel_rfl) ?_ _
    clear hHeld
    have hb6 := blk6_set (o := 5) (.slice (some ⟨g4, 0, none⟩) (ns.length + 1) cap4) HB5.out
    have e0 : w5.setCell ⟨g, 5, none⟩ (.slice (some ⟨g4, 0, none⟩) (ns.length + 1) cap4) = w5.setCell ⟨g, 5, none⟩ (.slice (some ⟨g4, 0, none⟩) (ns.length + 1) cap4) := rfl
    have HB6 := hid hb6
    have hk6 := hk5.set 5 (.slice (some ⟨g4, 0, none⟩) (ns.length + 1) cap4)
    have HO6 := hid (ownsRow_setCell_below (a := ⟨g, 5, none⟩) HOWN5.out (by show g < g + 1; omega) (.slice (some ⟨g4, 0, none⟩) (ns.length + 1) cap4))
    clear hb6 e0
    go_wp2
    go_ret
    refine ⟨.slice (some ⟨g4, 0, none⟩) (ns.length + 1) cap4, rfl, HB6.out, ⟨css ++ [[.int .i64 n.kind, .int .i64 n.lo, .int .i64 n.hi, .bool n.neg, .slice a1 m1 k1, .slice a2 m2 k2]], ?_, ?_⟩, hro, hk6⟩
    · rw [List.length_append, List.flatten_append]
      have h0 := HO6.out
      simpa using h0
    · have h1 := hk6.each (r' := some g4) hro HEACH.out
      have h2 := hk6.rd (r' := some g4) hro HRD.out
      exact h1.snoc h2
  exact AllReadyH.nil
end Go.Proofs.YtomcoilmpkpoeaaGreatDoor
