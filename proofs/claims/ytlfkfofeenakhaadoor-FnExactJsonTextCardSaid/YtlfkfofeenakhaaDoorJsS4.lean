/-
  What is proved here: the reference's JSON reader puts a node to its nodes. No condition but that the reader lies in memory, and sizes.
-/
import Derived.Test.YtlfkfofeenakhaaDoorJsS1b
import Derived.Test.YtlfkfofeenakhaaDoorTypes
import Derived.Deep.RegionHeld3
import Derived.Deep.AppendLies
namespace Go.Proofs.YtlfkfofeenakhaaDoor
open Go.RowKit
set_option linter.unusedVariables false
set_option linter.unusedSimpArgs false

/-- the nodes that a reader has made -/
def JNs (X : Nat → Prop) (g : Nat) (nv : Value) (w : World) (ns : List JNode) : Prop := ∃ css : List (List Value), w.ownsRow (g + 1) 75 4 nv ns.length css.flatten ∧ Each (Beside X g nv.ownBlock w) w css ns
theorem KpweakJ {g : Nat} {w w' : World} (h : Kp g none w w') (r : Option Nat) : Kp g r w w' := ⟨h.os, h.tape, h.output, h.size, fun b hb hg _ => h.block b hb hg (by simp)⟩
theorem JNs.kp {X : Nat → Prop} {g : Nat} {nv : Value} {w w' : World} {ns : List JNode} (h : JNs X g nv w ns) (k : Kp g none w w') : JNs X g nv w' ns := by
  obtain ⟨css, h1, h2⟩ := h
  exact ⟨css, k.row h1 (fun b _ => by simp), (KpweakJ k nv.ownBlock).each (RowOn.refl _ _) h2⟩
theorem info_jn : (Tryd.prog.info? 75).map (fun i => (i.zero, i.size, i.bytes)) = some (some (.agg #[.int .i64 0, .string ⟨#[]⟩, .slice none 0 0, .slice none 0 0]), 4, 72) := by kernel_rfl
theorem one_jn (n : JNode) (a1 a2 : Option Addr) (m1 m2 k1 k2 : Nat) : ∀ u ∈ ([.int .i64 n.kind, .string n.text, .slice a1 m1 k1, .slice a2 m2 k2] : List Value), u.oneCell' = true := by
  intro u hu
  simp only [List.mem_cons, List.not_mem_nil, or_false] at hu
  rcases hu with rfl | rfl | rfl | rfl <;> rfl
def PutJ (X : Nat → Prop) (g : Nat) (s : ByteArray) (p cd bd d b : Nat) (nv : Value) (w w' : World) (ns : List JNode) (n : JNode) (e : Ending) : Prop := ∃ nv' : Value, e = .returned (.int .i64 (ns.length : Int)) ∧ JS w' g s p cd bd d b nv' ∧ JNs X g nv' w' (ns ++ [n]) ∧ RowOn w nv.ownBlock nv'.ownBlock ∧ Kp g nv.ownBlock w w'
set_option maxHeartbeats 16000000 in
set_option maxRecDepth 100000 in
theorem specJPut {X : Nat → Prop} {g : Nat} {s : ByteArray} {p cd bd d b : Nat} {nv : Value} {a1 a2 : Option Addr} {m1 m2 k1 k2 : Nat} {ns : List JNode} {n : JNode} (w : World) (hb : JS w g s p cd bd d b nv)
    (hn : JNs X g nv w ns) (hrd : Rd.rd (Beside X g nv.ownBlock w) w [.int .i64 n.kind, .string n.text, .slice a1 m1 k1, .slice a2 m2 k2] n) (hlen : ns.length ≤ 100000) :
    Calls Tryd.prog 66 #[.pointer (some ⟨g, 0, none⟩), .agg #[.int .i64 n.kind, .string n.text, .slice a1 m1 k1, .slice a2 m2 k2]] w fun e w' => PutJ X g s p cd bd d b nv w w' ns n e := by
  obtain ⟨css, hown, heach⟩ := hn
  obtain ⟨ii, hi, hz0, hz1, hz2⟩ := info_parts info_jn
  have HB := hid hb
  have hl : g < w.heap.size := hb.cells.2.2.2.2.2.2.2.2.2.2.2.2.2
  have hng : nv.ownBlock ≠ some g := fun e => by have := (hown.lt g e).1; omega
  have hlng : ¬ w.heap.size = g := by omega
  have hlng2 : ¬ g = w.heap.size := by omega
  obtain ⟨c0, c1, c2, c3, c4, c5, c6, y1, y2, y3, y4, y5, y6, _⟩ := hb.cells
  have HOWN := hid hown
  have HEACH := hid heach
  have HRD := hid hrd
  have HNG := hid hng
  clear hb hown heach hrd hng c0 c1 c2 c3 c4 c5
  go_enter Tryd.func66, Tryd.ntmps66
  go_wp2_with fail
  refine wp_region_held_drew (S := fun w' => w'.cell? ⟨w.heap.size, 0, none⟩ = some (.int .i64 n.kind) ∧ w'.cell? ⟨w.heap.size, 1, none⟩ = some (.string n.text) ∧ w'.cell? ⟨w.heap.size, 2, none⟩ = some (.slice a1 m1 k1) ∧ w'.cell? ⟨w.heap.size, 3, none⟩ = some (.slice a2 m2 k2)) (by kernel_rfl) ?_ (fun hHeld => ?_)
  · (refine ⟨?_, ?_, ?_, ?_⟩ <;> go_simp)
  refine wpAnyH_take (i := 0) (v := ?_) rfl (by kernel_rfl) (by kernel_rfl) (by kernel_rfl) (fun _ _ _ h => h) (Or.inl ⟨by rfl, ?_⟩) (by assumption) ?_
  rotate_left
  · (intro w' hSw; (try dsimp only at hSw); go_simp; try (with_reducible rfl))
  change wpAnyH _ _ _ _ _ _ _ (Act.put _ (some 5) _) _
  try simp only [Act.put, List.setIfInBounds_toArray, List.set_cons_zero, List.set_cons_succ]
  refine wpAnyH_take (i := 1) (v := ?_) rfl (by kernel_rfl) (by kernel_rfl) (by kernel_rfl) (fun _ _ _ h => h) (Or.inl ⟨by rfl, ?_⟩) (by assumption) ?_
  rotate_left
  · (intro w' hSw; (try dsimp only at hSw); go_simp; try (with_reducible rfl))
  change wpAnyH _ _ _ _ _ _ _ (Act.put _ (some 6) _) _
  try simp only [Act.put, List.setIfInBounds_toArray, List.set_cons_zero, List.set_cons_succ]
  refine wpAnyH_take (i := 2) (v := ?_) rfl (by kernel_rfl) (by kernel_rfl) (by kernel_rfl) (fun _ _ _ h => h) (Or.inl ⟨by rfl, ?_⟩) (by assumption) ?_
  rotate_left
  · (intro w' hSw; (try dsimp only at hSw); go_simp; try (with_reducible rfl))
  change wpAnyH _ _ _ _ _ _ _ (Act.put _ (some 7) _) _
  try simp only [Act.put, List.setIfInBounds_toArray, List.set_cons_zero, List.set_cons_succ]
  refine wpAnyH_take (i := 3) (v := ?_) rfl (by kernel_rfl) (by kernel_rfl) (by kernel_rfl) (fun _ _ _ h => h) (Or.inl ⟨by rfl, ?_⟩) (by assumption) ?_
  rotate_left
  · (intro w' hSw; (try dsimp only at hSw); go_simp; try (with_reducible rfl))
  change wpAnyH _ _ _ _ _ _ _ (Act.put _ (some 8) _) _
  try simp only [Act.put, List.setIfInBounds_toArray, List.set_cons_zero, List.set_cons_succ]
  refine wpAnyH_take (i := 5) (v := ?_) rfl (by kernel_rfl) (by kernel_rfl) (by kernel_rfl) (fun _ _ _ h => h) (Or.inl ⟨by rfl, ?_⟩) (by assumption) ?_
  rotate_left
  · (intro w' hSw; (try dsimp only at hSw); go_simp; try (with_reducible rfl))
  change wpAnyH _ _ _ _ _ _ _ (Act.put _ (some 10) _) _
  try simp only [Act.put, List.setIfInBounds_toArray, List.set_cons_zero, List.set_cons_succ]
  refine wpAnyH_ready (rs := [4, 6]) (by kernel_rfl) (by simp) ?_
  refine AllReadyH.cons (i := 4) rfl (fun K hK => ?_) ?_
  · simp only [List.getElem_toArray, List.getElem_cons_succ, List.getElem_cons_zero]
    rw [if_pos (by rfl)]
    go_simp
    refine hK.out _ _ ?_ (fun hHeld => ?_)
    · first | trivial | ((try dsimp only); exact hHeld)
    clear hK K
    try simp only [Act.put, List.setIfInBounds_toArray, List.set_cons_zero, List.set_cons_succ]
    refine wpAnyH_ready (rs := [6]) (by kernel_rfl) (by simp) ?_
    refine AllReadyH.cons (i := 6) rfl (fun K hK => ?_) AllReadyH.nil
    simp only [List.getElem_toArray, List.getElem_cons_succ, List.getElem_cons_zero]
    rw [if_pos (by rfl)]
    go_simp
    refine hK.out _ _ ?_ (fun hHeld => ?_)
    · first | trivial | ((try dsimp only); (refine ⟨?_, ?_, ?_, ?_⟩ <;> go_simp))
    clear hK K
    try simp only [Act.put, List.setIfInBounds_toArray, List.set_cons_zero, List.set_cons_succ]
    refine wpAnyH_ready (rs := [7]) (by kernel_rfl) (by simp) ?_
    refine AllReadyH.cons (i := 7) rfl (fun K hK => ?_) AllReadyH.nil
    simp only [List.getElem_toArray, List.getElem_cons_succ, List.getElem_cons_zero]
    rw [if_pos (by rfl)]
    refine wp_append_lies _ (.tmp 9) (.tmp 11) 22 rfl (g + 1) 75 ii (.agg #[.int .i64 0, .string ⟨#[]⟩, .slice none 0 0, .slice none 0 0]) 4 72 Tryd.underlying22 hi hz0 hz1 hz2 rfl (by decide) nv ns.length css.flatten (by first | rfl | simp [Act.eval, Act.put]) ((HOWN.out.alloc _).drew.alloc _) ⟨w.heap.size + 1, 0, none⟩ 1 1 [.int .i64 n.kind, .string n.text, .slice a1 m1 k1, .slice a2 m2 k2] (by first | rfl | simp [Act.eval, Act.put]) rfl (World.news_of_block (B := w.heap.size + 1) (cs := #[.int .i64 n.kind, .string n.text, .slice a1 m1 k1, .slice a2 m2 k2]) (t := 75) (fr := (0, 0)) (by have h0 := heap_alloc_new (w.alloc (.cells #[.int .i64 n.kind, .string n.text, .slice a1 m1 k1, .slice a2 m2 k2] 75)).drew (.cells #[.int .i64 n.kind, .string n.text, .slice a1 m1 k1, .slice a2 m2 k2] 75); rw [show (w.alloc (.cells #[.int .i64 n.kind, .string n.text, .slice a1 m1 k1, .slice a2 m2 k2] 75)).drew.heap.size = w.heap.size + 1 by (show (w.alloc _).heap.size = _; simp)] at h0; exact h0)) (one_jn n a1 a2 m1 m2 k1 k2) (by decide) (by unfold maxLen; omega) (by omega) (by simp; omega) _ rfl ?_
    intro g4 cap4 w5 hown5 hgrow5 hat5 hlt5
    have hk5 : Kp g nv.ownBlock w w5 := Kp.grown ((((Kp.refl g nv.ownBlock w).alloc _).drew).alloc _) hgrow5
    have hb5 : JS w5 g s p cd bd d b nv := (hgrow5.block g (by simp; omega) (fun e => HNG.out e.symm)).trans (by
        show ((w.alloc _).alloc _).heap[g]? = _
        rw [(ext_alloc _ _).block g (by show g < (w.alloc _).heap.size; simp; omega)]
        exact ((ext_alloc w _).block g hl).trans HB.out)
    have hS5 : w5.cell? ⟨w.heap.size, 0, none⟩ = some (.int .i64 n.kind) ∧ w5.cell? ⟨w.heap.size, 1, none⟩ = some (.string n.text) ∧ w5.cell? ⟨w.heap.size, 2, none⟩ = some (.slice a1 m1 k1) ∧ w5.cell? ⟨w.heap.size, 3, none⟩ = some (.slice a2 m2 k2) := by
        have far : ∀ j, w5.cell? ⟨w.heap.size, j, none⟩ = (w.alloc (.cells #[.int .i64 n.kind, .string n.text, .slice a1 m1 k1, .slice a2 m2 k2] 75)).drew.cell? ⟨w.heap.size, j, none⟩ := fun j => World.cell?_of_block (a := ⟨w.heap.size, j, none⟩) ((hgrow5.block w.heap.size (by simp; omega) (fun e => by have := (HOWN.out.lt _ e.symm).2; omega)).trans ((ext_alloc _ _).block w.heap.size (by show w.heap.size < (w.alloc _).heap.size; simp)))
        refine ⟨?_, ?_, ?_, ?_⟩ <;> (rw [far]; go_simp)
    have hro : RowOn w nv.ownBlock (some g4) := by
        rcases hat5 with h | h
        · exact Or.inl h.symm
        · exact Or.inr ⟨g4, rfl, by simp at h; omega⟩
    have hl5 : g < w5.heap.size := Nat.lt_of_lt_of_le hl hk5.size
    obtain ⟨d0, d1, d2, d3, d4, d5, d6, z1, z2, z3, z4, z5, z6, _⟩ := hb5.cells
    have HOWN5 := hid hown5
    have HB5 := hid hb5
    clear hown5 hgrow5 hat5 hb5 d0 d1 d2 d3 d4 d5
    refine hK.out _ _ ?_ (fun hHeld => ?_)
    · first | trivial | ((try dsimp only); exact hS5)
    clear hK K
    try simp only [Act.put, List.setIfInBounds_toArray, List.set_cons_zero, List.set_cons_succ]
    refine wpAnyH_take (i := 8) (v := ?_) rfl (by kernel_rfl) (by kernel_rfl) (by kernel_rfl) (fun _ _ _ h => h) (Or.inl ⟨by rfl, ?_⟩) (by assumption) ?_
    rotate_left
    · (intro w' hSw; (try dsimp only at hSw); go_simp; try (with_reducible rfl))
    change wpAnyH _ _ _ _ _ _ _ (Act.put _ (some 13) _) _
    try simp only [Act.put, List.setIfInBounds_toArray, List.set_cons_zero, List.set_cons_succ]
    refine wpAnyH_take (i := 9) (v := ?_) rfl (by kernel_rfl) (by kernel_rfl) (by kernel_rfl) (fun _ _ _ h => h) (Or.inl ⟨by rfl, ?_⟩) (by assumption) ?_
    rotate_left
    · (intro w' hSw; (try dsimp only at hSw); go_simp; try (with_reducible rfl))
    change wpAnyH _ _ _ _ _ _ _ (Act.put _ (some 14) _) _
    try simp only [Act.put, List.setIfInBounds_toArray, List.set_cons_zero, List.set_cons_succ]
    refine wpAnyH_ready (rs := [10]) (by kernel_rfl) (by simp) ?_
    refine AllReadyH.cons (i := 10) rfl (fun K hK => ?_) AllReadyH.nil
    simp only [List.getElem_toArray, List.getElem_cons_succ, List.getElem_cons_zero]
    rw [if_pos (by rfl)]
    go_simp
    refine hK.out _ _ ?_ (fun hHeld => ?_)
    · first | trivial | ((try dsimp only); (refine ⟨?_, ?_, ?_, ?_⟩ <;> go_simp))
    clear hK K
    try simp only [Act.put, List.setIfInBounds_toArray, List.set_cons_zero, List.set_cons_succ]
    refine wpAnyH_done (by kernel_rfl) ?_ _
    clear hHeld
    have HB6 := hid (HB5.out.setN (.slice (some ⟨g4, 0, none⟩) (ns.length + 1) cap4))
    have hk6 := hk5.set 6 (.slice (some ⟨g4, 0, none⟩) (ns.length + 1) cap4)
    have HO6 := hid (ownsRow_setCell_below (a := ⟨g, 6, none⟩) HOWN5.out (by show g < g + 1; omega) (.slice (some ⟨g4, 0, none⟩) (ns.length + 1) cap4))
    go_wp2
    go_ret
    refine ⟨.slice (some ⟨g4, 0, none⟩) (ns.length + 1) cap4, by first | rfl | (congr 2; omega), HB6.out, ⟨css ++ [[.int .i64 n.kind, .string n.text, .slice a1 m1 k1, .slice a2 m2 k2]], ?_, ?_⟩, hro, hk6⟩
    · rw [List.length_append, List.flatten_append]
      have h0 := HO6.out
      simpa using h0
    · have h1 := hk6.each (r' := some g4) hro HEACH.out
      have h2 := hk6.rd (r' := some g4) hro HRD.out
      exact h1.snoc h2
  refine AllReadyH.cons (i := 6) rfl (fun K hK => ?_) ?_
  · simp only [List.getElem_toArray, List.getElem_cons_succ, List.getElem_cons_zero]
    rw [if_pos (by rfl)]
    go_simp
    refine hK.out _ _ ?_ (fun hHeld => ?_)
    · first | trivial | ((try dsimp only); (refine ⟨?_, ?_, ?_, ?_⟩ <;> go_simp))
    clear hK K
    try simp only [Act.put, List.setIfInBounds_toArray, List.set_cons_zero, List.set_cons_succ]
    refine wpAnyH_ready (rs := [4]) (by kernel_rfl) (by simp) ?_
    refine AllReadyH.cons (i := 4) rfl (fun K hK => ?_) AllReadyH.nil
    simp only [List.getElem_toArray, List.getElem_cons_succ, List.getElem_cons_zero]
    rw [if_pos (by rfl)]
    go_simp
    refine hK.out _ _ ?_ (fun hHeld => ?_)
    · first | trivial | ((try dsimp only); exact hHeld)
    clear hK K
    try simp only [Act.put, List.setIfInBounds_toArray, List.set_cons_zero, List.set_cons_succ]
    refine wpAnyH_ready (rs := [7]) (by kernel_rfl) (by simp) ?_
    refine AllReadyH.cons (i := 7) rfl (fun K hK => ?_) AllReadyH.nil
    simp only [List.getElem_toArray, List.getElem_cons_succ, List.getElem_cons_zero]
    rw [if_pos (by rfl)]
    refine wp_append_lies _ (.tmp 9) (.tmp 11) 22 rfl (g + 1) 75 ii (.agg #[.int .i64 0, .string ⟨#[]⟩, .slice none 0 0, .slice none 0 0]) 4 72 Tryd.underlying22 hi hz0 hz1 hz2 rfl (by decide) nv ns.length css.flatten (by first | rfl | simp [Act.eval, Act.put]) ((HOWN.out.alloc _).drew.alloc _) ⟨w.heap.size + 1, 0, none⟩ 1 1 [.int .i64 n.kind, .string n.text, .slice a1 m1 k1, .slice a2 m2 k2] (by first | rfl | simp [Act.eval, Act.put]) rfl (World.news_of_block (B := w.heap.size + 1) (cs := #[.int .i64 n.kind, .string n.text, .slice a1 m1 k1, .slice a2 m2 k2]) (t := 75) (fr := (0, 0)) (by have h0 := heap_alloc_new (w.alloc (.cells #[.int .i64 n.kind, .string n.text, .slice a1 m1 k1, .slice a2 m2 k2] 75)).drew (.cells #[.int .i64 n.kind, .string n.text, .slice a1 m1 k1, .slice a2 m2 k2] 75); rw [show (w.alloc (.cells #[.int .i64 n.kind, .string n.text, .slice a1 m1 k1, .slice a2 m2 k2] 75)).drew.heap.size = w.heap.size + 1 by (show (w.alloc _).heap.size = _; simp)] at h0; exact h0)) (one_jn n a1 a2 m1 m2 k1 k2) (by decide) (by unfold maxLen; omega) (by omega) (by simp; omega) _ rfl ?_
    intro g4 cap4 w5 hown5 hgrow5 hat5 hlt5
    have hk5 : Kp g nv.ownBlock w w5 := Kp.grown ((((Kp.refl g nv.ownBlock w).alloc _).drew).alloc _) hgrow5
    have hb5 : JS w5 g s p cd bd d b nv := (hgrow5.block g (by simp; omega) (fun e => HNG.out e.symm)).trans (by
        show ((w.alloc _).alloc _).heap[g]? = _
        rw [(ext_alloc _ _).block g (by show g < (w.alloc _).heap.size; simp; omega)]
        exact ((ext_alloc w _).block g hl).trans HB.out)
    have hS5 : w5.cell? ⟨w.heap.size, 0, none⟩ = some (.int .i64 n.kind) ∧ w5.cell? ⟨w.heap.size, 1, none⟩ = some (.string n.text) ∧ w5.cell? ⟨w.heap.size, 2, none⟩ = some (.slice a1 m1 k1) ∧ w5.cell? ⟨w.heap.size, 3, none⟩ = some (.slice a2 m2 k2) := by
        have far : ∀ j, w5.cell? ⟨w.heap.size, j, none⟩ = (w.alloc (.cells #[.int .i64 n.kind, .string n.text, .slice a1 m1 k1, .slice a2 m2 k2] 75)).drew.cell? ⟨w.heap.size, j, none⟩ := fun j => World.cell?_of_block (a := ⟨w.heap.size, j, none⟩) ((hgrow5.block w.heap.size (by simp; omega) (fun e => by have := (HOWN.out.lt _ e.symm).2; omega)).trans ((ext_alloc _ _).block w.heap.size (by show w.heap.size < (w.alloc _).heap.size; simp)))
        refine ⟨?_, ?_, ?_, ?_⟩ <;> (rw [far]; go_simp)
    have hro : RowOn w nv.ownBlock (some g4) := by
        rcases hat5 with h | h
        · exact Or.inl h.symm
        · exact Or.inr ⟨g4, rfl, by simp at h; omega⟩
    have hl5 : g < w5.heap.size := Nat.lt_of_lt_of_le hl hk5.size
    obtain ⟨d0, d1, d2, d3, d4, d5, d6, z1, z2, z3, z4, z5, z6, _⟩ := hb5.cells
    have HOWN5 := hid hown5
    have HB5 := hid hb5
    clear hown5 hgrow5 hat5 hb5 d0 d1 d2 d3 d4 d5
    refine hK.out _ _ ?_ (fun hHeld => ?_)
    · first | trivial | ((try dsimp only); exact hS5)
    clear hK K
    try simp only [Act.put, List.setIfInBounds_toArray, List.set_cons_zero, List.set_cons_succ]
    refine wpAnyH_take (i := 8) (v := ?_) rfl (by kernel_rfl) (by kernel_rfl) (by kernel_rfl) (fun _ _ _ h => h) (Or.inl ⟨by rfl, ?_⟩) (by assumption) ?_
    rotate_left
    · (intro w' hSw; (try dsimp only at hSw); go_simp; try (with_reducible rfl))
    change wpAnyH _ _ _ _ _ _ _ (Act.put _ (some 13) _) _
    try simp only [Act.put, List.setIfInBounds_toArray, List.set_cons_zero, List.set_cons_succ]
    refine wpAnyH_take (i := 9) (v := ?_) rfl (by kernel_rfl) (by kernel_rfl) (by kernel_rfl) (fun _ _ _ h => h) (Or.inl ⟨by rfl, ?_⟩) (by assumption) ?_
    rotate_left
    · (intro w' hSw; (try dsimp only at hSw); go_simp; try (with_reducible rfl))
    change wpAnyH _ _ _ _ _ _ _ (Act.put _ (some 14) _) _
    try simp only [Act.put, List.setIfInBounds_toArray, List.set_cons_zero, List.set_cons_succ]
    refine wpAnyH_ready (rs := [10]) (by kernel_rfl) (by simp) ?_
    refine AllReadyH.cons (i := 10) rfl (fun K hK => ?_) AllReadyH.nil
    simp only [List.getElem_toArray, List.getElem_cons_succ, List.getElem_cons_zero]
    rw [if_pos (by rfl)]
    go_simp
    refine hK.out _ _ ?_ (fun hHeld => ?_)
    · first | trivial | ((try dsimp only); (refine ⟨?_, ?_, ?_, ?_⟩ <;> go_simp))
    clear hK K
    try simp only [Act.put, List.setIfInBounds_toArray, List.set_cons_zero, List.set_cons_succ]
    refine wpAnyH_done (by kernel_rfl) ?_ _
    clear hHeld
    have HB6 := hid (HB5.out.setN (.slice (some ⟨g4, 0, none⟩) (ns.length + 1) cap4))
    have hk6 := hk5.set 6 (.slice (some ⟨g4, 0, none⟩) (ns.length + 1) cap4)
    have HO6 := hid (ownsRow_setCell_below (a := ⟨g, 6, none⟩) HOWN5.out (by show g < g + 1; omega) (.slice (some ⟨g4, 0, none⟩) (ns.length + 1) cap4))
    go_wp2
    go_ret
    refine ⟨.slice (some ⟨g4, 0, none⟩) (ns.length + 1) cap4, by first | rfl | (congr 2; omega), HB6.out, ⟨css ++ [[.int .i64 n.kind, .string n.text, .slice a1 m1 k1, .slice a2 m2 k2]], ?_, ?_⟩, hro, hk6⟩
    · rw [List.length_append, List.flatten_append]
      have h0 := HO6.out
      simpa using h0
    · have h1 := hk6.each (r' := some g4) hro HEACH.out
      have h2 := hk6.rd (r' := some g4) hro HRD.out
      exact h1.snoc h2
  exact AllReadyH.nil
end Go.Proofs.YtlfkfofeenakhaaDoor
