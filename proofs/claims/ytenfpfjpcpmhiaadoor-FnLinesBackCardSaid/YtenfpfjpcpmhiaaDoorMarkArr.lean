/-
  What is proved here: the marks of strings and values in fresh rows, and of an array: what they set, and that they are read again. No condition.
-/
import Derived.Test.YtenfpfjpcpmhiaaDoorOwn
namespace Go.Proofs.YtenfpfjpcpmhiaaDoor
open Go.RowKit
set_option linter.unusedVariables false
set_option linter.unusedSimpArgs false

def MkS (S : Nat → Prop) (w : World) (n k : Nat) (v : Value) : Prop :=
  ∃ a c, v = .slice a n c ∧ (0 < n → ∃ g, a = some ⟨g, 0, none⟩ ∧ S g ∧ ∀ i, i < n → w.cell? ⟨g, i, none⟩ = some (.string (mtxt (k + i))))
def MkV (S : Nat → Prop) (w : World) (n k : Nat) (v : Value) : Prop :=
  ∃ a c, v = .slice a n c ∧ (0 < n → ∃ g, a = some ⟨g, 0, none⟩ ∧ S g ∧ ∀ i, i < n → ∀ j, j < 5 → w.cell? ⟨g, i * 5 + j, none⟩ = some (mval (k + i * 5) j))
theorem MkS.same {S : Nat → Prop} {w w' : World} {n k : Nat} {v : Value} (h : MkS S w n k v) (hs : Same S w w') : MkS S w' n k v := by
  obtain ⟨a, c, hv, h⟩ := h
  exact ⟨a, c, hv, fun hn => let ⟨g, h1, h2, h3⟩ := h hn; ⟨g, h1, h2, fun i hi => (hs.cell (p := ⟨g, i, none⟩) h2).trans (h3 i hi)⟩⟩
theorem MkV.same {S : Nat → Prop} {w w' : World} {n k : Nat} {v : Value} (h : MkV S w n k v) (hs : Same S w w') : MkV S w' n k v := by
  obtain ⟨a, c, hv, h⟩ := h
  exact ⟨a, c, hv, fun hn => let ⟨g, h1, h2, h3⟩ := h hn; ⟨g, h1, h2, fun i hi j hj => (hs.cell (p := ⟨g, _, none⟩) h2).trans (h3 i hi j hj)⟩⟩
theorem MkS.mono {S T : Nat → Prop} {w : World} {n k : Nat} {v : Value} (h : MkS S w n k v) (hs : ∀ b, S b → T b) : MkS T w n k v := by
  obtain ⟨a, c, hv, h⟩ := h
  exact ⟨a, c, hv, fun hn => let ⟨g, h1, h2, h3⟩ := h hn; ⟨g, h1, hs g h2, h3⟩⟩
theorem MkV.mono {S T : Nat → Prop} {w : World} {n k : Nat} {v : Value} (h : MkV S w n k v) (hs : ∀ b, S b → T b) : MkV T w n k v := by
  obtain ⟨a, c, hv, h⟩ := h
  exact ⟨a, c, hv, fun hn => let ⟨g, h1, h2, h3⟩ := h hn; ⟨g, h1, hs g h2, h3⟩⟩
def MkArr (S : Nat → Prop) (w : World) (x : Arr) (k : Nat) (cs : Array Value) : Prop :=
  ∃ u v, cs = #[u, v] ∧ MkS S w x.keys.length k u ∧ MkV S w x.vals.length (k + x.keys.length) v
theorem MkArr.same {S : Nat → Prop} {w w' : World} {x : Arr} {k : Nat} {cs : Array Value} (h : MkArr S w x k cs) (hs : Same S w w') : MkArr S w' x k cs := by
  obtain ⟨u, v, h0, h1, h2⟩ := h
  exact ⟨u, v, h0, h1.same hs, h2.same hs⟩

theorem markS_any {S : Nat → Prop} {n : Nat} {v : Value} (k : Nat) (w : World) (h : Ow S w n n v) (hk : k + n ≤ 100000000) :
    Calls Tryd.prog 46 #[v, .int .i64 (k : Int)] w fun e' w' => e' = .returned (.int .i64 ((k + n : Nat) : Int)) ∧ OffS S w w' ∧ MkS S w' n k v := by
  obtain ⟨a, c, rfl, h⟩ := h
  by_cases hn : 0 < n
  · obtain ⟨g, cur, e, rfl, hS, hg, hm⟩ := h hn
    refine (markStrs g n c k cur e w hg hm hk).mono ?_
    rintro e' w' ⟨rfl, ho, cur', hg', hs', hc'⟩
    exact ⟨rfl, OffS.of ho hS, _, _, rfl, fun _ => ⟨g, rfl, hS, fun i hi => (cell_arr hg').trans (hc' i hi)⟩⟩
  · obtain rfl : n = 0 := by omega
    refine (markStrs0 a c k w (by omega)).mono ?_
    rintro e' w' ⟨rfl, rfl⟩
    exact ⟨rfl, OffS.refl _ _, _, _, rfl, fun h => absurd h (by omega)⟩
theorem markV_any {S : Nat → Prop} {n : Nat} {v : Value} (k : Nat) (w : World) (h : Ow S w n (n * 5) v) (hk : k + n * 5 ≤ 100000000) :
    Calls Tryd.prog 47 #[v, .int .i64 (k : Int)] w fun e' w' => e' = .returned (.int .i64 ((k + n * 5 : Nat) : Int)) ∧ OffS S w w' ∧ MkV S w' n k v := by
  obtain ⟨a, c, rfl, h⟩ := h
  by_cases hn : 0 < n
  · obtain ⟨g, cur, e, rfl, hS, hg, hm⟩ := h hn
    refine (markVals g n c k cur e w hg hm hk).mono ?_
    rintro e' w' ⟨rfl, ho, cur', hg', hs', hc'⟩
    exact ⟨rfl, OffS.of ho hS, _, _, rfl, fun _ => ⟨g, rfl, hS, fun i hi j hj => (cell_arr hg').trans (hc' i hi j hj)⟩⟩
  · obtain rfl : n = 0 := by omega
    refine (markVals0 a c k w (by omega)).mono ?_
    rintro e' w' ⟨rfl, rfl⟩
    exact ⟨rfl, OffS.refl _ _, _, _, rfl, fun h => absurd h (by omega)⟩
theorem heldS_any {S : Nat → Prop} {n : Nat} {v : Value} (k : Nat) (w : World) (h : MkS S w n k v) (hk : k + n ≤ 100000000) :
    Calls Tryd.prog 48 #[v, .int .i64 (k : Int)] w fun e' w' => e' = .returned (.int .i64 ((k + n : Nat) : Int)) ∧ Below w.heap.size w w' := by
  obtain ⟨a, c, rfl, h⟩ := h
  by_cases hn : 0 < n
  · obtain ⟨g, rfl, hS, hc⟩ := h hn
    exact heldStrs g n c k w hc hk
  · obtain rfl : n = 0 := by omega
    refine (heldStrs0 a c k w (by omega)).mono ?_
    rintro e' w' ⟨rfl, rfl⟩
    exact ⟨rfl, Below.refl _ _⟩
theorem heldV_any {S : Nat → Prop} {n : Nat} {v : Value} (k : Nat) (w : World) (h : MkV S w n k v) (hk : k + n * 5 ≤ 100000000) :
    Calls Tryd.prog 49 #[v, .int .i64 (k : Int)] w fun e' w' => e' = .returned (.int .i64 ((k + n * 5 : Nat) : Int)) ∧ Below w.heap.size w w' := by
  obtain ⟨a, c, rfl, h⟩ := h
  by_cases hn : 0 < n
  · obtain ⟨g, rfl, hS, hc⟩ := h hn
    exact heldVals g n c k w hc hk
  · obtain rfl : n = 0 := by omega
    refine (heldVals0 a c k w (by omega)).mono ?_
    rintro e' w' ⟨rfl, rfl⟩
    exact ⟨rfl, Below.refl _ _⟩
def arrCells (x : Arr) : Nat := x.keys.length + x.vals.length * 5
set_option maxHeartbeats 2000000 in
theorem markArr_any {S : Nat → Prop} {x : Arr} {cs : Array Value} (k : Nat) (w : World) (h : OwArr S w x cs) (hS : ∀ b, S b → b < w.heap.size) (hk : k + arrCells x ≤ 100000000) :
    Calls Tryd.prog 13 #[.agg cs, .int .i64 (k : Int)] w fun e' w' => e' = .returned (.int .i64 ((k + arrCells x : Nat) : Int)) ∧ OffS S w w' ∧ MkArr S w' x k cs := by
  unfold arrCells at *
  obtain ⟨S1, S2, u, v, rfl, h1, h2, h3, h4, h5⟩ := h
  have H4 := hid h4
  have H5 := hid h5
  clear h4 h5
  have hob : OffS S w (w.alloc (.cells #[u, v] 34)) := OffS.below (ext_alloc _ _)
  go_enter Tryd.func13, Tryd.ntmps13
  go_wp2_with fail
  refine (markS_any k _ (by exact H4.out.same (Same.of_below (ext_alloc _ _) |>.mono (fun b hb => hS b (h1 b hb)))) (by omega)).mono ?_
  rintro e w1 ⟨rfl, ho1, hm1⟩
  have hc1 : w1.cell? ⟨w.heap.size, 1, none⟩ = some v := by
    refine (ho1.cell (p := ⟨w.heap.size, 1, none⟩) (by simp) (fun hb => absurd (hS _ (h1 _ hb)) (by simp))).trans ?_
    simp
  have hl1 : w.heap.size < w1.heap.size := by have := ho1.size; simp at this; omega
  go_wp2_with fail
  refine (markV_any (k + x.keys.length) _ (by exact (H5.out.same ((Same.of_below (ext_alloc _ _)).mono (fun b hb => hS b (h2 b hb)))).same (ho1.to_same (fun b hb => ⟨by have := hS b (h2 b hb); simp; omega, fun hb' => h3 b hb' hb⟩))) (by omega)).mono ?_
  rintro e w2 ⟨rfl, ho2, hm2⟩
  have hE : ((k + x.keys.length + x.vals.length * 5 : Nat) : Int) = ((k + (x.keys.length + x.vals.length * 5) : Nat) : Int) := by omega
  rw [hE]
  go_wp2
  go_ret
  exact ⟨rfl, OffS.trans (OffS.trans hob ⟨ho1.os, ho1.tape, ho1.output, ho1.size, fun c hc hn => ho1.block c hc (fun hb => hn (h1 c hb))⟩) ⟨ho2.os, ho2.tape, ho2.output, ho2.size, fun c hc hn => ho2.block c hc (fun hb => hn (h2 c hb))⟩, u, v, rfl,
    (hm1.same (ho2.to_same (fun b hb => ⟨by have := hS b (h1 b hb); omega, fun hb' => h3 b hb hb'⟩))).mono h1, hm2.mono h2⟩
set_option maxHeartbeats 2000000 in
theorem heldArr_any {S : Nat → Prop} {x : Arr} {cs : Array Value} (k : Nat) (w : World) (h : MkArr S w x k cs) (hS : ∀ b, S b → b < w.heap.size) (hk : k + arrCells x ≤ 100000000) :
    Calls Tryd.prog 14 #[.agg cs, .int .i64 (k : Int)] w fun e' w' => e' = .returned (.int .i64 ((k + arrCells x : Nat) : Int)) ∧ Below w.heap.size w w' := by
  unfold arrCells at *
  obtain ⟨u, v, rfl, h1, h2⟩ := h
  have H1 := hid h1
  have H2 := hid h2
  clear h1 h2
  go_enter Tryd.func14, Tryd.ntmps14
  go_wp2_with fail
  refine (heldS_any k _ (by exact H1.out.same ((Same.of_below (ext_alloc _ _)).mono (fun b hb => hS b hb))) (by omega)).mono ?_
  rintro e w1 ⟨rfl, hb1⟩
  obtain ⟨hc1, hf1⟩ := bcell hb1
  have hl1 : w.heap.size < w1.heap.size := by have := hb1.size; simp at this; omega
  have hB1 : Below w.heap.size w w1 := ext_trans (ext_alloc _ _) hb1
  have hn1 : ¬ ((k + x.keys.length : Nat) : Int) < 0 := by omega
  go_wp2_with fail
  refine (heldV_any (k + x.keys.length) _ (by exact H2.out.same ((Same.of_below hB1).mono (fun b hb => hS b hb))) (by omega)).mono ?_
  rintro e w2 ⟨rfl, hb2⟩
  have hE : ((k + x.keys.length + x.vals.length * 5 : Nat) : Int) = ((k + (x.keys.length + x.vals.length * 5) : Nat) : Int) := by omega
  rw [hE]
  have hn2 : ¬ ((k + (x.keys.length + x.vals.length * 5) : Nat) : Int) < 0 := by omega
  go_wp2
  go_ret
  exact ⟨rfl, ext_trans hB1 hb2⟩
end Go.Proofs.YtenfpfjpcpmhiaaDoor
