/-
  What is proved here: the laws' markText, markStringS, heldStringS: rows of texts are overwritten and looked at. The conditions are that the rows lie in blocks that can be written.
-/
import Derived.Test.YtcebgmdcbdggeaaDoorDv
import Derived.Deep.Cut
import Derived.Deep.CutRange
import Derived.Laws.Concat
import Derived.Laws.Cover1
namespace Go.Proofs.YtcebgmdcbdggeaaDoor
open Go.RowKit
set_option linter.unusedVariables false
set_option linter.unusedSimpArgs false

/-- all but one block stands -/
structure Off (g : Nat) (w w' : World) : Prop where
  os : w'.os = w.os
  tape : w'.tape = w.tape
  output : w'.output = w.output
  size : w.heap.size ≤ w'.heap.size
  block : ∀ c, c < w.heap.size → c ≠ g → w'.heap[c]? = w.heap[c]?
theorem Off.refl (g : Nat) (w : World) : Off g w w := ⟨rfl, rfl, rfl, Nat.le_refl _, fun _ _ _ => rfl⟩
theorem Off.call {g : Nat} {w w1 w2 : World} (h : Off g w w1) (hb : Below w1.heap.size w1 w2) : Off g w w2 :=
  ⟨hb.os.trans h.os, hb.tape.trans h.tape, hb.output.trans h.output, Nat.le_trans h.size hb.size, fun c hc hg => (hb.block c (Nat.lt_of_lt_of_le hc h.size)).trans (h.block c hc hg)⟩
theorem Off.set {g : Nat} {w w1 : World} (h : Off g w w1) (i : Nat) (v : Value) : Off g w (w1.setCell ⟨g, i, none⟩ v) :=
  ⟨h.os, h.tape, h.output, by have := h.size; simpa [World.setCell] using this, fun c hc hg => (Below.heap_setCell w1 ⟨g, i, none⟩ v c hg).trans (h.block c hc hg)⟩
theorem Off.below {g B : Nat} {w w' : World} (h : Off g w w') (hB : B ≤ g) (hw : B ≤ w.heap.size) : Below B w w' :=
  ⟨h.os, h.tape, h.output, h.size, fun c hc => h.block c (Nat.lt_of_lt_of_le hc hw) (Nat.ne_of_lt (Nat.lt_of_lt_of_le hc hB))⟩
/-- the digits of a mark -/
def mgo : Nat → Nat → ByteArray → ByteArray
  | 0, _, s => s
  | f + 1, k, s => if k = 0 then s else mgo f (k / 10) (⟨#[UInt8.ofNat (48 + k % 10)]⟩ ++ s)
def mtxt (k : Nat) : ByteArray := if k = 0 then ⟨#[109, 48]⟩ else ⟨#[109]⟩ ++ mgo k k ⟨#[]⟩
theorem mgo_size : ∀ (f k : Nat) (s : ByteArray), (mgo f k s).size ≤ s.size + f
  | 0, _, s => Nat.le_refl _
  | f + 1, k, s => by
    rw [mgo]
    split
    · omega
    · have h1 := mgo_size f (k / 10) (⟨#[UInt8.ofNat (48 + k % 10)]⟩ ++ s)
      have h2 : (⟨#[UInt8.ofNat (48 + k % 10)]⟩ : ByteArray).size = 1 := rfl
      rw [ByteArray.size_append, h2] at h1
      omega
theorem set_get {cur : Array Value} {i j : Nat} {v : Value} : (cur.setIfInBounds i v)[j]? = if i = j ∧ j < cur.size then some v else cur[j]? := by
  rw [Array.getElem?_setIfInBounds]
  by_cases h : i = j
  · subst h
    by_cases h2 : i < cur.size
    · simp [h2]
    · simp [h2]
  · simp [h]
theorem cell_arr {w : World} {g j : Nat} {cur : Array Value} {e : TypeId} {fr : Nat × Nat} (hg : w.heap[g]? = some (.cells cur e fr)) : w.cell? ⟨g, j, none⟩ = cur[j]? := by
  unfold World.cell?
  rw [hg]
  simp
theorem heap_lt {w : World} {g : Nat} {o : Obj} (h : w.heap[g]? = some o) : g < w.heap.size := (Array.getElem?_eq_some_iff.1 h).1
theorem free_arr {w : World} {g j : Nat} {cur : Array Value} {e : TypeId} (hg : w.heap[g]? = some (.cells cur e (0, 0))) : w.frozen? ⟨g, j, none⟩ = false := by simp [World.frozen?, hg]
theorem arr_some {cur : Array Value} {j : Nat} (h : j < cur.size) : ∃ u, cur[j]? = some u := ⟨cur[j], Array.getElem?_eq_getElem h⟩
end Go.Proofs.YtcebgmdcbdggeaaDoor
