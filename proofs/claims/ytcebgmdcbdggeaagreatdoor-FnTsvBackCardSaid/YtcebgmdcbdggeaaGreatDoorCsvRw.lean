/-
  What is proved here: rows of a maker's own, as a draw makes them. No condition.
-/
import Derived.Test.YtcebgmdcbdggeaaGreatDoorCsvSame
import Derived.Test.YtcebgmdcbdggeaaGreatDoorCurAny
import Derived.Test.YtcebgmdcbdggeaaGreatDoorCurT
import Derived.Test.YtcebgmdcbdggeaaGreatDoorDrw
namespace Go.Proofs.YtcebgmdcbdggeaaGreatDoor
open Go.RowKit
set_option linter.unusedVariables false
set_option linter.unusedSimpArgs false

/-- blocks from B on, beside one row's -/
def Bs (B : Nat) (row : Option Nat) (w : World) : Nat → Prop := fun b => B ≤ b ∧ b < w.heap.size ∧ row ≠ some b
/-- rows of the call's own -/
def RowsB (B : Nat) (v : Value) (w : World) (rs : List CsvRow) : Prop := ∃ css : List (List Value), w.ownsRow B 34 1 v rs.length css.flatten ∧ Each (Bs B v.ownBlock w) w css rs
theorem RowsB.rd {B : Nat} {v : Value} {w : World} {rs : List CsvRow} (h : RowsB B v w rs) : Rd.rd (New B w) w [v] rs := by
  obtain ⟨css, ho, he⟩ := h
  exact rd_own_at ho (he.mono (fun b hb => ⟨hb.1, hb.2.1⟩)) (fun b _ h1 h2 => ⟨h1, h2⟩)
theorem Bs.grow {B p : Nat} {row : Option Nat} {w w' : World} (hg : w.grownBy w' (some p)) (hp : p < B) {α : Type} [Rd α] {cs : List Value} {x : α} (h : Rd.rd (Bs B row w) w cs x) (hr : ∀ b, row = some b → b < w.heap.size) : Rd.rd (Bs B row w') w' cs x :=
  Rd.mono (S := Bs B row w) (fun b hb => ⟨hb.1, Nat.lt_of_lt_of_le hb.2.1 hg.size, hb.2.2⟩) (Rd.same (fun b hb => hg.block b hb.2.1 (fun e => by have := Option.some.inj e; have := hb.1; omega)) h)
theorem own_grow {B p : Nat} {e : TypeId} {size n : Nat} {v : Value} {xs : List Value} {w w' : World} (h : w.ownsRow B e size v n xs) (hg : w.grownBy w' (some p)) (hp : p < B) : w'.ownsRow B e size v n xs := by
  refine ⟨h.1, ?_⟩
  rcases h.2 with hn | ⟨b, cap, cur, rfl, h1, h2, h3⟩
  · exact Or.inl hn
  · exact Or.inr ⟨b, cap, cur, rfl, h1, (hg.block b (Array.getElem?_eq_some_iff.1 h2).1 (fun e => by have := Option.some.inj e; omega)).trans h2, h3⟩
theorem RowsB.grow {B p : Nat} {v : Value} {w w' : World} {rs : List CsvRow} (h : RowsB B v w rs) (hg : w.grownBy w' (some p)) (hp : p < B) : RowsB B v w' rs := by
  obtain ⟨css, ho, he⟩ := h
  exact ⟨css, own_grow ho hg hp, he.1, fun i a b => Bs.grow hg hp (he.2 i a b) (fun c hc => (ho.lt c hc).2)⟩
/-- a row put behind the others -/
theorem RowsB.snoc {B : Nat} {v v' u : Value} {w w' : World} {rs : List CsvRow} {x : CsvRow} {css : List (List Value)} (ho : w.ownsRow B 34 1 v rs.length css.flatten) (he : Each (Bs B v.ownBlock w) w css rs)
    (hx : Rd.rd (Bs B v.ownBlock w) w [u] x) (hg : w.grownBy w' v.ownBlock) (g : Nat) (hv' : v'.ownBlock = some g) (hat : v.ownBlock = some g ∨ w.heap.size ≤ g)
    (ho' : w'.ownsRow B 34 1 v' (rs.length + 1) (css.flatten ++ [u])) : RowsB B v' w' (rs ++ [x]) := by
  have hne : ∀ b, Bs B v.ownBlock w b → Bs B v'.ownBlock w' b := fun b hb => ⟨hb.1, Nat.lt_of_lt_of_le hb.2.1 hg.size, fun e => by
    rw [hv'] at e
    have e1 := Option.some.inj e
    subst e1
    rcases hat with h | h
    · exact hb.2.2 h
    · have := hb.2.1; omega⟩
  have hsame : Same (Bs B v.ownBlock w) w w' := fun b hb => hg.block b hb.2.1 (fun e => hb.2.2 e.symm)
  refine ⟨css ++ [[u]], ?_, Each.snoc ((he.same hsame).mono hne) (Rd.mono hne (Rd.same hsame hx))⟩
  rw [List.length_append, List.flatten_append]
  simpa using ho'
/-- a row of cells of the maker's own -/
def CellsB (B : Nat) (v : Value) (w : World) (cs : List ByteArray) : Prop := w.ownsRow B 9 1 v cs.length (cs.map Value.string)
theorem CellsB.rd {B : Nat} {v : Value} {w : World} {cs : List ByteArray} (h : CellsB B v w cs) (hs : ∀ s ∈ cs, s.size ≤ 1000000) : Rd.rd (New B w) w [v] (⟨cs⟩ : CsvRow) := by
  refine rd_own_at (α := ByteArray) (css := cs.map fun s => [Value.string s]) (base := B) (e := 9) (xs := cs) ?_ ⟨by simp, fun i a b => ?_⟩ (fun b _ h1 h2 => ⟨h1, h2⟩)
  · have e : (cs.map fun s => [Value.string s]).flatten = cs.map Value.string := by
      clear h hs
      induction cs with
      | nil => rfl
      | cons a r ih => simp only [List.map_cons, List.flatten_cons, ih]; rfl
    rw [e]
    exact h
  · simp only [List.getElem_map]
    have := hs _ (List.getElem_mem b)
    exact ⟨rfl, by omega⟩
end Go.Proofs.YtcebgmdcbdggeaaGreatDoor
