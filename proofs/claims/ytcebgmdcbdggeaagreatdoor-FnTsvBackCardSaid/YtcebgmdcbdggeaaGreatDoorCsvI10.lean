/-
  What is proved here: rowsText and CsvText of impl. The conditions 'Tabs' and 'Mx' speak of the library's tables and of its MaxLen.
-/
import Derived.Test.YtcebgmdcbdggeaaGreatDoorCsvI9
import Derived.Test.YtcebgmdcbdggeaaGreatDoorShelfB
import Derived.Lib.OthersKept
namespace Go.Proofs.YtcebgmdcbdggeaaGreatDoor
open Go.RowKit
set_option linter.unusedVariables false
set_option linter.unusedSimpArgs false

theorem bf_below {T e : TypeId} {B b : Nat} {bs : List Value} {w w' : World} (h : Lib.IsBuilderF T e B b bs w) (k : Below w.heap.size w w') : Lib.IsBuilderF T e B b bs w' := by
  have one : ∀ {p : Value}, Lib.BuilderAtF T e B b p bs w → Lib.BuilderAtF T e B b p bs w' := by
    intro p h
    obtain ⟨hB, v, hb, hown, hne⟩ := h
    refine ⟨hB, v, (k.block b (Array.getElem?_eq_some_iff.1 hb).1).trans hb, ⟨hown.1, ?_⟩, hne⟩
    rcases hown.2 with hn | ⟨g, cap, cur, fz, hv, hbg, hg, rest⟩
    · exact Or.inl hn
    · exact Or.inr ⟨g, cap, cur, fz, hv, hbg, (k.block g (Array.getElem?_eq_some_iff.1 hg).1).trans hg, rest⟩
  exact h.elim (fun x => Or.inl (one x)) (fun x => Or.inr (one x))
theorem joinC_snoc : ∀ (l : List (List UInt8)) (a : List UInt8), joinC (l ++ [a]) = if l = [] then a else joinC l ++ 44 :: a
  | [], a => rfl
  | [b], a => rfl
  | b :: c :: r, a => by
    have := joinC_snoc (c :: r) a
    rw [if_neg (by simp)] at this ⊢
    show b ++ 44 :: joinC (c :: r ++ [a]) = (b ++ 44 :: joinC (c :: r)) ++ 44 :: a
    rw [this]
    simp
theorem rowsT_app (a b : List (List (List UInt8))) : rowsT (a ++ b) = rowsT a ++ rowsT b := by simp [rowsT]
theorem byteCells1 (l : List UInt8) (b : UInt8) : Lib.byteCells l ++ [Value.int .u8 (b.toNat : Int)] = Lib.byteCells (l ++ [b]) := by simp [Lib.byteCells]
theorem rowsT_take (L : List (List (List UInt8))) (k : Nat) (h : k < L.length) : rowsT (L.take (k + 1)) = rowsT (L.take k) ++ (joinC (L[k].map cellT) ++ [10]) := by
  rw [List.take_add_one, List.getElem?_eq_getElem h, rowsT_app]
  congr 1
  simp [rowsT, rowT]
theorem rowsT_le (L : List (List (List UInt8))) (k : Nat) : (rowsT (L.take k)).length ≤ (rowsT L).length := by
  have : rowsT L = rowsT (L.take k) ++ rowsT (L.drop k) := by rw [← rowsT_app, List.take_append_drop]
  rw [this, List.length_append]
  omega
theorem cellT_len (t : List UInt8) : (cellT t).length ≤ 2 * t.length + 2 := by
  have := escQ_len t
  unfold cellT
  split
  · simp only [List.length_cons, List.length_append, List.length_nil]; omega
  · omega
theorem joinC_len : ∀ (cs : List (List UInt8)) (m : Nat), (∀ c ∈ cs, c.length ≤ m) → (joinC cs).length ≤ cs.length * (m + 1)
  | [], m, _ => Nat.zero_le _
  | [a], m, h => by
    have := h a (by simp)
    show a.length ≤ 1 * (m + 1)
    omega
  | a :: b :: r, m, h => by
    have h1 := h a (by simp)
    have h2 := joinC_len (b :: r) m (fun c hc => h c (by simp at hc ⊢; exact Or.inr hc))
    have e : (joinC (a :: b :: r)).length = a.length + ((joinC (b :: r)).length + 1) := by
      show (a ++ 44 :: joinC (b :: r)).length = _
      simp
    have e2 : (a :: b :: r).length * (m + 1) = (b :: r).length * (m + 1) + (m + 1) := by
      rw [show (a :: b :: r).length = (b :: r).length + 1 from rfl, Nat.succ_mul]
    omega
/-- the bytes written of a row's first cells -/
def cellsT (cs : List ByteArray) (j : Nat) : List UInt8 := joinC ((cs.take j).map fun s => cellT s.data.toList)
theorem cellsT_zero (cs : List ByteArray) : cellsT cs 0 = [] := rfl
theorem cellsT_one (cs : List ByteArray) (h : 0 < cs.length) : cellsT cs 1 = cellT cs[0].data.toList := by
  cases cs with
  | nil => simp at h
  | cons a r => rfl
theorem cellsT_succ (cs : List ByteArray) (j : Nat) (h : j < cs.length) (hj : 0 < j) : cellsT cs (j + 1) = cellsT cs j ++ [44] ++ cellT cs[j].data.toList := by
  unfold cellsT
  rw [List.take_add_one, List.getElem?_eq_getElem h, List.map_append]
  show joinC (_ ++ [cellT cs[j].data.toList]) = _
  rw [joinC_snoc, if_neg]
  · simp
  · intro e
    have := congrArg List.length e
    rw [List.length_map, List.length_take] at this
    simp only [List.length_nil] at this
    omega
theorem cellsT_all (x : CsvRow) : cellsT x.cells x.cells.length = joinC ((rowL x).map cellT) := by
  unfold cellsT rowL
  rw [List.take_length, List.map_map]
  rfl
theorem cellsT_len (cs : List ByteArray) (j : Nat) (h : ∀ s ∈ cs, s.size ≤ 1000) (hn : cs.length ≤ 100) : (cellsT cs j).length ≤ 300000 := by
  have := joinC_len ((cs.take j).map fun s => cellT s.data.toList) 2002 (fun c hc => by
    obtain ⟨s, hs, rfl⟩ := List.mem_map.1 hc
    have h1 := h s (List.mem_of_mem_take hs)
    have h2 := cellT_len s.data.toList
    rw [← Lib.size_eq] at h2
    omega)
  unfold cellsT
  rw [List.length_map, List.length_take] at this
  have h3 : min j cs.length * (2002 + 1) ≤ 100 * 2003 := Nat.mul_le_mul (by omega) (Nat.le_refl _)
  omega
theorem strCells_mk (l : List UInt8) : Lib.strCells (mkB l) = Lib.byteCells l := by
  unfold Lib.strCells Lib.byteCells
  simp [mkB]
/-- the answer of a text of rows -/
def TextRes (o : Option (List UInt8)) (e : Ending) : Prop := e = .returned (.tuple #[.string (mkB (o.getD [])), .bool o.isSome])
end Go.Proofs.YtcebgmdcbdggeaaGreatDoor
