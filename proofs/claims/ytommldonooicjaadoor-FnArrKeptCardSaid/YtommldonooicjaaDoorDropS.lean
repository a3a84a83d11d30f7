/-
  What is proved here: the reference's ArrDrop: what it returns. No condition but the size.
-/
import Derived.Test.YtommldonooicjaaDoorDropI
namespace Go.Proofs.YtommldonooicjaaDoor
open Go.RowKit
set_option linter.unusedVariables false
set_option linter.unusedSimpArgs false

/-- the first k elements but one -/
def skipK {α : Type} (l : List α) (at_ : Int) (k : Nat) : List α := if 0 ≤ at_ ∧ at_.toNat < k then dropAt (l.take k) at_.toNat else l.take k
theorem skipK_zero {α : Type} (l : List α) (a : Int) : skipK l a 0 = [] := by unfold skipK; rw [if_neg (by omega)]; rfl
theorem skipK_at {α : Type} (l : List α) {a : Int} {k : Nat} (h : a = k) : skipK l a (k + 1) = skipK l a k := by
  subst h
  unfold skipK
  rw [if_pos ⟨by omega, by simp⟩, if_neg (by simp)]
  unfold dropAt
  simp [List.take_take]
theorem skipK_next {α : Type} (l : List α) {a : Int} {k : Nat} (h : a ≠ k) (hk : k < l.length) : skipK l a (k + 1) = skipK l a k ++ [l[k]] := by
  unfold skipK
  by_cases h0 : 0 ≤ a ∧ a.toNat < k
  · rw [if_pos h0, if_pos ⟨h0.1, by omega⟩]
    unfold dropAt
    rw [List.take_take, List.take_take, Nat.min_eq_left (by omega), Nat.min_eq_left (by omega), List.append_assoc]
    congr 1
    rw [List.take_succ_eq_append_getElem hk, List.drop_append_of_le_length (by rw [List.length_take]; omega)]
  · rw [if_neg h0, if_neg (by omega), List.take_succ_eq_append_getElem hk]
theorem skipK_all {α : Type} (l : List α) {a : Int} (h : a < l.length) : skipK l a l.length = if a < 0 then l else dropAt l a.toNat := by
  unfold skipK
  rw [List.take_length]
  by_cases h0 : a < 0
  · rw [if_pos h0, if_neg (by omega)]
  · rw [if_neg h0, if_pos ⟨by omega, by omega⟩]
theorem skipK_len {α β : Type} (l : List α) (m : List β) (h : l.length = m.length) (a : Int) (k : Nat) : (skipK l a k).length = (skipK m a k).length := by
  unfold skipK dropAt
  split <;> simp [h]
theorem skipK_le {α : Type} (l : List α) (a : Int) (k : Nat) : (skipK l a k).length ≤ k := by
  unfold skipK dropAt
  split
  · rw [List.length_append, List.length_take, List.length_drop, List.length_take]; omega
  · rw [List.length_take]; omega
theorem strCells_append (xs ys : List ByteArray) : strCellsL (xs ++ ys) = strCellsL xs ++ strCellsL ys := by simp [strCellsL]
/-- one element of a slice of strings -/
theorem rdStrs_at {S : Nat → Prop} {w : World} {a : Option Addr} {n cap : Nat} {xs : List ByteArray} (h : Rd.rd S w [.slice a n cap] xs) {k : Nat} (hk : k < xs.length) :
    ∃ b off, a = some ⟨b, off, none⟩ ∧ S b ∧ w.cell? ⟨b, off + k, none⟩ = some (.string xs[k]) := by
  obtain ⟨b, off, rfl, hB, hc⟩ := strs_cells h (by omega)
  refine ⟨b, off, rfl, hB, ?_⟩
  have := hc k (.string xs[k]) (by simp [strCellsL, List.getElem?_eq_getElem hk])
  rwa [Addr.add_lit] at this

end Go.Proofs.YtommldonooicjaaDoor
