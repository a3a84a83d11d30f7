/-
  What is proved here: where a string stands in a slice of strings; slices.Index; NameAt on both sides. No condition.
-/
import Derived.Test.YtcebgmdcbdggeaaDoorStr
namespace Go.Proofs.YtcebgmdcbdggeaaDoor
open Go.RowKit

def nameAt (xs : List ByteArray) (s : ByteArray) : Int := match xs.findIdx? (fun x => decide (x = s)) with | some i => (i : Int) + 1 | none => 0
theorem nameAt_hit {xs : List ByteArray} {s : ByteArray} {k : Nat} (hk : k < xs.length) (h : ∀ i (hi : i < k), (xs[i]'(by omega)) ≠ s) (he : xs[k] = s) : nameAt xs s = (k : Int) + 1 := by
  have : xs.findIdx? (fun x => decide (x = s)) = some k := by
    rw [List.findIdx?_eq_some_iff_getElem]
    exact ⟨hk, by simp [he], fun j hj => by simpa using h j hj⟩
  simp only [nameAt, this]
theorem nameAt_miss {xs : List ByteArray} {s : ByteArray} (h : ∀ i (hi : i < xs.length), xs[i] ≠ s) : nameAt xs s = 0 := by
  have : xs.findIdx? (fun x => decide (x = s)) = none := by
    rw [List.findIdx?_eq_none_iff]
    intro x hx
    obtain ⟨i, hi, rfl⟩ := List.mem_iff_getElem.1 hx
    simpa using h i hi
  simp only [nameAt, this]

theorem nameAt_le (xs : List ByteArray) (s : ByteArray) : 0 ≤ nameAt xs s ∧ nameAt xs s ≤ xs.length := by
  unfold nameAt
  split
  · rename_i i hi
    have := (List.findIdx?_eq_some_iff_getElem.1 hi).1
    omega
  · omega

end Go.Proofs.YtcebgmdcbdggeaaDoor
