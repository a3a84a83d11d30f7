/-
  What is proved here: the laws' size, copy and comparison of slices of strings and of ints. No condition.
-/
import Derived.Test.YtcebgmdcbdggeaaDoorTypes
import Derived.Test.YtcebgmdcbdggeaaDoorRows
import Derived.WalkKit
import Derived.WalkSpells
import Derived.WalkLawsBesides
import Derived.Deep.QuietTactic
import Derived.BigQuiet
import Derived.Lib.Strings
import Derived.Deep.OwnRows
namespace Go.Proofs.YtcebgmdcbdggeaaDoor
open Go.RowKit

theorem rdStrs {S : Nat → Prop} {w : World} {v : Value} {xs : List ByteArray} (h : Rd.rd S w [v] xs) :
    ∃ a cap, v = .slice a xs.length cap ∧ xs.length ≤ cap ∧ cap ≤ 9223372036854775807 ∧ (0 < xs.length → ∃ b off, a = some ⟨b, off, none⟩ ∧ S b ∧ ∀ i (hi : i < xs.length), w.cell? ⟨b, off + i, none⟩ = some (.string xs[i]) ∧ xs[i].size ≤ 9223372036854775807) := by
  obtain ⟨a, cap, hv, h1, h2, h3⟩ := h
  refine ⟨a, cap, by simpa using hv, h1, h2, fun h => ?_⟩
  obtain ⟨b, off, ha, hb, hr⟩ := h3 h
  refine ⟨b, off, ha, hb, fun i hi => ?_⟩
  obtain ⟨cs, h4, rfl, h5⟩ := hr i hi
  have := h4 0 Nat.one_pos
  simp only [Rd.n, Nat.mul_one, Nat.add_zero] at this
  exact ⟨this, h5⟩

theorem ba_toList_inj {a b : ByteArray} (h : a.toList = b.toList) : a = b := by
  rw [Lib.toList_data, Lib.toList_data] at h
  rw [← Lib.mk_data a, ← Lib.mk_data b, h]
theorem ba_ne {a b : ByteArray} (h : a ≠ b) : (a.toList == b.toList) = false := by
  simp only [beq_eq_false_iff_ne]
  exact fun e => h (ba_toList_inj e)
theorem sz_strs (xs : List ByteArray) : Sz.sz xs = xs.length + sumTo ByteArray.size xs xs.length := rfl
theorem sz_len {α : Type} [Sz α] (xs : List α) : xs.length ≤ Sz.sz xs := Nat.le_add_right _ _
theorem arr_of_list {a : Array Value} {l : List Value} (h : a.toList = l) : a = l.toArray := by
  rw [← h]

end Go.Proofs.YtcebgmdcbdggeaaDoor
