/-
  What is proved here: Runes and Length on both sides; a row of the call's own as a slice. The condition 'Tabs' says that the library's tables for UTF-8 lie in the world.
-/
import Derived.Test.YtlfkfofeenakhaaDoorValOk
namespace Go.Proofs.YtlfkfofeenakhaaDoor
open Go.RowKit
set_option linter.unusedVariables false
set_option linter.unusedSimpArgs false

theorem own_slice {w : World} {base : Nat} {e : TypeId} {size : Nat} {v : Value} {n : Nat} {xs : List Value} (h : w.ownsRow base e size v n xs) : ∃ a c, v = .slice a n c := by
  rcases h.2 with ⟨rfl, rfl⟩ | ⟨g, cap, cur, rfl, _⟩
  · exact ⟨none, 0, rfl⟩
  · exact ⟨_, _, rfl⟩
/-- how many code points a text has; -1 of what is none -/
def lenOf (s : ByteArray) : Int := if okText s then ((runesN s.data.toList).length : Int) else -1
theorem lenOf_ok {s : ByteArray} (h : okText s = true) : lenOf s = (runesN s.data.toList).length := by unfold lenOf; rw [if_pos h]
theorem lenOf_no {s : ByteArray} (h : okText s = false) : lenOf s = -1 := by unfold lenOf; rw [h]; rfl
theorem ok_runes {s : ByteArray} (h : okText s = true) : runesAll s.data.toList = some (runesN s.data.toList) ∧ s.size ≤ 1000 ∧ (runesN s.data.toList).length ≤ s.size := by
  unfold okText textOk runes? at h
  unfold runesN runes?
  by_cases hl : s.data.toList.length ≤ 1000
  · rw [if_pos hl] at h ⊢
    obtain ⟨rs, hr⟩ := Option.isSome_iff_exists.1 h
    rw [hr]
    have := (runesAll_len _ _ _ rfl hr).1
    exact ⟨rfl, by rw [Lib.size_eq]; exact hl, by rw [Lib.size_eq]; exact this⟩
  · rw [if_neg hl] at h; cases h
theorem ok_size {s : ByteArray} (h : okText s = true) : s.size ≤ 1000 := (ok_runes h).2.1
theorem lenOf_zero {s : ByteArray} (h : okText s = true) : lenOf s = 0 ↔ s.size = 0 := by
  rw [lenOf_ok h]
  obtain ⟨h1, _, h3⟩ := ok_runes h
  constructor
  · intro hz
    by_cases h0 : s.size = 0
    · exact h0
    · have hne : s.data.toList ≠ [] := by
        intro h'
        rw [Lib.size_eq, h'] at h0
        exact h0 rfl
      exact absurd (List.eq_nil_of_length_eq_zero (by omega)) ((runesAll_len _ _ _ rfl h1).2.2 hne)
  · intro h0; omega

end Go.Proofs.YtlfkfofeenakhaaDoor
