/-
  What is proved here: strings.ContainsAny of any text, for two or more ASCII signs. No condition.
-/
import Derived.Test.YtcebgmdcbdggeaaGreatDoorIdxRune
namespace Go.Proofs.YtcebgmdcbdggeaaGreatDoor
open Go.RowKit
set_option linter.unusedVariables false
set_option linter.unusedSimpArgs false

theorem getx (s : ByteArray) (i : Nat) (h : i < s.size) : s.get! i = s[i]'h := get_at s i h
/-- the bytes of a rune of more than one byte are no ASCII signs -/
theorem decode_cont (s : ByteArray) (k : Nat) (h : k < s.size) (ha : 128 ≤ (s[k]'h).toNat) : k + (Utf8.decode s k).2 ≤ s.size ∧ ∀ j, j < (Utf8.decode s k).2 → 128 ≤ (s.get! (k + j)).toNat := by
  have hn : ¬ (s[k]'h).toNat < 128 := by omega
  have h0 : 128 ≤ (s.get! (k + 0)).toNat := by rw [Nat.add_zero, getx s k h]; exact ha
  have step1 : k + 1 ≤ s.size ∧ ∀ j, j < 1 → 128 ≤ (s.get! (k + j)).toNat := ⟨h, fun j hj => by
    obtain rfl : j = 0 := by omega
    exact h0⟩
  have h64 : ∀ x : Nat, x / 64 = 2 → 128 ≤ x := fun x hx => by omega
  simp only [Utf8.decode, get_at s k h, hn, if_false]
  split
  · rename_i hc
    simp only [Bool.and_eq_true, beq_iff_eq, decide_eq_true_eq] at hc
    split
    · refine ⟨by show k + 2 ≤ s.size; omega, fun j hj => ?_⟩
      have hj' : j < 2 := hj
      rcases (by omega : j = 0 ∨ j = 1) with rfl | rfl
      · exact h0
      · exact h64 _ hc.2.2
    · exact step1
  · split
    · rename_i hc
      simp only [Bool.and_eq_true, beq_iff_eq, decide_eq_true_eq] at hc
      split
      · refine ⟨by show k + 3 ≤ s.size; omega, fun j hj => ?_⟩
        have hj' : j < 3 := hj
        rcases (by omega : j = 0 ∨ j = 1 ∨ j = 2) with rfl | rfl | rfl
        · exact h0
        · exact h64 _ hc.1.2.2
        · exact h64 _ hc.2.2
      · exact step1
    · split
      · rename_i hc
        simp only [Bool.and_eq_true, beq_iff_eq, decide_eq_true_eq] at hc
        split
        · refine ⟨by show k + 4 ≤ s.size; omega, fun j hj => ?_⟩
          have hj' : j < 4 := hj
          rcases (by omega : j = 0 ∨ j = 1 ∨ j = 2 ∨ j = 3) with rfl | rfl | rfl | rfl
          · exact h0
          · exact h64 _ hc.1.1.2.2
          · exact h64 _ hc.1.2.2
          · exact h64 _ hc.2.2
        · exact step1
      · exact step1
def hasAny (s chars : ByteArray) : Bool := s.data.toList.any fun b => chars.data.toList.contains b
end Go.Proofs.YtcebgmdcbdggeaaGreatDoor
