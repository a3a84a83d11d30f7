/-
  What is proved here: spec.l04Start, spec.l03Scan, impl.decEnd and what they call: how far the text of a number goes. No condition but sizes.
-/
import Derived.Test.YtommldonooicjaaDoorScan
import Derived.Deep.Cut
import Derived.Deep.CutRange
namespace Go.Proofs.YtommldonooicjaaDoor
open Go.RowKit
set_option linter.unusedVariables false
set_option linter.unusedSimpArgs false

theorem drop_get {s : ByteArray} {k : Nat} (h : k < s.size) : s.data.toList.drop k = s[k] :: s.data.toList.drop (k + 1) := by
  rw [← get_list s k h]
  exact List.drop_eq_getElem_cons (by rw [← Lib.size_eq]; exact h)
theorem drop_end {s : ByteArray} {k : Nat} (h : ¬ k < s.size) : s.data.toList.drop k = [] := List.drop_of_length_le (by rw [← Lib.size_eq]; omega)
/-- the byte at a place is of the kind -/
def atB (p : UInt8 → Bool) (s : ByteArray) (k : Nat) : Bool := decide (hd1 p (s.data.toList.drop k) = 1)
theorem atB_get {p : UInt8 → Bool} {s : ByteArray} {k : Nat} (h : k < s.size) {c : UInt8} (hc : s[k] = c) : atB p s k = p c := by
  unfold atB
  rw [drop_get h, hc]
  rw [hd1_cons]
  cases p c <;> rfl
theorem atB_end {p : UInt8 → Bool} {s : ByteArray} {k : Nat} (h : ¬ k < s.size) : atB p s k = false := by
  unfold atB
  rw [drop_end h]
  rfl
theorem atB_true {p : UInt8 → Bool} {s : ByteArray} {k : Nat} (h : atB p s k = true) : hd1 p (s.data.toList.drop k) = 1 ∧ ∃ hk : k < s.size, p s[k] = true := by
  refine ⟨of_decide_eq_true h, ?_⟩
  by_cases hk : k < s.size
  · exact ⟨hk, by rw [← atB_get (p := p) hk rfl]; exact h⟩
  · rw [atB_end hk] at h; cases h
theorem atB_false {p : UInt8 → Bool} {s : ByteArray} {k : Nat} (h : atB p s k = false) : hd1 p (s.data.toList.drop k) = 0 := by
  have h1 := of_decide_eq_false h
  have := (hd1_le p (s.data.toList.drop k)).1
  omega
theorem isBlkN_iff {c : Nat} : isBlkN c = true ↔ c = 32 ∨ c = 9 ∨ c = 10 ∨ c = 13 := by simp [isBlkN, or_assoc]
theorem isSg_iff {c : UInt8} : isSg c = true ↔ c.toNat = 43 ∨ c.toNat = 45 := by simp [isSg]
theorem isEx_iff {c : UInt8} : isEx c = true ↔ c.toNat = 101 ∨ c.toNat = 69 := by simp [isEx]
theorem isSg_no {c : UInt8} (h1 : ¬ c.toNat = 43) (h2 : ¬ c.toNat = 45) : isSg c = false := by
  rw [← Bool.not_eq_true, isSg_iff]; omega
theorem isEx_no {c : UInt8} (h1 : ¬ c.toNat = 101) (h2 : ¬ c.toNat = 69) : isEx c = false := by
  rw [← Bool.not_eq_true, isEx_iff]; omega
theorem isDig_no {c : UInt8} (h : ¬ (48 ≤ c.toNat ∧ c.toNat ≤ 57)) : isDig c = false := by
  rw [← Bool.not_eq_true, isDig_iff]; exact h
theorem expL_no {s : ByteArray} {k : Nat} (h : atB isEx s k = false) : expL (s.data.toList.drop k) = 0 := by
  by_cases hk : k < s.size
  · rw [drop_get hk]
    rw [atB_get hk rfl] at h
    rw [expL_cons, if_neg (by rw [h]; simp)]
  · rw [drop_end hk]; rfl
theorem expL_yes {s : ByteArray} {k : Nat} (h : atB isEx s k = true) :
    expL (s.data.toList.drop k) = if 0 < dgs (s.data.toList.drop (k + 1 + hd1 isSg (s.data.toList.drop (k + 1)))) then 1 + hd1 isSg (s.data.toList.drop (k + 1)) + dgs (s.data.toList.drop (k + 1 + hd1 isSg (s.data.toList.drop (k + 1)))) else 0 := by
  obtain ⟨_, hk, hc⟩ := atB_true h
  rw [drop_get hk]
  rw [expL_cons, List.drop_drop]
  simp only [hc, true_and]
end Go.Proofs.YtommldonooicjaaDoor
