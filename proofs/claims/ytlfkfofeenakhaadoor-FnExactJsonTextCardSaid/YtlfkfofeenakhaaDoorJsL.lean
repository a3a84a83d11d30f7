/-
  What is proved here: plain laws on lines of JSON: bytes, blanks, digits, numbers. No program in sight; no condition.
-/
import Derived.Test.YtlfkfofeenakhaaDoorText
namespace Go.Proofs.YtlfkfofeenakhaaDoor
open Go.RowKit
set_option linter.unusedVariables false
set_option linter.unusedSimpArgs false

/-- a byte at a place; 0 behind the end -/
def gB (L : List UInt8) (i : Nat) : Nat := (L.getD i 0).toNat
theorem gB_at {L : List UInt8} {i : Nat} (h : i < L.length) : gB L i = L[i].toNat := by unfold gB; rw [List.getD_eq_getElem?_getD, List.getElem?_eq_getElem h]; rfl
theorem gB_end {L : List UInt8} {i : Nat} (h : L.length ≤ i) : gB L i = 0 := by unfold gB; rw [List.getD_eq_getElem?_getD, List.getElem?_eq_none h]; rfl
theorem gB_le (L : List UInt8) (i : Nat) : gB L i ≤ 255 := by unfold gB; have := (L.getD i 0).toNat_lt; omega
theorem gB_lt {L : List UInt8} {i : Nat} (h : gB L i ≠ 0) : i < L.length := by
  rcases Nat.lt_or_ge i L.length with h1 | h1
  · exact h1
  · exact absurd (gB_end h1) h
/-- how far signs of a kind go -/
def runE (f : Nat → Bool) (L : List UInt8) (p : Nat) : Nat := p + ((L.drop p).takeWhile fun c => f c.toNat).length
theorem runE_step {f : Nat → Bool} {L : List UInt8} {p : Nat} (h : p < L.length) (hb : f (gB L p) = true) : runE f L p = runE f L (p + 1) := by
  unfold runE
  rw [List.drop_eq_getElem_cons h, List.takeWhile_cons_of_pos (by rw [gB_at h] at hb; exact hb), List.length_cons]
  omega
theorem runE_stop {f : Nat → Bool} {L : List UInt8} {p : Nat} (hb : f (gB L p) = false) : runE f L p = p := by
  unfold runE
  rcases Nat.lt_or_ge p L.length with h | h
  · rw [List.drop_eq_getElem_cons h, List.takeWhile_cons_of_neg (by rw [gB_at h] at hb; simpa using hb)]
    rfl
  · rw [List.drop_eq_nil_of_le h]
    rfl
theorem runE_le (f : Nat → Bool) (L : List UInt8) (p : Nat) : p ≤ runE f L p := Nat.le_add_right _ _
theorem runE_len {f : Nat → Bool} {L : List UInt8} {p : Nat} (h : p ≤ L.length) : runE f L p ≤ L.length := by
  unfold runE
  have h1 := (List.takeWhile_sublist (fun c : UInt8 => f c.toNat) (l := L.drop p)).length_le
  rw [List.length_drop] at h1
  omega
theorem runE_far {f : Nat → Bool} {L : List UInt8} {p : Nat} (h : L.length ≤ p) : runE f L p = p := by
  unfold runE
  rw [List.drop_eq_nil_of_le h]
  rfl
def blB (c : Nat) : Bool := c == 32 || c == 9 || c == 10 || c == 13
def dgB (c : Nat) : Bool := decide (48 ≤ c ∧ c ≤ 57)
def skB (L : List UInt8) (p : Nat) : Nat := runE blB L p
def dgE (L : List UInt8) (p : Nat) : Nat := runE dgB L p
theorem dgE_no {L : List UInt8} {p : Nat} : dgE L p = p ↔ dgB (gB L p) = false := by
  constructor
  · intro h
    cases hb : dgB (gB L p) with
    | false => rfl
    | true =>
      have hp : p < L.length := gB_lt (fun e => by rw [e] at hb; revert hb; decide)
      unfold dgE at h
      rw [runE_step hp hb] at h
      have := runE_le dgB L (p + 1)
      omega
  · exact fun h => runE_stop h
/-- the whole part of a number: was it there, and the place behind it or of the fault -/
def intP (L : List UInt8) (p : Nat) : Bool × Nat := if gB L p = 48 then (true, p + 1) else if dgE L p = p then (false, p) else (true, dgE L p)
def sgP (L : List UInt8) (p : Nat) : Nat := if gB L p = 45 then p + 1 else p
def frP (L : List UInt8) (p : Nat) : Bool × Nat := if gB L p = 46 then (if dgE L (p + 1) = p + 1 then (false, p + 1) else (true, dgE L (p + 1))) else (true, p)
def sg2 (L : List UInt8) (p : Nat) : Nat := if gB L p = 43 ∨ gB L p = 45 then p + 1 else p
def exP (L : List UInt8) (p : Nat) : Bool × Nat := if gB L p = 101 ∨ gB L p = 69 then (if dgE L (sg2 L (p + 1)) = sg2 L (p + 1) then (false, sg2 L (p + 1)) else (true, dgE L (sg2 L (p + 1)))) else (true, p)
def numJ (L : List UInt8) (p : Nat) : Bool × Nat :=
  if (intP L (sgP L p)).1 = false then intP L (sgP L p)
  else if (frP L (intP L (sgP L p)).2).1 = false then frP L (intP L (sgP L p)).2
  else exP L (frP L (intP L (sgP L p)).2).2
end Go.Proofs.YtlfkfofeenakhaaDoor
