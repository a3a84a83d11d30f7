/-
  What is proved here: plain laws on strings of JSON. No program in sight; no condition.
-/
import Derived.Test.YtlfkfofeenakhaaDoorJsL2
namespace Go.Proofs.YtlfkfofeenakhaaDoor
open Go.RowKit
set_option linter.unusedVariables false
set_option linter.unusedSimpArgs false

/-- a string behind its first quote: was it right, the place behind it or of the fault, its text -/
def strG (L : List UInt8) : Nat → Nat → List UInt8 → Bool × Nat × List UInt8
  | 0, q, _ => (false, q, [])
  | f + 1, q, out =>
    if L.length ≤ q ∨ gB L q < 32 then (false, q, [])
    else if gB L q = 34 then (true, q + 1, out)
    else if gB L q = 92 then (if (escS L (q + 1) q).1 = false then (false, (escS L (q + 1) q).2.2, []) else strG L f (escS L (q + 1) q).2.2 (out ++ enc (escS L (q + 1) q).2.1))
    else strG L f (q + 1) (out ++ [L.getD q 0])
/-- a string from its first quote on -/
def strP (L : List UInt8) (p : Nat) : Bool × Nat × List UInt8 := strG L (L.length + 1) (p + 1) []
theorem enc_len (c : Nat) : (enc c).length ≤ 4 := by
  unfold enc
  repeat' split
  all_goals simp
theorem strG_in (L : List UInt8) : ∀ (f q : Nat) (out : List UInt8), q ≤ L.length → (strG L f q out).2.1 ≤ L.length ∧ ((strG L f q out).1 = true → q < (strG L f q out).2.1 ∧ (strG L f q out).2.2.length + 4 * q ≤ out.length + 4 * L.length)
  | 0, q, out, hq => ⟨hq, fun h => by cases h⟩
  | f + 1, q, out, hq => by
    rw [strG]
    by_cases h1 : L.length ≤ q ∨ gB L q < 32
    · rw [if_pos h1]; exact ⟨hq, fun h => by cases h⟩
    rw [if_neg h1]
    have hlt : q < L.length := by omega
    by_cases h2 : gB L q = 34
    · rw [if_pos h2]
      exact ⟨by show q + 1 ≤ _; omega, fun _ => ⟨by show q < q + 1; omega, by show out.length + 4 * q ≤ _; omega⟩⟩
    rw [if_neg h2]
    by_cases h3 : gB L q = 92
    · rw [if_pos h3]
      have he := escS_in L (p := q + 1) (a := q) (by omega) hq
      by_cases h4 : (escS L (q + 1) q).1 = false
      · rw [if_pos h4]; exact ⟨he.1, fun h => by cases h⟩
      · rw [if_neg h4]
        have he2 := (he.2 (by simpa using h4)).1
        have ih := strG_in L f (escS L (q + 1) q).2.2 (out ++ enc (escS L (q + 1) q).2.1) he.1
        refine ⟨ih.1, fun h => ?_⟩
        have ih2 := ih.2 h
        have hl := enc_len (escS L (q + 1) q).2.1
        rw [List.length_append] at ih2
        exact ⟨by omega, by omega⟩
    · rw [if_neg h3]
      have ih := strG_in L f (q + 1) (out ++ [L.getD q 0]) (by omega)
      refine ⟨ih.1, fun h => ?_⟩
      have ih2 := ih.2 h
      rw [List.length_append] at ih2
      have h1 : ([L.getD q 0] : List UInt8).length = 1 := rfl
      exact ⟨by omega, by omega⟩
theorem strP_in {L : List UInt8} {p : Nat} (hp : p < L.length) : (strP L p).2.1 ≤ L.length ∧ ((strP L p).1 = true → p + 1 < (strP L p).2.1 ∧ (strP L p).2.2.length ≤ 4 * L.length) := by
  have h := strG_in L (L.length + 1) (p + 1) [] (by omega)
  refine ⟨h.1, fun e => ⟨(h.2 e).1, ?_⟩⟩
  have := (h.2 e).2
  rw [List.length_nil] at this
  show (strG L (L.length + 1) (p + 1) []).2.2.length ≤ _
  omega
end Go.Proofs.YtlfkfofeenakhaaDoor
