/-
  What is proved here: the drawn texts (DrawRunes, DrawBlanks): some string of a bounded size is returned, and no old memory changes. Conditions: the code has at most 1048576 bytes.
-/
import Derived.Test.YtenfpfjpcpmhiaaDoorCurAny
namespace Go.Proofs.YtenfpfjpcpmhiaaDoor
open Go.RowKit
set_option linter.unusedVariables false
set_option linter.unusedSimpArgs false

theorem opens_45 : Opens Tryd.prog 45 (List UInt8) := opens_slice Tryd.underlying45 (by kernel_rfl) (opens_byte Tryd.underlying5)
theorem rdBytes {S : Nat → Prop} {w : World} {v : Value} {c : List UInt8} (h : Rd.rd S w [v] c) :
    ∃ a cap, v = .slice a c.length cap ∧ c.length ≤ cap ∧ cap ≤ 9223372036854775807 ∧ (0 < c.length → ∃ g off, a = some ⟨g, off, none⟩ ∧ S g ∧ ∀ i, i < c.length → ∃ x : Nat, x < 256 ∧ w.cell? ⟨g, off + i, none⟩ = some (.int .u8 (x : Int))) := by
  obtain ⟨a, cap, hv, h1, h2, h3⟩ := h
  refine ⟨a, cap, by simpa using hv, h1, h2, fun h => ?_⟩
  obtain ⟨g, off, ha, hb, hr⟩ := h3 h
  refine ⟨g, off, ha, hb, fun i hi => ?_⟩
  obtain ⟨cs, h4, rfl⟩ := hr i hi
  have := h4 0 Nat.one_pos
  simp only [Rd.n, Nat.mul_one, Nat.add_zero] at this
  exact ⟨(c[i]).toNat, (c[i]).toNat_lt, this⟩
/-- the world behind a draw: nothing old has changed -/
theorem drawn_below {w w1 w2 : World} (hb : Below w.heap.size w w1) (hg : w1.grownBy w2 (some w.heap.size)) : Below w.heap.size w w2 :=
  hb.grown hg hb.size (fun q hq => by cases hq; exact Nat.le_refl _)
end Go.Proofs.YtenfpfjpcpmhiaaDoor
