/-
  What is proved here: the cell reader in impl: a cell. No condition but that the reader lies in memory.
-/
import Derived.Test.YtcebgmdcbdggeaaGreatDoorCsvI2
namespace Go.Proofs.YtcebgmdcbdggeaaGreatDoor
open Go.RowKit
set_option linter.unusedVariables false
set_option linter.unusedSimpArgs false

theorem unqN_cons (c : UInt8) (r : List UInt8) : unqN (c :: r) = if (endR (c :: r)).isSome = true ∨ c = 44 then (0, 0) else if c = 34 then (0, 2) else if c = 13 then (0, 4) else ((unqN r).1 + 1, (unqN r).2) := by rw [unqN]
theorem endI_neg {l : List UInt8} : endI l < 0 ↔ endR l = none := by
  unfold endI
  cases endR l with
  | none => simp
  | some e => simp
theorem cellP_unq {l : List UInt8} (h : ¬ l.head? = some 34) : cellP l = if (unqN l).2 = 0 then (0, (unqN l).1, l.take (unqN l).1) else ((unqN l).2, (unqN l).1, []) := by unfold cellP; rw [if_neg h]
end Go.Proofs.YtcebgmdcbdggeaaGreatDoor
