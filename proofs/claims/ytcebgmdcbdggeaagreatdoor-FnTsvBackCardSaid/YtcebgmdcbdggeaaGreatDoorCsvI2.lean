/-
  What is proved here: the cell reader in impl: a cell with quotes. No condition but that the reader lies in memory.
-/
import Derived.Test.YtcebgmdcbdggeaaGreatDoorCsvI1
namespace Go.Proofs.YtcebgmdcbdggeaaGreatDoor
open Go.RowKit
set_option linter.unusedVariables false
set_option linter.unusedSimpArgs false

theorem ba_toL {a b : ByteArray} (h : a.data.toList = b.data.toList) : a = b := by
  cases a with | mk a => cases b with | mk b => cases a with | mk a => cases b with | mk b => simp at h; subst h; rfl
end Go.Proofs.YtcebgmdcbdggeaaGreatDoor
