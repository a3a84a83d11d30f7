/-
  What is proved here: within and l01Between: n stands from lo to hi. No condition.
-/
import Derived.Test.YtenfpfjpcpmhiaaTypes
import Derived.Test.YtenfpfjpcpmhiaaRows
import Derived.WalkKit
import Derived.WalkSpells
import Derived.WalkLawsBesides
namespace Go.Proofs.Ytenfpfjpcpmhiaa
open Go.RowKit

/-- n stands from lo to hi (a name of its own: the walk does not look into it) -/
def inB (lo n hi : Int) : Bool := decide (lo ≤ n ∧ n ≤ hi)
theorem inB_true {lo n hi : Int} (h : lo ≤ n ∧ n ≤ hi) : inB lo n hi = true := decide_eq_true h
theorem inB_false {lo n hi : Int} (h : ¬ (lo ≤ n ∧ n ≤ hi)) : inB lo n hi = false := decide_eq_false h


end Go.Proofs.Ytenfpfjpcpmhiaa
