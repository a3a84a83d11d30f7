/-
  What is proved here: spec.FixText and impl.FixText return the same text. No condition that they use.
-/
import Derived.Test.YtomcoilmpkpoeaaGreatDoorVFixS
import Derived.Test.YtomcoilmpkpoeaaGreatDoorVFixI
namespace Go.Proofs.YtomcoilmpkpoeaaGreatDoor
open Go.RowKit
set_option linter.unusedVariables false
set_option linter.unusedSimpArgs false

theorem specFix {cs : Array Value} {d : Dec} (pl : Int) (w : World) (hrd : Rd.rd (Old w) w cs.toList d) (hp : -9223372036854775808 ≤ pl ∧ pl ≤ 9223372036854775807) :
    Calls Tryz.prog 23 #[.agg cs, .int .i64 pl] w fun e w' => e = .returned (.string (fixT d pl)) ∧ Below w.heap.size w w' := by
  obtain ⟨hcs, hs, he⟩ := rdDec hrd
  obtain rfl := arr_of_list hcs
  exact specFix0 d.neg d.dig d.exp pl w hs he hp
theorem implFixT {cs : Array Value} {d : Dec} (pl : Int) (w : World) (hrd : Rd.rd (Old w) w cs.toList d) (hp : -9223372036854775808 ≤ pl ∧ pl ≤ 9223372036854775807) (_ : Tabs w) :
    Calls Tryz.prog 22 #[.agg cs, .int .i64 pl] w fun e w' => e = .returned (.string (fixT d pl)) ∧ Below w.heap.size w w' := implFix pl w hrd hp
end Go.Proofs.YtomcoilmpkpoeaaGreatDoor
