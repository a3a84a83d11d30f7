/-
  What is proved here: within and l01Between: n stands from lo to hi. No condition.
-/
import Derived.Test.YtlfkfofeenakhaaDoorTypes
import Derived.Test.YtlfkfofeenakhaaDoorRows
import Derived.WalkKit
import Derived.WalkSpells
import Derived.WalkLawsBesides
namespace Go.Proofs.YtlfkfofeenakhaaDoor
open Go.RowKit

/-- n stands from lo to hi (a name of its own: the walk does not look into it) -/
def inB (lo n hi : Int) : Bool := decide (lo ≤ n ∧ n ≤ hi)
theorem inB_true {lo n hi : Int} (h : lo ≤ n ∧ n ≤ hi) : inB lo n hi = true := decide_eq_true h
theorem inB_false {lo n hi : Int} (h : ¬ (lo ≤ n ∧ n ≤ hi)) : inB lo n hi = false := decide_eq_false h
theorem within_any (n lo hi : Int) (w : World) :
    Calls Tryd.prog 127 #[.int .i64 n, .int .i64 lo, .int .i64 hi] w fun e w' => e = .returned (.bool (inB lo n hi)) ∧ w = w' := by
  by_cases h1 : lo ≤ n
  · by_cases h2 : n ≤ hi
    · go_enter Tryd.func127, Tryd.ntmps127
      go_wp2
      go_ret
      exact ⟨end_bool (by rw [inB_true ⟨h1, h2⟩]), rfl⟩
    · go_enter Tryd.func127, Tryd.ntmps127
      go_wp2
      go_ret
      exact ⟨end_bool (by rw [inB_false (by omega)]), rfl⟩
  · go_enter Tryd.func127, Tryd.ntmps127
    go_wp2
    go_ret
    exact ⟨end_bool (by rw [inB_false (by omega)]), rfl⟩

theorem between_any (n lo hi : Int) (w : World) :
    Calls Tryd.prog 133 #[.int .i64 n, .int .i64 lo, .int .i64 hi] w fun e w' => e = .returned (.bool (inB lo n hi)) ∧ w = w' := by
  by_cases h1 : lo ≤ n
  · by_cases h2 : n ≤ hi
    · go_enter Tryd.func133, Tryd.ntmps133
      go_wp2
      go_ret
      exact ⟨end_bool (by rw [inB_true ⟨h1, h2⟩]), rfl⟩
    · go_enter Tryd.func133, Tryd.ntmps133
      go_wp2
      go_ret
      exact ⟨end_bool (by rw [inB_false (by omega)]), rfl⟩
  · go_enter Tryd.func133, Tryd.ntmps133
    go_wp2
    go_ret
    exact ⟨end_bool (by rw [inB_false (by omega)]), rfl⟩

end Go.Proofs.YtlfkfofeenakhaaDoor
