/-
  DERIVED. GIVEN WITH THE SEED: THE CARDS: each row of YtkmkencodcfloaaDoorRows.lean that lists a variable, with what it lists TIED to the program's text (the seventh form; the later family's looks); each row that meets fmt, with fmt's text TOLD by the authors' own Lean function (tested against real Go, not proved from fmt's source: count such statements apart). THE CARD IS WHAT COUNTS. Prove the row's statement (the work); the ties are given (YtkmkencodcfloaaDoorTie.lean); close each card by the builder's one call (the guide's Derived/Test/ToyasCard.lean, 'card_holds'). Laid BY PROGRAM, IN A SANDBOX (cutbox-door.mjs). By AI agents, Wed Nov 11 2026. No macro, syntax, notation, axiom, sorry.
-/
import Derived.Test.YtkmkencodcfloaaDoorRows
import GoSem.ClaimSeven
namespace Go.Proofs.YtkmkencodcfloaaDoor
namespace Rows

/-- THE TIED CARD OF 'laws.FnExactConfOk'. -/
def fnExactConfOkCard : Claim7 := { stood := { row := fnExactConfOkRow, standIns := [], harness := (true, "6c88989cd8d11c6118965e2559d84c7aba4d3db6faf4ddb975e4287e6db9fff0"), looks := false }, kinds := [], alts := [], laidByText := true, laidKinds := [.data, .pinned], laidTests := true, laidLooks := .later }
def FnExactConfOkCardSaid : Prop := Claim7.holds Tryd.pinned (.plain (OpenSpec.ofChange fnExactConfOkSpec)) fnExactConfOkCard

/-- THE TIED CARD OF 'laws.FnExactWorldOk'. -/
def fnExactWorldOkCard : Claim7 := { stood := { row := fnExactWorldOkRow, standIns := [], harness := (true, "6c88989cd8d11c6118965e2559d84c7aba4d3db6faf4ddb975e4287e6db9fff0"), looks := false }, kinds := [], alts := [], laidByText := true, laidKinds := [.data, .pinned], laidTests := true, laidLooks := .later }
def FnExactWorldOkCardSaid : Prop := Claim7.holds Tryd.pinned (.plain (OpenSpec.ofChange fnExactWorldOkSpec)) fnExactWorldOkCard

/-- THE SECOND FORM's CARD OF 'laws.FnExactConfOk'. -/
def fnExactConfOkUptoCard : Claim7 := { stood := { row := fnExactConfOkUptoRow, standIns := [], harness := (true, "6c88989cd8d11c6118965e2559d84c7aba4d3db6faf4ddb975e4287e6db9fff0"), looks := false }, kinds := [], alts := [], laidByText := true, laidKinds := [.data, .pinned], laidTests := true, laidLooks := .later }
def FnExactConfOkUptoCardSaid : Prop := Claim7.holds Tryd.pinned (.plain (OpenSpec.upto fnExactConfOkSpec)) fnExactConfOkUptoCard

/-- THE SECOND FORM's CARD OF 'laws.FnExactWorldOk'. -/
def fnExactWorldOkUptoCard : Claim7 := { stood := { row := fnExactWorldOkUptoRow, standIns := [], harness := (true, "6c88989cd8d11c6118965e2559d84c7aba4d3db6faf4ddb975e4287e6db9fff0"), looks := false }, kinds := [], alts := [], laidByText := true, laidKinds := [.data, .pinned], laidTests := true, laidLooks := .later }
def FnExactWorldOkUptoCardSaid : Prop := Claim7.holds Tryd.pinned (.plain (OpenSpec.upto fnExactWorldOkSpec)) fnExactWorldOkUptoCard
end Rows
end Go.Proofs.YtkmkencodcfloaaDoor
