/-
  DERIVED. GIVEN WITH THE SEED: THE CARDS: each row of YtflleebdfddkfaaDoorRows.lean that lists a variable, with what it lists TIED to the program's text (the seventh form; the later family's looks); each row that meets fmt, with fmt's text TOLD by the authors' own Lean function (tested against real Go, not proved from fmt's source: count such statements apart). THE CARD IS WHAT COUNTS. Prove the row's statement (the work); the ties are given (YtflleebdfddkfaaDoorTie.lean); close each card by the builder's one call (the guide's Derived/Test/ToyasCard.lean, 'card_holds'). Laid BY PROGRAM, IN A SANDBOX (cutbox-door.mjs). By AI agents, Wed Nov 11 2026. No macro, syntax, notation, axiom, sorry.
-/
import Derived.Test.YtflleebdfddkfaaDoorRows
import GoSem.ClaimSeven
namespace Go.Proofs.YtflleebdfddkfaaDoor
namespace Rows

/-- THE TIED CARD OF 'laws.FnExactInsText'. -/
def fnExactInsTextCard : Claim7 := { stood := { row := fnExactInsTextRow, standIns := [], harness := (true, "31b5f74160d27a56744199af31bb4d7362a4dcca9465230770ec1cc5dc727587"), looks := false }, kinds := [], alts := [], laidByText := true, laidKinds := [.data, .data, .data, .data, .pinned], laidTests := true, laidLooks := .later }
def FnExactInsTextCardSaid : Prop := Claim7.holds Tryd.pinned (.plain (OpenSpec.ofChange fnExactInsTextSpec)) fnExactInsTextCard

/-- THE TIED CARD OF 'laws.FnExactFixText'. -/
def fnExactFixTextCard : Claim7 := { stood := { row := fnExactFixTextRow, standIns := [], harness := (true, "31b5f74160d27a56744199af31bb4d7362a4dcca9465230770ec1cc5dc727587"), looks := false }, kinds := [], alts := [], laidByText := true, laidKinds := [.data, .pinned], laidTests := true, laidLooks := .later }
def FnExactFixTextCardSaid : Prop := Claim7.holds Tryd.pinned (.plain (OpenSpec.ofChange fnExactFixTextSpec)) fnExactFixTextCard

/-- THE TIED CARD OF 'laws.FnExactRunText'. -/
def fnExactRunTextCard : Claim7 := { stood := { row := fnExactRunTextRow, standIns := [], harness := (true, "31b5f74160d27a56744199af31bb4d7362a4dcca9465230770ec1cc5dc727587"), looks := false }, kinds := [], alts := [], laidByText := true, laidKinds := [.data, .data, .data, .data, .pinned], laidTests := true, laidLooks := .later }
def FnExactRunTextCardSaid : Prop := Claim7.holds Tryd.pinned (.plain (OpenSpec.ofChange fnExactRunTextSpec)) fnExactRunTextCard

/-- THE TIED CARD OF 'laws.FnExactValText'. -/
def fnExactValTextCard : Claim7 := { stood := { row := fnExactValTextRow, standIns := [], harness := (true, "31b5f74160d27a56744199af31bb4d7362a4dcca9465230770ec1cc5dc727587"), looks := false }, kinds := [], alts := [], laidByText := true, laidKinds := [.data, .data, .data, .data, .pinned], laidTests := true, laidLooks := .later }
def FnExactValTextCardSaid : Prop := Claim7.holds Tryd.pinned (.plain (OpenSpec.ofChange fnExactValTextSpec)) fnExactValTextCard

/-- THE TIED CARD OF 'laws.FnExactValCat'. -/
def fnExactValCatCard : Claim7 := { stood := { row := fnExactValCatRow, standIns := [], harness := (true, "31b5f74160d27a56744199af31bb4d7362a4dcca9465230770ec1cc5dc727587"), looks := false }, kinds := [], alts := [], laidByText := true, laidKinds := [.data, .data, .data, .data, .pinned], laidTests := true, laidLooks := .later }
def FnExactValCatCardSaid : Prop := Claim7.holds Tryd.pinned (.plain (OpenSpec.ofChange fnExactValCatSpec)) fnExactValCatCard

/-- THE TIED CARD OF 'laws.FnExactKeyOf'. -/
def fnExactKeyOfCard : Claim7 := { stood := { row := fnExactKeyOfRow, standIns := [], harness := (true, "31b5f74160d27a56744199af31bb4d7362a4dcca9465230770ec1cc5dc727587"), looks := false }, kinds := [], alts := [], laidByText := true, laidKinds := [.data, .data, .data, .data, .pinned], laidTests := true, laidLooks := .later }
def FnExactKeyOfCardSaid : Prop := Claim7.holds Tryd.pinned (.plain (OpenSpec.ofChange fnExactKeyOfSpec)) fnExactKeyOfCard

/-- THE SECOND FORM's CARD OF 'laws.FnExactInsText'. -/
def fnExactInsTextUptoCard : Claim7 := { stood := { row := fnExactInsTextUptoRow, standIns := [], harness := (true, "31b5f74160d27a56744199af31bb4d7362a4dcca9465230770ec1cc5dc727587"), looks := false }, kinds := [], alts := [], laidByText := true, laidKinds := [.data, .data, .data, .data, .pinned], laidTests := true, laidLooks := .later }
def FnExactInsTextUptoCardSaid : Prop := Claim7.holds Tryd.pinned (.plain (OpenSpec.upto fnExactInsTextSpec)) fnExactInsTextUptoCard

/-- THE SECOND FORM's CARD OF 'laws.FnExactFixText'. -/
def fnExactFixTextUptoCard : Claim7 := { stood := { row := fnExactFixTextUptoRow, standIns := [], harness := (true, "31b5f74160d27a56744199af31bb4d7362a4dcca9465230770ec1cc5dc727587"), looks := false }, kinds := [], alts := [], laidByText := true, laidKinds := [.data, .pinned], laidTests := true, laidLooks := .later }
def FnExactFixTextUptoCardSaid : Prop := Claim7.holds Tryd.pinned (.plain (OpenSpec.upto fnExactFixTextSpec)) fnExactFixTextUptoCard

/-- THE SECOND FORM's CARD OF 'laws.FnExactRunText'. -/
def fnExactRunTextUptoCard : Claim7 := { stood := { row := fnExactRunTextUptoRow, standIns := [], harness := (true, "31b5f74160d27a56744199af31bb4d7362a4dcca9465230770ec1cc5dc727587"), looks := false }, kinds := [], alts := [], laidByText := true, laidKinds := [.data, .data, .data, .data, .pinned], laidTests := true, laidLooks := .later }
def FnExactRunTextUptoCardSaid : Prop := Claim7.holds Tryd.pinned (.plain (OpenSpec.upto fnExactRunTextSpec)) fnExactRunTextUptoCard

/-- THE SECOND FORM's CARD OF 'laws.FnExactValText'. -/
def fnExactValTextUptoCard : Claim7 := { stood := { row := fnExactValTextUptoRow, standIns := [], harness := (true, "31b5f74160d27a56744199af31bb4d7362a4dcca9465230770ec1cc5dc727587"), looks := false }, kinds := [], alts := [], laidByText := true, laidKinds := [.data, .data, .data, .data, .pinned], laidTests := true, laidLooks := .later }
def FnExactValTextUptoCardSaid : Prop := Claim7.holds Tryd.pinned (.plain (OpenSpec.upto fnExactValTextSpec)) fnExactValTextUptoCard

/-- THE SECOND FORM's CARD OF 'laws.FnExactValCat'. -/
def fnExactValCatUptoCard : Claim7 := { stood := { row := fnExactValCatUptoRow, standIns := [], harness := (true, "31b5f74160d27a56744199af31bb4d7362a4dcca9465230770ec1cc5dc727587"), looks := false }, kinds := [], alts := [], laidByText := true, laidKinds := [.data, .data, .data, .data, .pinned], laidTests := true, laidLooks := .later }
def FnExactValCatUptoCardSaid : Prop := Claim7.holds Tryd.pinned (.plain (OpenSpec.upto fnExactValCatSpec)) fnExactValCatUptoCard

/-- THE SECOND FORM's CARD OF 'laws.FnExactKeyOf'. -/
def fnExactKeyOfUptoCard : Claim7 := { stood := { row := fnExactKeyOfUptoRow, standIns := [], harness := (true, "31b5f74160d27a56744199af31bb4d7362a4dcca9465230770ec1cc5dc727587"), looks := false }, kinds := [], alts := [], laidByText := true, laidKinds := [.data, .data, .data, .data, .pinned], laidTests := true, laidLooks := .later }
def FnExactKeyOfUptoCardSaid : Prop := Claim7.holds Tryd.pinned (.plain (OpenSpec.upto fnExactKeyOfSpec)) fnExactKeyOfUptoCard
end Rows
end Go.Proofs.YtflleebdfddkfaaDoor
