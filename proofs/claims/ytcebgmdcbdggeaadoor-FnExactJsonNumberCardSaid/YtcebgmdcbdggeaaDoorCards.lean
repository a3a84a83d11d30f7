/-
  DERIVED. GIVEN WITH THE SEED: THE CARDS: each row of YtcebgmdcbdggeaaDoorRows.lean that lists a variable, with what it lists TIED to the program's text (the seventh form; the later family's looks); each row that meets fmt, with fmt's text TOLD by the authors' own Lean function (tested against real Go, not proved from fmt's source: count such statements apart). THE CARD IS WHAT COUNTS. Prove the row's statement (the work); the ties are given (YtcebgmdcbdggeaaDoorTie.lean); close each card by the builder's one call (the guide's Derived/Test/ToyasCard.lean, 'card_holds'). Laid BY PROGRAM, IN A SANDBOX (cutbox-door.mjs). By AI agents, Wed Nov 11 2026. No macro, syntax, notation, axiom, sorry.
-/
import Derived.Test.YtcebgmdcbdggeaaDoorRows
import GoSem.ClaimSeven
namespace Go.Proofs.YtcebgmdcbdggeaaDoor
namespace Rows

/-- THE TIED CARD OF 'laws.FnExactKeyText'. -/
def fnExactKeyTextCard : Claim7 := { stood := { row := fnExactKeyTextRow, standIns := [], harness := (true, "41c36c7f3f12f5f6434208d83cdbca795078c3baefd69e985e9a161b0e170c7b"), looks := true }, kinds := [], alts := [], laidByText := true, laidKinds := [.data, .pinned], laidTests := true, laidLooks := .later }
def FnExactKeyTextCardSaid : Prop := Claim7.holds Tryd.pinned (.plain (OpenSpec.ofChange fnExactKeyTextSpec)) fnExactKeyTextCard

/-- THE TIED CARD OF 'laws.FnExactJsonNumber'. -/
def fnExactJsonNumberCard : Claim7 := { stood := { row := fnExactJsonNumberRow, standIns := [], harness := (true, "41c36c7f3f12f5f6434208d83cdbca795078c3baefd69e985e9a161b0e170c7b"), looks := true }, kinds := [], alts := [], laidByText := true, laidKinds := [.data, .pinned], laidTests := true, laidLooks := .later }
def FnExactJsonNumberCardSaid : Prop := Claim7.holds Tryd.pinned (.plain (OpenSpec.ofChange fnExactJsonNumberSpec)) fnExactJsonNumberCard

/-- THE SECOND FORM's CARD OF 'laws.FnExactKeyText'. -/
def fnExactKeyTextUptoCard : Claim7 := { stood := { row := fnExactKeyTextUptoRow, standIns := [], harness := (true, "41c36c7f3f12f5f6434208d83cdbca795078c3baefd69e985e9a161b0e170c7b"), looks := true }, kinds := [], alts := [], laidByText := true, laidKinds := [.data, .pinned], laidTests := true, laidLooks := .later }
def FnExactKeyTextUptoCardSaid : Prop := Claim7.holds Tryd.pinned (.plain (OpenSpec.upto fnExactKeyTextSpec)) fnExactKeyTextUptoCard

/-- THE SECOND FORM's CARD OF 'laws.FnExactJsonNumber'. -/
def fnExactJsonNumberUptoCard : Claim7 := { stood := { row := fnExactJsonNumberUptoRow, standIns := [], harness := (true, "41c36c7f3f12f5f6434208d83cdbca795078c3baefd69e985e9a161b0e170c7b"), looks := true }, kinds := [], alts := [], laidByText := true, laidKinds := [.data, .pinned], laidTests := true, laidLooks := .later }
def FnExactJsonNumberUptoCardSaid : Prop := Claim7.holds Tryd.pinned (.plain (OpenSpec.upto fnExactJsonNumberSpec)) fnExactJsonNumberUptoCard
end Rows
end Go.Proofs.YtcebgmdcbdggeaaDoor
