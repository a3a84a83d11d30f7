/-
  DERIVED. GIVEN WITH THE SEED: THE CARDS: each row of YtibbkddncjohkaaDoorRows.lean that lists a variable, with what it lists TIED to the program's text (the seventh form; the later family's looks); each row that meets fmt, with fmt's text TOLD by the authors' own Lean function (tested against real Go, not proved from fmt's source: count such statements apart). THE CARD IS WHAT COUNTS. Prove the row's statement (the work); the ties are given (YtibbkddncjohkaaDoorTie.lean); close each card by the builder's one call (the guide's Derived/Test/ToyasCard.lean, 'card_holds'). Laid BY PROGRAM, IN A SANDBOX (cutbox-door.mjs). By AI agents, Wed Nov 11 2026. No macro, syntax, notation, axiom, sorry.
-/
import Derived.Test.YtibbkddncjohkaaDoorRows
import GoSem.ClaimSeven
namespace Go.Proofs.YtibbkddncjohkaaDoor
namespace Rows

/-- THE TIED CARD OF 'laws.FnExactKeyText'. -/
def fnExactKeyTextCard : Claim7 := { stood := { row := fnExactKeyTextRow, standIns := [], harness := (true, "71f7ee1847c2596388da4b1c7c11f9a85b45d33dc42f3edd63f319bce72ec96a"), looks := true }, kinds := [], alts := [], laidByText := true, laidKinds := [.data, .pinned], laidTests := true, laidLooks := .later }
def FnExactKeyTextCardSaid : Prop := Claim7.holds Tryd.pinned (.plain (OpenSpec.ofChange fnExactKeyTextSpec)) fnExactKeyTextCard

/-- THE TIED CARD OF 'laws.FnSplitJoined'. -/
def fnSplitJoinedCard : Claim7 := { stood := { row := fnSplitJoinedRow, standIns := [], harness := (true, "71f7ee1847c2596388da4b1c7c11f9a85b45d33dc42f3edd63f319bce72ec96a"), looks := true }, kinds := [], alts := [], laidByText := true, laidKinds := [.data, .pinned], laidTests := true, laidLooks := .later }
def FnSplitJoinedCardSaid : Prop := Claim7.holds Tryd.pinned (.plain (OpenSpec.ofChange fnSplitJoinedSpec)) fnSplitJoinedCard

/-- THE SECOND FORM's CARD OF 'laws.FnExactKeyText'. -/
def fnExactKeyTextUptoCard : Claim7 := { stood := { row := fnExactKeyTextUptoRow, standIns := [], harness := (true, "71f7ee1847c2596388da4b1c7c11f9a85b45d33dc42f3edd63f319bce72ec96a"), looks := true }, kinds := [], alts := [], laidByText := true, laidKinds := [.data, .pinned], laidTests := true, laidLooks := .later }
def FnExactKeyTextUptoCardSaid : Prop := Claim7.holds Tryd.pinned (.plain (OpenSpec.upto fnExactKeyTextSpec)) fnExactKeyTextUptoCard

/-- THE SECOND FORM's CARD OF 'laws.FnSplitJoined'. -/
def fnSplitJoinedUptoCard : Claim7 := { stood := { row := fnSplitJoinedUptoRow, standIns := [], harness := (true, "71f7ee1847c2596388da4b1c7c11f9a85b45d33dc42f3edd63f319bce72ec96a"), looks := true }, kinds := [], alts := [], laidByText := true, laidKinds := [.data, .pinned], laidTests := true, laidLooks := .later }
def FnSplitJoinedUptoCardSaid : Prop := Claim7.holds Tryd.pinned (.plain (OpenSpec.upto fnSplitJoinedSpec)) fnSplitJoinedUptoCard
end Rows
end Go.Proofs.YtibbkddncjohkaaDoor
