/-
  DERIVED. GIVEN WITH THE SEED: THE CARDS: each row of YtcebgmdcbdggeaaGreatDoorRows.lean that lists a variable, with what it lists TIED to the program's text (the seventh form; the later family's looks); each row that meets fmt, with fmt's text TOLD by the authors' own Lean function (tested against real Go, not proved from fmt's source: count such statements apart). THE CARD IS WHAT COUNTS. Prove the row's statement (the work); the ties are given (YtcebgmdcbdggeaaGreatDoorTie.lean); close each card by the builder's one call (the guide's Derived/Test/ToyasCard.lean, 'card_holds'). Laid BY PROGRAM, IN A SANDBOX (cutbox-door.mjs). By AI agents, Wed Nov 11 2026. No macro, syntax, notation, axiom, sorry.
-/
import Derived.Test.YtcebgmdcbdggeaaGreatDoorRows
import GoSem.ClaimSeven
namespace Go.Proofs.YtcebgmdcbdggeaaGreatDoor
namespace Rows

/-- THE TIED CARD OF 'laws.FnTsvBack'. -/
def fnTsvBackCard : Claim7 := { stood := { row := fnTsvBackRow, standIns := [], harness := (true, "bb04af9fca6c227e6209c4d37c00b5238d4eccbc92f21f532d03d826787714a4"), looks := true }, kinds := [], alts := [], laidByText := true, laidKinds := [.data, .pinned], laidTests := true, laidLooks := .later }
def FnTsvBackCardSaid : Prop := Claim7.holds Tryz.pinned (.plain (OpenSpec.ofChange fnTsvBackSpec)) fnTsvBackCard

/-- THE SECOND FORM's CARD OF 'laws.FnTsvBack'. -/
def fnTsvBackUptoCard : Claim7 := { stood := { row := fnTsvBackUptoRow, standIns := [], harness := (true, "bb04af9fca6c227e6209c4d37c00b5238d4eccbc92f21f532d03d826787714a4"), looks := true }, kinds := [], alts := [], laidByText := true, laidKinds := [.data, .pinned], laidTests := true, laidLooks := .later }
def FnTsvBackUptoCardSaid : Prop := Claim7.holds Tryz.pinned (.plain (OpenSpec.upto fnTsvBackSpec)) fnTsvBackUptoCard
end Rows
end Go.Proofs.YtcebgmdcbdggeaaGreatDoor
