/-
  DERIVED. GIVEN WITH THE SEED: THE CARDS: each row of YtjpkdgedglnchaaGreatDoorRows.lean that lists a variable, with what it lists TIED to the program's text (the seventh form; the later family's looks); each row that meets fmt, with fmt's text TOLD by the authors' own Lean function (tested against real Go, not proved from fmt's source: count such statements apart). THE CARD IS WHAT COUNTS. Prove the row's statement (the work); the ties are given (YtjpkdgedglnchaaGreatDoorTie.lean); close each card by the builder's one call (the guide's Derived/Test/ToyasCard.lean, 'card_holds'). Laid BY PROGRAM, IN A SANDBOX (cutbox-door.mjs). By AI agents, Wed Nov 11 2026. No macro, syntax, notation, axiom, sorry.
-/
import Derived.Test.YtjpkdgedglnchaaGreatDoorRows
import GoSem.ClaimSeven
namespace Go.Proofs.YtjpkdgedglnchaaGreatDoor
namespace Rows

/-- THE TIED CARD OF 'laws.FnExactValNum'. -/
def fnExactValNumCard : Claim7 := { stood := { row := fnExactValNumRow, standIns := [], harness := (true, "956e3104fb0140ea4323907e089660a54b8a8e8a4b2180da43126e0f497d8e66"), looks := true }, kinds := [], alts := [], laidByText := true, laidKinds := [.data, .data, .data, .data, .sentinel, .sentinel, .pinned], laidTests := true, laidLooks := .later }
def FnExactValNumCardSaid : Prop := Claim7.holds Tryz.pinned (.plain (OpenSpec.ofChange fnExactValNumSpec)) fnExactValNumCard

/-- THE TIED CARD OF 'laws.FnExactValTruth'. -/
def fnExactValTruthCard : Claim7 := { stood := { row := fnExactValTruthRow, standIns := [], harness := (true, "956e3104fb0140ea4323907e089660a54b8a8e8a4b2180da43126e0f497d8e66"), looks := true }, kinds := [], alts := [], laidByText := true, laidKinds := [.data, .data, .data, .data, .sentinel, .sentinel, .pinned], laidTests := true, laidLooks := .later }
def FnExactValTruthCardSaid : Prop := Claim7.holds Tryz.pinned (.plain (OpenSpec.ofChange fnExactValTruthSpec)) fnExactValTruthCard

/-- THE TIED CARD OF 'laws.FnExactValCmp'. -/
def fnExactValCmpCard : Claim7 := { stood := { row := fnExactValCmpRow, standIns := [], harness := (true, "956e3104fb0140ea4323907e089660a54b8a8e8a4b2180da43126e0f497d8e66"), looks := true }, kinds := [], alts := [], laidByText := true, laidKinds := [.data, .data, .data, .data, .sentinel, .sentinel, .pinned], laidTests := true, laidLooks := .later }
def FnExactValCmpCardSaid : Prop := Claim7.holds Tryz.pinned (.plain (OpenSpec.ofChange fnExactValCmpSpec)) fnExactValCmpCard

/-- THE SECOND FORM's CARD OF 'laws.FnExactValNum'. -/
def fnExactValNumUptoCard : Claim7 := { stood := { row := fnExactValNumUptoRow, standIns := [], harness := (true, "956e3104fb0140ea4323907e089660a54b8a8e8a4b2180da43126e0f497d8e66"), looks := true }, kinds := [], alts := [], laidByText := true, laidKinds := [.data, .data, .data, .data, .sentinel, .sentinel, .pinned], laidTests := true, laidLooks := .later }
def FnExactValNumUptoCardSaid : Prop := Claim7.holds Tryz.pinned (.plain (OpenSpec.upto fnExactValNumSpec)) fnExactValNumUptoCard

/-- THE SECOND FORM's CARD OF 'laws.FnExactValTruth'. -/
def fnExactValTruthUptoCard : Claim7 := { stood := { row := fnExactValTruthUptoRow, standIns := [], harness := (true, "956e3104fb0140ea4323907e089660a54b8a8e8a4b2180da43126e0f497d8e66"), looks := true }, kinds := [], alts := [], laidByText := true, laidKinds := [.data, .data, .data, .data, .sentinel, .sentinel, .pinned], laidTests := true, laidLooks := .later }
def FnExactValTruthUptoCardSaid : Prop := Claim7.holds Tryz.pinned (.plain (OpenSpec.upto fnExactValTruthSpec)) fnExactValTruthUptoCard

/-- THE SECOND FORM's CARD OF 'laws.FnExactValCmp'. -/
def fnExactValCmpUptoCard : Claim7 := { stood := { row := fnExactValCmpUptoRow, standIns := [], harness := (true, "956e3104fb0140ea4323907e089660a54b8a8e8a4b2180da43126e0f497d8e66"), looks := true }, kinds := [], alts := [], laidByText := true, laidKinds := [.data, .data, .data, .data, .sentinel, .sentinel, .pinned], laidTests := true, laidLooks := .later }
def FnExactValCmpUptoCardSaid : Prop := Claim7.holds Tryz.pinned (.plain (OpenSpec.upto fnExactValCmpSpec)) fnExactValCmpUptoCard
end Rows
end Go.Proofs.YtjpkdgedglnchaaGreatDoor
