/-
  DERIVED. GIVEN WITH THE SEED: THE CARDS: each row of YtomcoilmpkpoeaaGreatDoorRows.lean that lists a variable, with what it lists TIED to the program's text (the seventh form; the later family's looks); each row that meets fmt, with fmt's text TOLD by the authors' own Lean function (tested against real Go, not proved from fmt's source: count such statements apart). THE CARD IS WHAT COUNTS. Prove the row's statement (the work); the ties are given (YtomcoilmpkpoeaaGreatDoorTie.lean); close each card by the builder's one call (the guide's Derived/Test/ToyasCard.lean, 'card_holds'). Laid BY PROGRAM, IN A SANDBOX (cutbox-door.mjs). By AI agents, Wed Nov 11 2026. No macro, syntax, notation, axiom, sorry.
-/
import Derived.Test.YtomcoilmpkpoeaaGreatDoorRows
import GoSem.ClaimSeven
namespace Go.Proofs.YtomcoilmpkpoeaaGreatDoor
namespace Rows

/-- THE TIED CARD OF 'laws.FnExactRxSound'. -/
def fnExactRxSoundCard : Claim7 := { stood := { row := fnExactRxSoundRow, standIns := [], harness := (true, "337befc20717c3226abdae517f655a90b7702d630bbb611c8bf6ab4e5a1f5933"), looks := true }, kinds := [], alts := [], laidByText := true, laidKinds := [.data, .data, .data, .data, .pinned], laidTests := true, laidLooks := .later }
def FnExactRxSoundCardSaid : Prop := Claim7.holds Tryz.pinned (.plain (OpenSpec.ofChange fnExactRxSoundSpec)) fnExactRxSoundCard

/-- THE TIED CARD OF 'laws.FnValNumber'. -/
def fnValNumberCard : Claim7 := { stood := { row := fnValNumberRow, standIns := [], harness := (true, "337befc20717c3226abdae517f655a90b7702d630bbb611c8bf6ab4e5a1f5933"), looks := true }, kinds := [], alts := [], laidByText := true, laidKinds := [.data, .data, .data, .data, .sentinel, .sentinel, .pinned], laidTests := true, laidLooks := .later }
def FnValNumberCardSaid : Prop := Claim7.holds Tryz.pinned (.plain (OpenSpec.ofChange fnValNumberSpec)) fnValNumberCard

/-- THE TIED CARD OF 'laws.FnFixed'. -/
def fnFixedCard : Claim7 := { stood := { row := fnFixedRow, standIns := [], harness := (true, "337befc20717c3226abdae517f655a90b7702d630bbb611c8bf6ab4e5a1f5933"), looks := true }, kinds := [], alts := [], laidByText := true, laidKinds := [.data, .data, .data, .data, .sentinel, .sentinel, .pinned], laidTests := true, laidLooks := .later }
def FnFixedCardSaid : Prop := Claim7.holds Tryz.pinned (.plain (OpenSpec.ofChange fnFixedSpec)) fnFixedCard

/-- THE SECOND FORM's CARD OF 'laws.FnExactRxSound'. -/
def fnExactRxSoundUptoCard : Claim7 := { stood := { row := fnExactRxSoundUptoRow, standIns := [], harness := (true, "337befc20717c3226abdae517f655a90b7702d630bbb611c8bf6ab4e5a1f5933"), looks := true }, kinds := [], alts := [], laidByText := true, laidKinds := [.data, .data, .data, .data, .pinned], laidTests := true, laidLooks := .later }
def FnExactRxSoundUptoCardSaid : Prop := Claim7.holds Tryz.pinned (.plain (OpenSpec.upto fnExactRxSoundSpec)) fnExactRxSoundUptoCard

/-- THE SECOND FORM's CARD OF 'laws.FnValNumber'. -/
def fnValNumberUptoCard : Claim7 := { stood := { row := fnValNumberUptoRow, standIns := [], harness := (true, "337befc20717c3226abdae517f655a90b7702d630bbb611c8bf6ab4e5a1f5933"), looks := true }, kinds := [], alts := [], laidByText := true, laidKinds := [.data, .data, .data, .data, .sentinel, .sentinel, .pinned], laidTests := true, laidLooks := .later }
def FnValNumberUptoCardSaid : Prop := Claim7.holds Tryz.pinned (.plain (OpenSpec.upto fnValNumberSpec)) fnValNumberUptoCard

/-- THE SECOND FORM's CARD OF 'laws.FnFixed'. -/
def fnFixedUptoCard : Claim7 := { stood := { row := fnFixedUptoRow, standIns := [], harness := (true, "337befc20717c3226abdae517f655a90b7702d630bbb611c8bf6ab4e5a1f5933"), looks := true }, kinds := [], alts := [], laidByText := true, laidKinds := [.data, .data, .data, .data, .sentinel, .sentinel, .pinned], laidTests := true, laidLooks := .later }
def FnFixedUptoCardSaid : Prop := Claim7.holds Tryz.pinned (.plain (OpenSpec.upto fnFixedSpec)) fnFixedUptoCard
end Rows
end Go.Proofs.YtomcoilmpkpoeaaGreatDoor
