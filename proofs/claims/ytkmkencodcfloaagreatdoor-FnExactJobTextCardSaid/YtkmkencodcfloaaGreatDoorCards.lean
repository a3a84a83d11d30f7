/-
  DERIVED. GIVEN WITH THE SEED: THE CARDS: each row of YtkmkencodcfloaaGreatDoorRows.lean that lists a variable, with what it lists TIED to the program's text (the seventh form; the later family's looks); each row that meets fmt, with fmt's text TOLD by the authors' own Lean function (tested against real Go, not proved from fmt's source: count such statements apart). THE CARD IS WHAT COUNTS. Prove the row's statement (the work); the ties are given (YtkmkencodcfloaaGreatDoorTie.lean); close each card by the builder's one call (the guide's Derived/Test/ToyasCard.lean, 'card_holds'). Laid BY PROGRAM, IN A SANDBOX (cutbox-door.mjs). By AI agents, Wed Nov 11 2026. No macro, syntax, notation, axiom, sorry.
-/
import Derived.Test.YtkmkencodcfloaaGreatDoorRows
import GoSem.ClaimSeven
namespace Go.Proofs.YtkmkencodcfloaaGreatDoor
namespace Rows

/-- THE TIED CARD OF 'laws.FnExactJobOk'. -/
def fnExactJobOkCard : Claim7 := { stood := { row := fnExactJobOkRow, standIns := [], harness := (true, "b3c9508e2f0f07a00a7005a11989760176361b2ef9824d3eaa7e633a8a3a7466"), looks := false }, kinds := [], alts := [], laidByText := true, laidKinds := [.data, .data, .data, .data, .pinned], laidTests := true, laidLooks := .later }
def FnExactJobOkCardSaid : Prop := Claim7.holds Tryz.pinned (.plain (OpenSpec.ofChange fnExactJobOkSpec)) fnExactJobOkCard

/-- THE TIED CARD OF 'laws.FnExactJobText'. -/
def fnExactJobTextCard : Claim7 := { stood := { row := fnExactJobTextRow, standIns := [], harness := (true, "b3c9508e2f0f07a00a7005a11989760176361b2ef9824d3eaa7e633a8a3a7466"), looks := false }, kinds := [], alts := [], laidByText := true, laidKinds := [.data, .data, .data, .data, .pinned], laidTests := true, laidLooks := .later }
def FnExactJobTextCardSaid : Prop := Claim7.holds Tryz.pinned (.plain (OpenSpec.ofChange fnExactJobTextSpec)) fnExactJobTextCard

/-- THE TIED CARD OF 'laws.FnExactRxSound'. -/
def fnExactRxSoundCard : Claim7 := { stood := { row := fnExactRxSoundRow, standIns := [], harness := (true, "b3c9508e2f0f07a00a7005a11989760176361b2ef9824d3eaa7e633a8a3a7466"), looks := false }, kinds := [], alts := [], laidByText := true, laidKinds := [.data, .data, .data, .data, .pinned], laidTests := true, laidLooks := .later }
def FnExactRxSoundCardSaid : Prop := Claim7.holds Tryz.pinned (.plain (OpenSpec.ofChange fnExactRxSoundSpec)) fnExactRxSoundCard

/-- THE SECOND FORM's CARD OF 'laws.FnExactJobOk'. -/
def fnExactJobOkUptoCard : Claim7 := { stood := { row := fnExactJobOkUptoRow, standIns := [], harness := (true, "b3c9508e2f0f07a00a7005a11989760176361b2ef9824d3eaa7e633a8a3a7466"), looks := false }, kinds := [], alts := [], laidByText := true, laidKinds := [.data, .data, .data, .data, .pinned], laidTests := true, laidLooks := .later }
def FnExactJobOkUptoCardSaid : Prop := Claim7.holds Tryz.pinned (.plain (OpenSpec.upto fnExactJobOkSpec)) fnExactJobOkUptoCard

/-- THE SECOND FORM's CARD OF 'laws.FnExactJobText'. -/
def fnExactJobTextUptoCard : Claim7 := { stood := { row := fnExactJobTextUptoRow, standIns := [], harness := (true, "b3c9508e2f0f07a00a7005a11989760176361b2ef9824d3eaa7e633a8a3a7466"), looks := false }, kinds := [], alts := [], laidByText := true, laidKinds := [.data, .data, .data, .data, .pinned], laidTests := true, laidLooks := .later }
def FnExactJobTextUptoCardSaid : Prop := Claim7.holds Tryz.pinned (.plain (OpenSpec.upto fnExactJobTextSpec)) fnExactJobTextUptoCard

/-- THE SECOND FORM's CARD OF 'laws.FnExactRxSound'. -/
def fnExactRxSoundUptoCard : Claim7 := { stood := { row := fnExactRxSoundUptoRow, standIns := [], harness := (true, "b3c9508e2f0f07a00a7005a11989760176361b2ef9824d3eaa7e633a8a3a7466"), looks := false }, kinds := [], alts := [], laidByText := true, laidKinds := [.data, .data, .data, .data, .pinned], laidTests := true, laidLooks := .later }
def FnExactRxSoundUptoCardSaid : Prop := Claim7.holds Tryz.pinned (.plain (OpenSpec.upto fnExactRxSoundSpec)) fnExactRxSoundUptoCard
end Rows
end Go.Proofs.YtkmkencodcfloaaGreatDoor
