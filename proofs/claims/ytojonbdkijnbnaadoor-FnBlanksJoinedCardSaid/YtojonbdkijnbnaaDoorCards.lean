/-
  DERIVED. GIVEN WITH THE SEED: THE CARDS: each row of YtojonbdkijnbnaaDoorRows.lean that lists a variable, with what it lists TIED to the program's text (the seventh form; the later family's looks); each row that meets fmt, with fmt's text TOLD by the authors' own Lean function (tested against real Go, not proved from fmt's source: count such statements apart). THE CARD IS WHAT COUNTS. Prove the row's statement (the work); the ties are given (YtojonbdkijnbnaaDoorTie.lean); close each card by the builder's one call (the guide's Derived/Test/ToyasCard.lean, 'card_holds'). Laid BY PROGRAM, IN A SANDBOX (cutbox-door.mjs). By AI agents, Wed Nov 11 2026. No macro, syntax, notation, axiom, sorry.
-/
import Derived.Test.YtojonbdkijnbnaaDoorRows
import GoSem.ClaimSeven
namespace Go.Proofs.YtojonbdkijnbnaaDoor
namespace Rows

/-- THE TIED CARD OF 'laws.FnExactTextVal'. -/
def fnExactTextValCard : Claim7 := { stood := { row := fnExactTextValRow, standIns := [], harness := (true, "e35e767ebb313f26ebfa5f134f473f1ee2bc69883fc1f2dee1a031f27a1d33b0"), looks := false }, kinds := [], alts := [], laidByText := true, laidKinds := [.data, .pinned], laidTests := true, laidLooks := .later }
def FnExactTextValCardSaid : Prop := Claim7.holds Tryd.pinned (.plain (OpenSpec.ofChange fnExactTextValSpec)) fnExactTextValCard

/-- THE TIED CARD OF 'laws.FnExactValOk'. -/
def fnExactValOkCard : Claim7 := { stood := { row := fnExactValOkRow, standIns := [], harness := (true, "e35e767ebb313f26ebfa5f134f473f1ee2bc69883fc1f2dee1a031f27a1d33b0"), looks := false }, kinds := [], alts := [], laidByText := true, laidKinds := [.data, .pinned], laidTests := true, laidLooks := .later }
def FnExactValOkCardSaid : Prop := Claim7.holds Tryd.pinned (.plain (OpenSpec.ofChange fnExactValOkSpec)) fnExactValOkCard

/-- THE TIED CARD OF 'laws.FnExactPadded'. -/
def fnExactPaddedCard : Claim7 := { stood := { row := fnExactPaddedRow, standIns := [], harness := (true, "e35e767ebb313f26ebfa5f134f473f1ee2bc69883fc1f2dee1a031f27a1d33b0"), looks := false }, kinds := [], alts := [], laidByText := true, laidKinds := [.data, .pinned], laidTests := true, laidLooks := .later }
def FnExactPaddedCardSaid : Prop := Claim7.holds Tryd.pinned (.plain (OpenSpec.ofChange fnExactPaddedSpec)) fnExactPaddedCard

/-- THE TIED CARD OF 'laws.FnExactArrOk'. -/
def fnExactArrOkCard : Claim7 := { stood := { row := fnExactArrOkRow, standIns := [], harness := (true, "e35e767ebb313f26ebfa5f134f473f1ee2bc69883fc1f2dee1a031f27a1d33b0"), looks := false }, kinds := [], alts := [], laidByText := true, laidKinds := [.data, .pinned], laidTests := true, laidLooks := .later }
def FnExactArrOkCardSaid : Prop := Claim7.holds Tryd.pinned (.plain (OpenSpec.ofChange fnExactArrOkSpec)) fnExactArrOkCard

/-- THE TIED CARD OF 'laws.FnTextBack'. -/
def fnTextBackCard : Claim7 := { stood := { row := fnTextBackRow, standIns := [], harness := (true, "e35e767ebb313f26ebfa5f134f473f1ee2bc69883fc1f2dee1a031f27a1d33b0"), looks := false }, kinds := [], alts := [], laidByText := true, laidKinds := [.data, .pinned], laidTests := true, laidLooks := .later }
def FnTextBackCardSaid : Prop := Claim7.holds Tryd.pinned (.plain (OpenSpec.ofChange fnTextBackSpec)) fnTextBackCard

/-- THE TIED CARD OF 'laws.FnParts'. -/
def fnPartsCard : Claim7 := { stood := { row := fnPartsRow, standIns := [], harness := (true, "e35e767ebb313f26ebfa5f134f473f1ee2bc69883fc1f2dee1a031f27a1d33b0"), looks := false }, kinds := [], alts := [], laidByText := true, laidKinds := [.data, .pinned], laidTests := true, laidLooks := .later }
def FnPartsCardSaid : Prop := Claim7.holds Tryd.pinned (.plain (OpenSpec.ofChange fnPartsSpec)) fnPartsCard

/-- THE TIED CARD OF 'laws.FnFinds'. -/
def fnFindsCard : Claim7 := { stood := { row := fnFindsRow, standIns := [], harness := (true, "e35e767ebb313f26ebfa5f134f473f1ee2bc69883fc1f2dee1a031f27a1d33b0"), looks := false }, kinds := [], alts := [], laidByText := true, laidKinds := [.data, .pinned], laidTests := true, laidLooks := .later }
def FnFindsCardSaid : Prop := Claim7.holds Tryd.pinned (.plain (OpenSpec.ofChange fnFindsSpec)) fnFindsCard

/-- THE TIED CARD OF 'laws.FnBlanksJoined'. -/
def fnBlanksJoinedCard : Claim7 := { stood := { row := fnBlanksJoinedRow, standIns := [], harness := (true, "e35e767ebb313f26ebfa5f134f473f1ee2bc69883fc1f2dee1a031f27a1d33b0"), looks := false }, kinds := [], alts := [], laidByText := true, laidKinds := [.data, .pinned], laidTests := true, laidLooks := .later }
def FnBlanksJoinedCardSaid : Prop := Claim7.holds Tryd.pinned (.plain (OpenSpec.ofChange fnBlanksJoinedSpec)) fnBlanksJoinedCard

/-- THE SECOND FORM's CARD OF 'laws.FnExactTextVal'. -/
def fnExactTextValUptoCard : Claim7 := { stood := { row := fnExactTextValUptoRow, standIns := [], harness := (true, "e35e767ebb313f26ebfa5f134f473f1ee2bc69883fc1f2dee1a031f27a1d33b0"), looks := false }, kinds := [], alts := [], laidByText := true, laidKinds := [.data, .pinned], laidTests := true, laidLooks := .later }
def FnExactTextValUptoCardSaid : Prop := Claim7.holds Tryd.pinned (.plain (OpenSpec.upto fnExactTextValSpec)) fnExactTextValUptoCard

/-- THE SECOND FORM's CARD OF 'laws.FnExactValOk'. -/
def fnExactValOkUptoCard : Claim7 := { stood := { row := fnExactValOkUptoRow, standIns := [], harness := (true, "e35e767ebb313f26ebfa5f134f473f1ee2bc69883fc1f2dee1a031f27a1d33b0"), looks := false }, kinds := [], alts := [], laidByText := true, laidKinds := [.data, .pinned], laidTests := true, laidLooks := .later }
def FnExactValOkUptoCardSaid : Prop := Claim7.holds Tryd.pinned (.plain (OpenSpec.upto fnExactValOkSpec)) fnExactValOkUptoCard

/-- THE SECOND FORM's CARD OF 'laws.FnExactPadded'. -/
def fnExactPaddedUptoCard : Claim7 := { stood := { row := fnExactPaddedUptoRow, standIns := [], harness := (true, "e35e767ebb313f26ebfa5f134f473f1ee2bc69883fc1f2dee1a031f27a1d33b0"), looks := false }, kinds := [], alts := [], laidByText := true, laidKinds := [.data, .pinned], laidTests := true, laidLooks := .later }
def FnExactPaddedUptoCardSaid : Prop := Claim7.holds Tryd.pinned (.plain (OpenSpec.upto fnExactPaddedSpec)) fnExactPaddedUptoCard

/-- THE SECOND FORM's CARD OF 'laws.FnExactArrOk'. -/
def fnExactArrOkUptoCard : Claim7 := { stood := { row := fnExactArrOkUptoRow, standIns := [], harness := (true, "e35e767ebb313f26ebfa5f134f473f1ee2bc69883fc1f2dee1a031f27a1d33b0"), looks := false }, kinds := [], alts := [], laidByText := true, laidKinds := [.data, .pinned], laidTests := true, laidLooks := .later }
def FnExactArrOkUptoCardSaid : Prop := Claim7.holds Tryd.pinned (.plain (OpenSpec.upto fnExactArrOkSpec)) fnExactArrOkUptoCard

/-- THE SECOND FORM's CARD OF 'laws.FnTextBack'. -/
def fnTextBackUptoCard : Claim7 := { stood := { row := fnTextBackUptoRow, standIns := [], harness := (true, "e35e767ebb313f26ebfa5f134f473f1ee2bc69883fc1f2dee1a031f27a1d33b0"), looks := false }, kinds := [], alts := [], laidByText := true, laidKinds := [.data, .pinned], laidTests := true, laidLooks := .later }
def FnTextBackUptoCardSaid : Prop := Claim7.holds Tryd.pinned (.plain (OpenSpec.upto fnTextBackSpec)) fnTextBackUptoCard

/-- THE SECOND FORM's CARD OF 'laws.FnParts'. -/
def fnPartsUptoCard : Claim7 := { stood := { row := fnPartsUptoRow, standIns := [], harness := (true, "e35e767ebb313f26ebfa5f134f473f1ee2bc69883fc1f2dee1a031f27a1d33b0"), looks := false }, kinds := [], alts := [], laidByText := true, laidKinds := [.data, .pinned], laidTests := true, laidLooks := .later }
def FnPartsUptoCardSaid : Prop := Claim7.holds Tryd.pinned (.plain (OpenSpec.upto fnPartsSpec)) fnPartsUptoCard

/-- THE SECOND FORM's CARD OF 'laws.FnFinds'. -/
def fnFindsUptoCard : Claim7 := { stood := { row := fnFindsUptoRow, standIns := [], harness := (true, "e35e767ebb313f26ebfa5f134f473f1ee2bc69883fc1f2dee1a031f27a1d33b0"), looks := false }, kinds := [], alts := [], laidByText := true, laidKinds := [.data, .pinned], laidTests := true, laidLooks := .later }
def FnFindsUptoCardSaid : Prop := Claim7.holds Tryd.pinned (.plain (OpenSpec.upto fnFindsSpec)) fnFindsUptoCard

/-- THE SECOND FORM's CARD OF 'laws.FnBlanksJoined'. -/
def fnBlanksJoinedUptoCard : Claim7 := { stood := { row := fnBlanksJoinedUptoRow, standIns := [], harness := (true, "e35e767ebb313f26ebfa5f134f473f1ee2bc69883fc1f2dee1a031f27a1d33b0"), looks := false }, kinds := [], alts := [], laidByText := true, laidKinds := [.data, .pinned], laidTests := true, laidLooks := .later }
def FnBlanksJoinedUptoCardSaid : Prop := Claim7.holds Tryd.pinned (.plain (OpenSpec.upto fnBlanksJoinedSpec)) fnBlanksJoinedUptoCard
end Rows
end Go.Proofs.YtojonbdkijnbnaaDoor
