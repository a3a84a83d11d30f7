/-
  DERIVED. GIVEN WITH THE SEED: THE CARDS: each row of YtenfpfjpcpmhiaaDoorRows.lean that lists a variable, with what it lists TIED to the program's text (the seventh form; the later family's looks); each row that meets fmt, with fmt's text TOLD by the authors' own Lean function (tested against real Go, not proved from fmt's source: count such statements apart). THE CARD IS WHAT COUNTS. Prove the row's statement (the work); the ties are given (YtenfpfjpcpmhiaaDoorTie.lean); close each card by the builder's one call (the guide's Derived/Test/ToyasCard.lean, 'card_holds'). Laid BY PROGRAM, IN A SANDBOX (cutbox-door.mjs). By AI agents, Wed Nov 11 2026. No macro, syntax, notation, axiom, sorry.
-/
import Derived.Test.YtenfpfjpcpmhiaaDoorRows
import GoSem.ClaimSeven
namespace Go.Proofs.YtenfpfjpcpmhiaaDoor
namespace Rows

/-- THE TIED CARD OF 'laws.FnExactArrPut'. -/
def fnExactArrPutCard : Claim7 := { stood := { row := fnExactArrPutRow, standIns := [], harness := (true, "12980c17132e17b271909243f33bd3713f70dfd89f106c1f49f2177c8b61305d"), looks := false }, kinds := [], alts := [], laidByText := true, laidKinds := [.data, .pinned], laidTests := true, laidLooks := .later }
def FnExactArrPutCardSaid : Prop := Claim7.holds Tryd.pinned (.plain (OpenSpec.ofChange fnExactArrPutSpec)) fnExactArrPutCard

/-- THE TIED CARD OF 'laws.FnLinesBack'. -/
def fnLinesBackCard : Claim7 := { stood := { row := fnLinesBackRow, standIns := [], harness := (true, "12980c17132e17b271909243f33bd3713f70dfd89f106c1f49f2177c8b61305d"), looks := false }, kinds := [], alts := [], laidByText := true, laidKinds := [.data, .pinned], laidTests := true, laidLooks := .later }
def FnLinesBackCardSaid : Prop := Claim7.holds Tryd.pinned (.plain (OpenSpec.ofChange fnLinesBackSpec)) fnLinesBackCard

/-- THE TIED CARD OF 'laws.FnArrKept'. -/
def fnArrKeptCard : Claim7 := { stood := { row := fnArrKeptRow, standIns := [], harness := (true, "12980c17132e17b271909243f33bd3713f70dfd89f106c1f49f2177c8b61305d"), looks := false }, kinds := [], alts := [], laidByText := true, laidKinds := [.data, .pinned], laidTests := true, laidLooks := .later }
def FnArrKeptCardSaid : Prop := Claim7.holds Tryd.pinned (.plain (OpenSpec.ofChange fnArrKeptSpec)) fnArrKeptCard

/-- THE SECOND FORM's CARD OF 'laws.FnExactArrPut'. -/
def fnExactArrPutUptoCard : Claim7 := { stood := { row := fnExactArrPutUptoRow, standIns := [], harness := (true, "12980c17132e17b271909243f33bd3713f70dfd89f106c1f49f2177c8b61305d"), looks := false }, kinds := [], alts := [], laidByText := true, laidKinds := [.data, .pinned], laidTests := true, laidLooks := .later }
def FnExactArrPutUptoCardSaid : Prop := Claim7.holds Tryd.pinned (.plain (OpenSpec.upto fnExactArrPutSpec)) fnExactArrPutUptoCard

/-- THE SECOND FORM's CARD OF 'laws.FnLinesBack'. -/
def fnLinesBackUptoCard : Claim7 := { stood := { row := fnLinesBackUptoRow, standIns := [], harness := (true, "12980c17132e17b271909243f33bd3713f70dfd89f106c1f49f2177c8b61305d"), looks := false }, kinds := [], alts := [], laidByText := true, laidKinds := [.data, .pinned], laidTests := true, laidLooks := .later }
def FnLinesBackUptoCardSaid : Prop := Claim7.holds Tryd.pinned (.plain (OpenSpec.upto fnLinesBackSpec)) fnLinesBackUptoCard

/-- THE SECOND FORM's CARD OF 'laws.FnArrKept'. -/
def fnArrKeptUptoCard : Claim7 := { stood := { row := fnArrKeptUptoRow, standIns := [], harness := (true, "12980c17132e17b271909243f33bd3713f70dfd89f106c1f49f2177c8b61305d"), looks := false }, kinds := [], alts := [], laidByText := true, laidKinds := [.data, .pinned], laidTests := true, laidLooks := .later }
def FnArrKeptUptoCardSaid : Prop := Claim7.holds Tryd.pinned (.plain (OpenSpec.upto fnArrKeptSpec)) fnArrKeptUptoCard
end Rows
end Go.Proofs.YtenfpfjpcpmhiaaDoor
