/-
  DERIVED. GIVEN WITH THE SEED: THE CARDS: each row of YtommldonooicjaaDoorRows.lean that lists a variable, with what it lists TIED to the program's text (the seventh form; the later family's looks); each row that meets fmt, with fmt's text TOLD by the authors' own Lean function (tested against real Go, not proved from fmt's source: count such statements apart). THE CARD IS WHAT COUNTS. Prove the row's statement (the work); the ties are given (YtommldonooicjaaDoorTie.lean); close each card by the builder's one call (the guide's Derived/Test/ToyasCard.lean, 'card_holds'). Laid BY PROGRAM, IN A SANDBOX (cutbox-door.mjs). By AI agents, Wed Nov 11 2026. No macro, syntax, notation, axiom, sorry.
-/
import Derived.Test.YtommldonooicjaaDoorRows
import GoSem.ClaimSeven
namespace Go.Proofs.YtommldonooicjaaDoor
namespace Rows

/-- THE TIED CARD OF 'laws.FnArrKept'. -/
def fnArrKeptCard : Claim7 := { stood := { row := fnArrKeptRow, standIns := [], harness := (true, "d546e18840d0d2ac9dc908f73d326afec32864fba295e7f881b301026308b799"), looks := false }, kinds := [], alts := [], laidByText := true, laidKinds := [.data, .pinned], laidTests := true, laidLooks := .later }
def FnArrKeptCardSaid : Prop := Claim7.holds Tryd.pinned (.plain (OpenSpec.ofChange fnArrKeptSpec)) fnArrKeptCard

/-- THE TIED CARD OF 'laws.FnCsvBack'. -/
def fnCsvBackCard : Claim7 := { stood := { row := fnCsvBackRow, standIns := [], harness := (true, "d546e18840d0d2ac9dc908f73d326afec32864fba295e7f881b301026308b799"), looks := false }, kinds := [], alts := [], laidByText := true, laidKinds := [.data, .pinned], laidTests := true, laidLooks := .later }
def FnCsvBackCardSaid : Prop := Claim7.holds Tryd.pinned (.plain (OpenSpec.ofChange fnCsvBackSpec)) fnCsvBackCard

/-- THE TIED CARD OF 'laws.FnCsvOnce'. -/
def fnCsvOnceCard : Claim7 := { stood := { row := fnCsvOnceRow, standIns := [], harness := (true, "d546e18840d0d2ac9dc908f73d326afec32864fba295e7f881b301026308b799"), looks := false }, kinds := [], alts := [], laidByText := true, laidKinds := [.data, .pinned], laidTests := true, laidLooks := .later }
def FnCsvOnceCardSaid : Prop := Claim7.holds Tryd.pinned (.plain (OpenSpec.ofChange fnCsvOnceSpec)) fnCsvOnceCard

/-- THE SECOND FORM's CARD OF 'laws.FnArrKept'. -/
def fnArrKeptUptoCard : Claim7 := { stood := { row := fnArrKeptUptoRow, standIns := [], harness := (true, "d546e18840d0d2ac9dc908f73d326afec32864fba295e7f881b301026308b799"), looks := false }, kinds := [], alts := [], laidByText := true, laidKinds := [.data, .pinned], laidTests := true, laidLooks := .later }
def FnArrKeptUptoCardSaid : Prop := Claim7.holds Tryd.pinned (.plain (OpenSpec.upto fnArrKeptSpec)) fnArrKeptUptoCard

/-- THE SECOND FORM's CARD OF 'laws.FnCsvBack'. -/
def fnCsvBackUptoCard : Claim7 := { stood := { row := fnCsvBackUptoRow, standIns := [], harness := (true, "d546e18840d0d2ac9dc908f73d326afec32864fba295e7f881b301026308b799"), looks := false }, kinds := [], alts := [], laidByText := true, laidKinds := [.data, .pinned], laidTests := true, laidLooks := .later }
def FnCsvBackUptoCardSaid : Prop := Claim7.holds Tryd.pinned (.plain (OpenSpec.upto fnCsvBackSpec)) fnCsvBackUptoCard

/-- THE SECOND FORM's CARD OF 'laws.FnCsvOnce'. -/
def fnCsvOnceUptoCard : Claim7 := { stood := { row := fnCsvOnceUptoRow, standIns := [], harness := (true, "d546e18840d0d2ac9dc908f73d326afec32864fba295e7f881b301026308b799"), looks := false }, kinds := [], alts := [], laidByText := true, laidKinds := [.data, .pinned], laidTests := true, laidLooks := .later }
def FnCsvOnceUptoCardSaid : Prop := Claim7.holds Tryd.pinned (.plain (OpenSpec.upto fnCsvOnceSpec)) fnCsvOnceUptoCard
end Rows
end Go.Proofs.YtommldonooicjaaDoor
