/-
  DERIVED. GIVEN WITH THE SEED: THE CARDS: each row of YthfmhenphnllfaaGreatDoorRows.lean that lists a variable, with what it lists TIED to the program's text (the seventh form; the later family's looks); each row that meets fmt, with fmt's text TOLD by the authors' own Lean function (tested against real Go, not proved from fmt's source: count such statements apart). THE CARD IS WHAT COUNTS. Prove the row's statement (the work); the ties are given (YthfmhenphnllfaaGreatDoorTie.lean); close each card by the builder's one call (the guide's Derived/Test/ToyasCard.lean, 'card_holds'). Laid BY PROGRAM, IN A SANDBOX (cutbox-door.mjs). By AI agents, Wed Nov 11 2026. No macro, syntax, notation, axiom, sorry.
-/
import Derived.Test.YthfmhenphnllfaaGreatDoorRows
import GoSem.ClaimSeven
namespace Go.Proofs.YthfmhenphnllfaaGreatDoor
namespace Rows

/-- THE TIED CARD OF 'laws.FnExactValArith'. -/
def fnExactValArithCard : Claim7 := { stood := { row := fnExactValArithRow, standIns := [], harness := (true, "bc5cb60d0c66d062b2dc0281fd83473161e2f63a33c43f7928f7930b379ecf98"), looks := true }, kinds := [], alts := [], laidByText := true, laidKinds := [.data, .data, .data, .data, .sentinel, .sentinel, .pinned], laidTests := true, laidLooks := .later }
def FnExactValArithCardSaid : Prop := Claim7.holds Tryz.pinned (.plain (OpenSpec.ofChange fnExactValArithSpec)) fnExactValArithCard

/-- THE TIED CARD OF 'laws.FnExactArrOrder'. -/
def fnExactArrOrderCard : Claim7 := { stood := { row := fnExactArrOrderRow, standIns := [], harness := (true, "bc5cb60d0c66d062b2dc0281fd83473161e2f63a33c43f7928f7930b379ecf98"), looks := true }, kinds := [], alts := [], laidByText := true, laidKinds := [.data, .data, .data, .data, .sentinel, .sentinel, .pinned], laidTests := true, laidLooks := .later }
def FnExactArrOrderCardSaid : Prop := Claim7.holds Tryz.pinned (.plain (OpenSpec.ofChange fnExactArrOrderSpec)) fnExactArrOrderCard

/-- THE TIED CARD OF 'laws.FnTsvBack'. -/
def fnTsvBackCard : Claim7 := { stood := { row := fnTsvBackRow, standIns := [], harness := (true, "bc5cb60d0c66d062b2dc0281fd83473161e2f63a33c43f7928f7930b379ecf98"), looks := true }, kinds := [], alts := [], laidByText := true, laidKinds := [.data, .pinned], laidTests := true, laidLooks := .later }
def FnTsvBackCardSaid : Prop := Claim7.holds Tryz.pinned (.plain (OpenSpec.ofChange fnTsvBackSpec)) fnTsvBackCard

/-- THE SECOND FORM's CARD OF 'laws.FnExactValArith'. -/
def fnExactValArithUptoCard : Claim7 := { stood := { row := fnExactValArithUptoRow, standIns := [], harness := (true, "bc5cb60d0c66d062b2dc0281fd83473161e2f63a33c43f7928f7930b379ecf98"), looks := true }, kinds := [], alts := [], laidByText := true, laidKinds := [.data, .data, .data, .data, .sentinel, .sentinel, .pinned], laidTests := true, laidLooks := .later }
def FnExactValArithUptoCardSaid : Prop := Claim7.holds Tryz.pinned (.plain (OpenSpec.upto fnExactValArithSpec)) fnExactValArithUptoCard

/-- THE SECOND FORM's CARD OF 'laws.FnExactArrOrder'. -/
def fnExactArrOrderUptoCard : Claim7 := { stood := { row := fnExactArrOrderUptoRow, standIns := [], harness := (true, "bc5cb60d0c66d062b2dc0281fd83473161e2f63a33c43f7928f7930b379ecf98"), looks := true }, kinds := [], alts := [], laidByText := true, laidKinds := [.data, .data, .data, .data, .sentinel, .sentinel, .pinned], laidTests := true, laidLooks := .later }
def FnExactArrOrderUptoCardSaid : Prop := Claim7.holds Tryz.pinned (.plain (OpenSpec.upto fnExactArrOrderSpec)) fnExactArrOrderUptoCard

/-- THE SECOND FORM's CARD OF 'laws.FnTsvBack'. -/
def fnTsvBackUptoCard : Claim7 := { stood := { row := fnTsvBackUptoRow, standIns := [], harness := (true, "bc5cb60d0c66d062b2dc0281fd83473161e2f63a33c43f7928f7930b379ecf98"), looks := true }, kinds := [], alts := [], laidByText := true, laidKinds := [.data, .pinned], laidTests := true, laidLooks := .later }
def FnTsvBackUptoCardSaid : Prop := Claim7.holds Tryz.pinned (.plain (OpenSpec.upto fnTsvBackSpec)) fnTsvBackUptoCard
end Rows
end Go.Proofs.YthfmhenphnllfaaGreatDoor
