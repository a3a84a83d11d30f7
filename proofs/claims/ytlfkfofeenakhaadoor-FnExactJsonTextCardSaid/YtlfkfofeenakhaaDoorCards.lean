/-
  DERIVED. GIVEN WITH THE SEED: THE CARDS: each row of YtlfkfofeenakhaaDoorRows.lean that lists a variable, with what it lists TIED to the program's text (the seventh form; the later family's looks); each row that meets fmt, with fmt's text TOLD by the authors' own Lean function (tested against real Go, not proved from fmt's source: count such statements apart). THE CARD IS WHAT COUNTS. Prove the row's statement (the work); the ties are given (YtlfkfofeenakhaaDoorTie.lean); close each card by the builder's one call (the guide's Derived/Test/ToyasCard.lean, 'card_holds'). Laid BY PROGRAM, IN A SANDBOX (cutbox-door.mjs). By AI agents, Wed Nov 11 2026. No macro, syntax, notation, axiom, sorry.
-/
import Derived.Test.YtlfkfofeenakhaaDoorRows
import GoSem.ClaimSeven
namespace Go.Proofs.YtlfkfofeenakhaaDoor
namespace Rows

/-- THE TIED CARD OF 'laws.FnExactJsonRead'. -/
def fnExactJsonReadCard : Claim7 := { stood := { row := fnExactJsonReadRow, standIns := [], harness := (true, "2c44e0da010c2512a83bc24a9f4b3fa4a026420bdfa4820487e173feaaf85c49"), looks := false }, kinds := [], alts := [], laidByText := true, laidKinds := [.data, .pinned], laidTests := true, laidLooks := .later }
def FnExactJsonReadCardSaid : Prop := Claim7.holds Tryd.pinned (.plain (OpenSpec.ofChange fnExactJsonReadSpec)) fnExactJsonReadCard

/-- THE TIED CARD OF 'laws.FnExactRxRead'. -/
def fnExactRxReadCard : Claim7 := { stood := { row := fnExactRxReadRow, standIns := [], harness := (true, "2c44e0da010c2512a83bc24a9f4b3fa4a026420bdfa4820487e173feaaf85c49"), looks := false }, kinds := [], alts := [], laidByText := true, laidKinds := [.data, .pinned], laidTests := true, laidLooks := .later }
def FnExactRxReadCardSaid : Prop := Claim7.holds Tryd.pinned (.plain (OpenSpec.ofChange fnExactRxReadSpec)) fnExactRxReadCard

/-- THE TIED CARD OF 'laws.FnExactJsonText'. -/
def fnExactJsonTextCard : Claim7 := { stood := { row := fnExactJsonTextRow, standIns := [], harness := (true, "2c44e0da010c2512a83bc24a9f4b3fa4a026420bdfa4820487e173feaaf85c49"), looks := false }, kinds := [], alts := [], laidByText := true, laidKinds := [.data, .pinned], laidTests := true, laidLooks := .later }
def FnExactJsonTextCardSaid : Prop := Claim7.holds Tryd.pinned (.plain (OpenSpec.ofChange fnExactJsonTextSpec)) fnExactJsonTextCard

/-- THE TIED CARD OF 'laws.FnJsonBack'. -/
def fnJsonBackCard : Claim7 := { stood := { row := fnJsonBackRow, standIns := [], harness := (true, "2c44e0da010c2512a83bc24a9f4b3fa4a026420bdfa4820487e173feaaf85c49"), looks := false }, kinds := [], alts := [], laidByText := true, laidKinds := [.data, .pinned], laidTests := true, laidLooks := .later }
def FnJsonBackCardSaid : Prop := Claim7.holds Tryd.pinned (.plain (OpenSpec.ofChange fnJsonBackSpec)) fnJsonBackCard

/-- THE TIED CARD OF 'laws.FnExactJsonSound'. -/
def fnExactJsonSoundCard : Claim7 := { stood := { row := fnExactJsonSoundRow, standIns := [], harness := (true, "2c44e0da010c2512a83bc24a9f4b3fa4a026420bdfa4820487e173feaaf85c49"), looks := false }, kinds := [], alts := [], laidByText := true, laidKinds := [.data, .pinned], laidTests := true, laidLooks := .later }
def FnExactJsonSoundCardSaid : Prop := Claim7.holds Tryd.pinned (.plain (OpenSpec.ofChange fnExactJsonSoundSpec)) fnExactJsonSoundCard

/-- THE SECOND FORM's CARD OF 'laws.FnExactJsonRead'. -/
def fnExactJsonReadUptoCard : Claim7 := { stood := { row := fnExactJsonReadUptoRow, standIns := [], harness := (true, "2c44e0da010c2512a83bc24a9f4b3fa4a026420bdfa4820487e173feaaf85c49"), looks := false }, kinds := [], alts := [], laidByText := true, laidKinds := [.data, .pinned], laidTests := true, laidLooks := .later }
def FnExactJsonReadUptoCardSaid : Prop := Claim7.holds Tryd.pinned (.plain (OpenSpec.upto fnExactJsonReadSpec)) fnExactJsonReadUptoCard

/-- THE SECOND FORM's CARD OF 'laws.FnExactRxRead'. -/
def fnExactRxReadUptoCard : Claim7 := { stood := { row := fnExactRxReadUptoRow, standIns := [], harness := (true, "2c44e0da010c2512a83bc24a9f4b3fa4a026420bdfa4820487e173feaaf85c49"), looks := false }, kinds := [], alts := [], laidByText := true, laidKinds := [.data, .pinned], laidTests := true, laidLooks := .later }
def FnExactRxReadUptoCardSaid : Prop := Claim7.holds Tryd.pinned (.plain (OpenSpec.upto fnExactRxReadSpec)) fnExactRxReadUptoCard

/-- THE SECOND FORM's CARD OF 'laws.FnExactJsonText'. -/
def fnExactJsonTextUptoCard : Claim7 := { stood := { row := fnExactJsonTextUptoRow, standIns := [], harness := (true, "2c44e0da010c2512a83bc24a9f4b3fa4a026420bdfa4820487e173feaaf85c49"), looks := false }, kinds := [], alts := [], laidByText := true, laidKinds := [.data, .pinned], laidTests := true, laidLooks := .later }
def FnExactJsonTextUptoCardSaid : Prop := Claim7.holds Tryd.pinned (.plain (OpenSpec.upto fnExactJsonTextSpec)) fnExactJsonTextUptoCard

/-- THE SECOND FORM's CARD OF 'laws.FnJsonBack'. -/
def fnJsonBackUptoCard : Claim7 := { stood := { row := fnJsonBackUptoRow, standIns := [], harness := (true, "2c44e0da010c2512a83bc24a9f4b3fa4a026420bdfa4820487e173feaaf85c49"), looks := false }, kinds := [], alts := [], laidByText := true, laidKinds := [.data, .pinned], laidTests := true, laidLooks := .later }
def FnJsonBackUptoCardSaid : Prop := Claim7.holds Tryd.pinned (.plain (OpenSpec.upto fnJsonBackSpec)) fnJsonBackUptoCard

/-- THE SECOND FORM's CARD OF 'laws.FnExactJsonSound'. -/
def fnExactJsonSoundUptoCard : Claim7 := { stood := { row := fnExactJsonSoundUptoRow, standIns := [], harness := (true, "2c44e0da010c2512a83bc24a9f4b3fa4a026420bdfa4820487e173feaaf85c49"), looks := false }, kinds := [], alts := [], laidByText := true, laidKinds := [.data, .pinned], laidTests := true, laidLooks := .later }
def FnExactJsonSoundUptoCardSaid : Prop := Claim7.holds Tryd.pinned (.plain (OpenSpec.upto fnExactJsonSoundSpec)) fnExactJsonSoundUptoCard
end Rows
end Go.Proofs.YtlfkfofeenakhaaDoor
