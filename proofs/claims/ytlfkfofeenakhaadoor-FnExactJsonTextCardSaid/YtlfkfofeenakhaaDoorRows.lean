/-
  NARROWER THAN 'FOR EVERY INPUT', by the rows' own cells (each row's printed sentence says how): FnExactJsonRead: laid · FnExactRxRead: laid · FnExactJsonText: laid · FnJsonBack: laid · FnExactJsonSound: laid.
  DERIVED. THE GIVEN ROWS OF THIS SEAT. 5 by the template 'for every input the law returns true; each argument reads behind the call as it read before'; 0 by the template 'total and deterministic' (their statements: YtlfkfofeenakhaaDoorTotals.lean).
  GIVEN WITH THE SEED: the statements are not yours to turn. If you find one false, say at which input.
  Laid BY PROGRAM, IN A SANDBOX (cutbox-rows.mjs): the forced cells as the released guide's own fill.sh prints them over the translation 0e755f1f522e8c3a… (all of the seat's roots in one cut). By AI agents, Wed Nov 11 2026. No macro, syntax, notation, axiom, sorry.
-/
import Derived.Test.YtlfkfofeenakhaaDoorChecked
import GoSem.PinnedTables
import GoSem.Claim
import GoSem.ClaimJoined
import GoSem.ClaimMapViews
import Derived.JoinedTies
import Derived.KernelRfl
namespace Go.Proofs.YtlfkfofeenakhaaDoor
/- THE CELL 'sum', in the pinned program and in every row, IS THE sha256 OF THE DUMP (.gsa) THAT YtlfkfofeenakhaaDoorProg.lean LOADS. Nothing in Lean hashes anything: it is a label: what it is worth is what the hold of that sum in a sandbox is worth. -/
noncomputable def Tryd.pinned : Pinned := { name := "ytlfkfofeenakhaadoor", sum := "0e755f1f522e8c3aec53d3fece1f898ed3c3f1a77ebdbfe93434f87fd172dd33", checked := Tryd.checked }
namespace Rows
def none {H : Type} : Left H := { results := [], args := [] }

/- WHAT THE LISTED PACKAGE-LEVEL VARIABLES READ AS WHEN THE CALL BEGINS. Each datum BY PROGRAM (the guide's laid-datum.mjs) off the statement by which the dump's own 'gosem.cut.vars' lays the variable. In a bare row this is a premise. The card (YtlfkfofeenakhaaDoorCards.lean) ties it to the program's text. -/
def laid_unicode_utf8_acceptRanges {H : Type} : DataW H := .agg [.agg [.lit (.int .u8 128), .lit (.int .u8 191)], .agg [.lit (.int .u8 160), .lit (.int .u8 191)], .agg [.lit (.int .u8 128), .lit (.int .u8 159)], .agg [.lit (.int .u8 144), .lit (.int .u8 191)], .agg [.lit (.int .u8 128), .lit (.int .u8 143)], .agg [.lit (.int .u8 0), .lit (.int .u8 0)], .agg [.lit (.int .u8 0), .lit (.int .u8 0)], .agg [.lit (.int .u8 0), .lit (.int .u8 0)], .agg [.lit (.int .u8 0), .lit (.int .u8 0)], .agg [.lit (.int .u8 0), .lit (.int .u8 0)], .agg [.lit (.int .u8 0), .lit (.int .u8 0)], .agg [.lit (.int .u8 0), .lit (.int .u8 0)], .agg [.lit (.int .u8 0), .lit (.int .u8 0)], .agg [.lit (.int .u8 0), .lit (.int .u8 0)], .agg [.lit (.int .u8 0), .lit (.int .u8 0)], .agg [.lit (.int .u8 0), .lit (.int .u8 0)]]
/-- One of Go's own tables, pinned by name: the form's constant. -/
def laid_unicode_utf8_first : DataW Unit := Go.Pinned.utf8First

/-- 'laws.FnExactJsonRead': WHATEVER THE INPUT: true; the input reads as it did. -/
def fnExactJsonReadSpec : ChangeSpec := { name := "fnExactJsonRead", fn := fun _ => fun
  | [d] => { results := [.lit (.bool true)], args := [d] }
  | _ => none }
def fnExactJsonReadRow : OpenClaim := { program := "ytlfkfofeenakhaadoor", sum := "0e755f1f522e8c3aec53d3fece1f898ed3c3f1a77ebdbfe93434f87fd172dd33", func := "loop.example/g00417/laws.FnExactJsonRead", spec := "fnExactJsonRead", inPlace := ["internal/bytealg.IndexByteString", "internal/abi.NoEscape"], recurses := true, named := ["unicode/utf8.first", "unicode/utf8.acceptRanges"], apart := false, laid := [("unicode/utf8.acceptRanges", laid_unicode_utf8_acceptRanges), ("unicode/utf8.first", laid_unicode_utf8_first)] }
def FnExactJsonReadSaid : Prop := fnExactJsonReadRow.holds Tryd.pinned (OpenSpec.ofChange fnExactJsonReadSpec)

/-- ITS FALSE NEIGHBOUR: 'it returns false'. Refute it at one input. -/
def fnExactJsonReadWrong : ChangeSpec := { name := "fnExactJsonRead", fn := fun _ => fun
  | [d] => { results := [.lit (.bool false)], args := [d] }
  | _ => none }
def FnExactJsonReadWrongFalsely : Prop := fnExactJsonReadRow.holds Tryd.pinned (OpenSpec.ofChange fnExactJsonReadWrong)

/-- 'laws.FnExactRxRead': WHATEVER THE INPUT: true; the input reads as it did. -/
def fnExactRxReadSpec : ChangeSpec := { name := "fnExactRxRead", fn := fun _ => fun
  | [d] => { results := [.lit (.bool true)], args := [d] }
  | _ => none }
def fnExactRxReadRow : OpenClaim := { program := "ytlfkfofeenakhaadoor", sum := "0e755f1f522e8c3aec53d3fece1f898ed3c3f1a77ebdbfe93434f87fd172dd33", func := "loop.example/g00417/laws.FnExactRxRead", spec := "fnExactRxRead", inPlace := ["internal/bytealg.IndexByteString"], recurses := true, named := ["unicode/utf8.first", "unicode/utf8.acceptRanges"], apart := false, laid := [("unicode/utf8.acceptRanges", laid_unicode_utf8_acceptRanges), ("unicode/utf8.first", laid_unicode_utf8_first)] }
def FnExactRxReadSaid : Prop := fnExactRxReadRow.holds Tryd.pinned (OpenSpec.ofChange fnExactRxReadSpec)

/-- ITS FALSE NEIGHBOUR: 'it returns false'. Refute it at one input. -/
def fnExactRxReadWrong : ChangeSpec := { name := "fnExactRxRead", fn := fun _ => fun
  | [d] => { results := [.lit (.bool false)], args := [d] }
  | _ => none }
def FnExactRxReadWrongFalsely : Prop := fnExactRxReadRow.holds Tryd.pinned (OpenSpec.ofChange fnExactRxReadWrong)

/-- 'laws.FnExactJsonText': WHATEVER THE INPUT: true; the input reads as it did. -/
def fnExactJsonTextSpec : ChangeSpec := { name := "fnExactJsonText", fn := fun _ => fun
  | [d] => { results := [.lit (.bool true)], args := [d] }
  | _ => none }
def fnExactJsonTextRow : OpenClaim := { program := "ytlfkfofeenakhaadoor", sum := "0e755f1f522e8c3aec53d3fece1f898ed3c3f1a77ebdbfe93434f87fd172dd33", func := "loop.example/g00417/laws.FnExactJsonText", spec := "fnExactJsonText", inPlace := ["internal/bytealg.IndexByteString", "internal/abi.NoEscape", "internal/bytealg.MakeNoZero"], recurses := true, named := ["unicode/utf8.first", "unicode/utf8.acceptRanges"], apart := false, laid := [("unicode/utf8.acceptRanges", laid_unicode_utf8_acceptRanges), ("unicode/utf8.first", laid_unicode_utf8_first)] }
def FnExactJsonTextSaid : Prop := fnExactJsonTextRow.holds Tryd.pinned (OpenSpec.ofChange fnExactJsonTextSpec)

/-- ITS FALSE NEIGHBOUR: 'it returns false'. Refute it at one input. -/
def fnExactJsonTextWrong : ChangeSpec := { name := "fnExactJsonText", fn := fun _ => fun
  | [d] => { results := [.lit (.bool false)], args := [d] }
  | _ => none }
def FnExactJsonTextWrongFalsely : Prop := fnExactJsonTextRow.holds Tryd.pinned (OpenSpec.ofChange fnExactJsonTextWrong)

/-- 'laws.FnJsonBack': WHATEVER THE INPUT: true; the input reads as it did. -/
def fnJsonBackSpec : ChangeSpec := { name := "fnJsonBack", fn := fun _ => fun
  | [d] => { results := [.lit (.bool true)], args := [d] }
  | _ => none }
def fnJsonBackRow : OpenClaim := { program := "ytlfkfofeenakhaadoor", sum := "0e755f1f522e8c3aec53d3fece1f898ed3c3f1a77ebdbfe93434f87fd172dd33", func := "loop.example/g00417/laws.FnJsonBack", spec := "fnJsonBack", inPlace := ["internal/bytealg.IndexByteString", "internal/abi.NoEscape", "internal/bytealg.MakeNoZero"], unfollowed := true, recurses := true, named := ["unicode/utf8.first", "unicode/utf8.acceptRanges"], apart := false, laid := [("unicode/utf8.acceptRanges", laid_unicode_utf8_acceptRanges), ("unicode/utf8.first", laid_unicode_utf8_first)] }
def FnJsonBackSaid : Prop := fnJsonBackRow.holds Tryd.pinned (OpenSpec.ofChange fnJsonBackSpec)

/-- ITS FALSE NEIGHBOUR: 'it returns false'. Refute it at one input. -/
def fnJsonBackWrong : ChangeSpec := { name := "fnJsonBack", fn := fun _ => fun
  | [d] => { results := [.lit (.bool false)], args := [d] }
  | _ => none }
def FnJsonBackWrongFalsely : Prop := fnJsonBackRow.holds Tryd.pinned (OpenSpec.ofChange fnJsonBackWrong)

/-- 'laws.FnExactJsonSound': WHATEVER THE INPUT: true; the input reads as it did. -/
def fnExactJsonSoundSpec : ChangeSpec := { name := "fnExactJsonSound", fn := fun _ => fun
  | [d] => { results := [.lit (.bool true)], args := [d] }
  | _ => none }
def fnExactJsonSoundRow : OpenClaim := { program := "ytlfkfofeenakhaadoor", sum := "0e755f1f522e8c3aec53d3fece1f898ed3c3f1a77ebdbfe93434f87fd172dd33", func := "loop.example/g00417/laws.FnExactJsonSound", spec := "fnExactJsonSound", inPlace := ["internal/bytealg.IndexByteString", "internal/abi.NoEscape", "internal/bytealg.MakeNoZero"], unfollowed := true, recurses := true, named := ["unicode/utf8.first", "unicode/utf8.acceptRanges"], apart := false, laid := [("unicode/utf8.acceptRanges", laid_unicode_utf8_acceptRanges), ("unicode/utf8.first", laid_unicode_utf8_first)] }
def FnExactJsonSoundSaid : Prop := fnExactJsonSoundRow.holds Tryd.pinned (OpenSpec.ofChange fnExactJsonSoundSpec)

/-- ITS FALSE NEIGHBOUR: 'it returns false'. Refute it at one input. -/
def fnExactJsonSoundWrong : ChangeSpec := { name := "fnExactJsonSound", fn := fun _ => fun
  | [d] => { results := [.lit (.bool false)], args := [d] }
  | _ => none }
def FnExactJsonSoundWrongFalsely : Prop := fnExactJsonSoundRow.holds Tryd.pinned (OpenSpec.ofChange fnExactJsonSoundWrong)

/- THE SECOND FORM. 'bulk': how many values and letters a reading holds, each counted each time it is reached (what is shared counts as often as it is met; a slice's spare places count too). A statement '..UptoSaid' is the law's where the arguments, and the package variables that the reading takes, are together of bulk at most 1048576: NARROWER than '..Said'. Prove '..Said' where nothing that the law and all that it calls make is longer than what came in: it says more and counts as full. Else prove '..UptoSaid'. A law counts once. -/
mutual
def uptoBulk {H : Type} : DataW H → Nat
  | .lit (.string bytes) => bytes.length + 1
  | .lit _ => 1
  | .nil => 1
  | .ptr d => uptoBulk d + 1
  | .slice elems spare => uptoBulkAll elems + uptoBulkAll spare + 1
  | .agg parts => uptoBulkAll parts + 1
  | .iface _ d => uptoBulk d + 1
  | .map entries => uptoBulkEntries entries + 1
  | .held _ => 1
def uptoBulkAll {H : Type} : List (DataW H) → Nat
  | [] => 0
  | d :: r => uptoBulk d + uptoBulkAll r
def uptoBulkEntries {H : Type} : List (Lit × DataW H) → Nat
  | [] => 0
  | x :: r => uptoBulkEntry x + uptoBulkEntries r
def uptoBulkEntry {H : Type} : Lit × DataW H → Nat
  | (.string bytes, d) => bytes.length + uptoBulk d + 1
  | (_, d) => uptoBulk d + 1
 end
def uptoSmall : (H : Type) → List (DataW H) → Bool := fun _ ds => decide (uptoBulkAll ds ≤ 1048576)
def OpenSpec.upto (s : _root_.Go.ChangeSpec) : _root_.Go.OpenSpec := { _root_.Go.OpenSpec.ofChange s with cond := some uptoSmall }

/-- 'laws.FnExactJsonRead', WHERE WHAT IT READS IS OF BULK AT MOST 1048576: true; the input reads as it did. -/
def fnExactJsonReadUptoRow : OpenClaim := { program := "ytlfkfofeenakhaadoor", sum := "0e755f1f522e8c3aec53d3fece1f898ed3c3f1a77ebdbfe93434f87fd172dd33", func := "loop.example/g00417/laws.FnExactJsonRead", spec := "fnExactJsonRead", inPlace := ["internal/bytealg.IndexByteString", "internal/abi.NoEscape"], recurses := true, named := ["unicode/utf8.first", "unicode/utf8.acceptRanges"], apart := false, laid := [("unicode/utf8.acceptRanges", laid_unicode_utf8_acceptRanges), ("unicode/utf8.first", laid_unicode_utf8_first)], narrowed := true }
def FnExactJsonReadUptoSaid : Prop := fnExactJsonReadUptoRow.holds Tryd.pinned (OpenSpec.upto fnExactJsonReadSpec)

/-- 'laws.FnExactRxRead', WHERE WHAT IT READS IS OF BULK AT MOST 1048576: true; the input reads as it did. -/
def fnExactRxReadUptoRow : OpenClaim := { program := "ytlfkfofeenakhaadoor", sum := "0e755f1f522e8c3aec53d3fece1f898ed3c3f1a77ebdbfe93434f87fd172dd33", func := "loop.example/g00417/laws.FnExactRxRead", spec := "fnExactRxRead", inPlace := ["internal/bytealg.IndexByteString"], recurses := true, named := ["unicode/utf8.first", "unicode/utf8.acceptRanges"], apart := false, laid := [("unicode/utf8.acceptRanges", laid_unicode_utf8_acceptRanges), ("unicode/utf8.first", laid_unicode_utf8_first)], narrowed := true }
def FnExactRxReadUptoSaid : Prop := fnExactRxReadUptoRow.holds Tryd.pinned (OpenSpec.upto fnExactRxReadSpec)

/-- 'laws.FnExactJsonText', WHERE WHAT IT READS IS OF BULK AT MOST 1048576: true; the input reads as it did. -/
def fnExactJsonTextUptoRow : OpenClaim := { program := "ytlfkfofeenakhaadoor", sum := "0e755f1f522e8c3aec53d3fece1f898ed3c3f1a77ebdbfe93434f87fd172dd33", func := "loop.example/g00417/laws.FnExactJsonText", spec := "fnExactJsonText", inPlace := ["internal/bytealg.IndexByteString", "internal/abi.NoEscape", "internal/bytealg.MakeNoZero"], recurses := true, named := ["unicode/utf8.first", "unicode/utf8.acceptRanges"], apart := false, laid := [("unicode/utf8.acceptRanges", laid_unicode_utf8_acceptRanges), ("unicode/utf8.first", laid_unicode_utf8_first)], narrowed := true }
def FnExactJsonTextUptoSaid : Prop := fnExactJsonTextUptoRow.holds Tryd.pinned (OpenSpec.upto fnExactJsonTextSpec)

/-- 'laws.FnJsonBack', WHERE WHAT IT READS IS OF BULK AT MOST 1048576: true; the input reads as it did. -/
def fnJsonBackUptoRow : OpenClaim := { program := "ytlfkfofeenakhaadoor", sum := "0e755f1f522e8c3aec53d3fece1f898ed3c3f1a77ebdbfe93434f87fd172dd33", func := "loop.example/g00417/laws.FnJsonBack", spec := "fnJsonBack", inPlace := ["internal/bytealg.IndexByteString", "internal/abi.NoEscape", "internal/bytealg.MakeNoZero"], unfollowed := true, recurses := true, named := ["unicode/utf8.first", "unicode/utf8.acceptRanges"], apart := false, laid := [("unicode/utf8.acceptRanges", laid_unicode_utf8_acceptRanges), ("unicode/utf8.first", laid_unicode_utf8_first)], narrowed := true }
def FnJsonBackUptoSaid : Prop := fnJsonBackUptoRow.holds Tryd.pinned (OpenSpec.upto fnJsonBackSpec)

/-- 'laws.FnExactJsonSound', WHERE WHAT IT READS IS OF BULK AT MOST 1048576: true; the input reads as it did. -/
def fnExactJsonSoundUptoRow : OpenClaim := { program := "ytlfkfofeenakhaadoor", sum := "0e755f1f522e8c3aec53d3fece1f898ed3c3f1a77ebdbfe93434f87fd172dd33", func := "loop.example/g00417/laws.FnExactJsonSound", spec := "fnExactJsonSound", inPlace := ["internal/bytealg.IndexByteString", "internal/abi.NoEscape", "internal/bytealg.MakeNoZero"], unfollowed := true, recurses := true, named := ["unicode/utf8.first", "unicode/utf8.acceptRanges"], apart := false, laid := [("unicode/utf8.acceptRanges", laid_unicode_utf8_acceptRanges), ("unicode/utf8.first", laid_unicode_utf8_first)], narrowed := true }
def FnExactJsonSoundUptoSaid : Prop := fnExactJsonSoundUptoRow.holds Tryd.pinned (OpenSpec.upto fnExactJsonSoundSpec)

end Rows
end Go.Proofs.YtlfkfofeenakhaaDoor
