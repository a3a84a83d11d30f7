/-
  NARROWER THAN 'FOR EVERY INPUT', by the rows' own cells (each row's printed sentence says how): FnExactTextVal: laid · FnExactValOk: laid · FnExactPadded: laid · FnExactArrOk: laid · FnTextBack: laid · FnParts: laid · FnFinds: laid · FnBlanksJoined: laid.
  DERIVED. THE GIVEN ROWS OF THIS SEAT. 8 by the template 'for every input the law returns true; each argument reads behind the call as it read before'; 0 by the template 'total and deterministic' (their statements: YtojonbdkijnbnaaDoorTotals.lean).
  GIVEN WITH THE SEED: the statements are not yours to turn. If you find one false, say at which input.
  Laid BY PROGRAM, IN A SANDBOX (cutbox-rows.mjs): the forced cells as the released guide's own fill.sh prints them over the translation 01c473b3428d1f16… (all of the seat's roots in one cut). By AI agents, Wed Nov 11 2026. No macro, syntax, notation, axiom, sorry.
-/
import Derived.Test.YtojonbdkijnbnaaDoorChecked
import GoSem.PinnedTables
import GoSem.Claim
import GoSem.ClaimJoined
import GoSem.ClaimMapViews
import Derived.JoinedTies
import Derived.KernelRfl
namespace Go.Proofs.YtojonbdkijnbnaaDoor
/- THE CELL 'sum', in the pinned program and in every row, IS THE sha256 OF THE DUMP (.gsa) THAT YtojonbdkijnbnaaDoorProg.lean LOADS. Nothing in Lean hashes anything: it is a label: what it is worth is what the hold of that sum in a sandbox is worth. -/
noncomputable def Tryd.pinned : Pinned := { name := "ytojonbdkijnbnaadoor", sum := "01c473b3428d1f16d16b38377307238f2178d68c522437bfd4fbeb130b3c7192", checked := Tryd.checked }
namespace Rows
def none {H : Type} : Left H := { results := [], args := [] }

/- WHAT THE LISTED PACKAGE-LEVEL VARIABLES READ AS WHEN THE CALL BEGINS. Each datum BY PROGRAM (the guide's laid-datum.mjs) off the statement by which the dump's own 'gosem.cut.vars' lays the variable. In a bare row this is a premise. The card (YtojonbdkijnbnaaDoorCards.lean) ties it to the program's text. -/
def laid_unicode_utf8_acceptRanges {H : Type} : DataW H := .agg [.agg [.lit (.int .u8 128), .lit (.int .u8 191)], .agg [.lit (.int .u8 160), .lit (.int .u8 191)], .agg [.lit (.int .u8 128), .lit (.int .u8 159)], .agg [.lit (.int .u8 144), .lit (.int .u8 191)], .agg [.lit (.int .u8 128), .lit (.int .u8 143)], .agg [.lit (.int .u8 0), .lit (.int .u8 0)], .agg [.lit (.int .u8 0), .lit (.int .u8 0)], .agg [.lit (.int .u8 0), .lit (.int .u8 0)], .agg [.lit (.int .u8 0), .lit (.int .u8 0)], .agg [.lit (.int .u8 0), .lit (.int .u8 0)], .agg [.lit (.int .u8 0), .lit (.int .u8 0)], .agg [.lit (.int .u8 0), .lit (.int .u8 0)], .agg [.lit (.int .u8 0), .lit (.int .u8 0)], .agg [.lit (.int .u8 0), .lit (.int .u8 0)], .agg [.lit (.int .u8 0), .lit (.int .u8 0)], .agg [.lit (.int .u8 0), .lit (.int .u8 0)]]
/-- One of Go's own tables, pinned by name: the form's constant. -/
def laid_unicode_utf8_first : DataW Unit := Go.Pinned.utf8First

/-- 'laws.FnExactTextVal': WHATEVER THE INPUT: true; the input reads as it did. -/
def fnExactTextValSpec : ChangeSpec := { name := "fnExactTextVal", fn := fun _ => fun
  | [d] => { results := [.lit (.bool true)], args := [d] }
  | _ => none }
def fnExactTextValRow : OpenClaim := { program := "ytojonbdkijnbnaadoor", sum := "01c473b3428d1f16d16b38377307238f2178d68c522437bfd4fbeb130b3c7192", func := "loop.example/g00417/laws.FnExactTextVal", spec := "fnExactTextVal", inPlace := ["internal/bytealg.IndexByteString"], named := ["unicode/utf8.first", "unicode/utf8.acceptRanges"], apart := false, laid := [("unicode/utf8.acceptRanges", laid_unicode_utf8_acceptRanges), ("unicode/utf8.first", laid_unicode_utf8_first)] }
def FnExactTextValSaid : Prop := fnExactTextValRow.holds Tryd.pinned (OpenSpec.ofChange fnExactTextValSpec)

/-- ITS FALSE NEIGHBOUR: 'it returns false'. Refute it at one input. -/
def fnExactTextValWrong : ChangeSpec := { name := "fnExactTextVal", fn := fun _ => fun
  | [d] => { results := [.lit (.bool false)], args := [d] }
  | _ => none }
def FnExactTextValWrongFalsely : Prop := fnExactTextValRow.holds Tryd.pinned (OpenSpec.ofChange fnExactTextValWrong)

/-- 'laws.FnExactValOk': WHATEVER THE INPUT: true; the input reads as it did. -/
def fnExactValOkSpec : ChangeSpec := { name := "fnExactValOk", fn := fun _ => fun
  | [d] => { results := [.lit (.bool true)], args := [d] }
  | _ => none }
def fnExactValOkRow : OpenClaim := { program := "ytojonbdkijnbnaadoor", sum := "01c473b3428d1f16d16b38377307238f2178d68c522437bfd4fbeb130b3c7192", func := "loop.example/g00417/laws.FnExactValOk", spec := "fnExactValOk", inPlace := ["internal/bytealg.IndexByteString"], named := ["unicode/utf8.first", "unicode/utf8.acceptRanges"], apart := false, laid := [("unicode/utf8.acceptRanges", laid_unicode_utf8_acceptRanges), ("unicode/utf8.first", laid_unicode_utf8_first)] }
def FnExactValOkSaid : Prop := fnExactValOkRow.holds Tryd.pinned (OpenSpec.ofChange fnExactValOkSpec)

/-- ITS FALSE NEIGHBOUR: 'it returns false'. Refute it at one input. -/
def fnExactValOkWrong : ChangeSpec := { name := "fnExactValOk", fn := fun _ => fun
  | [d] => { results := [.lit (.bool false)], args := [d] }
  | _ => none }
def FnExactValOkWrongFalsely : Prop := fnExactValOkRow.holds Tryd.pinned (OpenSpec.ofChange fnExactValOkWrong)

/-- 'laws.FnExactPadded': WHATEVER THE INPUT: true; the input reads as it did. -/
def fnExactPaddedSpec : ChangeSpec := { name := "fnExactPadded", fn := fun _ => fun
  | [d1, d2, d3, d4] => { results := [.lit (.bool true)], args := [d1, d2, d3, d4] }
  | _ => none }
def fnExactPaddedRow : OpenClaim := { program := "ytojonbdkijnbnaadoor", sum := "01c473b3428d1f16d16b38377307238f2178d68c522437bfd4fbeb130b3c7192", func := "loop.example/g00417/laws.FnExactPadded", spec := "fnExactPadded", inPlace := ["internal/bytealg.IndexByteString", "internal/abi.NoEscape", "internal/bytealg.MakeNoZero"], named := ["unicode/utf8.first", "unicode/utf8.acceptRanges"], apart := false, laid := [("unicode/utf8.acceptRanges", laid_unicode_utf8_acceptRanges), ("unicode/utf8.first", laid_unicode_utf8_first)] }
def FnExactPaddedSaid : Prop := fnExactPaddedRow.holds Tryd.pinned (OpenSpec.ofChange fnExactPaddedSpec)

/-- ITS FALSE NEIGHBOUR: 'it returns false'. Refute it at one input. -/
def fnExactPaddedWrong : ChangeSpec := { name := "fnExactPadded", fn := fun _ => fun
  | [d1, d2, d3, d4] => { results := [.lit (.bool false)], args := [d1, d2, d3, d4] }
  | _ => none }
def FnExactPaddedWrongFalsely : Prop := fnExactPaddedRow.holds Tryd.pinned (OpenSpec.ofChange fnExactPaddedWrong)

/-- 'laws.FnExactArrOk': WHATEVER THE INPUT: true; the input reads as it did. -/
def fnExactArrOkSpec : ChangeSpec := { name := "fnExactArrOk", fn := fun _ => fun
  | [d] => { results := [.lit (.bool true)], args := [d] }
  | _ => none }
def fnExactArrOkRow : OpenClaim := { program := "ytojonbdkijnbnaadoor", sum := "01c473b3428d1f16d16b38377307238f2178d68c522437bfd4fbeb130b3c7192", func := "loop.example/g00417/laws.FnExactArrOk", spec := "fnExactArrOk", inPlace := ["internal/bytealg.IndexByteString"], named := ["unicode/utf8.first", "unicode/utf8.acceptRanges"], apart := false, laid := [("unicode/utf8.acceptRanges", laid_unicode_utf8_acceptRanges), ("unicode/utf8.first", laid_unicode_utf8_first)] }
def FnExactArrOkSaid : Prop := fnExactArrOkRow.holds Tryd.pinned (OpenSpec.ofChange fnExactArrOkSpec)

/-- ITS FALSE NEIGHBOUR: 'it returns false'. Refute it at one input. -/
def fnExactArrOkWrong : ChangeSpec := { name := "fnExactArrOk", fn := fun _ => fun
  | [d] => { results := [.lit (.bool false)], args := [d] }
  | _ => none }
def FnExactArrOkWrongFalsely : Prop := fnExactArrOkRow.holds Tryd.pinned (OpenSpec.ofChange fnExactArrOkWrong)

/-- 'laws.FnTextBack': WHATEVER THE INPUT: true; the input reads as it did. -/
def fnTextBackSpec : ChangeSpec := { name := "fnTextBack", fn := fun _ => fun
  | [d] => { results := [.lit (.bool true)], args := [d] }
  | _ => none }
def fnTextBackRow : OpenClaim := { program := "ytojonbdkijnbnaadoor", sum := "01c473b3428d1f16d16b38377307238f2178d68c522437bfd4fbeb130b3c7192", func := "loop.example/g00417/laws.FnTextBack", spec := "fnTextBack", inPlace := ["internal/bytealg.IndexByteString", "internal/abi.NoEscape"], named := ["unicode/utf8.first", "unicode/utf8.acceptRanges"], apart := false, laid := [("unicode/utf8.acceptRanges", laid_unicode_utf8_acceptRanges), ("unicode/utf8.first", laid_unicode_utf8_first)] }
def FnTextBackSaid : Prop := fnTextBackRow.holds Tryd.pinned (OpenSpec.ofChange fnTextBackSpec)

/-- ITS FALSE NEIGHBOUR: 'it returns false'. Refute it at one input. -/
def fnTextBackWrong : ChangeSpec := { name := "fnTextBack", fn := fun _ => fun
  | [d] => { results := [.lit (.bool false)], args := [d] }
  | _ => none }
def FnTextBackWrongFalsely : Prop := fnTextBackRow.holds Tryd.pinned (OpenSpec.ofChange fnTextBackWrong)

/-- 'laws.FnParts': WHATEVER THE INPUT: true; the input reads as it did. -/
def fnPartsSpec : ChangeSpec := { name := "fnParts", fn := fun _ => fun
  | [d1, d2] => { results := [.lit (.bool true)], args := [d1, d2] }
  | _ => none }
def fnPartsRow : OpenClaim := { program := "ytojonbdkijnbnaadoor", sum := "01c473b3428d1f16d16b38377307238f2178d68c522437bfd4fbeb130b3c7192", func := "loop.example/g00417/laws.FnParts", spec := "fnParts", inPlace := ["internal/bytealg.IndexByteString", "internal/abi.NoEscape"], named := ["unicode/utf8.first", "unicode/utf8.acceptRanges"], apart := false, laid := [("unicode/utf8.acceptRanges", laid_unicode_utf8_acceptRanges), ("unicode/utf8.first", laid_unicode_utf8_first)] }
def FnPartsSaid : Prop := fnPartsRow.holds Tryd.pinned (OpenSpec.ofChange fnPartsSpec)

/-- ITS FALSE NEIGHBOUR: 'it returns false'. Refute it at one input. -/
def fnPartsWrong : ChangeSpec := { name := "fnParts", fn := fun _ => fun
  | [d1, d2] => { results := [.lit (.bool false)], args := [d1, d2] }
  | _ => none }
def FnPartsWrongFalsely : Prop := fnPartsRow.holds Tryd.pinned (OpenSpec.ofChange fnPartsWrong)

/-- 'laws.FnFinds': WHATEVER THE INPUT: true; the input reads as it did. -/
def fnFindsSpec : ChangeSpec := { name := "fnFinds", fn := fun _ => fun
  | [d] => { results := [.lit (.bool true)], args := [d] }
  | _ => none }
def fnFindsRow : OpenClaim := { program := "ytojonbdkijnbnaadoor", sum := "01c473b3428d1f16d16b38377307238f2178d68c522437bfd4fbeb130b3c7192", func := "loop.example/g00417/laws.FnFinds", spec := "fnFinds", inPlace := ["internal/bytealg.IndexByteString", "internal/bytealg.IndexString"], named := ["unicode/utf8.first", "unicode/utf8.acceptRanges", "internal/bytealg.MaxLen"], apart := false, laid := [("unicode/utf8.acceptRanges", laid_unicode_utf8_acceptRanges), ("unicode/utf8.first", laid_unicode_utf8_first)] }
def FnFindsSaid : Prop := fnFindsRow.holds Tryd.pinned (OpenSpec.ofChange fnFindsSpec)

/-- ITS FALSE NEIGHBOUR: 'it returns false'. Refute it at one input. -/
def fnFindsWrong : ChangeSpec := { name := "fnFinds", fn := fun _ => fun
  | [d] => { results := [.lit (.bool false)], args := [d] }
  | _ => none }
def FnFindsWrongFalsely : Prop := fnFindsRow.holds Tryd.pinned (OpenSpec.ofChange fnFindsWrong)

/-- 'laws.FnBlanksJoined': WHATEVER THE INPUT: true; the input reads as it did. -/
def fnBlanksJoinedSpec : ChangeSpec := { name := "fnBlanksJoined", fn := fun _ => fun
  | [d] => { results := [.lit (.bool true)], args := [d] }
  | _ => none }
def fnBlanksJoinedRow : OpenClaim := { program := "ytojonbdkijnbnaadoor", sum := "01c473b3428d1f16d16b38377307238f2178d68c522437bfd4fbeb130b3c7192", func := "loop.example/g00417/laws.FnBlanksJoined", spec := "fnBlanksJoined", inPlace := ["internal/bytealg.IndexByteString", "internal/abi.NoEscape", "internal/bytealg.MakeNoZero"], unfollowed := true, recurses := true, named := ["unicode/utf8.first", "unicode/utf8.acceptRanges"], apart := false, laid := [("unicode/utf8.acceptRanges", laid_unicode_utf8_acceptRanges), ("unicode/utf8.first", laid_unicode_utf8_first)] }
def FnBlanksJoinedSaid : Prop := fnBlanksJoinedRow.holds Tryd.pinned (OpenSpec.ofChange fnBlanksJoinedSpec)

/-- ITS FALSE NEIGHBOUR: 'it returns false'. Refute it at one input. -/
def fnBlanksJoinedWrong : ChangeSpec := { name := "fnBlanksJoined", fn := fun _ => fun
  | [d] => { results := [.lit (.bool false)], args := [d] }
  | _ => none }
def FnBlanksJoinedWrongFalsely : Prop := fnBlanksJoinedRow.holds Tryd.pinned (OpenSpec.ofChange fnBlanksJoinedWrong)

/- THE SECOND FORM. 'bulk': how many values and letters a reading holds, each counted each time it is reached (what is shared counts as often as it is met; a slice's spare places count too). A statement '..UptoSaid' is the law's where the arguments, and the package variables that the reading takes, are together of bulk at most 1048576: NARROWER than '..Said'. Prove '..Said' where nothing that the law and all that it calls make is longer than what came in: it says more and counts as full. Else prove '..UptoSaid'. A law counts once. -/
mutual
def uptoBulk {H : Type} : DataW H → Nat
  | .lit (.string bytes) => bytes.length + 1
  | .lit _ => 1
  | .nil => 1
  | .ptr d => uptoBulk d + 1
  | .slice elems spare => uptoBulkAll elems + uptoBulkAll spare + 1
  | .agg parts => uptoBulkAll parts + 1
  | .iface _ d => uptoBulk d + 1
  | .map entries => uptoBulkEntries entries + 1
  | .held _ => 1
def uptoBulkAll {H : Type} : List (DataW H) → Nat
  | [] => 0
  | d :: r => uptoBulk d + uptoBulkAll r
def uptoBulkEntries {H : Type} : List (Lit × DataW H) → Nat
  | [] => 0
  | x :: r => uptoBulkEntry x + uptoBulkEntries r
def uptoBulkEntry {H : Type} : Lit × DataW H → Nat
  | (.string bytes, d) => bytes.length + uptoBulk d + 1
  | (_, d) => uptoBulk d + 1
 end
def uptoSmall : (H : Type) → List (DataW H) → Bool := fun _ ds => decide (uptoBulkAll ds ≤ 1048576)
def OpenSpec.upto (s : _root_.Go.ChangeSpec) : _root_.Go.OpenSpec := { _root_.Go.OpenSpec.ofChange s with cond := some uptoSmall }

/-- 'laws.FnExactTextVal', WHERE WHAT IT READS IS OF BULK AT MOST 1048576: true; the input reads as it did. -/
def fnExactTextValUptoRow : OpenClaim := { program := "ytojonbdkijnbnaadoor", sum := "01c473b3428d1f16d16b38377307238f2178d68c522437bfd4fbeb130b3c7192", func := "loop.example/g00417/laws.FnExactTextVal", spec := "fnExactTextVal", inPlace := ["internal/bytealg.IndexByteString"], named := ["unicode/utf8.first", "unicode/utf8.acceptRanges"], apart := false, laid := [("unicode/utf8.acceptRanges", laid_unicode_utf8_acceptRanges), ("unicode/utf8.first", laid_unicode_utf8_first)], narrowed := true }
def FnExactTextValUptoSaid : Prop := fnExactTextValUptoRow.holds Tryd.pinned (OpenSpec.upto fnExactTextValSpec)

/-- 'laws.FnExactValOk', WHERE WHAT IT READS IS OF BULK AT MOST 1048576: true; the input reads as it did. -/
def fnExactValOkUptoRow : OpenClaim := { program := "ytojonbdkijnbnaadoor", sum := "01c473b3428d1f16d16b38377307238f2178d68c522437bfd4fbeb130b3c7192", func := "loop.example/g00417/laws.FnExactValOk", spec := "fnExactValOk", inPlace := ["internal/bytealg.IndexByteString"], named := ["unicode/utf8.first", "unicode/utf8.acceptRanges"], apart := false, laid := [("unicode/utf8.acceptRanges", laid_unicode_utf8_acceptRanges), ("unicode/utf8.first", laid_unicode_utf8_first)], narrowed := true }
def FnExactValOkUptoSaid : Prop := fnExactValOkUptoRow.holds Tryd.pinned (OpenSpec.upto fnExactValOkSpec)

/-- 'laws.FnExactPadded', WHERE WHAT IT READS IS OF BULK AT MOST 1048576: true; the input reads as it did. -/
def fnExactPaddedUptoRow : OpenClaim := { program := "ytojonbdkijnbnaadoor", sum := "01c473b3428d1f16d16b38377307238f2178d68c522437bfd4fbeb130b3c7192", func := "loop.example/g00417/laws.FnExactPadded", spec := "fnExactPadded", inPlace := ["internal/bytealg.IndexByteString", "internal/abi.NoEscape", "internal/bytealg.MakeNoZero"], named := ["unicode/utf8.first", "unicode/utf8.acceptRanges"], apart := false, laid := [("unicode/utf8.acceptRanges", laid_unicode_utf8_acceptRanges), ("unicode/utf8.first", laid_unicode_utf8_first)], narrowed := true }
def FnExactPaddedUptoSaid : Prop := fnExactPaddedUptoRow.holds Tryd.pinned (OpenSpec.upto fnExactPaddedSpec)

/-- 'laws.FnExactArrOk', WHERE WHAT IT READS IS OF BULK AT MOST 1048576: true; the input reads as it did. -/
def fnExactArrOkUptoRow : OpenClaim := { program := "ytojonbdkijnbnaadoor", sum := "01c473b3428d1f16d16b38377307238f2178d68c522437bfd4fbeb130b3c7192", func := "loop.example/g00417/laws.FnExactArrOk", spec := "fnExactArrOk", inPlace := ["internal/bytealg.IndexByteString"], named := ["unicode/utf8.first", "unicode/utf8.acceptRanges"], apart := false, laid := [("unicode/utf8.acceptRanges", laid_unicode_utf8_acceptRanges), ("unicode/utf8.first", laid_unicode_utf8_first)], narrowed := true }
def FnExactArrOkUptoSaid : Prop := fnExactArrOkUptoRow.holds Tryd.pinned (OpenSpec.upto fnExactArrOkSpec)

/-- 'laws.FnTextBack', WHERE WHAT IT READS IS OF BULK AT MOST 1048576: true; the input reads as it did. -/
def fnTextBackUptoRow : OpenClaim := { program := "ytojonbdkijnbnaadoor", sum := "01c473b3428d1f16d16b38377307238f2178d68c522437bfd4fbeb130b3c7192", func := "loop.example/g00417/laws.FnTextBack", spec := "fnTextBack", inPlace := ["internal/bytealg.IndexByteString", "internal/abi.NoEscape"], named := ["unicode/utf8.first", "unicode/utf8.acceptRanges"], apart := false, laid := [("unicode/utf8.acceptRanges", laid_unicode_utf8_acceptRanges), ("unicode/utf8.first", laid_unicode_utf8_first)], narrowed := true }
def FnTextBackUptoSaid : Prop := fnTextBackUptoRow.holds Tryd.pinned (OpenSpec.upto fnTextBackSpec)

/-- 'laws.FnParts', WHERE WHAT IT READS IS OF BULK AT MOST 1048576: true; the input reads as it did. -/
def fnPartsUptoRow : OpenClaim := { program := "ytojonbdkijnbnaadoor", sum := "01c473b3428d1f16d16b38377307238f2178d68c522437bfd4fbeb130b3c7192", func := "loop.example/g00417/laws.FnParts", spec := "fnParts", inPlace := ["internal/bytealg.IndexByteString", "internal/abi.NoEscape"], named := ["unicode/utf8.first", "unicode/utf8.acceptRanges"], apart := false, laid := [("unicode/utf8.acceptRanges", laid_unicode_utf8_acceptRanges), ("unicode/utf8.first", laid_unicode_utf8_first)], narrowed := true }
def FnPartsUptoSaid : Prop := fnPartsUptoRow.holds Tryd.pinned (OpenSpec.upto fnPartsSpec)

/-- 'laws.FnFinds', WHERE WHAT IT READS IS OF BULK AT MOST 1048576: true; the input reads as it did. -/
def fnFindsUptoRow : OpenClaim := { program := "ytojonbdkijnbnaadoor", sum := "01c473b3428d1f16d16b38377307238f2178d68c522437bfd4fbeb130b3c7192", func := "loop.example/g00417/laws.FnFinds", spec := "fnFinds", inPlace := ["internal/bytealg.IndexByteString", "internal/bytealg.IndexString"], named := ["unicode/utf8.first", "unicode/utf8.acceptRanges", "internal/bytealg.MaxLen"], apart := false, laid := [("unicode/utf8.acceptRanges", laid_unicode_utf8_acceptRanges), ("unicode/utf8.first", laid_unicode_utf8_first)], narrowed := true }
def FnFindsUptoSaid : Prop := fnFindsUptoRow.holds Tryd.pinned (OpenSpec.upto fnFindsSpec)

/-- 'laws.FnBlanksJoined', WHERE WHAT IT READS IS OF BULK AT MOST 1048576: true; the input reads as it did. -/
def fnBlanksJoinedUptoRow : OpenClaim := { program := "ytojonbdkijnbnaadoor", sum := "01c473b3428d1f16d16b38377307238f2178d68c522437bfd4fbeb130b3c7192", func := "loop.example/g00417/laws.FnBlanksJoined", spec := "fnBlanksJoined", inPlace := ["internal/bytealg.IndexByteString", "internal/abi.NoEscape", "internal/bytealg.MakeNoZero"], unfollowed := true, recurses := true, named := ["unicode/utf8.first", "unicode/utf8.acceptRanges"], apart := false, laid := [("unicode/utf8.acceptRanges", laid_unicode_utf8_acceptRanges), ("unicode/utf8.first", laid_unicode_utf8_first)], narrowed := true }
def FnBlanksJoinedUptoSaid : Prop := fnBlanksJoinedUptoRow.holds Tryd.pinned (OpenSpec.upto fnBlanksJoinedSpec)

end Rows
end Go.Proofs.YtojonbdkijnbnaaDoor
