/-
  NARROWER THAN 'FOR EVERY INPUT', by the rows' own cells (each row's printed sentence says how): FnExactArrPut: laid · FnLinesBack: laid · FnArrKept: laid.
  DERIVED. THE GIVEN ROWS OF THIS SEAT. 3 by the template 'for every input the law returns true; each argument reads behind the call as it read before'; 0 by the template 'total and deterministic' (their statements: YtenfpfjpcpmhiaaDoorTotals.lean).
  GIVEN WITH THE SEED: the statements are not yours to turn. If you find one false, say at which input.
  Laid BY PROGRAM, IN A SANDBOX (cutbox-rows.mjs): the forced cells as the released guide's own fill.sh prints them over the translation 7d215ed746bab13d… (all of the seat's roots in one cut). By AI agents, Wed Nov 11 2026. No macro, syntax, notation, axiom, sorry.
-/
import Derived.Test.YtenfpfjpcpmhiaaDoorChecked
import GoSem.PinnedTables
import GoSem.Claim
import GoSem.ClaimJoined
import GoSem.ClaimMapViews
import Derived.JoinedTies
import Derived.KernelRfl
namespace Go.Proofs.YtenfpfjpcpmhiaaDoor
/- THE CELL 'sum', in the pinned program and in every row, IS THE sha256 OF THE DUMP (.gsa) THAT YtenfpfjpcpmhiaaDoorProg.lean LOADS. Nothing in Lean hashes anything: it is a label: what it is worth is what the hold of that sum in a sandbox is worth. -/
noncomputable def Tryd.pinned : Pinned := { name := "ytenfpfjpcpmhiaadoor", sum := "7d215ed746bab13ddc50484a267d7d108528dbc308f6ba7a9607fa70ac92b3d1", checked := Tryd.checked }
namespace Rows
def none {H : Type} : Left H := { results := [], args := [] }

/- WHAT THE LISTED PACKAGE-LEVEL VARIABLES READ AS WHEN THE CALL BEGINS. Each datum BY PROGRAM (the guide's laid-datum.mjs) off the statement by which the dump's own 'gosem.cut.vars' lays the variable. In a bare row this is a premise. The card (YtenfpfjpcpmhiaaDoorCards.lean) ties it to the program's text. -/
def laid_unicode_utf8_acceptRanges {H : Type} : DataW H := .agg [.agg [.lit (.int .u8 128), .lit (.int .u8 191)], .agg [.lit (.int .u8 160), .lit (.int .u8 191)], .agg [.lit (.int .u8 128), .lit (.int .u8 159)], .agg [.lit (.int .u8 144), .lit (.int .u8 191)], .agg [.lit (.int .u8 128), .lit (.int .u8 143)], .agg [.lit (.int .u8 0), .lit (.int .u8 0)], .agg [.lit (.int .u8 0), .lit (.int .u8 0)], .agg [.lit (.int .u8 0), .lit (.int .u8 0)], .agg [.lit (.int .u8 0), .lit (.int .u8 0)], .agg [.lit (.int .u8 0), .lit (.int .u8 0)], .agg [.lit (.int .u8 0), .lit (.int .u8 0)], .agg [.lit (.int .u8 0), .lit (.int .u8 0)], .agg [.lit (.int .u8 0), .lit (.int .u8 0)], .agg [.lit (.int .u8 0), .lit (.int .u8 0)], .agg [.lit (.int .u8 0), .lit (.int .u8 0)], .agg [.lit (.int .u8 0), .lit (.int .u8 0)]]
/-- One of Go's own tables, pinned by name: the form's constant. -/
def laid_unicode_utf8_first : DataW Unit := Go.Pinned.utf8First

/-- 'laws.FnExactArrPut': WHATEVER THE INPUT: true; the input reads as it did. -/
def fnExactArrPutSpec : ChangeSpec := { name := "fnExactArrPut", fn := fun _ => fun
  | [d1, d2, d3] => { results := [.lit (.bool true)], args := [d1, d2, d3] }
  | _ => none }
def fnExactArrPutRow : OpenClaim := { program := "ytenfpfjpcpmhiaadoor", sum := "7d215ed746bab13ddc50484a267d7d108528dbc308f6ba7a9607fa70ac92b3d1", func := "loop.example/g00417/laws.FnExactArrPut", spec := "fnExactArrPut", inPlace := ["internal/bytealg.IndexByteString"], named := ["unicode/utf8.first", "unicode/utf8.acceptRanges"], apart := false, laid := [("unicode/utf8.acceptRanges", laid_unicode_utf8_acceptRanges), ("unicode/utf8.first", laid_unicode_utf8_first)] }
def FnExactArrPutSaid : Prop := fnExactArrPutRow.holds Tryd.pinned (OpenSpec.ofChange fnExactArrPutSpec)

/-- ITS FALSE NEIGHBOUR: 'it returns false'. Refute it at one input. -/
def fnExactArrPutWrong : ChangeSpec := { name := "fnExactArrPut", fn := fun _ => fun
  | [d1, d2, d3] => { results := [.lit (.bool false)], args := [d1, d2, d3] }
  | _ => none }
def FnExactArrPutWrongFalsely : Prop := fnExactArrPutRow.holds Tryd.pinned (OpenSpec.ofChange fnExactArrPutWrong)

/-- 'laws.FnLinesBack': WHATEVER THE INPUT: true; the input reads as it did. -/
def fnLinesBackSpec : ChangeSpec := { name := "fnLinesBack", fn := fun _ => fun
  | [d] => { results := [.lit (.bool true)], args := [d] }
  | _ => none }
def fnLinesBackRow : OpenClaim := { program := "ytenfpfjpcpmhiaadoor", sum := "7d215ed746bab13ddc50484a267d7d108528dbc308f6ba7a9607fa70ac92b3d1", func := "loop.example/g00417/laws.FnLinesBack", spec := "fnLinesBack", inPlace := ["internal/bytealg.IndexByteString", "internal/bytealg.CountString", "internal/bytealg.IndexString"], named := ["unicode/utf8.first", "unicode/utf8.acceptRanges", "internal/bytealg.MaxLen"], apart := false, laid := [("unicode/utf8.acceptRanges", laid_unicode_utf8_acceptRanges), ("unicode/utf8.first", laid_unicode_utf8_first)] }
def FnLinesBackSaid : Prop := fnLinesBackRow.holds Tryd.pinned (OpenSpec.ofChange fnLinesBackSpec)

/-- ITS FALSE NEIGHBOUR: 'it returns false'. Refute it at one input. -/
def fnLinesBackWrong : ChangeSpec := { name := "fnLinesBack", fn := fun _ => fun
  | [d] => { results := [.lit (.bool false)], args := [d] }
  | _ => none }
def FnLinesBackWrongFalsely : Prop := fnLinesBackRow.holds Tryd.pinned (OpenSpec.ofChange fnLinesBackWrong)

/-- 'laws.FnArrKept': WHATEVER THE INPUT: true; the input reads as it did. -/
def fnArrKeptSpec : ChangeSpec := { name := "fnArrKept", fn := fun _ => fun
  | [d1, d2] => { results := [.lit (.bool true)], args := [d1, d2] }
  | _ => none }
def fnArrKeptRow : OpenClaim := { program := "ytenfpfjpcpmhiaadoor", sum := "7d215ed746bab13ddc50484a267d7d108528dbc308f6ba7a9607fa70ac92b3d1", func := "loop.example/g00417/laws.FnArrKept", spec := "fnArrKept", inPlace := ["internal/bytealg.IndexByteString"], named := ["unicode/utf8.first", "unicode/utf8.acceptRanges"], apart := false, laid := [("unicode/utf8.acceptRanges", laid_unicode_utf8_acceptRanges), ("unicode/utf8.first", laid_unicode_utf8_first)] }
def FnArrKeptSaid : Prop := fnArrKeptRow.holds Tryd.pinned (OpenSpec.ofChange fnArrKeptSpec)

/-- ITS FALSE NEIGHBOUR: 'it returns false'. Refute it at one input. -/
def fnArrKeptWrong : ChangeSpec := { name := "fnArrKept", fn := fun _ => fun
  | [d1, d2] => { results := [.lit (.bool false)], args := [d1, d2] }
  | _ => none }
def FnArrKeptWrongFalsely : Prop := fnArrKeptRow.holds Tryd.pinned (OpenSpec.ofChange fnArrKeptWrong)

/- THE SECOND FORM. 'bulk': how many values and letters a reading holds, each counted each time it is reached (what is shared counts as often as it is met; a slice's spare places count too). A statement '..UptoSaid' is the law's where the arguments, and the package variables that the reading takes, are together of bulk at most 1048576: NARROWER than '..Said'. Prove '..Said' where nothing that the law and all that it calls make is longer than what came in: it says more and counts as full. Else prove '..UptoSaid'. A law counts once. -/
mutual
def uptoBulk {H : Type} : DataW H → Nat
  | .lit (.string bytes) => bytes.length + 1
  | .lit _ => 1
  | .nil => 1
  | .ptr d => uptoBulk d + 1
  | .slice elems spare => uptoBulkAll elems + uptoBulkAll spare + 1
  | .agg parts => uptoBulkAll parts + 1
  | .iface _ d => uptoBulk d + 1
  | .map entries => uptoBulkEntries entries + 1
  | .held _ => 1
def uptoBulkAll {H : Type} : List (DataW H) → Nat
  | [] => 0
  | d :: r => uptoBulk d + uptoBulkAll r
def uptoBulkEntries {H : Type} : List (Lit × DataW H) → Nat
  | [] => 0
  | x :: r => uptoBulkEntry x + uptoBulkEntries r
def uptoBulkEntry {H : Type} : Lit × DataW H → Nat
  | (.string bytes, d) => bytes.length + uptoBulk d + 1
  | (_, d) => uptoBulk d + 1
 end
def uptoSmall : (H : Type) → List (DataW H) → Bool := fun _ ds => decide (uptoBulkAll ds ≤ 1048576)
def OpenSpec.upto (s : _root_.Go.ChangeSpec) : _root_.Go.OpenSpec := { _root_.Go.OpenSpec.ofChange s with cond := some uptoSmall }

/-- 'laws.FnExactArrPut', WHERE WHAT IT READS IS OF BULK AT MOST 1048576: true; the input reads as it did. -/
def fnExactArrPutUptoRow : OpenClaim := { program := "ytenfpfjpcpmhiaadoor", sum := "7d215ed746bab13ddc50484a267d7d108528dbc308f6ba7a9607fa70ac92b3d1", func := "loop.example/g00417/laws.FnExactArrPut", spec := "fnExactArrPut", inPlace := ["internal/bytealg.IndexByteString"], named := ["unicode/utf8.first", "unicode/utf8.acceptRanges"], apart := false, laid := [("unicode/utf8.acceptRanges", laid_unicode_utf8_acceptRanges), ("unicode/utf8.first", laid_unicode_utf8_first)], narrowed := true }
def FnExactArrPutUptoSaid : Prop := fnExactArrPutUptoRow.holds Tryd.pinned (OpenSpec.upto fnExactArrPutSpec)

/-- 'laws.FnLinesBack', WHERE WHAT IT READS IS OF BULK AT MOST 1048576: true; the input reads as it did. -/
def fnLinesBackUptoRow : OpenClaim := { program := "ytenfpfjpcpmhiaadoor", sum := "7d215ed746bab13ddc50484a267d7d108528dbc308f6ba7a9607fa70ac92b3d1", func := "loop.example/g00417/laws.FnLinesBack", spec := "fnLinesBack", inPlace := ["internal/bytealg.IndexByteString", "internal/bytealg.CountString", "internal/bytealg.IndexString"], named := ["unicode/utf8.first", "unicode/utf8.acceptRanges", "internal/bytealg.MaxLen"], apart := false, laid := [("unicode/utf8.acceptRanges", laid_unicode_utf8_acceptRanges), ("unicode/utf8.first", laid_unicode_utf8_first)], narrowed := true }
def FnLinesBackUptoSaid : Prop := fnLinesBackUptoRow.holds Tryd.pinned (OpenSpec.upto fnLinesBackSpec)

/-- 'laws.FnArrKept', WHERE WHAT IT READS IS OF BULK AT MOST 1048576: true; the input reads as it did. -/
def fnArrKeptUptoRow : OpenClaim := { program := "ytenfpfjpcpmhiaadoor", sum := "7d215ed746bab13ddc50484a267d7d108528dbc308f6ba7a9607fa70ac92b3d1", func := "loop.example/g00417/laws.FnArrKept", spec := "fnArrKept", inPlace := ["internal/bytealg.IndexByteString"], named := ["unicode/utf8.first", "unicode/utf8.acceptRanges"], apart := false, laid := [("unicode/utf8.acceptRanges", laid_unicode_utf8_acceptRanges), ("unicode/utf8.first", laid_unicode_utf8_first)], narrowed := true }
def FnArrKeptUptoSaid : Prop := fnArrKeptUptoRow.holds Tryd.pinned (OpenSpec.upto fnArrKeptSpec)

end Rows
end Go.Proofs.YtenfpfjpcpmhiaaDoor
