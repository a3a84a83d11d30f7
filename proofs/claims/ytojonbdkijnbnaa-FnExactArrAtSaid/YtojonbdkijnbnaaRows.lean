/-
  No cell of these rows narrows 'for every input' (looked for: loops, veiled, ifaces, maps, wideKeys, modest, calm, conditions, laid).
  DERIVED. THE GIVEN ROWS OF THIS SEAT. 4 by the template 'for every input the law returns true; each argument reads behind the call as it read before'; 0 by the template 'total and deterministic' (their statements: YtojonbdkijnbnaaTotals.lean).
  GIVEN WITH THE SEED: the statements are not yours to turn. If you find one false, say at which input.
  Laid BY PROGRAM, IN A SANDBOX (cutbox-rows.mjs): the forced cells as the released guide's own fill.sh prints them over the translation 3481acb42cc1b85f… (all of the seat's roots in one cut). By AI agents, Wed Nov 11 2026. No macro, syntax, notation, axiom, sorry.
-/
import Derived.Test.YtojonbdkijnbnaaChecked
import GoSem.Claim
import GoSem.ClaimJoined
import GoSem.ClaimMapViews
import Derived.JoinedTies
import Derived.KernelRfl
namespace Go.Proofs.Ytojonbdkijnbnaa
/- THE CELL 'sum', in the pinned program and in every row, IS THE sha256 OF THE DUMP (.gsa) THAT YtojonbdkijnbnaaProg.lean LOADS. Nothing in Lean hashes anything: it is a label: what it is worth is what the hold of that sum in a sandbox is worth. -/
noncomputable def Try.pinned : Pinned := { name := "ytojonbdkijnbnaa", sum := "3481acb42cc1b85f1affd87414e7404b62545f54685555037b777885da798a8d", checked := Try.checked }
namespace Rows
def none {H : Type} : Left H := { results := [], args := [] }

/-- 'laws.FnExactNumVal': WHATEVER THE INPUT: true; the input reads as it did. -/
def fnExactNumValSpec : ChangeSpec := { name := "fnExactNumVal", fn := fun _ => fun
  | [d] => { results := [.lit (.bool true)], args := [d] }
  | _ => none }
def fnExactNumValRow : OpenClaim := { program := "ytojonbdkijnbnaa", sum := "3481acb42cc1b85f1affd87414e7404b62545f54685555037b777885da798a8d", func := "loop.example/g00417/laws.FnExactNumVal", spec := "fnExactNumVal", apart := false }
def FnExactNumValSaid : Prop := fnExactNumValRow.holds Try.pinned (OpenSpec.ofChange fnExactNumValSpec)

/-- ITS FALSE NEIGHBOUR: 'it returns false'. Refute it at one input. -/
def fnExactNumValWrong : ChangeSpec := { name := "fnExactNumVal", fn := fun _ => fun
  | [d] => { results := [.lit (.bool false)], args := [d] }
  | _ => none }
def FnExactNumValWrongFalsely : Prop := fnExactNumValRow.holds Try.pinned (OpenSpec.ofChange fnExactNumValWrong)

/-- 'laws.FnExactArrAt': WHATEVER THE INPUT: true; the input reads as it did. -/
def fnExactArrAtSpec : ChangeSpec := { name := "fnExactArrAt", fn := fun _ => fun
  | [d1, d2] => { results := [.lit (.bool true)], args := [d1, d2] }
  | _ => none }
def fnExactArrAtRow : OpenClaim := { program := "ytojonbdkijnbnaa", sum := "3481acb42cc1b85f1affd87414e7404b62545f54685555037b777885da798a8d", func := "loop.example/g00417/laws.FnExactArrAt", spec := "fnExactArrAt", apart := false }
def FnExactArrAtSaid : Prop := fnExactArrAtRow.holds Try.pinned (OpenSpec.ofChange fnExactArrAtSpec)

/-- ITS FALSE NEIGHBOUR: 'it returns false'. Refute it at one input. -/
def fnExactArrAtWrong : ChangeSpec := { name := "fnExactArrAt", fn := fun _ => fun
  | [d1, d2] => { results := [.lit (.bool false)], args := [d1, d2] }
  | _ => none }
def FnExactArrAtWrongFalsely : Prop := fnExactArrAtRow.holds Try.pinned (OpenSpec.ofChange fnExactArrAtWrong)

/-- 'laws.FnExactArrGet': WHATEVER THE INPUT: true; the input reads as it did. -/
def fnExactArrGetSpec : ChangeSpec := { name := "fnExactArrGet", fn := fun _ => fun
  | [d1, d2] => { results := [.lit (.bool true)], args := [d1, d2] }
  | _ => none }
def fnExactArrGetRow : OpenClaim := { program := "ytojonbdkijnbnaa", sum := "3481acb42cc1b85f1affd87414e7404b62545f54685555037b777885da798a8d", func := "loop.example/g00417/laws.FnExactArrGet", spec := "fnExactArrGet", apart := false }
def FnExactArrGetSaid : Prop := fnExactArrGetRow.holds Try.pinned (OpenSpec.ofChange fnExactArrGetSpec)

/-- ITS FALSE NEIGHBOUR: 'it returns false'. Refute it at one input. -/
def fnExactArrGetWrong : ChangeSpec := { name := "fnExactArrGet", fn := fun _ => fun
  | [d1, d2] => { results := [.lit (.bool false)], args := [d1, d2] }
  | _ => none }
def FnExactArrGetWrongFalsely : Prop := fnExactArrGetRow.holds Try.pinned (OpenSpec.ofChange fnExactArrGetWrong)

/-- 'laws.FnExactArrDrop': WHATEVER THE INPUT: true; the input reads as it did. -/
def fnExactArrDropSpec : ChangeSpec := { name := "fnExactArrDrop", fn := fun _ => fun
  | [d1, d2] => { results := [.lit (.bool true)], args := [d1, d2] }
  | _ => none }
def fnExactArrDropRow : OpenClaim := { program := "ytojonbdkijnbnaa", sum := "3481acb42cc1b85f1affd87414e7404b62545f54685555037b777885da798a8d", func := "loop.example/g00417/laws.FnExactArrDrop", spec := "fnExactArrDrop", apart := false }
def FnExactArrDropSaid : Prop := fnExactArrDropRow.holds Try.pinned (OpenSpec.ofChange fnExactArrDropSpec)

/-- ITS FALSE NEIGHBOUR: 'it returns false'. Refute it at one input. -/
def fnExactArrDropWrong : ChangeSpec := { name := "fnExactArrDrop", fn := fun _ => fun
  | [d1, d2] => { results := [.lit (.bool false)], args := [d1, d2] }
  | _ => none }
def FnExactArrDropWrongFalsely : Prop := fnExactArrDropRow.holds Try.pinned (OpenSpec.ofChange fnExactArrDropWrong)

/- THE SECOND FORM. 'bulk': how many values and letters a reading holds, each counted each time it is reached (what is shared counts as often as it is met; a slice's spare places count too). A statement '..UptoSaid' is the law's where the arguments, and the package variables that the reading takes, are together of bulk at most 1048576: NARROWER than '..Said'. Prove '..Said' where nothing that the law and all that it calls make is longer than what came in: it says more and counts as full. Else prove '..UptoSaid'. A law counts once. -/
mutual
def uptoBulk {H : Type} : DataW H → Nat
  | .lit (.string bytes) => bytes.length + 1
  | .lit _ => 1
  | .nil => 1
  | .ptr d => uptoBulk d + 1
  | .slice elems spare => uptoBulkAll elems + uptoBulkAll spare + 1
  | .agg parts => uptoBulkAll parts + 1
  | .iface _ d => uptoBulk d + 1
  | .map entries => uptoBulkEntries entries + 1
  | .held _ => 1
def uptoBulkAll {H : Type} : List (DataW H) → Nat
  | [] => 0
  | d :: r => uptoBulk d + uptoBulkAll r
def uptoBulkEntries {H : Type} : List (Lit × DataW H) → Nat
  | [] => 0
  | x :: r => uptoBulkEntry x + uptoBulkEntries r
def uptoBulkEntry {H : Type} : Lit × DataW H → Nat
  | (.string bytes, d) => bytes.length + uptoBulk d + 1
  | (_, d) => uptoBulk d + 1
 end
def uptoSmall : (H : Type) → List (DataW H) → Bool := fun _ ds => decide (uptoBulkAll ds ≤ 1048576)
def OpenSpec.upto (s : _root_.Go.ChangeSpec) : _root_.Go.OpenSpec := { _root_.Go.OpenSpec.ofChange s with cond := some uptoSmall }

/-- 'laws.FnExactNumVal', WHERE WHAT IT READS IS OF BULK AT MOST 1048576: true; the input reads as it did. -/
def fnExactNumValUptoRow : OpenClaim := { program := "ytojonbdkijnbnaa", sum := "3481acb42cc1b85f1affd87414e7404b62545f54685555037b777885da798a8d", func := "loop.example/g00417/laws.FnExactNumVal", spec := "fnExactNumVal", apart := false, narrowed := true }
def FnExactNumValUptoSaid : Prop := fnExactNumValUptoRow.holds Try.pinned (OpenSpec.upto fnExactNumValSpec)

/-- 'laws.FnExactArrAt', WHERE WHAT IT READS IS OF BULK AT MOST 1048576: true; the input reads as it did. -/
def fnExactArrAtUptoRow : OpenClaim := { program := "ytojonbdkijnbnaa", sum := "3481acb42cc1b85f1affd87414e7404b62545f54685555037b777885da798a8d", func := "loop.example/g00417/laws.FnExactArrAt", spec := "fnExactArrAt", apart := false, narrowed := true }
def FnExactArrAtUptoSaid : Prop := fnExactArrAtUptoRow.holds Try.pinned (OpenSpec.upto fnExactArrAtSpec)

/-- 'laws.FnExactArrGet', WHERE WHAT IT READS IS OF BULK AT MOST 1048576: true; the input reads as it did. -/
def fnExactArrGetUptoRow : OpenClaim := { program := "ytojonbdkijnbnaa", sum := "3481acb42cc1b85f1affd87414e7404b62545f54685555037b777885da798a8d", func := "loop.example/g00417/laws.FnExactArrGet", spec := "fnExactArrGet", apart := false, narrowed := true }
def FnExactArrGetUptoSaid : Prop := fnExactArrGetUptoRow.holds Try.pinned (OpenSpec.upto fnExactArrGetSpec)

/-- 'laws.FnExactArrDrop', WHERE WHAT IT READS IS OF BULK AT MOST 1048576: true; the input reads as it did. -/
def fnExactArrDropUptoRow : OpenClaim := { program := "ytojonbdkijnbnaa", sum := "3481acb42cc1b85f1affd87414e7404b62545f54685555037b777885da798a8d", func := "loop.example/g00417/laws.FnExactArrDrop", spec := "fnExactArrDrop", apart := false, narrowed := true }
def FnExactArrDropUptoSaid : Prop := fnExactArrDropUptoRow.holds Try.pinned (OpenSpec.upto fnExactArrDropSpec)

end Rows
end Go.Proofs.Ytojonbdkijnbnaa
