/-
  No cell of these rows narrows 'for every input' (looked for: loops, veiled, ifaces, maps, wideKeys, modest, calm, conditions, laid).
  DERIVED. THE GIVEN ROWS OF THIS SEAT. 6 by the template 'for every input the law returns true; each argument reads behind the call as it read before'; 0 by the template 'total and deterministic' (their statements: YtbogeelckgfaeaaTotals.lean).
  GIVEN WITH THE SEED: the statements are not yours to turn. If you find one false, say at which input.
  Laid BY PROGRAM, IN A SANDBOX (cutbox-rows.mjs): the forced cells as the released guide's own fill.sh prints them over the translation 80c5bda74692b123… (all of the seat's roots in one cut). By AI agents, Wed Nov 11 2026. No macro, syntax, notation, axiom, sorry.
-/
import Derived.Test.YtbogeelckgfaeaaChecked
import GoSem.Claim
import GoSem.ClaimJoined
import GoSem.ClaimMapViews
import Derived.JoinedTies
import Derived.KernelRfl
namespace Go.Proofs.Ytbogeelckgfaeaa
/- THE CELL 'sum', in the pinned program and in every row, IS THE sha256 OF THE DUMP (.gsa) THAT YtbogeelckgfaeaaProg.lean LOADS. Nothing in Lean hashes anything: it is a label: what it is worth is what the hold of that sum in a sandbox is worth. -/
noncomputable def Try.pinned : Pinned := { name := "ytbogeelckgfaeaa", sum := "80c5bda74692b12353a29aba4239b93740164dc0c7d2926155a495d520d0e2da", checked := Try.checked }
namespace Rows
def none {H : Type} : Left H := { results := [], args := [] }

/-- 'laws.FnExactIsPlace': WHATEVER THE INPUT: true; the input reads as it did. -/
def fnExactIsPlaceSpec : ChangeSpec := { name := "fnExactIsPlace", fn := fun _ => fun
  | [d] => { results := [.lit (.bool true)], args := [d] }
  | _ => none }
def fnExactIsPlaceRow : OpenClaim := { program := "ytbogeelckgfaeaa", sum := "80c5bda74692b12353a29aba4239b93740164dc0c7d2926155a495d520d0e2da", func := "loop.example/g00417/laws.FnExactIsPlace", spec := "fnExactIsPlace", apart := false }
def FnExactIsPlaceSaid : Prop := fnExactIsPlaceRow.holds Try.pinned (OpenSpec.ofChange fnExactIsPlaceSpec)

/-- ITS FALSE NEIGHBOUR: 'it returns false'. Refute it at one input. -/
def fnExactIsPlaceWrong : ChangeSpec := { name := "fnExactIsPlace", fn := fun _ => fun
  | [d] => { results := [.lit (.bool false)], args := [d] }
  | _ => none }
def FnExactIsPlaceWrongFalsely : Prop := fnExactIsPlaceRow.holds Try.pinned (OpenSpec.ofChange fnExactIsPlaceWrong)

/-- 'laws.FnExactIsOwn': WHATEVER THE INPUT: true; the input reads as it did. -/
def fnExactIsOwnSpec : ChangeSpec := { name := "fnExactIsOwn", fn := fun _ => fun
  | [d] => { results := [.lit (.bool true)], args := [d] }
  | _ => none }
def fnExactIsOwnRow : OpenClaim := { program := "ytbogeelckgfaeaa", sum := "80c5bda74692b12353a29aba4239b93740164dc0c7d2926155a495d520d0e2da", func := "loop.example/g00417/laws.FnExactIsOwn", spec := "fnExactIsOwn", apart := false }
def FnExactIsOwnSaid : Prop := fnExactIsOwnRow.holds Try.pinned (OpenSpec.ofChange fnExactIsOwnSpec)

/-- ITS FALSE NEIGHBOUR: 'it returns false'. Refute it at one input. -/
def fnExactIsOwnWrong : ChangeSpec := { name := "fnExactIsOwn", fn := fun _ => fun
  | [d] => { results := [.lit (.bool false)], args := [d] }
  | _ => none }
def FnExactIsOwnWrongFalsely : Prop := fnExactIsOwnRow.holds Try.pinned (OpenSpec.ofChange fnExactIsOwnWrong)

/-- 'laws.FnExactIsWord': WHATEVER THE INPUT: true; the input reads as it did. -/
def fnExactIsWordSpec : ChangeSpec := { name := "fnExactIsWord", fn := fun _ => fun
  | [d] => { results := [.lit (.bool true)], args := [d] }
  | _ => none }
def fnExactIsWordRow : OpenClaim := { program := "ytbogeelckgfaeaa", sum := "80c5bda74692b12353a29aba4239b93740164dc0c7d2926155a495d520d0e2da", func := "loop.example/g00417/laws.FnExactIsWord", spec := "fnExactIsWord", apart := false }
def FnExactIsWordSaid : Prop := fnExactIsWordRow.holds Try.pinned (OpenSpec.ofChange fnExactIsWordSpec)

/-- ITS FALSE NEIGHBOUR: 'it returns false'. Refute it at one input. -/
def fnExactIsWordWrong : ChangeSpec := { name := "fnExactIsWord", fn := fun _ => fun
  | [d] => { results := [.lit (.bool false)], args := [d] }
  | _ => none }
def FnExactIsWordWrongFalsely : Prop := fnExactIsWordRow.holds Try.pinned (OpenSpec.ofChange fnExactIsWordWrong)

/-- 'laws.FnExactArity': WHATEVER THE INPUT: true; the input reads as it did. -/
def fnExactAritySpec : ChangeSpec := { name := "fnExactArity", fn := fun _ => fun
  | [d] => { results := [.lit (.bool true)], args := [d] }
  | _ => none }
def fnExactArityRow : OpenClaim := { program := "ytbogeelckgfaeaa", sum := "80c5bda74692b12353a29aba4239b93740164dc0c7d2926155a495d520d0e2da", func := "loop.example/g00417/laws.FnExactArity", spec := "fnExactArity", apart := false }
def FnExactAritySaid : Prop := fnExactArityRow.holds Try.pinned (OpenSpec.ofChange fnExactAritySpec)

/-- ITS FALSE NEIGHBOUR: 'it returns false'. Refute it at one input. -/
def fnExactArityWrong : ChangeSpec := { name := "fnExactArity", fn := fun _ => fun
  | [d] => { results := [.lit (.bool false)], args := [d] }
  | _ => none }
def FnExactArityWrongFalsely : Prop := fnExactArityRow.holds Try.pinned (OpenSpec.ofChange fnExactArityWrong)

/-- 'laws.FnExactNameAt': WHATEVER THE INPUT: true; the input reads as it did. -/
def fnExactNameAtSpec : ChangeSpec := { name := "fnExactNameAt", fn := fun _ => fun
  | [d1, d2] => { results := [.lit (.bool true)], args := [d1, d2] }
  | _ => none }
def fnExactNameAtRow : OpenClaim := { program := "ytbogeelckgfaeaa", sum := "80c5bda74692b12353a29aba4239b93740164dc0c7d2926155a495d520d0e2da", func := "loop.example/g00417/laws.FnExactNameAt", spec := "fnExactNameAt", apart := false }
def FnExactNameAtSaid : Prop := fnExactNameAtRow.holds Try.pinned (OpenSpec.ofChange fnExactNameAtSpec)

/-- ITS FALSE NEIGHBOUR: 'it returns false'. Refute it at one input. -/
def fnExactNameAtWrong : ChangeSpec := { name := "fnExactNameAt", fn := fun _ => fun
  | [d1, d2] => { results := [.lit (.bool false)], args := [d1, d2] }
  | _ => none }
def FnExactNameAtWrongFalsely : Prop := fnExactNameAtRow.holds Try.pinned (OpenSpec.ofChange fnExactNameAtWrong)

/-- 'laws.FnExactLeafText': WHATEVER THE INPUT: true; the input reads as it did. -/
def fnExactLeafTextSpec : ChangeSpec := { name := "fnExactLeafText", fn := fun _ => fun
  | [d] => { results := [.lit (.bool true)], args := [d] }
  | _ => none }
def fnExactLeafTextRow : OpenClaim := { program := "ytbogeelckgfaeaa", sum := "80c5bda74692b12353a29aba4239b93740164dc0c7d2926155a495d520d0e2da", func := "loop.example/g00417/laws.FnExactLeafText", spec := "fnExactLeafText", apart := false }
def FnExactLeafTextSaid : Prop := fnExactLeafTextRow.holds Try.pinned (OpenSpec.ofChange fnExactLeafTextSpec)

/-- ITS FALSE NEIGHBOUR: 'it returns false'. Refute it at one input. -/
def fnExactLeafTextWrong : ChangeSpec := { name := "fnExactLeafText", fn := fun _ => fun
  | [d] => { results := [.lit (.bool false)], args := [d] }
  | _ => none }
def FnExactLeafTextWrongFalsely : Prop := fnExactLeafTextRow.holds Try.pinned (OpenSpec.ofChange fnExactLeafTextWrong)

/- THE SECOND FORM. 'bulk': how many values and letters a reading holds, each counted each time it is reached (what is shared counts as often as it is met; a slice's spare places count too). A statement '..UptoSaid' is the law's where the arguments, and the package variables that the reading takes, are together of bulk at most 1048576: NARROWER than '..Said'. Prove '..Said' where nothing that the law and all that it calls make is longer than what came in: it says more and counts as full. Else prove '..UptoSaid'. A law counts once. -/
mutual
def uptoBulk {H : Type} : DataW H → Nat
  | .lit (.string bytes) => bytes.length + 1
  | .lit _ => 1
  | .nil => 1
  | .ptr d => uptoBulk d + 1
  | .slice elems spare => uptoBulkAll elems + uptoBulkAll spare + 1
  | .agg parts => uptoBulkAll parts + 1
  | .iface _ d => uptoBulk d + 1
  | .map entries => uptoBulkEntries entries + 1
  | .held _ => 1
def uptoBulkAll {H : Type} : List (DataW H) → Nat
  | [] => 0
  | d :: r => uptoBulk d + uptoBulkAll r
def uptoBulkEntries {H : Type} : List (Lit × DataW H) → Nat
  | [] => 0
  | x :: r => uptoBulkEntry x + uptoBulkEntries r
def uptoBulkEntry {H : Type} : Lit × DataW H → Nat
  | (.string bytes, d) => bytes.length + uptoBulk d + 1
  | (_, d) => uptoBulk d + 1
 end
def uptoSmall : (H : Type) → List (DataW H) → Bool := fun _ ds => decide (uptoBulkAll ds ≤ 1048576)
def OpenSpec.upto (s : _root_.Go.ChangeSpec) : _root_.Go.OpenSpec := { _root_.Go.OpenSpec.ofChange s with cond := some uptoSmall }

/-- 'laws.FnExactIsPlace', WHERE WHAT IT READS IS OF BULK AT MOST 1048576: true; the input reads as it did. -/
def fnExactIsPlaceUptoRow : OpenClaim := { program := "ytbogeelckgfaeaa", sum := "80c5bda74692b12353a29aba4239b93740164dc0c7d2926155a495d520d0e2da", func := "loop.example/g00417/laws.FnExactIsPlace", spec := "fnExactIsPlace", apart := false, narrowed := true }
def FnExactIsPlaceUptoSaid : Prop := fnExactIsPlaceUptoRow.holds Try.pinned (OpenSpec.upto fnExactIsPlaceSpec)

/-- 'laws.FnExactIsOwn', WHERE WHAT IT READS IS OF BULK AT MOST 1048576: true; the input reads as it did. -/
def fnExactIsOwnUptoRow : OpenClaim := { program := "ytbogeelckgfaeaa", sum := "80c5bda74692b12353a29aba4239b93740164dc0c7d2926155a495d520d0e2da", func := "loop.example/g00417/laws.FnExactIsOwn", spec := "fnExactIsOwn", apart := false, narrowed := true }
def FnExactIsOwnUptoSaid : Prop := fnExactIsOwnUptoRow.holds Try.pinned (OpenSpec.upto fnExactIsOwnSpec)

/-- 'laws.FnExactIsWord', WHERE WHAT IT READS IS OF BULK AT MOST 1048576: true; the input reads as it did. -/
def fnExactIsWordUptoRow : OpenClaim := { program := "ytbogeelckgfaeaa", sum := "80c5bda74692b12353a29aba4239b93740164dc0c7d2926155a495d520d0e2da", func := "loop.example/g00417/laws.FnExactIsWord", spec := "fnExactIsWord", apart := false, narrowed := true }
def FnExactIsWordUptoSaid : Prop := fnExactIsWordUptoRow.holds Try.pinned (OpenSpec.upto fnExactIsWordSpec)

/-- 'laws.FnExactArity', WHERE WHAT IT READS IS OF BULK AT MOST 1048576: true; the input reads as it did. -/
def fnExactArityUptoRow : OpenClaim := { program := "ytbogeelckgfaeaa", sum := "80c5bda74692b12353a29aba4239b93740164dc0c7d2926155a495d520d0e2da", func := "loop.example/g00417/laws.FnExactArity", spec := "fnExactArity", apart := false, narrowed := true }
def FnExactArityUptoSaid : Prop := fnExactArityUptoRow.holds Try.pinned (OpenSpec.upto fnExactAritySpec)

/-- 'laws.FnExactNameAt', WHERE WHAT IT READS IS OF BULK AT MOST 1048576: true; the input reads as it did. -/
def fnExactNameAtUptoRow : OpenClaim := { program := "ytbogeelckgfaeaa", sum := "80c5bda74692b12353a29aba4239b93740164dc0c7d2926155a495d520d0e2da", func := "loop.example/g00417/laws.FnExactNameAt", spec := "fnExactNameAt", apart := false, narrowed := true }
def FnExactNameAtUptoSaid : Prop := fnExactNameAtUptoRow.holds Try.pinned (OpenSpec.upto fnExactNameAtSpec)

/-- 'laws.FnExactLeafText', WHERE WHAT IT READS IS OF BULK AT MOST 1048576: true; the input reads as it did. -/
def fnExactLeafTextUptoRow : OpenClaim := { program := "ytbogeelckgfaeaa", sum := "80c5bda74692b12353a29aba4239b93740164dc0c7d2926155a495d520d0e2da", func := "loop.example/g00417/laws.FnExactLeafText", spec := "fnExactLeafText", apart := false, narrowed := true }
def FnExactLeafTextUptoSaid : Prop := fnExactLeafTextUptoRow.holds Try.pinned (OpenSpec.upto fnExactLeafTextSpec)

end Rows
end Go.Proofs.Ytbogeelckgfaeaa
