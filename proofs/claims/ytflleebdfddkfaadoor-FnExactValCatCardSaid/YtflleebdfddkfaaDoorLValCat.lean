/-
  What is proved here: the given statement 'Rows.FnExactValCatCardSaid': the law FnExactValCat returns true at every input where the two tables of unicode/utf8 lie as the program's text lays them, and every argument reads behind the call as it read before. Conditions: none of ours.
-/
import Derived.Test.YtflleebdfddkfaaDoorBase
import Derived.Test.YtflleebdfddkfaaDoorTypes
import Derived.Test.YtflleebdfddkfaaDoorText
import Derived.Test.YtflleebdfddkfaaDoorWithin
import Derived.Test.YtflleebdfddkfaaDoorStr
import Derived.Test.YtflleebdfddkfaaDoorDv
import Derived.Test.YtflleebdfddkfaaDoorVal0
import Derived.Test.YtflleebdfddkfaaDoorNat
import Derived.Test.YtflleebdfddkfaaDoorShelfA
import Derived.Test.YtflleebdfddkfaaDoorTabs
import Derived.Test.YtflleebdfddkfaaDoorTextS
import Derived.Test.YtflleebdfddkfaaDoorRunesS
import Derived.Test.YtflleebdfddkfaaDoorRunesI
import Derived.Test.YtflleebdfddkfaaDoorValOk
import Derived.Test.YtflleebdfddkfaaDoorLen
import Derived.Test.YtflleebdfddkfaaDoorTextOf
import Derived.Test.YtflleebdfddkfaaDoorPart
import Derived.Test.YtflleebdfddkfaaDoorPartS
import Derived.Test.YtflleebdfddkfaaDoorNum
import Derived.Test.YtflleebdfddkfaaDoorZero
import Derived.Test.YtflleebdfddkfaaDoorDecText
import Derived.Test.YtflleebdfddkfaaDoorTabs3
import Derived.Test.YtflleebdfddkfaaDoorValText
import Derived.Test.YtflleebdfddkfaaDoorValCat
import Derived.Test.YtflleebdfddkfaaDoorValCatS
import Derived.Test.YtflleebdfddkfaaDoorValCatI
import Derived.Test.YtflleebdfddkfaaDoorWValCat
import Derived.Test.YtflleebdfddkfaaDoorCards
import Derived.Test.YtflleebdfddkfaaDoorTie
import Derived.ProofKit
import Derived.OpenShut
import Derived.ShutString
import Derived.ChangeOld
import Derived.Deep.DeepHandedRow
import Derived.Lib.LaidTab
namespace Go.Proofs.YtflleebdfddkfaaDoor.fnExactValCatLaw
open Go.ChangeShapes Go.WideShapes Go.ChangeAt Go.RowKit
theorem own : ownKnob Tryd.prog.godebug = none := by kernel_rfl
theorem laidOut : laidOutB Tryd.prog = true := by kernel_rfl
set_option maxRecDepth 100000 in
theorem contract (H : Type) (enc : TypeId × Value → H) (W : World) (base : Nat) (args : Array Value) (ds gs : List (DataW H)) (before : List MemPlace)
    (hval : ∀ (j : Nat) t v, Tryd.f7.params[j]? = some t → args[j]? = some v → Value.okWide Tryd.prog W .any base t v)
    (hW : DataW.Whole enc Tryd.prog Tryd.f7.params.toList Rows.fnExactValCatSpec.vars false W args.toList ds gs before) (hL : laidMetH Tryd.prog Rows.fnExactValCatRow.laid W) :
    Calls Tryd.prog 7 args W fun e W' => ∃ v, e = .returned v ∧ Rows.fnExactValCatSpec.post enc Tryd.prog Tryd.f7 false true false false W args v W' := by
  have hT : TP W := tp_of_list (l := Rows.fnExactValCatRow.laid) rfl (by kernel_rfl) (by kernel_rfl) (by kernel_rfl) (by kernel_rfl) rfl (by kernel_rfl) (by kernel_rfl) hL
  have hW' := hW
  obtain ⟨p, q, hA0, hV, rfl, hfz, hnd⟩ := hW
  have hA : DataW.TrodAll enc Tryd.prog W 0 (fun _ => true) true Tryd.f7.params.toList args.toList ds p := hA0
  rw [Tryd.params7] at hA hval
  obtain ⟨v0, vs0, d0, ds0, p0, q0, hargs, rfl, rfl, h0, r0⟩ := trodAll_cons hA
  obtain ⟨v1, vs1, d1, ds1, p1, q1, rfl, rfl, rfl, h1, r1⟩ := trodAll_cons r0
  obtain ⟨rfl, rfl, rfl⟩ := trodAll_nil r1
  obtain rfl : args = #[v0, v1] := by cases args; simp_all
  obtain ⟨rfl, rfl⟩ := trodVars_none hV
  have lt0 := trod_lt' h0
  obtain ⟨cs0, x0, rfl, hx0⟩ := arg_struct Tryd.underlying48 opens_48 (hval 0 48 v0 rfl rfl) h0
  have lt1 := trod_lt' h1
  obtain ⟨cs1, x1, rfl, hx1⟩ := arg_struct Tryd.underlying48 opens_48 (hval 1 48 v1 rfl rfl) h1
  clear hA0
  refine (fnExactValCat_walk W hT hx0 hx1).mono fun e W' ⟨he, bel⟩ => ?_
  subst he
  exact ⟨_, rfl, _, _, _, [], _, [], hW', trodAll_mk1 (shut_bool Tryd.underlying4 _), (trodAll_cons_mk (Below.trod laidOut (by kernel_rfl) (of_decide_eq_true (by kernel_rfl)) h0 bel lt0) (trodAll_cons_mk (Below.trod laidOut (by kernel_rfl) (of_decide_eq_true (by kernel_rfl)) h1 bel lt1) trodAll_mk0)), rfl, bel.frame _, fun h => by cases h⟩
/-- a world for the witness: the settled one, the two tables as their initialisers lay them -/
def setFirst : Obj → Obj
  | .cells _ t frozen => .cells ((Lib.firstTab.map fun z => Value.int .u8 z).toArray) t frozen
  | o => o
def setAccept : Obj → Obj
  | .cells _ t frozen => .cells (((List.range 16).flatMap fun i => [Value.int .u8 (Lib.accLo i : Int), Value.int .u8 (Lib.accHi i : Int)]).toArray) t frozen
  | o => o
def cellOf : DataW Unit → Value
  | .lit (.int k z) => .int k z
  | _ => undef
def setTab (d : DataW Unit) : Obj → Obj
  | .cells c t frozen => .cells (match d with | .agg ds => (ds.map cellOf).toArray | _ => c) t frozen
  | o => o
noncomputable def laidWorld (os : Os) : World :=
  { World.holding Tryd.prog os ⟨#[], #[], []⟩ with heap := (((((World.holding Tryd.prog os ⟨#[], #[], []⟩).heap.modify 0 setFirst).modify 1 setAccept).modify 3 (setTab Rows.laid_internal_strconv_uint64pow10)).modify 4 (setTab Rows.laid_math_bits_deBruijn32tab)).modify 5 (setTab Rows.laid_math_bits_deBruijn64tab) }
theorem laid_met (os : Os) : laidMet Tryd.prog Rows.fnExactValCatRow.laid ((laidWorld os).forCall (fun _ _ => 0) ⟨#[], #[.agg #[.int .i64 0, .bool false, .string ByteArray.empty, .int .i64 0, .string ByteArray.empty], .agg #[.int .i64 0, .bool false, .string ByteArray.empty, .int .i64 0, .string ByteArray.empty]], []⟩).memory :=
  laidMet_of_run' 8 (by kernel_rfl) (by kernel_rfl)
theorem reads (os : Os) {H : Type} (enc : TypeId × Value → H) : ∃ x, DataW.whole enc Tryd.prog ((laidWorld os).forCall (fun _ _ => 0) ⟨#[], #[.agg #[.int .i64 0, .bool false, .string ByteArray.empty, .int .i64 0, .string ByteArray.empty], .agg #[.int .i64 0, .bool false, .string ByteArray.empty, .int .i64 0, .string ByteArray.empty]], []⟩).memory Tryd.f7.params.toList Rows.fnExactValCatSpec.vars false (#[.agg #[.int .i64 0, .bool false, .string ByteArray.empty, .int .i64 0, .string ByteArray.empty], .agg #[.int .i64 0, .bool false, .string ByteArray.empty, .int .i64 0, .string ByteArray.empty]] : Array Value).toList 8 = some x :=
  Option.isSome_iff_exists.1 (by kernel_rfl)
set_option maxRecDepth 100000 in
theorem lifted (os : Os) (started : os.Started) (H : Type) (enc : TypeId × Value → H) (F : Stop.Interp) :
    ReturnsInHanded {} Tryd.checked os 7 .any ((OpenSpec.ofChange Rows.fnExactValCatSpec).preRow enc Tryd.prog Tryd.f7 Rows.fnExactValCatRow.domain false Rows.fnExactValCatRow.laid) (((OpenSpec.ofChange Rows.fnExactValCatSpec).at F).post enc Tryd.prog Tryd.f7 false true false false) := by
  obtain ⟨x, hx⟩ := reads os enc
  refine returnsInHanded_of_row (C := Tryd.checked) (s := OpenSpec.ofChange Rows.fnExactValCatSpec) own started (by kernel_rfl) Tryd.func7
    (witness_row_at (enc := enc) (C := Tryd.checked) false (laidWorld os) #[.agg #[.int .i64 0, .bool false, .string ByteArray.empty, .int .i64 0, .string ByteArray.empty], .agg #[.int .i64 0, .bool false, .string ByteArray.empty, .int .i64 0, .string ByteArray.empty]] rfl (by kernel_rfl) (by kernel_rfl) (by kernel_rfl)
      (OpenSpec.preRow_of_cond 8 hx (by rfl) (fun k hk => by cases hk) (by kernel_rfl) (laid_met os))) ?_
  intro W base args ds gs before hval hW _ _ _ hL _ _
  exact contract H enc W base args ds gs before hval hW hL
theorem over : Rows.FnExactValCatSaid :=
  OpenClaim.holds_of_cond 7 Tryd.f7 rfl rfl rfl rfl rfl rfl rfl ⟨rfl, rfl, rfl, rfl, rfl⟩ rfl rfl rfl rfl rfl (by kernel_rfl) Tryd.func7 (by kernel_rfl)
    (of_decide_eq_true (by kernel_rfl)) (by unfold Func.isWrapper; first | (rw [if_pos (by decide +kernel)]; kernel_rfl) | (rw [if_neg (by decide +kernel)]; exact ⟨rfl, rfl⟩))
    (fun os started H enc _ F => by rw [OpenClaim.pre_eq_preRow]; exact lifted os started H enc F)
theorem plain (f : FuncId) (fn : Func) (hf : Tryd.pinned.checked.prog.funcNamed "loop.example/g00417/laws.FnExactValCat" = some f) (hfn : Tryd.pinned.checked.prog.funcs[f]? = some fn) :
    false = Tryd.pinned.checked.prog.looks [] ∧ ∀ (j : Nat) t, fn.params[j]? = some t → Tryd.pinned.checked.prog.wantsStandIn t = false := by
  obtain rfl : f = 7 := Option.some.inj ((show Tryd.prog.funcNamed "loop.example/g00417/laws.FnExactValCat" = some 7 by kernel_rfl).symm.trans hf) |>.symm
  obtain rfl : fn = Tryd.f7 := (Option.some.inj (Tryd.func7.symm.trans hfn)).symm
  refine ⟨by kernel_rfl, fun j t ht => ?_⟩
  rw [Tryd.params7] at ht
  have hm : t ∈ ([48, 48] : List TypeId) := by simpa using Array.mem_of_getElem? ht
  have key : ∀ t, t ∈ ([48, 48] : List TypeId) → Tryd.prog.wantsStandIn t = false := by
    have s48 : Tryd.prog.wantsStandIn 48 = false := by kernel_rfl
    intro t hm
    simp only [List.mem_cons, List.not_mem_nil, or_false] at hm
    rcases hm with rfl | rfl
    · exact s48
    · exact s48
  exact key t hm
theorem card : Rows.FnExactValCatCardSaid :=
  Claim7.holds_tied_plain_at .later [] _ _ _ _ over (fun _ h => by cases h) (by kernel_rfl) (fun _ h => by cases h) fnExactValCat_row_tie rfl ⟨rfl, rfl⟩ (by kernel_rfl) rfl plain (by kernel_rfl)
end Go.Proofs.YtflleebdfddkfaaDoor.fnExactValCatLaw
namespace Go.Proofs.YtflleebdfddkfaaDoor
theorem fnExactValCat_holds : Rows.FnExactValCatCardSaid := fnExactValCatLaw.card
#print axioms fnExactValCat_holds
end Go.Proofs.YtflleebdfddkfaaDoor
