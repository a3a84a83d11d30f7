/-
  What is proved here: plain laws on JSON: words, values, lists and objects by level, a line. No program in sight; no condition.
-/
import Derived.Test.YtlfkfofeenakhaaDoorJsL3
import Derived.Test.YtlfkfofeenakhaaDoorTypes
import Derived.Test.YtlfkfofeenakhaaDoorValOk
namespace Go.Proofs.YtlfkfofeenakhaaDoor
open Go.RowKit
set_option linter.unusedVariables false
set_option linter.unusedSimpArgs false

inductive JR where
  | er (c p : Nat)
  | ok (kid j b : Nat) (ns : List JNode)
/-- a word: was it there, the place behind it or of the fault -/
def wordE (L : List UInt8) : List Nat → Nat → Bool × Nat
  | [], p => (true, p)
  | c :: r, p => if gB L p = c then wordE L r (p + 1) else (false, p)
def putN (n : JNode) (j b : Nat) (ns : List JNode) : JR := .ok ns.length j b (ns ++ [n])
def wordR (L : List UInt8) (p : Nat) (wd : List Nat) (k : Int) (b : Nat) (ns : List JNode) : JR := if (wordE L wd p).1 = true then putN ⟨k, ⟨#[]⟩, [], []⟩ (wordE L wd p).2 b ns else .er 2 (wordE L wd p).2
def isVal (c : Nat) : Bool := c == 110 || c == 116 || c == 102 || c == 34 || c == 45 || dgB c || c == 91 || c == 123
/-- a value off a place -/
def valG (L : List UInt8) (grp : Nat → Nat → Nat → List JNode → JR) (p b : Nat) (ns : List JNode) : JR :=
  if isVal (gB L p) = false then .er 2 p
  else if b = 200 then .er 5 p
  else if gB L p = 110 then wordR L p [110, 117, 108, 108] 1 (b + 1) ns
  else if gB L p = 116 then wordR L p [116, 114, 117, 101] 2 (b + 1) ns
  else if gB L p = 102 then wordR L p [102, 97, 108, 115, 101] 3 (b + 1) ns
  else if gB L p = 34 then (if (strP L p).1 = true then putN ⟨5, mkB (strP L p).2.2, [], []⟩ (strP L p).2.1 (b + 1) ns else .er 2 (strP L p).2.1)
  else if gB L p = 91 ∨ gB L p = 123 then grp (gB L p) p (b + 1) ns
  else if (numJ L p).1 = true then putN ⟨4, mkB ((L.drop p).take ((numJ L p).2 - p)), [], []⟩ (numJ L p).2 (b + 1) ns else .er 2 (numJ L p).2
/-- behind a member's value: the end, or the next -/
def grpN (L : List UInt8) (o e : Nat) (nxt : Nat → Nat → List JNode → List ByteArray → List Int → JR) (r : JR) (keys : List ByteArray) (kids : List Int) : JR :=
  match r with
  | .er c p => .er c p
  | .ok kid j b ns =>
    if gB L (skB L j) = e then putN ⟨if o = 123 then 7 else 6, ⟨#[]⟩, keys, kids ++ [(kid : Int)]⟩ (skB L j + 1) b ns
    else if gB L (skB L j) = 44 then nxt (skB L (skB L j + 1)) b ns keys (kids ++ [(kid : Int)])
    else .er 2 (skB L j)
/-- is a key there? -/
def hasK (keys : List ByteArray) (t : List UInt8) : Bool := keys.any fun k => k.data.toList == t
/-- the members of a list or an object -/
def grpG (L : List UInt8) (val : Nat → Nat → List JNode → JR) (o e : Nat) : Nat → Nat → Nat → List JNode → List ByteArray → List Int → JR
  | 0, q, _, _, _, _ => .er 2 q
  | f + 1, q, b, ns, keys, kids =>
    if o = 123 then
      if gB L q ≠ 34 then .er 2 q
      else if (strP L q).1 = false then .er 2 (strP L q).2.1
      else if hasK keys (strP L q).2.2 = true then .er 4 q
      else if gB L (skB L (strP L q).2.1) ≠ 58 then .er 2 (skB L (strP L q).2.1)
      else grpN L o e (grpG L val o e f) (val (skB L (skB L (strP L q).2.1 + 1)) b ns) (keys ++ [mkB (strP L q).2.2]) kids
    else grpN L o e (grpG L val o e f) (val q b ns) keys kids
def endOf (o : Nat) : Nat := if o = 123 then 125 else 93
def grpB (L : List UInt8) (val : Nat → Nat → List JNode → JR) (o p b : Nat) (ns : List JNode) : JR :=
  if gB L (skB L (p + 1)) = endOf o then putN ⟨if o = 123 then 7 else 6, ⟨#[]⟩, [], []⟩ (skB L (p + 1) + 1) b ns
  else grpG L val o (endOf o) (L.length + 1) (skB L (p + 1)) b ns [] []
/-- so many levels more -/
def grpL (L : List UInt8) : Nat → Nat → Nat → Nat → List JNode → JR
  | 0, _, p, _, _ => .er 3 p
  | v + 1, o, p, b, ns => grpB L (valG L (grpL L v)) o p b ns
/-- a line: the nodes, a place, a code -/
def jrdP (s : ByteArray) : List JNode × Nat × Nat :=
  if okText s = true then
    match valG s.data.toList (grpL s.data.toList 8) (skB s.data.toList 0) 0 [] with
    | .er c p => ([], p, c)
    | .ok _ j _ ns => if skB s.data.toList j < s.size then ([], skB s.data.toList j, 2) else (ns, 0, 0)
  else ([], 0, 1)
/-- a reading goes on, keeps what was read, and counts what it began -/
def FwJ (L : List UInt8) (r : JR) (p b : Nat) (ns : List JNode) : Prop :=
  match r with
  | .er _ _ => True
  | .ok kid j b' ns' => p < j ∧ j ≤ L.length ∧ kid + 1 = ns'.length ∧ ns.length < ns'.length ∧ b < b' ∧ b' ≤ 200 ∧ ns'.length + b ≤ ns.length + b'
theorem wordE_in (L : List UInt8) : ∀ (wd : List Nat) (p : Nat), (∀ c ∈ wd, c ≠ 0) → p ≤ L.length → p ≤ (wordE L wd p).2 ∧ (wordE L wd p).2 ≤ L.length ∧ ((wordE L wd p).1 = true → (wordE L wd p).2 = p + wd.length)
  | [], p, _, hp => ⟨Nat.le_refl _, hp, fun _ => rfl⟩
  | c :: r, p, hc, hp => by
    rw [wordE]
    by_cases h : gB L p = c
    · rw [if_pos h]
      have hlt : p < L.length := gB_lt (by rw [h]; exact hc c (by simp))
      have ih := wordE_in L r (p + 1) (fun x hx => hc x (by simp [hx])) hlt
      exact ⟨by omega, ih.2.1, fun e => by rw [ih.2.2 e, List.length_cons]; omega⟩
    · rw [if_neg h]
      exact ⟨Nat.le_refl _, hp, fun e => by cases e⟩
end Go.Proofs.YtlfkfofeenakhaaDoor
