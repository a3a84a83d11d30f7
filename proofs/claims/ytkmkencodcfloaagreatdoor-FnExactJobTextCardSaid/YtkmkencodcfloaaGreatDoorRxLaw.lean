/-
  What is proved here: plain laws on the reading of a pattern, as a function on code points. No program in sight; no condition.
-/
import Derived.Test.YtkmkencodcfloaaGreatDoorTypes
namespace Go.Proofs.YtkmkencodcfloaaGreatDoor
open Go.RowKit
set_option linter.unusedVariables false
set_option linter.unusedSimpArgs false

def gN (l : List Nat) (i : Nat) : Nat := l.getD i 0
def timesN (c : Nat) : Bool := c == 42 || c == 43 || c == 63 || c == 123
def digN (c : Nat) : Bool := decide (48 ≤ c) && decide (c ≤ 57)
def runD (l : List Nat) (i : Nat) : List Nat := (l.drop i).takeWhile digN
def valNd (ds : List Nat) : Nat := ds.foldl (fun n c => 10 * n + (c - 48)) 0
/-- a number of at most 60 at a place, and where it ends -/
def numAt (l : List Nat) (i : Nat) : Option (Nat × Nat) :=
  if (runD l i).length = 0 ∨ 60 < valNd (runD l i) ∨ (gN l i = 48 ∧ 1 < (runD l i).length) then none else some (valNd (runD l i), i + (runD l i).length)
/-- how often, off what stands at a place; and where it ends -/
def timesAt (l : List Nat) (i : Nat) : Option (Int × Int × Nat) :=
  if gN l i = 42 then some (0, -1, i + 1) else if gN l i = 43 then some (1, -1, i + 1) else if gN l i = 63 then some (0, 1, i + 1)
  else match numAt l (i + 1) with
    | none => none
    | some (lo, k) =>
      if gN l k = 44 then
        if gN l (k + 1) = 125 then some (lo, -1, k + 2)
        else match numAt l (k + 1) with
          | none => none
          | some (hi, m) => if hi < lo then none else if gN l m = 125 then some (lo, hi, m + 1) else none
      else if gN l k = 125 then some (lo, lo, k + 1) else none
/-- what a backslash at a place stands for -/
def escAt (l : List Nat) (i : Nat) : Option Nat :=
  if gN l (i + 1) = 110 then some 10 else if gN l (i + 1) = 116 then some 9 else if gN l (i + 1) = 114 then some 13
  else if gN l (i + 1) = 0 ∨ (48 ≤ gN l (i + 1) ∧ gN l (i + 1) ≤ 57) ∨ (65 ≤ gN l (i + 1) ∧ gN l (i + 1) ≤ 90) ∨ (97 ≤ gN l (i + 1) ∧ gN l (i + 1) ≤ 122) then none
  else some (gN l (i + 1))
def classOf (nm : List Nat) : List Int :=
  if nm = [97, 108, 112, 104, 97] then [65, 90, 97, 122] else if nm = [100, 105, 103, 105, 116] then [48, 57] else if nm = [97, 108, 110, 117, 109] then [48, 57, 65, 90, 97, 122]
  else if nm = [117, 112, 112, 101, 114] then [65, 90] else if nm = [108, 111, 119, 101, 114] then [97, 122] else if nm = [115, 112, 97, 99, 101] then [9, 13, 32, 32]
  else if nm = [98, 108, 97, 110, 107] then [9, 9, 32, 32] else if nm = [112, 117, 110, 99, 116] then [33, 47, 58, 64, 91, 96, 123, 126] else if nm = [120, 100, 105, 103, 105, 116] then [48, 57, 65, 70, 97, 102] else []
/-- an answer: a code and a place, or a node and a place and the nodes -/
inductive RR where
  | er (code at_ : Nat)
  | ok (kid at_ : Nat) (nodes : List RxNode)
inductive IR where
  | er (code at_ : Nat)
  | ok (set : List Int) (at_ : Nat)
def oneAt (l : List Nat) (i : Nat) : Option (Nat × Nat) :=
  if gN l i = 92 then (match escAt l i with | none => none | some c => some (c, i + 2)) else some (gN l i, i + 1)
def nameAtC (l : List Nat) (i : Nat) : List Nat := (l.drop i).takeWhile (fun c => c != 58)
def itemAt (l : List Nat) (i : Nat) : IR :=
  if gN l i = 91 ∧ gN l (i + 1) = 58 then
    if classOf (nameAtC l (i + 2)) = [] ∨ ¬ (gN l (i + 2 + (nameAtC l (i + 2)).length) = 58 ∧ gN l (i + 2 + (nameAtC l (i + 2)).length + 1) = 93) then .er 4 0
    else .ok (classOf (nameAtC l (i + 2))) (i + 2 + (nameAtC l (i + 2)).length + 2)
  else match oneAt l i with
    | none => .er 6 i
    | some (lo, j) =>
      if ¬ gN l j = 45 ∨ gN l (j + 1) = 93 ∨ gN l (j + 1) = 0 then .ok [(lo : Int), (lo : Int)] j
      else match oneAt l (j + 1) with
        | none => .er 6 (j + 1)
        | some (hi, m) => if hi < lo then .er 4 0 else .ok [(lo : Int), (hi : Int)] m
/-- a bracket's items up to its end -/
def setGo (l : List Nat) (first : Nat) : Nat → Nat → List Int → IR
  | 0, _, _ => .er 4 first
  | f + 1, i, set =>
    if ¬ set = [] ∧ gN l i = 93 then .ok set (i + 1)
    else if l.length ≤ i then .er 4 first
    else match itemAt l i with
      | .er c p => if c = 4 then .er 4 first else .er c p
      | .ok s j => setGo l first f j (set ++ s)
def putR (n : RxNode) (i : Nat) (ns : List RxNode) : RR := .ok ns.length i (ns ++ [n])
def negAt (l : List Nat) (i : Nat) : Bool := gN l (i + 1) == 94
def bodyAt (l : List Nat) (i : Nat) : Nat := if negAt l i = true then i + 2 else i + 1
def bracketP (l : List Nat) (i : Nat) (ns : List RxNode) : RR :=
  match setGo l i (l.length + 1 - bodyAt l i) (bodyAt l i) [] with
  | .er c p => .er c p
  | .ok s j => putR ⟨4, 0, 0, negAt l i, s, []⟩ j ns
def signOf (c : Nat) : Int := if c = 46 then 3 else if c = 94 then 5 else 6
def atomP (l : List Nat) (grp : Nat → List RxNode → RR) (i : Nat) (ns : List RxNode) : RR :=
  if gN l i = 40 then grp i ns
  else if gN l i = 91 then bracketP l i ns
  else if gN l i = 92 then (match escAt l i with | none => .er 6 i | some c => putR ⟨2, c, 0, false, [], []⟩ (i + 2) ns)
  else if gN l i = 46 ∨ gN l i = 94 ∨ gN l i = 36 then putR ⟨signOf (gN l i), 0, 0, false, [], []⟩ (i + 1) ns
  else putR ⟨2, gN l i, 0, false, [], []⟩ (i + 1) ns
def pieceP (l : List Nat) (grp : Nat → List RxNode → RR) (i : Nat) (ns : List RxNode) : RR :=
  if timesN (gN l i) = true then .er 5 i
  else match atomP l grp i ns with
    | .er c p => .er c p
    | .ok kid j ns1 =>
      if timesN (gN l j) = true then
        match timesAt l j with
        | none => .er 5 j
        | some (lo, hi, k) => if timesN (gN l k) = true then .er 5 k else putR ⟨9, lo, hi, false, [], [(kid : Int)]⟩ k ns1
      else .ok kid j ns1
def ints (l : List Nat) : List Int := l.map fun (n : Nat) => (n : Int)
def endRow (kids : List Nat) (i : Nat) (ns : List RxNode) : RR :=
  match kids with
  | [] => putR ⟨1, 0, 0, false, [], []⟩ i ns
  | [k] => .ok k i ns
  | k :: k2 :: r => putR ⟨7, 0, 0, false, [], ints (k :: k2 :: r)⟩ i ns
def rowGo (l : List Nat) (grp : Nat → List RxNode → RR) : Nat → Nat → List RxNode → List Nat → RR
  | 0, i, _, _ => .er 0 i
  | f + 1, i, ns, kids =>
    if gN l i = 0 ∨ gN l i = 124 ∨ gN l i = 41 then endRow kids i ns
    else match pieceP l grp i ns with
      | .er c p => .er c p
      | .ok kid j ns1 => rowGo l grp f j ns1 (kids ++ [kid])
def endAlt (kids : List Nat) (i : Nat) (ns : List RxNode) : RR :=
  match kids with
  | [] => .er 0 i
  | [k] => .ok k i ns
  | k :: k2 :: r => putR ⟨8, 0, 0, false, [], ints (k :: k2 :: r)⟩ i ns
def rowP (l : List Nat) (grp : Nat → List RxNode → RR) (i : Nat) (ns : List RxNode) : RR := rowGo l grp (l.length + 1 - i) i ns []
def altsGo (l : List Nat) (grp : Nat → List RxNode → RR) : Nat → Nat → List RxNode → List Nat → RR
  | 0, i, _, _ => .er 0 i
  | f + 1, i, ns, kids =>
    match rowP l grp i ns with
    | .er c p => .er c p
    | .ok kid j ns1 => if gN l j = 124 then altsGo l grp f (j + 1) ns1 (kids ++ [kid]) else endAlt (kids ++ [kid]) j ns1
def altsP (l : List Nat) (grp : Nat → List RxNode → RR) (i : Nat) (ns : List RxNode) : RR := altsGo l grp (l.length + 1 - i) i ns []
/-- what stands in parentheses, so many levels deep may it still be -/
def grpP (l : List Nat) : Nat → Nat → List RxNode → RR
  | 0, i, _ => .er 3 i
  | v + 1, i, ns =>
    match altsP l (grpP l v) (i + 1) ns with
    | .er c p => .er c p
    | .ok kid j ns1 => if gN l j = 41 then .ok kid (j + 1) ns1 else .er 2 j

/-! ### How far it comes, and how many nodes there are -/
theorem gN_lt {l : List Nat} {i : Nat} (h : ¬ gN l i = 0) : i < l.length := by
  rcases Nat.lt_or_ge i l.length with h1 | h1
  · exact h1
  · exfalso
    apply h
    unfold gN
    rw [List.getD_eq_getElem?_getD, List.getElem?_eq_none h1]
    rfl
theorem gN_at {l : List Nat} {i : Nat} (h : i < l.length) : gN l i = l[i] := by
  unfold gN
  rw [List.getD_eq_getElem?_getD, List.getElem?_eq_getElem h]
  rfl
theorem gN_end {l : List Nat} {i : Nat} (h : l.length ≤ i) : gN l i = 0 := by
  unfold gN
  rw [List.getD_eq_getElem?_getD, List.getElem?_eq_none h]
  rfl
theorem runD_len (l : List Nat) (i : Nat) : (runD l i).length ≤ l.length - i := by
  unfold runD
  exact Nat.le_trans (List.Sublist.length_le (List.takeWhile_sublist _)) (by rw [List.length_drop]; exact Nat.le_refl _)
theorem numAt_in {l : List Nat} {i n k : Nat} (h : numAt l i = some (n, k)) : i < k ∧ k ≤ l.length ∧ n ≤ 60 := by
  have hl := runD_len l i
  unfold numAt at h
  split at h
  · cases h
  · rename_i hc
    injection h with h
    injection h with h1 h2
    omega
theorem timesAt_in {l : List Nat} {i k : Nat} {lo hi : Int} (h : timesAt l i = some (lo, hi, k)) : i < k ∧ k ≤ l.length ∧ -1 ≤ lo ∧ lo ≤ 60 ∧ -1 ≤ hi ∧ hi ≤ 60 := by
  unfold timesAt at h
  split at h
  · rename_i h1; injection h with h; injection h with a b; injection b with b c
    have := gN_lt (l := l) (i := i) (by omega); omega
  split at h
  · rename_i h1; injection h with h; injection h with a b; injection b with b c
    have := gN_lt (l := l) (i := i) (by omega); omega
  split at h
  · rename_i h1; injection h with h; injection h with a b; injection b with b c
    have := gN_lt (l := l) (i := i) (by omega); omega
  split at h
  · cases h
  · rename_i n k1 hn
    have h2 := numAt_in hn
    split at h
    · rename_i h44
      split at h
      · rename_i h125
        have := gN_lt (l := l) (i := k1 + 1) (by omega)
        injection h with h; injection h with a b; injection b with b c
        omega
      · split at h
        · cases h
        · rename_i m k2 hm
          have h3 := numAt_in hm
          split at h
          · cases h
          · split at h
            · rename_i h125
              have := gN_lt (l := l) (i := k2) (by omega)
              injection h with h; injection h with a b; injection b with b c
              omega
            · cases h
    · split at h
      · rename_i h125
        have := gN_lt (l := l) (i := k1) (by omega)
        injection h with h; injection h with a b; injection b with b c
        omega
      · cases h
theorem escAt_in {l : List Nat} {i c : Nat} (h : escAt l i = some c) : i + 2 ≤ l.length := by
  have key : ¬ gN l (i + 1) = 0 := by
    intro h0
    unfold escAt at h
    rw [h0] at h
    simp at h
  exact gN_lt key
theorem oneAt_in {l : List Nat} {i c k : Nat} (hi : i < l.length) (h : oneAt l i = some (c, k)) : i < k ∧ k ≤ l.length ∧ k ≤ i + 2 := by
  unfold oneAt at h
  split at h
  · split at h
    · cases h
    · rename_i x hx
      have := escAt_in hx
      injection h with h; injection h with a b
      omega
  · injection h with h; injection h with a b
    omega
theorem classOf_len (nm : List Nat) : (classOf nm).length ≤ 8 := by
  unfold classOf
  repeat' split
  all_goals decide
theorem itemAt_in {l : List Nat} {i k : Nat} {s : List Int} (hi : i < l.length) (h : itemAt l i = .ok s k) : i < k ∧ k ≤ l.length ∧ s ≠ [] ∧ s.length ≤ 8 := by
  unfold itemAt at h
  split at h
  · split at h
    · cases h
    · rename_i h1 h2
      simp only [not_or, Decidable.not_not] at h2
      injection h with a b
      have h3 := gN_lt (l := l) (i := i + 2 + (nameAtC l (i + 2)).length + 1) (by omega)
      have h4 := classOf_len (nameAtC l (i + 2))
      subst a
      exact ⟨by omega, by omega, h2.1, h4⟩
  · split at h
    · cases h
    · rename_i lo j hj
      have h1 := oneAt_in hi hj
      split at h
      · injection h with a b
        subst a
        exact ⟨by omega, by omega, by simp, by simp⟩
      · rename_i hc
        simp only [not_or, Decidable.not_not] at hc
        have h2 := gN_lt (l := l) (i := j + 1) (by omega)
        split at h
        · cases h
        · rename_i hi2 m hm
          have h3 := oneAt_in h2 hm
          split at h
          · cases h
          · injection h with a b
            subst a
            exact ⟨by omega, by omega, by simp, by simp⟩
theorem setGo_in {l : List Nat} {first : Nat} : ∀ {f i k : Nat} {set s : List Int}, i ≤ l.length → setGo l first f i set = .ok s k → i < k ∧ k ≤ l.length ∧ s.length + 8 * i ≤ set.length + 8 * k
  | 0, _, _, _, _, _, h => by cases h
  | f + 1, i, k, set, s, hi, h => by
    rw [setGo] at h
    split at h
    · rename_i hc
      have := gN_lt (l := l) (i := i) (by omega)
      injection h with a b
      subst a
      omega
    · split at h
      · cases h
      · split at h
        · split at h <;> cases h
        · rename_i s1 j hj
          have h1 := itemAt_in (by omega) hj
          have h2 := setGo_in h1.2.1 h
          rw [List.length_append] at h2
          omega
/-- a reader comes forward, and makes no more than so many nodes -/
def Fwd (l : List Nat) (c : Nat) (p : Nat → List RxNode → RR) : Prop := ∀ i ns kid j ns1, i ≤ l.length → p i ns = .ok kid j ns1 → i ≤ j ∧ j ≤ l.length ∧ kid < ns1.length ∧ ns.length ≤ ns1.length ∧ ns1.length + 4 * i ≤ ns.length + 4 * j + c
/-- it comes forward by one at least -/
def Fwd1 (l : List Nat) (p : Nat → List RxNode → RR) : Prop := ∀ i ns kid j ns1, i < l.length → p i ns = .ok kid j ns1 → i < j ∧ j ≤ l.length ∧ kid < ns1.length ∧ ns.length ≤ ns1.length ∧ ns1.length + 4 * i ≤ ns.length + 4 * j
theorem putR_in {n : RxNode} {i kid j : Nat} {ns ns1 : List RxNode} (h : putR n i ns = .ok kid j ns1) : kid = ns.length ∧ j = i ∧ ns1 = ns ++ [n] := by
  unfold putR at h
  injection h with a b c
  exact ⟨a.symm, b.symm, c.symm⟩
theorem bodyAt_in {l : List Nat} {i : Nat} (h : i < l.length) : i < bodyAt l i ∧ bodyAt l i ≤ l.length := by
  unfold bodyAt
  split
  · rename_i hn
    unfold negAt at hn
    have : gN l (i + 1) = 94 := by simpa using hn
    have := gN_lt (l := l) (i := i + 1) (by omega)
    omega
  · omega
theorem bracketP_in (l : List Nat) : Fwd1 l (bracketP l) := by
  intro i ns kid j ns1 hi h
  unfold bracketP at h
  have hb := bodyAt_in hi
  split at h
  · cases h
  · rename_i s k hs
    have h1 := setGo_in hb.2 hs
    obtain ⟨rfl, rfl, rfl⟩ := putR_in h
    simp only [List.length_append, List.length_singleton]
    omega
theorem atomP_in {l : List Nat} {grp : Nat → List RxNode → RR} (hg : Fwd1 l grp) : Fwd1 l (atomP l grp) := by
  intro i ns kid j ns1 hi h
  unfold atomP at h
  split at h
  · exact hg i ns kid j ns1 hi h
  split at h
  · exact bracketP_in l i ns kid j ns1 hi h
  split at h
  · split at h
    · cases h
    · rename_i c hc
      have := escAt_in hc
      obtain ⟨rfl, rfl, rfl⟩ := putR_in h
      simp only [List.length_append, List.length_singleton]
      omega
  split at h
  all_goals
    obtain ⟨rfl, rfl, rfl⟩ := putR_in h
    simp only [List.length_append, List.length_singleton]
    omega
theorem pieceP_in {l : List Nat} {grp : Nat → List RxNode → RR} (hg : Fwd1 l grp) : Fwd1 l (pieceP l grp) := by
  intro i ns kid j ns1 hi h
  unfold pieceP at h
  split at h
  · cases h
  split at h
  · cases h
  · rename_i kid1 j1 ns2 ha
    have h1 := atomP_in hg i ns _ _ _ hi ha
    split at h
    · split at h
      · cases h
      · rename_i lo hi2 k ht
        have h2 := timesAt_in ht
        split at h
        · cases h
        · obtain ⟨rfl, rfl, rfl⟩ := putR_in h
          simp only [List.length_append, List.length_singleton]
          omega
    · injection h with a b c
      subst a b c
      exact h1
theorem endRow_in {kids : List Nat} {i kid j : Nat} {ns ns1 : List RxNode} (hk : ∀ k ∈ kids, k < ns.length) (h : endRow kids i ns = .ok kid j ns1) : j = i ∧ kid < ns1.length ∧ ns.length ≤ ns1.length ∧ ns1.length ≤ ns.length + 1 := by
  unfold endRow at h
  split at h
  · obtain ⟨rfl, rfl, rfl⟩ := putR_in h
    simp
  · rename_i k
    injection h with a b c
    subst a b c
    exact ⟨rfl, hk _ (by simp), Nat.le_refl _, by omega⟩
  · obtain ⟨rfl, rfl, rfl⟩ := putR_in h
    simp
theorem endAlt_in {kids : List Nat} {i kid j : Nat} {ns ns1 : List RxNode} (hk : ∀ k ∈ kids, k < ns.length) (h : endAlt kids i ns = .ok kid j ns1) : j = i ∧ kid < ns1.length ∧ ns.length ≤ ns1.length ∧ ns1.length ≤ ns.length + 1 := by
  unfold endAlt at h
  split at h
  · cases h
  · rename_i k
    injection h with a b c
    subst a b c
    exact ⟨rfl, hk _ (by simp), Nat.le_refl _, by omega⟩
  · obtain ⟨rfl, rfl, rfl⟩ := putR_in h
    simp
/-- where a row ends -/
def stopN (c : Nat) : Prop := c = 0 ∨ c = 124 ∨ c = 41
theorem rowGo_in {l : List Nat} {grp : Nat → List RxNode → RR} (hg : Fwd1 l grp) : ∀ f i ns kids kid j ns1, i ≤ l.length → (∀ k ∈ kids, k < ns.length) → rowGo l grp f i ns kids = .ok kid j ns1 →
    i ≤ j ∧ j ≤ l.length ∧ kid < ns1.length ∧ ns.length ≤ ns1.length ∧ ns1.length + 4 * i ≤ ns.length + 4 * j + 1 ∧ stopN (gN l j)
  | 0, _, _, _, _, _, _, _, _, h => by cases h
  | f + 1, i, ns, kids, kid, j, ns1, hi, hk, h => by
    rw [rowGo] at h
    split at h
    · rename_i hs
      have h1 := endRow_in hk h
      obtain ⟨rfl, h2, h3, h4⟩ := h1
      exact ⟨Nat.le_refl _, hi, h2, h3, by omega, hs⟩
    · rename_i hs
      split at h
      · cases h
      · rename_i kid1 j1 ns2 hp
        have h1 := pieceP_in hg i ns _ _ _ (gN_lt (fun h0 => hs (Or.inl h0))) hp
        have h2 := rowGo_in hg f j1 ns2 (kids ++ [kid1]) kid j ns1 h1.2.1 (fun k hk1 => by
          rcases List.mem_append.1 hk1 with hk1 | hk1
          · have := hk k hk1; omega
          · rw [List.mem_singleton.1 hk1]; exact h1.2.2.1) h
        exact ⟨by omega, h2.2.1, h2.2.2.1, by omega, by omega, h2.2.2.2.2.2⟩
theorem rowP_in {l : List Nat} {grp : Nat → List RxNode → RR} (hg : Fwd1 l grp) {i : Nat} {ns ns1 : List RxNode} {kid j : Nat} (hi : i ≤ l.length) (h : rowP l grp i ns = .ok kid j ns1) :
    i ≤ j ∧ j ≤ l.length ∧ kid < ns1.length ∧ ns.length ≤ ns1.length ∧ ns1.length + 4 * i ≤ ns.length + 4 * j + 1 ∧ stopN (gN l j) :=
  rowGo_in hg _ i ns [] kid j ns1 hi (fun k hk => absurd hk (by simp)) h
theorem altsGo_in {l : List Nat} {grp : Nat → List RxNode → RR} (hg : Fwd1 l grp) : ∀ f i ns kids kid j ns1, i ≤ l.length → (∀ k ∈ kids, k < ns.length) → altsGo l grp f i ns kids = .ok kid j ns1 →
    i ≤ j ∧ j ≤ l.length ∧ kid < ns1.length ∧ ns.length ≤ ns1.length ∧ ns1.length + 4 * i ≤ ns.length + 4 * j + 2 ∧ (gN l j = 0 ∨ gN l j = 41)
  | 0, _, _, _, _, _, _, _, _, h => by cases h
  | f + 1, i, ns, kids, kid, j, ns1, hi, hk, h => by
    rw [altsGo] at h
    split at h
    · cases h
    · rename_i kid1 j1 ns2 hp
      have h1 := rowP_in hg hi hp
      have hk2 : ∀ k ∈ kids ++ [kid1], k < ns2.length := fun k hk1 => by
        rcases List.mem_append.1 hk1 with hk1 | hk1
        · have := hk k hk1; omega
        · rw [List.mem_singleton.1 hk1]; exact h1.2.2.1
      split at h
      · rename_i hb
        have hj := gN_lt (l := l) (i := j1) (by omega)
        have h2 := altsGo_in hg f (j1 + 1) ns2 (kids ++ [kid1]) kid j ns1 (by omega) hk2 h
        exact ⟨by omega, h2.2.1, h2.2.2.1, by omega, by omega, h2.2.2.2.2.2⟩
      · rename_i hb
        obtain ⟨rfl, h2, h3, h4⟩ := endAlt_in hk2 h
        refine ⟨h1.1, h1.2.1, h2, by omega, by omega, ?_⟩
        rcases h1.2.2.2.2.2 with h5 | h5 | h5
        · exact Or.inl h5
        · exact absurd h5 hb
        · exact Or.inr h5
theorem altsP_in {l : List Nat} {grp : Nat → List RxNode → RR} (hg : Fwd1 l grp) {i : Nat} {ns ns1 : List RxNode} {kid j : Nat} (hi : i ≤ l.length) (h : altsP l grp i ns = .ok kid j ns1) :
    i ≤ j ∧ j ≤ l.length ∧ kid < ns1.length ∧ ns.length ≤ ns1.length ∧ ns1.length + 4 * i ≤ ns.length + 4 * j + 2 ∧ (gN l j = 0 ∨ gN l j = 41) :=
  altsGo_in hg _ i ns [] kid j ns1 hi (fun k hk => absurd hk (by simp)) h
theorem grpP_in (l : List Nat) : ∀ v, Fwd1 l (grpP l v)
  | 0 => fun i ns kid j ns1 _ h => by cases h
  | v + 1 => fun i ns kid j ns1 hi h => by
    rw [grpP] at h
    split at h
    · cases h
    · rename_i kid1 j1 ns2 hp
      have h1 := altsP_in (grpP_in l v) (by omega) hp
      split at h
      · rename_i hb
        have hj := gN_lt (l := l) (i := j1) (by omega)
        injection h with a b c
        subst a b c
        exact ⟨by omega, by omega, h1.2.2.1, h1.2.2.2.1, by omega⟩
      · cases h
/-! ### The reader that stops at no closing parenthesis outside of all -/
def topS (r : RR) (l : List Nat) : RR := match r with | .er c p => .er c p | .ok kid j ns => if gN l j = 41 then .er 2 j else .ok kid j ns
def rowGoS (l : List Nat) (grp : Nat → List RxNode → RR) (top : Bool) : Nat → Nat → List RxNode → List Nat → RR
  | 0, i, _, _ => .er 0 i
  | f + 1, i, ns, kids =>
    if gN l i = 0 ∨ gN l i = 124 ∨ (gN l i = 41 ∧ top = false) then endRow kids i ns
    else if gN l i = 41 then .er 2 i
    else match pieceP l grp i ns with
      | .er c p => .er c p
      | .ok kid j ns1 => rowGoS l grp top f j ns1 (kids ++ [kid])
def rowS (l : List Nat) (grp : Nat → List RxNode → RR) (top : Bool) (i : Nat) (ns : List RxNode) : RR := rowGoS l grp top (l.length + 1 - i) i ns []
def altsGoS (l : List Nat) (grp : Nat → List RxNode → RR) (top : Bool) : Nat → Nat → List RxNode → List Nat → RR
  | 0, i, _, _ => .er 0 i
  | f + 1, i, ns, kids =>
    match rowS l grp top i ns with
    | .er c p => .er c p
    | .ok kid j ns1 => if gN l j = 124 then altsGoS l grp top f (j + 1) ns1 (kids ++ [kid]) else endAlt (kids ++ [kid]) j ns1
def altsS (l : List Nat) (grp : Nat → List RxNode → RR) (top : Bool) (i : Nat) (ns : List RxNode) : RR := altsGoS l grp top (l.length + 1 - i) i ns []
theorem endRow_ok (kids : List Nat) (i : Nat) (ns : List RxNode) : ∃ kid ns1, endRow kids i ns = .ok kid i ns1 := by
  unfold endRow putR
  split <;> exact ⟨_, _, rfl⟩
theorem endAlt_ok (kids : List Nat) (kid i : Nat) (ns : List RxNode) : ∃ kid1 ns1, endAlt (kids ++ [kid]) i ns = .ok kid1 i ns1 := by
  unfold endAlt putR
  split
  · rename_i h; simp at h
  · exact ⟨_, _, rfl⟩
  · exact ⟨_, _, rfl⟩
theorem rowGoS_inner (l : List Nat) (grp : Nat → List RxNode → RR) : ∀ f i ns kids, rowGoS l grp false f i ns kids = rowGo l grp f i ns kids
  | 0, _, _, _ => rfl
  | f + 1, i, ns, kids => by
    rw [rowGoS, rowGo]
    by_cases h : gN l i = 0 ∨ gN l i = 124 ∨ gN l i = 41
    · rw [if_pos (by simpa using h), if_pos h]
    · simp only [not_or] at h
      rw [if_neg (by simp; exact h), if_neg h.2.2, if_neg (by simp; exact h)]
      cases pieceP l grp i ns with
      | er c p => rfl
      | ok kid j ns1 => exact rowGoS_inner l grp f j ns1 _
theorem rowGoS_top (l : List Nat) (grp : Nat → List RxNode → RR) : ∀ f i ns kids, rowGoS l grp true f i ns kids = topS (rowGo l grp f i ns kids) l
  | 0, _, _, _ => rfl
  | f + 1, i, ns, kids => by
    rw [rowGoS, rowGo]
    by_cases h : gN l i = 0 ∨ gN l i = 124
    · rw [if_pos (by rcases h with h | h; exact Or.inl h; exact Or.inr (Or.inl h)), if_pos (by rcases h with h | h; exact Or.inl h; exact Or.inr (Or.inl h))]
      obtain ⟨kid, ns1, e⟩ := endRow_ok kids i ns
      rw [e]
      unfold topS
      simp only
      rw [if_neg (by omega)]
    · simp only [not_or] at h
      rw [if_neg (by simp; exact h)]
      by_cases h41 : gN l i = 41
      · rw [if_pos h41, if_pos (Or.inr (Or.inr h41))]
        obtain ⟨kid, ns1, e⟩ := endRow_ok kids i ns
        rw [e]
        unfold topS
        simp only
        rw [if_pos h41]
      · rw [if_neg h41, if_neg (by simp only [not_or]; exact ⟨h.1, h.2, h41⟩)]
        cases pieceP l grp i ns with
        | er c p => rfl
        | ok kid j ns1 => exact rowGoS_top l grp f j ns1 _
theorem rowS_inner (l : List Nat) (grp : Nat → List RxNode → RR) (i : Nat) (ns : List RxNode) : rowS l grp false i ns = rowP l grp i ns := rowGoS_inner l grp _ _ _ _
theorem rowS_top (l : List Nat) (grp : Nat → List RxNode → RR) (i : Nat) (ns : List RxNode) : rowS l grp true i ns = topS (rowP l grp i ns) l := rowGoS_top l grp _ _ _ _
theorem altsGoS_inner (l : List Nat) (grp : Nat → List RxNode → RR) : ∀ f i ns kids, altsGoS l grp false f i ns kids = altsGo l grp f i ns kids
  | 0, _, _, _ => rfl
  | f + 1, i, ns, kids => by
    rw [altsGoS, altsGo, rowS_inner]
    cases rowP l grp i ns with
    | er c p => rfl
    | ok kid j ns1 =>
      simp only
      split
      · exact altsGoS_inner l grp f _ ns1 _
      · rfl
theorem altsGoS_top (l : List Nat) (grp : Nat → List RxNode → RR) : ∀ f i ns kids, altsGoS l grp true f i ns kids = topS (altsGo l grp f i ns kids) l
  | 0, _, _, _ => rfl
  | f + 1, i, ns, kids => by
    rw [altsGoS, altsGo, rowS_top]
    cases rowP l grp i ns with
    | er c p => rfl
    | ok kid j ns1 =>
      unfold topS
      simp only
      by_cases h41 : gN l j = 41
      · rw [if_pos h41, if_neg (by omega)]
        obtain ⟨kid1, ns2, e⟩ := endAlt_ok kids kid j ns1
        rw [e]
        simp only
        rw [if_pos h41]
      · rw [if_neg h41]
        simp only
        split
        · exact altsGoS_top l grp f _ ns1 _
        · obtain ⟨kid1, ns2, e⟩ := endAlt_ok kids kid j ns1
          rw [e]
          simp only
          rw [if_neg h41]
theorem altsS_inner (l : List Nat) (grp : Nat → List RxNode → RR) (i : Nat) (ns : List RxNode) : altsS l grp false i ns = altsP l grp i ns := altsGoS_inner l grp _ _ _ _
theorem altsS_top (l : List Nat) (grp : Nat → List RxNode → RR) (i : Nat) (ns : List RxNode) : altsS l grp true i ns = topS (altsP l grp i ns) l := altsGoS_top l grp _ _ _ _
end Go.Proofs.YtkmkencodcfloaaGreatDoor
