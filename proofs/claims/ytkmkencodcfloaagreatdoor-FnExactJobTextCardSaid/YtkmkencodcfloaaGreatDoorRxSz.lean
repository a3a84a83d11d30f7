/-
  What is proved here: plain laws on lists of kids that are a tree and on the size of a pattern. No program in sight; no condition.
-/
import Derived.Test.YtkmkencodcfloaaGreatDoorRxI3
import Derived.Test.YtkmkencodcfloaaGreatDoorRxLaw
namespace Go.Proofs.YtkmkencodcfloaaGreatDoor
open Go.RowKit
set_option linter.unusedVariables false
set_option linter.unusedSimpArgs false

/-- the lists are those of a tree: each kid stands before its list, each but the last is a kid once -/
def treeOk (ks : List (List Int)) : Prop := 0 < ks.length ∧ (∀ i (h : i < ks.length), ∀ k ∈ ks[i], 0 ≤ k ∧ k < (i : Int)) ∧ ∀ m : Nat, m + 1 < ks.length → ks.flatten.count (m : Int) = 1
open Classical in
noncomputable def treeB (ks : List (List Int)) : Bool := decide (treeOk ks)
open Classical in
theorem treeB_true {ks : List (List Int)} (h : treeOk ks) : treeB ks = true := decide_eq_true h
open Classical in
theorem treeB_false {ks : List (List Int)} (h : ¬ treeOk ks) : treeB ks = false := decide_eq_false h
open Classical in
theorem treeB_iff {ks : List (List Int)} : treeB ks = true ↔ treeOk ks := decide_eq_true_iff
/-- the kids of the first lists, and the first ones of the next -/
def procd (ks : List (List Int)) (i j : Nat) : List Int := (ks.take i).flatten ++ (ks.getD i []).take j
theorem procd_zero (ks : List (List Int)) : procd ks 0 0 = [] := by simp [procd]
theorem procd_next (ks : List (List Int)) (i : Nat) (h : i < ks.length) : procd ks (i + 1) 0 = procd ks i ks[i].length := by
  unfold procd
  rw [List.take_succ_eq_append_getElem h, List.flatten_append]
  simp [List.getD_eq_getElem?_getD, List.getElem?_eq_getElem h]
theorem procd_step (ks : List (List Int)) (i j : Nat) (h : i < ks.length) (hj : j < ks[i].length) : procd ks i (j + 1) = procd ks i j ++ [ks[i][j]] := by
  unfold procd
  rw [List.getD_eq_getElem?_getD, List.getElem?_eq_getElem h]
  simp only [Option.getD_some]
  rw [List.take_succ_eq_append_getElem hj, List.append_assoc]
theorem procd_all (ks : List (List Int)) : procd ks ks.length 0 = ks.flatten := by
  unfold procd
  simp
theorem procd_len (ks : List (List Int)) (i j : Nat) : (procd ks i j).length ≤ ks.flatten.length := by
  unfold procd
  rcases Nat.lt_or_ge i ks.length with h | h
  · have e : ks.flatten = (ks.take i).flatten ++ (ks[i] ++ (ks.drop (i + 1)).flatten) := by
      conv => lhs; rw [← List.take_append_drop i ks]
      rw [List.flatten_append, List.drop_eq_getElem_cons h, List.flatten_cons]
    rw [e, List.getD_eq_getElem?_getD, List.getElem?_eq_getElem h]
    simp only [List.length_append, Option.getD_some, List.length_take]
    omega
  · rw [List.getD_eq_getElem?_getD, List.getElem?_eq_none h, List.take_of_length_le h]
    simp
/-- all of these kids stand before their lists -/
def inBf (ks : List (List Int)) (i : Nat) : Prop := ∀ m (h : m < ks.length), m < i → ∀ k ∈ ks[m], 0 ≤ k ∧ k < (m : Int)
theorem not_tree_at {ks : List (List Int)} {i j : Nat} (h : i < ks.length) (hj : j < ks[i].length) (hk : ¬ (0 ≤ ks[i][j] ∧ ks[i][j] < (i : Int))) : ¬ treeOk ks :=
  fun ht => hk (ht.2.1 i h _ (List.getElem_mem hj))
/-- how often each stands -/
def cnts (n : Nat) (P : List Int) : List Value := (List.range n).map fun m : Nat => .int .i64 ((P.count (m : Int) : Nat) : Int)
theorem cnts_len (n : Nat) (P : List Int) : (cnts n P).length = n := by simp [cnts]
theorem cnts_nil (n : Nat) : cnts n [] = List.replicate n (.int .i64 0) := by
  apply List.ext_getElem
  · simp [cnts]
  · intro i h1 h2; simp [cnts]
theorem cnts_get {n m : Nat} (P : List Int) (h : m < n) : (cnts n P)[m]? = some (.int .i64 ((P.count (m : Int) : Nat) : Int)) := by
  unfold cnts
  rw [List.getElem?_map, List.getElem?_range h]
  rfl
theorem cnts_set {n m : Nat} (P : List Int) (h : m < n) : (cnts n P).set m (.int .i64 (((P.count (m : Int) : Nat) : Int) + 1)) = cnts n (P ++ [(m : Int)]) := by
  apply List.ext_getElem
  · simp [cnts]
  · intro i h1 h2
    rw [List.getElem_set]
    by_cases e : m = i
    · subst e
      rw [if_pos rfl]
      simp [cnts]
    · rw [if_neg e]
      have : ¬ ((m : Int) = (i : Int)) := by omega
      simp [cnts, List.count_append, List.count_cons, this]
/-- which ones stand -/
def useds (n : Nat) (P : List Int) : List Value := (List.range n).map fun m : Nat => .bool (decide ((m : Int) ∈ P))
theorem useds_len (n : Nat) (P : List Int) : (useds n P).length = n := by simp [useds]
theorem useds_nil (n : Nat) : useds n [] = List.replicate n (.bool false) := by
  apply List.ext_getElem
  · simp [useds]
  · intro i h1 h2; simp [useds]
theorem useds_get {n m : Nat} (P : List Int) (h : m < n) : (useds n P)[m]? = some (.bool (decide ((m : Int) ∈ P))) := by
  unfold useds
  rw [List.getElem?_map, List.getElem?_range h]
  rfl
theorem useds_set {n m : Nat} (P : List Int) (h : m < n) : (useds n P).set m (.bool true) = useds n (P ++ [(m : Int)]) := by
  apply List.ext_getElem
  · simp [useds]
  · intro i h1 h2
    rw [List.getElem_set]
    by_cases e : m = i
    · subst e
      rw [if_pos rfl]
      simp [useds]
    · rw [if_neg e]
      have : ¬ ((i : Int) = (m : Int)) := by omega
      simp [useds, this]
theorem nodup_count {P : List Int} (h : P.Nodup) (k : Int) : P.count k ≤ 1 := by
  induction P with
  | nil => simp
  | cons x r ih =>
    rw [List.nodup_cons] at h
    rw [List.count_cons]
    by_cases e : x = k
    · subst e
      rw [List.count_eq_zero_of_not_mem h.1]
      simp
    · have := ih h.2
      simp [e, this]
theorem count_dup {P : List Int} {k : Int} (h : k ∈ P) (Q : List Int) : 2 ≤ (P ++ [k] ++ Q).count k := by
  have h1 : 0 < P.count k := List.count_pos_iff.2 h
  rw [List.count_append, List.count_append]
  simp
  omega
theorem procd_rest (ks : List (List Int)) (i j : Nat) (h : i < ks.length) (hj : j ≤ ks[i].length) : ∃ Q, ks.flatten = procd ks i j ++ Q := by
  refine ⟨ks[i].drop j ++ (ks.drop (i + 1)).flatten, ?_⟩
  unfold procd
  conv => lhs; rw [← List.take_append_drop i ks]
  rw [List.flatten_append, List.drop_eq_getElem_cons h, List.flatten_cons, List.getD_eq_getElem?_getD, List.getElem?_eq_getElem h]
  simp only [Option.getD_some]
  rw [List.append_assoc, ← List.append_assoc (ks[i].take j), List.take_append_drop]
/-- a kid that stands twice: it is no tree -/
theorem not_tree_dup {ks : List (List Int)} {i j : Nat} (h : i < ks.length) (hj : j < ks[i].length) (hk : ks[i][j] < (i : Int)) (hm : ks[i][j] ∈ procd ks i j) : ¬ treeOk ks := by
  intro ht
  have h0 := ht.2.1 i h _ (List.getElem_mem hj)
  obtain ⟨Q, hQ⟩ := procd_rest ks i (j + 1) h hj
  rw [procd_step ks i j h hj] at hQ
  have h1 := count_dup hm Q
  rw [← hQ] at h1
  have h2 := ht.2.2 ks[i][j].toNat (by omega)
  rw [Int.toNat_of_nonneg h0.1] at h2
  omega

/-! ### Sizes -/
theorem snocInd {α : Type} {p : List α → Prop} (h0 : p []) (h1 : ∀ l a, p l → p (l ++ [a])) (l : List α) : p l := by
  have h : ∀ r : List α, p r.reverse := by
    intro r
    induction r with
    | nil => exact h0
    | cons a r ih => rw [List.reverse_cons]; exact h1 _ _ ih
  have := h l.reverse
  rwa [List.reverse_reverse] at this
def often (n : RxNode) : Nat := if n.kind = 9 then (max 1 (max n.lo n.hi)).toNat else 1
def szAt (n : RxNode) (szs : List Nat) : Nat := min 100000 (1 + often n * (n.kids.map fun k => szs.getD k.toNat 0).sum)
def sizesL (ns : List RxNode) : List Nat := ns.foldl (fun szs n => szs ++ [szAt n szs]) []
theorem sizesL_snoc (ns : List RxNode) (n : RxNode) : sizesL (ns ++ [n]) = sizesL ns ++ [szAt n (sizesL ns)] := by
  unfold sizesL
  rw [List.foldl_append]
  rfl
theorem sizesL_len (ns : List RxNode) : (sizesL ns).length = ns.length := by
  refine snocInd (p := fun ns => (sizesL ns).length = ns.length) rfl (fun l a ih => ?_) ns
  rw [sizesL_snoc, List.length_append, ih]; simp
theorem sizesL_take (ns : List RxNode) (i : Nat) (h : i < ns.length) : sizesL (ns.take (i + 1)) = sizesL (ns.take i) ++ [szAt ns[i] (sizesL (ns.take i))] := by
  rw [List.take_succ_eq_append_getElem h, sizesL_snoc]
theorem sizesL_in (ns : List RxNode) : ∀ s ∈ sizesL ns, 1 ≤ s ∧ s ≤ 100000 := by
  refine snocInd (p := fun ns => ∀ s ∈ sizesL ns, 1 ≤ s ∧ s ≤ 100000) (fun s h => by cases h) (fun l a ih s h => ?_) ns
  rw [sizesL_snoc] at h
  rcases List.mem_append.1 h with h | h
  · exact ih s h
  · rw [List.mem_singleton.1 h]
    unfold szAt
    omega
def kidsOf (ns : List RxNode) : List (List Int) := ns.map (·.kids)
open Classical in
noncomputable def sizeOf' (ns : List RxNode) : Nat := if treeB (kidsOf ns) = true then (sizesL ns).getLastD 0 else 0
/-- the sum of the first kids' sizes -/
def sumK (n : RxNode) (szs : List Nat) (j : Nat) : Nat := ((n.kids.take j).map fun k => szs.getD k.toNat 0).sum
theorem sumK_zero (n : RxNode) (szs : List Nat) : sumK n szs 0 = 0 := by simp [sumK]
theorem sumK_step (n : RxNode) (szs : List Nat) (j : Nat) (h : j < n.kids.length) : sumK n szs (j + 1) = sumK n szs j + szs.getD n.kids[j].toNat 0 := by
  unfold sumK
  rw [List.take_succ_eq_append_getElem h, List.map_append, List.sum_append]
  simp
theorem sumK_all (n : RxNode) (szs : List Nat) : sumK n szs n.kids.length = (n.kids.map fun k => szs.getD k.toNat 0).sum := by simp [sumK]
theorem szAt_eq (n : RxNode) (szs : List Nat) : szAt n szs = min 100000 (1 + often n * sumK n szs n.kids.length) := by rw [sumK_all]; rfl
/-- the capped sum of impl -/
theorem cap_one (S : Nat) : min 100000 (1 + min 100000 S) = min 100000 (1 + 1 * S) := by omega
theorem cap_mul (S c : Nat) (hc : 1 ≤ c) : min 100000 (1 + min 100000 S * min 100000 c) = min 100000 (1 + c * S) := by
  rcases Nat.lt_or_ge S 100000 with h1 | h1
  · rcases Nat.lt_or_ge c 100000 with h2 | h2
    · rw [Nat.min_eq_right (Nat.le_of_lt h1), Nat.min_eq_right (Nat.le_of_lt h2), Nat.mul_comm]
    · rw [Nat.min_eq_right (Nat.le_of_lt h1), Nat.min_eq_left h2]
      rcases Nat.eq_zero_or_pos S with h3 | h3
      · subst h3; simp
      · have a1 : 100000 ≤ S * 100000 := Nat.le_mul_of_pos_left _ h3
        have a2 : 100000 ≤ c * S := Nat.le_trans h2 (Nat.le_mul_of_pos_right _ h3)
        omega
  · rw [Nat.min_eq_left h1]
    have a1 : 100000 ≤ 100000 * min 100000 c := Nat.le_mul_of_pos_right _ (by omega)
    have a2 : 100000 ≤ c * S := Nat.le_trans h1 (Nat.le_mul_of_pos_left _ (by omega))
    omega
/-- a step of the reference's capped sum -/
theorem capS_big {c z t : Nat} (hz : 1 ≤ z) (h : ¬ c ≤ 100000 / z) : 100000 ≤ t + c * z := by
  have h1 : 100000 / z + 1 ≤ c := by omega
  have h2 := Nat.lt_div_mul_add (a := 100000) hz
  have h3 := Nat.mul_le_mul_right z h1
  rw [Nat.add_mul] at h3
  omega
theorem capS_small {c z : Nat} (hz : 1 ≤ z) (h : c ≤ 100000 / z) : c * z ≤ 100000 := by
  have h2 := Nat.div_mul_le_self 100000 z
  exact Nat.le_trans (Nat.mul_le_mul_right z h) h2
end Go.Proofs.YtkmkencodcfloaaGreatDoor
