/-
  What is proved here: plain laws on the numbers of a pattern's repetitions. No program in sight; no condition.
-/
import Derived.Test.YtkmkencodcfloaaGreatDoorRxLaw
namespace Go.Proofs.YtkmkencodcfloaaGreatDoor
open Go.RowKit
set_option linter.unusedVariables false
set_option linter.unusedSimpArgs false

theorem digN_iff {c : Nat} : digN c = true ↔ 48 ≤ c ∧ c ≤ 57 := by unfold digN; simp
theorem valNd_snoc (ds : List Nat) (c : Nat) : valNd (ds ++ [c]) = 10 * valNd ds + (c - 48) := by unfold valNd; rw [List.foldl_append]; rfl
theorem valNd_more (ds : List Nat) : ∀ r : List Nat, valNd ds ≤ valNd (ds ++ r)
  | [] => by rw [List.append_nil]; exact Nat.le_refl _
  | c :: r => by
    have h := valNd_more (ds ++ [c]) r
    rw [List.append_assoc, List.singleton_append] at h
    rw [valNd_snoc] at h
    omega
theorem takeW_all {p : Nat → Bool} : ∀ (x : List Nat) (c : Nat), c ∈ x.takeWhile p → p c = true
  | [], c, h => by simp at h
  | a :: r, c, h => by
    by_cases ha : p a = true
    · rw [List.takeWhile_cons_of_pos ha] at h
      rcases List.mem_cons.1 h with rfl | h
      · exact ha
      · exact takeW_all r c h
    · rw [List.takeWhile_cons_of_neg ha] at h
      simp at h
theorem run_take (l : List Nat) (p j : Nat) (h : j < (runD l p).length) : (runD l p).take (j + 1) = (runD l p).take j ++ [gN l (p + j)] ∧ digN (gN l (p + j)) = true := by
  have hpre : ∃ z, l.drop p = runD l p ++ z := ⟨(l.drop p).dropWhile digN, by unfold runD; rw [List.takeWhile_append_dropWhile]⟩
  obtain ⟨z, hz⟩ := hpre
  have hg : gN l (p + j) = (runD l p)[j] := by
    have h1 : (l.drop p)[j]? = (runD l p)[j]? := by rw [hz, List.getElem?_append_left h]
    rw [List.getElem?_drop, List.getElem?_eq_getElem h] at h1
    unfold gN
    rw [List.getD_eq_getElem?_getD, h1]
    rfl
  rw [hg]
  refine ⟨List.take_succ_eq_append_getElem h, ?_⟩
  have hall : ∀ c ∈ runD l p, digN c = true := by
    unfold runD
    intro c hc
    exact takeW_all _ c hc
  exact hall _ (List.getElem_mem _)
theorem run_stop (l : List Nat) (p : Nat) : digN (gN l (p + (runD l p).length)) = false := by
  have key : ∀ (x : List Nat), digN ((x[(x.takeWhile digN).length]?).getD 0) = false := by
    intro x
    induction x with
    | nil => rfl
    | cons c r ih =>
      by_cases hc : digN c = true
      · rw [List.takeWhile_cons_of_pos hc, List.length_cons, List.getElem?_cons_succ]
        exact ih
      · rw [List.takeWhile_cons_of_neg hc]
        simpa using hc
  have h := key (l.drop p)
  rw [List.getElem?_drop] at h
  unfold gN runD
  rw [List.getD_eq_getElem?_getD]
  exact h
theorem run_three {l : List Nat} {p : Nat} (h : 3 ≤ (runD l p).length) (h0 : ¬ gN l p = 48) : 60 < valNd ((runD l p).take 3) := by
  obtain ⟨e0, d0⟩ := run_take l p 0 (by omega)
  obtain ⟨e1, d1⟩ := run_take l p 1 (by omega)
  obtain ⟨e2, d2⟩ := run_take l p 2 (by omega)
  rw [e2, e1, e0, valNd_snoc, valNd_snoc, valNd_snoc]
  rw [digN_iff] at d0 d1 d2
  simp only [Nat.add_zero] at d0 ⊢
  have : valNd ((runD l p).take 0) = 0 := rfl
  omega
/-- what three digits at most tell -/
theorem num_three {l : List Nat} {p j : Nat} (hj : j ≤ 3) (hl : j ≤ (runD l p).length) (he : j = 3 ∨ j = (runD l p).length) :
    (j = 0 ∨ 60 < valNd ((runD l p).take j) ∨ (gN l p = 48 ∧ 1 < j)) ∧ numAt l p = none ∨ (¬ (j = 0 ∨ 60 < valNd ((runD l p).take j) ∨ (gN l p = 48 ∧ 1 < j)) ∧ numAt l p = some (valNd ((runD l p).take j), p + j)) := by
  by_cases hlen : j = (runD l p).length
  · subst hlen
    rw [List.take_length]
    unfold numAt
    by_cases hc : (runD l p).length = 0 ∨ 60 < valNd (runD l p) ∨ (gN l p = 48 ∧ 1 < (runD l p).length)
    · left; rw [if_pos hc]; exact ⟨hc, rfl⟩
    · right; rw [if_neg hc]; exact ⟨hc, rfl⟩
  · have hj3 : j = 3 := by omega
    subst hj3
    left
    have hmore : valNd ((runD l p).take 3) ≤ valNd (runD l p) := by
      have := valNd_more ((runD l p).take 3) ((runD l p).drop 3)
      rwa [List.take_append_drop] at this
    unfold numAt
    by_cases h0 : gN l p = 48
    · exact ⟨Or.inr (Or.inr ⟨h0, by omega⟩), if_pos (Or.inr (Or.inr ⟨h0, by omega⟩))⟩
    · have := run_three (by omega) h0
      exact ⟨Or.inr (Or.inl this), if_pos (Or.inr (Or.inl (by omega)))⟩
theorem valNd_small {l : List Nat} {p j : Nat} (hj : j ≤ 3) (hl : j ≤ (runD l p).length) : valNd ((runD l p).take j) ≤ 999 ∧ (j ≤ 2 → valNd ((runD l p).take j) ≤ 99) := by
  have h : ∀ k, k ≤ 3 → k ≤ (runD l p).length → valNd ((runD l p).take k) + 1 ≤ 10 ^ k := by
    intro k
    induction k with
    | zero => intro _ _; exact Nat.le_refl _
    | succ k ih =>
      intro h1 h2
      obtain ⟨e, d⟩ := run_take l p k (by omega)
      rw [digN_iff] at d
      have := ih (by omega) (by omega)
      rw [e, valNd_snoc, Nat.pow_succ]
      omega
  have h1 := h j hj hl
  refine ⟨?_, fun h2 => ?_⟩
  · have : (10 : Nat) ^ j ≤ 10 ^ 3 := Nat.pow_le_pow_right (by decide) hj
    omega
  · have : (10 : Nat) ^ j ≤ 10 ^ 2 := Nat.pow_le_pow_right (by decide) h2
    omega
end Go.Proofs.YtkmkencodcfloaaGreatDoor
