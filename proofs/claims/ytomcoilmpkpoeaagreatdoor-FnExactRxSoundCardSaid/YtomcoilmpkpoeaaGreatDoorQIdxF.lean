/-
  What is proved here: slices.IndexFunc and slices.ContainsFunc at File and at string, for whatever predicate that turns nothing; the first file of a name. No condition.
-/
import Derived.Test.YtomcoilmpkpoeaaGreatDoorQDvConf
namespace Go.Proofs.YtomcoilmpkpoeaaGreatDoor
open Go.RowKit
set_option linter.unusedVariables false
set_option linter.unusedSimpArgs false

def idxGo {α : Type} (p : α → Bool) : List α → Nat → Int
  | [], _ => -1
  | x :: r, k => if p x = true then (k : Int) else idxGo p r (k + 1)
/-- the first place at which p holds; -1 of none -/
def idxP {α : Type} (p : α → Bool) (xs : List α) : Int := idxGo p xs 0
theorem idxGo_hit {α : Type} {p : α → Bool} : ∀ {xs : List α} {k b : Nat} (h : k < xs.length), p xs[k] = true → (∀ j (hj : j < xs.length), j < k → p xs[j] = false) → idxGo p xs b = ((b + k : Nat) : Int)
  | x :: r, 0, b, _, h1, _ => by rw [idxGo, if_pos (by simpa using h1), Nat.add_zero]
  | x :: r, k + 1, b, h, h1, h2 => by
    have h0 := h2 0 (by simp) (by omega)
    rw [idxGo, if_neg (by simpa using h0), idxGo_hit (k := k) (b := b + 1) (by simpa using h) (by simpa using h1) (fun j hj hjk => by
      have := h2 (j + 1) (by simp only [List.length_cons]; omega) (by omega)
      simpa using this)]
    congr 1
    omega
theorem idxP_hit {α : Type} {p : α → Bool} {xs : List α} {k : Nat} (h : k < xs.length) (h1 : p xs[k] = true) (h2 : ∀ j (hj : j < xs.length), j < k → p xs[j] = false) : idxP p xs = (k : Int) := by
  unfold idxP
  rw [idxGo_hit h h1 h2, Nat.zero_add]
theorem idxGo_miss {α : Type} {p : α → Bool} : ∀ {xs : List α} {b : Nat}, (∀ j (hj : j < xs.length), p xs[j] = false) → idxGo p xs b = -1
  | [], b, _ => rfl
  | x :: r, b, h => by
    have h0 := h 0 (by simp)
    rw [idxGo, if_neg (by simpa using h0)]
    exact idxGo_miss (fun j hj => by
      have := h (j + 1) (by simp only [List.length_cons]; omega)
      simpa using this)
theorem idxP_miss {α : Type} {p : α → Bool} {xs : List α} (h : ∀ j (hj : j < xs.length), p xs[j] = false) : idxP p xs = -1 := idxGo_miss h
theorem idxGo_nonneg {α : Type} {p : α → Bool} : ∀ {xs : List α} {b : Nat}, decide (0 ≤ idxGo p xs b) = xs.any p
  | [], b => by simp [idxGo]
  | x :: r, b => by
    rw [idxGo, List.any_cons]
    cases hx : p x with
    | true => simp
    | false => simp [idxGo_nonneg (xs := r) (b := b + 1)]
theorem idxP_nonneg {α : Type} {p : α → Bool} {xs : List α} : decide (0 ≤ idxP p xs) = xs.any p := idxGo_nonneg
theorem eq_dec (a b : ByteArray) : (a.toList == b.toList) = decide (a = b) := by
  by_cases h : a = b
  · subst h; simp
  · rw [ba_ne h, decide_eq_false h]
theorem rd_take {α : Type} [Rd α] {S : Nat → Prop} {w : World} {a : Option Addr} {cap : Nat} {xs : List α} (h : Rd.rd S w [.slice a xs.length cap] xs) {k : Nat} (hk : k ≤ xs.length) : Rd.rd S w [.slice a k cap] (xs.take k) := by
  obtain ⟨a', cap', hv, h1, h2, hF⟩ := h
  obtain ⟨rfl, rfl⟩ : a = a' ∧ cap = cap' := by simpa using hv
  refine ⟨a, cap, by rw [List.length_take, Nat.min_eq_left hk], by rw [List.length_take]; omega, h2, fun h0 => ?_⟩
  obtain ⟨b, off, rfl, hB, hrow⟩ := hF (by rw [List.length_take] at h0; omega)
  refine ⟨b, off, rfl, hB, fun i hi => ?_⟩
  have hi' : i < xs.length := by rw [List.length_take] at hi; omega
  obtain ⟨cs, hc, hx⟩ := hrow i hi'
  exact ⟨cs, hc, by rw [List.getElem_take]; exact hx⟩
end Go.Proofs.YtomcoilmpkpoeaaGreatDoor
