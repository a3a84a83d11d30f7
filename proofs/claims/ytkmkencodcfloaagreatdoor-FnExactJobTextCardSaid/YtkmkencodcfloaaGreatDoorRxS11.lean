/-
  What is proved here: all of the reference's pattern reader, by levels. No condition but that the reader and its list lie in memory, and sizes.
-/
import Derived.Test.YtkmkencodcfloaaGreatDoorRxS10
namespace Go.Proofs.YtkmkencodcfloaaGreatDoor
open Go.RowKit
set_option linter.unusedVariables false
set_option linter.unusedSimpArgs false

theorem NodeCS.of {fn n M M' g cap d : Nat} {p p' : Nat → List RxNode → RR} {a : Option Addr} {l : List Nat} (h : NodeCS fn p n M g cap d a l) (hp : ∀ i ns, p i ns = p' i ns) (hM : M ≤ M') : NodeCS fn p' n M' g cap d a l := by
  intro X w i nv ns h1 h2 h3 h4 h5 h6
  refine (h X w i nv ns h1 h2 h3 h4 h5 h6).mono ?_
  rintro e w' ⟨he, hk⟩
  rw [← hp]
  exact ⟨he.up (RowOn.refl _ _) (Nat.le_refl _) hM, hk⟩
theorem specAtomV {g cap : Nat} {a : Option Addr} {l : List Nat} : ∀ v d, d + v = 6 → NodeCS 126 (atomS l (grpP l v)) l.length (5000 + 10 * v) g cap d a l
  | 0, d, h => specAtom (M := 5000) (by omega) (by omega) (Or.inl ⟨by omega, rfl⟩)
  | v + 1, d, h => by
    have ha := specAtomV v (d + 1) (by omega) (g := g) (cap := cap) (a := a) (l := l)
    have hp := specPiece (by omega) ha (atomP_in (grpP_in l v))
    have hr := specRow (by omega) (by omega) hp (pieceP_in (grpP_in l v)) (by omega)
    have hal := specAlts (by omega) (by omega) hr (grpP_in l v)
    have hal' := hal.of (p' := altsP l (grpP l v)) (fun i ns => by rw [decide_eq_false (by omega), altsS_inner]) (Nat.le_refl _)
    exact specAtom (M := 5000 + 10 * v + 1 + 1) (by omega) (by omega) (Or.inr ⟨by omega, v, rfl, hal'⟩)
theorem specAltsTop {g cap : Nat} {a : Option Addr} {l : List Nat} : NodeCS 60 (altsS l (grpP l 6) true) (l.length + 1) 6000 g cap 0 a l := by
  have ha := specAtomV 6 0 rfl (g := g) (cap := cap) (a := a) (l := l)
  have hp := specPiece (by omega) ha (atomP_in (grpP_in l 6))
  have hr := specRow (by omega) (by omega) hp (pieceP_in (grpP_in l 6)) (by omega)
  have hal := specAlts (by omega) (by omega) hr (grpP_in l 6)
  exact hal.of (fun i ns => rfl) (by omega)
theorem readP_top {l : List Nat} (hp : ∀ c ∈ l, 1 ≤ c ∧ c ≤ 1114111) : altsS l (grpP l 6) true 0 [] = readP l := by
  rw [altsS_top]
  unfold topS readP
  cases h : altsP l (grpP l 6) 0 [] with
  | er c p => rfl
  | ok kid j ns =>
    have hin := altsP_in (grpP_in l 6) (Nat.zero_le _) h
    simp only
    by_cases hj : j < l.length
    · have hn : ¬ gN l j = 0 := fun h0 => by have := gN_pt hp h0; omega
      have h41 : gN l j = 41 := by
        rcases hin.2.2.2.2.2 with h1 | h1
        · exact absurd h1 hn
        · exact h1
      rw [if_pos h41, if_pos hj]
    · have h0 : gN l j = 0 := gN_end (by omega)
      rw [if_neg (by omega), if_neg hj]
theorem readP_end {l : List Nat} {kid j : Nat} {ns : List RxNode} (h : readP l = .ok kid j ns) : j = l.length := by
  unfold readP at h
  cases ha : altsP l (grpP l 6) 0 [] with
  | er c p => rw [ha] at h; cases h
  | ok kid1 j1 ns1 =>
    have h1 := altsP_in (grpP_in l 6) (Nat.zero_le _) ha
    rw [ha] at h
    simp only at h
    split at h
    · cases h
    · injection h with h2 h3 h4
      omega
end Go.Proofs.YtkmkencodcfloaaGreatDoor
