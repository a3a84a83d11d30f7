/-
  What is proved here: how many kids a node of a pattern that is read may have. No program in sight; no condition.
-/
import Derived.Test.YtkmkencodcfloaaGreatDoorRxLaw
import Derived.Test.YtkmkencodcfloaaGreatDoorRxSz
namespace Go.Proofs.YtkmkencodcfloaaGreatDoor
open Go.RowKit
set_option linter.unusedVariables false
set_option linter.unusedSimpArgs false

def KB (B : Nat) (ns : List RxNode) : Prop := ∀ n ∈ ns, n.kids.length ≤ B
def KFwd (l : List Nat) (p : Nat → List RxNode → RR) : Prop := ∀ i ns kid j ns1, i ≤ l.length → KB (l.length + 2) ns → p i ns = .ok kid j ns1 → KB (l.length + 2) ns1
theorem KB.snoc {B : Nat} {ns : List RxNode} {n : RxNode} (h : KB B ns) (hn : n.kids.length ≤ B) : KB B (ns ++ [n]) := by
  intro x hx
  rcases List.mem_append.1 hx with hx | hx
  · exact h x hx
  · rw [List.mem_singleton.1 hx]; exact hn
theorem putR_KB {B : Nat} {n : RxNode} {i kid j : Nat} {ns ns1 : List RxNode} (h : KB B ns) (hn : n.kids.length ≤ B) (hp : putR n i ns = .ok kid j ns1) : KB B ns1 := by
  obtain ⟨_, _, rfl⟩ := putR_in hp
  exact h.snoc hn
theorem bracketP_KB (l : List Nat) : KFwd l (bracketP l) := by
  intro i ns kid j ns1 hi hk h
  unfold bracketP at h
  split at h
  · cases h
  · exact putR_KB hk (by simp) h
theorem atomP_KB {l : List Nat} {grp : Nat → List RxNode → RR} (hg : KFwd l grp) : KFwd l (atomP l grp) := by
  intro i ns kid j ns1 hi hk h
  unfold atomP at h
  split at h
  · exact hg i ns kid j ns1 hi hk h
  split at h
  · exact bracketP_KB l i ns kid j ns1 hi hk h
  split at h
  · split at h
    · cases h
    · exact putR_KB hk (by simp) h
  split at h
  all_goals exact putR_KB hk (by simp) h
theorem pieceP_KB {l : List Nat} {grp : Nat → List RxNode → RR} (hg : KFwd l grp) : KFwd l (pieceP l grp) := by
  intro i ns kid j ns1 hi hk h
  unfold pieceP at h
  split at h
  · cases h
  split at h
  · cases h
  · rename_i kid1 j1 ns2 ha
    have h1 := atomP_KB hg i ns _ _ _ hi hk ha
    split at h
    · split at h
      · cases h
      · split at h
        · cases h
        · exact putR_KB h1 (by simp) h
    · injection h with a b c
      subst c
      exact h1
theorem endRow_KB {B : Nat} {kids : List Nat} {i kid j : Nat} {ns ns1 : List RxNode} (hk : KB B ns) (hl : kids.length ≤ B) (h : endRow kids i ns = .ok kid j ns1) : KB B ns1 := by
  unfold endRow at h
  split at h
  · exact putR_KB hk (by simp) h
  · injection h with a b c
    subst c
    exact hk
  · exact putR_KB hk (by simpa [ints] using hl) h
theorem endAlt_KB {B : Nat} {kids : List Nat} {i kid j : Nat} {ns ns1 : List RxNode} (hk : KB B ns) (hl : kids.length ≤ B) (h : endAlt kids i ns = .ok kid j ns1) : KB B ns1 := by
  unfold endAlt at h
  split at h
  · cases h
  · injection h with a b c
    subst c
    exact hk
  · exact putR_KB hk (by simpa [ints] using hl) h
theorem rowGo_KB {l : List Nat} {grp : Nat → List RxNode → RR} (hf : Fwd1 l grp) (hg : KFwd l grp) : ∀ f i ns kids kid j ns1, i ≤ l.length → kids.length ≤ i → KB (l.length + 2) ns → rowGo l grp f i ns kids = .ok kid j ns1 → KB (l.length + 2) ns1
  | 0, _, _, _, _, _, _, _, _, _, h => by cases h
  | f + 1, i, ns, kids, kid, j, ns1, hi, hl, hk, h => by
    rw [rowGo] at h
    split at h
    · exact endRow_KB hk (by omega) h
    · rename_i hs
      split at h
      · cases h
      · rename_i kid1 j1 ns2 hp
        have h1 := pieceP_in hf i ns _ _ _ (gN_lt (fun h0 => hs (Or.inl h0))) hp
        exact rowGo_KB hf hg f j1 ns2 (kids ++ [kid1]) kid j ns1 h1.2.1 (by rw [List.length_append]; show kids.length + 1 ≤ j1; omega) (pieceP_KB hg i ns _ _ _ hi hk hp) h
theorem rowP_KB {l : List Nat} {grp : Nat → List RxNode → RR} (hf : Fwd1 l grp) (hg : KFwd l grp) : KFwd l (rowP l grp) := fun i ns kid j ns1 hi hk h => rowGo_KB hf hg _ i ns [] kid j ns1 hi (Nat.zero_le _) hk h
theorem altsGo_KB {l : List Nat} {grp : Nat → List RxNode → RR} (hf : Fwd1 l grp) (hg : KFwd l grp) : ∀ f i ns kids kid j ns1, i ≤ l.length → kids.length ≤ i → KB (l.length + 2) ns → altsGo l grp f i ns kids = .ok kid j ns1 → KB (l.length + 2) ns1
  | 0, _, _, _, _, _, _, _, _, _, h => by cases h
  | f + 1, i, ns, kids, kid, j, ns1, hi, hl, hk, h => by
    rw [altsGo] at h
    split at h
    · cases h
    · rename_i kid1 j1 ns2 hp
      have h1 := rowP_in hf hi hp
      have h2 := rowP_KB hf hg i ns _ _ _ hi hk hp
      split at h
      · rename_i hb
        have hj := gN_lt (l := l) (i := j1) (by omega)
        exact altsGo_KB hf hg f (j1 + 1) ns2 (kids ++ [kid1]) kid j ns1 (by omega) (by rw [List.length_append]; show kids.length + 1 ≤ j1 + 1; omega) h2 h
      · exact endAlt_KB h2 (by rw [List.length_append]; show kids.length + 1 ≤ l.length + 2; omega) h
theorem altsP_KB {l : List Nat} {grp : Nat → List RxNode → RR} (hf : Fwd1 l grp) (hg : KFwd l grp) : KFwd l (altsP l grp) := fun i ns kid j ns1 hi hk h => altsGo_KB hf hg _ i ns [] kid j ns1 hi (Nat.zero_le _) hk h
theorem grpP_KB (l : List Nat) : ∀ v, KFwd l (grpP l v)
  | 0 => fun i ns kid j ns1 _ _ h => by cases h
  | v + 1 => fun i ns kid j ns1 hi hk h => by
    rw [grpP] at h
    split at h
    · cases h
    · rename_i kid1 j1 ns2 hp
      split at h
      · injection h with a b c
        subst c
        rcases Nat.lt_or_ge i l.length with hil | hil
        · exact altsP_KB (grpP_in l v) (grpP_KB l v) (i + 1) ns _ _ _ (by omega) hk hp
        · exfalso
          rename_i h41
          unfold altsP at hp
          rw [show l.length + 1 - (i + 1) = 0 by omega] at hp
          cases hp
      · cases h
theorem flat_le {B : Nat} : ∀ ks : List (List Int), (∀ k ∈ ks, k.length ≤ B) → ks.flatten.length ≤ ks.length * B
  | [], _ => by simp
  | k :: r, h => by
    have h1 := h k (by simp)
    have h2 := flat_le r (fun k hk => h k (by simp [hk]))
    simp only [List.flatten_cons, List.length_append, List.length_cons, Nat.add_mul, Nat.one_mul]
    omega
theorem kidsOf_flat {B : Nat} {ns : List RxNode} (h : KB B ns) : (kidsOf ns).flatten.length ≤ ns.length * B := by
  have := flat_le (B := B) (kidsOf ns) (fun k hk => by
    obtain ⟨n, hn, rfl⟩ := List.mem_map.1 hk
    exact h n hn)
  simpa [kidsOf] using this
end Go.Proofs.YtkmkencodcfloaaGreatDoor
