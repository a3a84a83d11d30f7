/-
  What is proved here: texts that are joined by a code point that none of them has are split there again. No condition; no program in sight.
-/
import Derived.Test.YtibbkddncjohkaaDoorSplitLaw
import Derived.Test.YtibbkddncjohkaaDoorFindLaw
import Derived.Lib.Join
namespace Go.Proofs.YtibbkddncjohkaaDoor
open Go.RowKit
set_option linter.unusedVariables false
set_option linter.unusedSimpArgs false

/-- code points joined by one -/
def joinR (c : Nat) : List (List Nat) → List Nat
  | [] => []
  | [a] => a
  | a :: b :: r => a ++ c :: joinR c (b :: r)
theorem no_occ {a : List Nat} {c : Nat} (ha : ∀ p ∈ a, isPt p) (hc : isPt c) (hn : c ∉ a) (b : Nat) : Lib.occAt (texts a) (texts [c]) b = false := by
  cases h : Lib.occAt (texts a) (texts [c]) b with
  | false => rfl
  | true =>
    obtain ⟨k, _, hk⟩ := occ_place a [c] ha (by intro p hp; rw [List.mem_singleton.1 hp]; exact hc) (by simp) b h
    have hm : c ∈ (a.drop k).take 1 := by
      have : ([c] : List Nat).length = 1 := rfl
      rw [this] at hk
      rw [hk]; simp
    exact absurd (List.mem_of_mem_drop (List.mem_of_mem_take hm)) hn
theorem index_first {a r : List Nat} {c : Nat} (ha : ∀ p ∈ a ++ c :: r, isPt p) (hc : isPt c) (hn : c ∉ a) : Lib.index (texts (a ++ c :: r)) (texts [c]) = ((texts a).length : Int) := by
  have hone : ∀ p ∈ [c], isPt p := by intro p hp; rw [List.mem_singleton.1 hp]; exact hc
  have hbl : blen (a ++ c :: r) a.length = (texts a).length := by unfold blen; rw [List.take_left]
  have hocc : Lib.occAt (texts (a ++ c :: r)) (texts [c]) (blen (a ++ c :: r) a.length) = true := place_occ (ts := [c]) (by rw [List.drop_left]; rfl)
  rcases Lib.index_spec (texts (a ++ c :: r)) (texts [c]) with ⟨_, h2⟩ | ⟨i, h1, h2, h3, h4⟩
  · have hle : blen (a ++ c :: r) a.length ≤ (texts (a ++ c :: r)).length := by rw [hbl, texts_append, List.length_append]; omega
    rw [h2 _ hle] at hocc
    cases hocc
  · obtain ⟨k, hk1, hk2⟩ := occ_place _ [c] ha hone (by simp) i h3
    have hka : a.length ≤ k := by
      rcases Nat.lt_or_ge k a.length with h | h
      · exfalso
        have hm : ((a ++ c :: r).drop k).take 1 = [c] := hk2
        rw [List.drop_append_of_le_length (by omega), List.drop_eq_getElem_cons h, List.cons_append, List.take_succ_cons] at hm
        have : a[k] = c := by
          have := List.head_eq_of_cons_eq hm
          exact this
        exact hn (this ▸ List.getElem_mem h)
      · exact h
    have hle : (texts a).length ≤ i := by
      rw [hk1, ← hbl]
      rcases Nat.eq_or_lt_of_le hka with h | h
      · rw [h]; exact Nat.le_refl _
      · exact Nat.le_of_lt (blen_mono _ h (by simp))
    have hge : i ≤ (texts a).length := by
      rcases Nat.lt_or_ge (texts a).length i with h | h
      · exfalso
        have := h4 _ h
        rw [← hbl, hocc] at this
        cases this
      · exact h
    rw [h1]
    omega
theorem joinR_ok {c : Nat} (hc : isPt c) : ∀ xs : List (List Nat), (∀ a ∈ xs, ∀ p ∈ a, isPt p) → ∀ p ∈ joinR c xs, isPt p
  | [], _ => fun p hp => absurd hp (by simp [joinR])
  | [a], h => fun p hp => h a (by simp) p hp
  | a :: b :: r, h => fun p hp => by
    have ih := joinR_ok hc (b :: r) (fun x hx => h x (List.mem_cons_of_mem _ hx))
    rcases List.mem_append.1 hp with h' | h'
    · exact h a (by simp) p h'
    · rcases List.mem_cons.1 h' with rfl | h'
      · exact hc
      · exact ih p h'
theorem split_cons {a J : List Nat} {c : Nat} (hall : ∀ p ∈ a ++ c :: J, isPt p) (hc : isPt c) (hn : c ∉ a) : partsB (mkB (texts (a ++ c :: J))) (mkB (texts [c])) = mkB (texts a) :: partsB (mkB (texts J)) (mkB (texts [c])) := by
  have hix := index_first hall hc hn
  have hsz : 1 ≤ (mkB (texts [c])).size := by
    rw [mkB_size]
    obtain ⟨x, l, e, _⟩ := enc_head hc
    rw [texts_cons, e]
    simp
  have e1 : texts (a ++ c :: J) = texts a ++ (texts [c] ++ texts J) := by rw [texts_append, texts_cons, texts_cons]; simp [texts]
  have h1 : (mkB (texts (a ++ c :: J))).extract 0 (texts a).length = mkB (texts a) := by
    apply ba_ext
    rw [extract_l, mkB_data, mkB_data, e1, List.drop_zero, List.take_left]
  have h2 : (mkB (texts (a ++ c :: J))).extract ((texts a).length + (mkB (texts [c])).size) (mkB (texts (a ++ c :: J))).size = mkB (texts J) := by
    apply ba_ext
    rw [extract_l, mkB_data, mkB_data, mkB_size, mkB_size, List.take_of_length_le (Nat.le_refl _), e1, ← List.drop_drop, List.drop_left, List.drop_left]
  have h3 := partsB_hit (s := mkB (texts (a ++ c :: J))) (sep := mkB (texts [c])) (i := (texts a).length) hsz hix
  rw [h1, h2] at h3
  exact h3
theorem split_run {c : Nat} (hc : isPt c) (xs : List (List Nat)) : xs ≠ [] → (∀ a ∈ xs, (∀ p ∈ a, isPt p) ∧ c ∉ a) → partsB (mkB (texts (joinR c xs))) (mkB (texts [c])) = xs.map fun a => mkB (texts a) := by
  induction xs with
  | nil => intro h; exact absurd rfl h
  | cons a r ih =>
    intro _ h
    obtain ⟨h1, h2⟩ := h a (by simp)
    cases r with
    | nil =>
      have hm : Lib.indexB (mkB (texts a)) (mkB (texts [c])) = -1 := by
        rcases Lib.index_spec (texts a) (texts [c]) with ⟨h3, _⟩ | ⟨i, _, _, h4, _⟩
        · exact h3
        · rw [no_occ h1 hc h2 i] at h4; cases h4
      have h5 := partsB_miss hm
      rw [joinR, List.map_cons, List.map_nil]
      exact h5
    | cons b r =>
      have h3 := ih (by simp) (fun x hx => h x (List.mem_cons_of_mem _ hx))
      have hall := joinR_ok hc (a :: b :: r) (fun x hx => (h x hx).1)
      rw [joinR] at hall ⊢
      rw [split_cons hall hc h2, h3]
      rfl
theorem join_texts (c : Nat) : ∀ xs : List (List Nat), texts (joinR c xs) = Lib.join (xs.map texts) (texts [c])
  | [] => rfl
  | [a] => by rw [List.map_cons, List.map_nil, Lib.join_one]; rfl
  | a :: b :: r => by
    have ih := join_texts c (b :: r)
    have e1 : texts (a ++ c :: joinR c (b :: r)) = texts a ++ (texts [c] ++ texts (joinR c (b :: r))) := by rw [texts_append, texts_cons, texts_cons]; simp [texts]
    show texts (a ++ c :: joinR c (b :: r)) = _
    rw [e1, ih]
    simp [Lib.join, List.intercalate, List.intersperse]
/-- what is joined is split, and is a text if it is short -/
theorem joined_split {xs : List ByteArray} {sep : ByteArray} {c : Nat} (hs : sep = mkB (texts [c])) (hc : isPt c) (hne : xs ≠ []) (hok : ∀ x ∈ xs, okText x = true) (hno : ∀ x ∈ xs, c ∉ runesN x.data.toList) :
    partsB (mkB (Lib.join (xs.map (·.data.toList)) sep.data.toList)) sep = xs ∧ ((Lib.join (xs.map (·.data.toList)) sep.data.toList).length ≤ 1000 → okText (mkB (Lib.join (xs.map (·.data.toList)) sep.data.toList)) = true) := by
  subst hs
  have hx : ∀ x ∈ xs, texts (runesN x.data.toList) = x.data.toList := fun x hx => texts_runes _ _ _ rfl (ok_runes (hok x hx)).1
  have hp : ∀ a ∈ xs.map fun x => runesN x.data.toList, (∀ p ∈ a, isPt p) ∧ c ∉ a := by
    intro a ha
    obtain ⟨x, hxm, rfl⟩ := List.mem_map.1 ha
    exact ⟨(ok_pts (hok x hxm)).1, hno x hxm⟩
  have hm : (xs.map fun x => runesN x.data.toList).map texts = xs.map (·.data.toList) := by
    rw [List.map_map]
    exact List.map_congr_left (fun x h => hx x h)
  have hj := join_texts c (xs.map fun x => runesN x.data.toList)
  rw [hm] at hj
  rw [mkB_data, ← hj]
  refine ⟨?_, fun hl => ?_⟩
  · rw [split_run hc _ (by simpa using hne) hp, List.map_map]
    refine (List.map_congr_left (fun x h => ?_)).trans (List.map_id xs)
    show mkB (texts (runesN x.data.toList)) = x
    rw [hx x h]
    exact mkB_of x
  · have hr := runes_texts _ (joinR_ok hc _ (fun a ha => (hp a ha).1))
    unfold okText textOk runes?
    rw [mkB_data, if_pos hl, hr]
    rfl
end Go.Proofs.YtibbkddncjohkaaDoor
