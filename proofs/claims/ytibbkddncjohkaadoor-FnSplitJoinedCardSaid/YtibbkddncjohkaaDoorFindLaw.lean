/-
  What is proved here: plain laws on places in texts: bytes that occur in a text occur at a code point's place. No program in sight; no condition.
-/
import Derived.Test.YtibbkddncjohkaaDoorPart
import Derived.Lib.IndexMore
namespace Go.Proofs.YtibbkddncjohkaaDoor
open Go.Lib
set_option linter.unusedVariables false
set_option linter.unusedSimpArgs false

theorem enc_tail {c : Nat} (hc : isPt c) {j : Nat} (h0 : 0 < j) (hj : j < (enc c).length) : 128 ≤ ((enc c)[j]).toNat ∧ ((enc c)[j]).toNat < 192 := by
  obtain ⟨h1, h2, h3⟩ := hc
  have key : ∀ l : List UInt8, enc c = l → ∀ (hj : j < l.length), (∀ x ∈ l.drop 1, 128 ≤ x.toNat ∧ x.toNat < 192) → 128 ≤ (l[j]).toNat ∧ (l[j]).toNat < 192 := by
    intro l _ hj hx
    apply hx
    rw [List.mem_iff_getElem]
    exact ⟨j - 1, by rw [List.length_drop]; omega, by rw [List.getElem_drop]; congr 1; omega⟩
  refine key _ rfl hj ?_
  unfold enc
  split
  · intro x hx; simp only [List.drop_succ_cons, List.drop_zero, List.mem_cons, List.not_mem_nil, or_false] at hx
  · split
    · intro x hx
      simp only [List.drop_succ_cons, List.drop_zero, List.mem_cons, List.not_mem_nil, or_false] at hx
      subst hx
      rw [ofNat_toNat (by omega)]
      omega
    · split
      · intro x hx
        simp only [List.drop_succ_cons, List.drop_zero, List.mem_cons, List.not_mem_nil, or_false] at hx
        rcases hx with rfl | rfl <;> (rw [ofNat_toNat (by omega)]; omega)
      · intro x hx
        simp only [List.drop_succ_cons, List.drop_zero, List.mem_cons, List.not_mem_nil, or_false] at hx
        rcases hx with rfl | rfl | rfl <;> (rw [ofNat_toNat (by omega)]; omega)
theorem enc_head {c : Nat} (hc : isPt c) : ∃ x l, enc c = x :: l ∧ (x.toNat < 128 ∨ 192 ≤ x.toNat) := by
  obtain ⟨h1, h2, h3⟩ := hc
  unfold enc
  split
  · exact ⟨_, _, rfl, by rw [ofNat_toNat (by omega)]; omega⟩
  · split
    · exact ⟨_, _, rfl, by rw [ofNat_toNat (by omega)]; omega⟩
    · split
      · exact ⟨_, _, rfl, by rw [ofNat_toNat (by omega)]; omega⟩
      · exact ⟨_, _, rfl, by rw [ofNat_toNat (by omega)]; omega⟩
def blen (rs : List Nat) (k : Nat) : Nat := (texts (rs.take k)).length
theorem texts_cons (c : Nat) (rs : List Nat) : texts (c :: rs) = enc c ++ texts rs := by simp [texts]
theorem blen_zero (rs : List Nat) : blen rs 0 = 0 := by simp [blen, texts]
theorem blen_cons (c : Nat) (rs : List Nat) (k : Nat) : blen (c :: rs) (k + 1) = (enc c).length + blen rs k := by
  unfold blen
  rw [List.take_succ_cons, texts_cons, List.length_append]
theorem blen_drop (rs : List Nat) (k : Nat) : (texts rs).drop (blen rs k) = texts (rs.drop k) := by
  unfold blen
  conv => lhs; rw [← List.take_append_drop k rs]
  rw [texts_append]
  simp
theorem blen_take (rs : List Nat) (k : Nat) : (texts rs).take (blen rs k) = texts (rs.take k) := by
  unfold blen
  conv => lhs; rw [← List.take_append_drop k rs]
  rw [texts_append]
  simp
theorem blen_mono (rs : List Nat) : ∀ {i k : Nat}, i < k → i < rs.length → blen rs i < blen rs k := by
  induction rs with
  | nil => intro i k _ h; simp at h
  | cons c rs ih =>
    intro i k hik hi
    have hp := enc_pos c
    cases k with
    | zero => omega
    | succ k =>
      cases i with
      | zero => rw [blen_zero, blen_cons]; omega
      | succ i =>
        rw [blen_cons, blen_cons]
        have := ih (i := i) (k := k) (by omega) (by simpa using hi)
        omega
theorem prefix_runes {rs ts : List Nat} (hr : ∀ c ∈ rs, isPt c) (ht : ∀ c ∈ ts, isPt c) (h : texts ts <+: texts rs) : ts <+: rs := by
  obtain ⟨u, hu⟩ := h
  have h1 := runes_texts rs hr
  rw [← hu, runesAll_append _ _ _ _ rfl (runes_texts ts ht)] at h1
  cases hx : runesAll u with
  | none => rw [hx] at h1; simp at h1
  | some x =>
    rw [hx] at h1
    simp at h1
    exact ⟨x, h1⟩
theorem occ_place : ∀ (rs ts : List Nat), (∀ c ∈ rs, isPt c) → (∀ c ∈ ts, isPt c) → ts ≠ [] → ∀ b, occAt (texts rs) (texts ts) b = true → ∃ k, b = blen rs k ∧ (rs.drop k).take ts.length = ts
  | [], ts, hr, ht, hne, b, h => by
    exfalso
    obtain ⟨c, ts', rfl⟩ := List.exists_cons_of_ne_nil hne
    unfold occAt at h
    rw [texts_cons] at h
    have := enc_pos c
    obtain ⟨x, l, hx, _⟩ := enc_head (ht c (by simp))
    rw [hx] at h
    simp [texts] at h
  | c :: rs, ts, hr, ht, hne, b, h => by
    by_cases hb0 : b = 0
    · subst hb0
      unfold occAt at h
      rw [List.drop_zero, List.isPrefixOf_iff_prefix] at h
      have hp := prefix_runes hr ht h
      exact ⟨0, (blen_zero _).symm, by rw [List.drop_zero]; exact (List.prefix_iff_eq_take.1 hp).symm⟩
    by_cases hbl : b < (enc c).length
    · exfalso
      have hc := hr c (by simp)
      have h1 := enc_tail hc (by omega) hbl
      unfold occAt at h
      obtain ⟨t0, ts', rfl⟩ := List.exists_cons_of_ne_nil hne
      obtain ⟨x, l, hx, hx2⟩ := enc_head (ht t0 (by simp))
      rw [texts_cons, hx, texts_cons, List.drop_append_of_le_length (by omega), List.drop_eq_getElem_cons hbl] at h
      simp only [List.cons_append, List.isPrefixOf, Bool.and_eq_true, beq_iff_eq] at h
      rw [← h.1] at h1
      omega
    · have h2 : occAt (texts rs) (texts ts) (b - (enc c).length) = true := by
        unfold occAt at h ⊢
        rw [texts_cons, List.drop_append, List.drop_eq_nil_of_le (by omega), List.nil_append] at h
        exact h
      obtain ⟨k, hk1, hk2⟩ := occ_place rs ts (fun x hx => hr x (by simp [hx])) ht hne _ h2
      exact ⟨k + 1, by rw [blen_cons]; omega, by simpa using hk2⟩
theorem place_occ {rs ts : List Nat} {k : Nat} (h : (rs.drop k).take ts.length = ts) : occAt (texts rs) (texts ts) (blen rs k) = true := by
  unfold occAt
  rw [blen_drop, List.isPrefixOf_iff_prefix]
  refine ⟨texts ((rs.drop k).drop ts.length), ?_⟩
  rw [← texts_append]
  conv => lhs; rw [← h]
  rw [show (List.take ts.length (List.drop k rs)).length = min ts.length (rs.drop k).length by simp]
  have hl : ts.length ≤ (rs.drop k).length := by
    have := congrArg List.length h
    rw [List.length_take] at this
    omega
  rw [Nat.min_eq_left hl, List.take_append_drop]

/-- the code points from place i on -/
theorem partK_window {rs : List Nat} {i n : Nat} (hn : 1 ≤ n) : ∀ k, k ≤ rs.length → partK rs ((i : Int) + 1) (n : Int) k = ((rs.take k).drop i).take n := by
  intro k
  induction k with
  | zero => intro _; simp [partK]
  | succ k ih =>
    intro hk
    by_cases h1 : i ≤ k
    · by_cases h2 : k < i + n
      · rw [partK_yes (by unfold selB; simp only [Bool.and_eq_true, decide_eq_true_eq]; omega) (by omega), ih (by omega)]
        rw [List.take_add_one, List.getElem?_eq_getElem (show k < rs.length by omega), Option.toList_some, List.drop_append_of_le_length (by rw [List.length_take]; omega)]
        have e1 : ((rs.take k).drop i).take n = (rs.take k).drop i := List.take_of_length_le (by rw [List.length_drop, List.length_take]; omega)
        have e2 : ((rs.take k).drop i ++ [rs[k]]).take n = (rs.take k).drop i ++ [rs[k]] := List.take_of_length_le (by rw [List.length_append, List.length_drop, List.length_take, List.length_singleton]; omega)
        rw [e1, e2]
      · rw [partK_no (by unfold selB; simp only [Bool.and_eq_false_iff, decide_eq_false_iff_not]; omega), ih (by omega)]
        rw [List.take_add_one, List.getElem?_eq_getElem (show k < rs.length by omega), Option.toList_some, List.drop_append_of_le_length (by rw [List.length_take]; omega)]
        rw [List.take_append_of_le_length (by rw [List.length_drop, List.length_take]; omega)]
    · rw [partK_no (by unfold selB; simp only [Bool.and_eq_false_iff, decide_eq_false_iff_not]; omega), ih (by omega), List.drop_eq_nil_of_le (by rw [List.length_take]; omega), List.drop_eq_nil_of_le (by rw [List.length_take]; omega)]

def findT (s t : ByteArray) : Int :=
  if okText s = true ∧ okText t = true ∧ ¬ t.size = 0 then (if index s.data.toList t.data.toList < 0 then 0 else lenOf (s.extract 0 (index s.data.toList t.data.toList).toNat) + 1) else 0
theorem extract_list (s : ByteArray) (k : Nat) : (s.extract 0 k).data.toList = s.data.toList.take k := by
  rw [ByteArray.data_extract]
  simp
theorem texts_inj {a b : List Nat} (ha : ∀ c ∈ a, isPt c) (hb : ∀ c ∈ b, isPt c) (h : texts a = texts b) : a = b := by
  have h1 := runes_texts a ha
  rw [h, runes_texts b hb] at h1
  exact (Option.some.inj h1).symm
/-- where a text is found it stands, and nowhere ahead of it -/
theorem find_law {s t : ByteArray} (hs : okText s = true) (ht : okText t = true) (hne : ¬ t.size = 0) :
    0 ≤ findT s t ∧ findT s t ≤ lenOf s ∧ ∀ i : Nat, (i : Int) < lenOf s →
      (partT s ((i : Int) + 1) (lenOf t) = t → ¬ findT s t = 0 ∧ findT s t ≤ (i : Int) + 1) ∧ (findT s t = (i : Int) + 1 → partT s ((i : Int) + 1) (lenOf t) = t) := by
  obtain ⟨hr, hsz, hl⟩ := ok_runes hs
  obtain ⟨hr2, hsz2, hl2⟩ := ok_runes ht
  have hpt := (ok_pts hs).1
  have hpt2 := (ok_pts ht).1
  have hls := lenOf_ok hs
  have hlt := lenOf_ok ht
  have htx := texts_runes _ _ _ rfl hr
  have htx2 := texts_runes _ _ _ rfl hr2
  have hpart : ∀ f c, partT s f c = mkB (texts (partL (runesN s.data.toList) f c)) := fun f c => by unfold partT; rw [hs]; rfl
  obtain ⟨rs, hrs⟩ : ∃ rs, runesN s.data.toList = rs := ⟨_, rfl⟩
  obtain ⟨ts, hts⟩ : ∃ ts, runesN t.data.toList = ts := ⟨_, rfl⟩
  rw [hrs] at hr hpt htx hls hl
  rw [hts] at hr2 hpt2 htx2 hlt hl2
  have htne : ts ≠ [] := by
    rintro rfl
    rw [show texts [] = [] from rfl] at htx2
    exact hne (by rw [Lib.size_eq, ← htx2]; rfl)
  have hn1 : 1 ≤ ts.length := by
    cases ts with
    | nil => exact absurd rfl htne
    | cons a b => simp
  have hstand : ∀ i : Nat, i < rs.length → (partT s ((i : Int) + 1) (lenOf t) = t ↔ (rs.drop i).take ts.length = ts) := by
    intro i hi
    rw [hpart, hrs, hlt, partL, partK_window hn1 _ (Nat.le_refl _), List.take_length]
    constructor
    · intro h
      have h2 : texts ((rs.drop i).take ts.length) = texts ts := by
        rw [htx2]
        exact congrArg (fun x : ByteArray => x.data.toList) h
      exact texts_inj (fun c hc => hpt c (List.mem_of_mem_drop (List.mem_of_mem_take hc))) hpt2 h2
    · intro h
      rw [h, htx2, mkB_of]
  have hf : findT s t = if index (texts rs) (texts ts) < 0 then 0 else lenOf (s.extract 0 (index (texts rs) (texts ts)).toNat) + 1 := by
    unfold findT
    rw [if_pos ⟨hs, ht, hne⟩, htx, htx2]
  rcases index_spec (texts rs) (texts ts) with ⟨h1, h2⟩ | ⟨b, h1, h2, h3, h4⟩
  · rw [h1, if_pos (by omega)] at hf
    rw [hf, hls]
    refine ⟨by omega, by omega, fun i hi => ⟨fun h => ?_, fun h => by omega⟩⟩
    exfalso
    have := place_occ ((hstand i (by omega)).1 h)
    have hle : blen rs i ≤ (texts rs).length := by
      have := congrArg List.length (blen_take rs i)
      unfold blen at *
      rw [List.length_take] at this
      omega
    rw [h2 _ hle] at this
    exact absurd this (by simp)
  · obtain ⟨k, hk1, hk2⟩ := occ_place rs ts hpt hpt2 htne b h3
    have hkl : k < rs.length := by
      rcases Nat.lt_or_ge k rs.length with h | h
      · exact h
      · rw [List.drop_eq_nil_of_le h] at hk2
        simp at hk2
        exact absurd hk2.symm (by simpa using htne)
    have hex : lenOf (s.extract 0 b) = k := by
      have hp : ∀ c ∈ rs.take k, isPt c := fun c hc => hpt c (List.mem_of_mem_take hc)
      have hd : (s.extract 0 b).data.toList = texts (rs.take k) := by rw [extract_list, ← htx, hk1, blen_take]
      have hru := runes_texts _ hp
      have hle : (texts (rs.take k)).length ≤ 1000 := by
        rw [← blen_take, List.length_take, htx, ← Lib.size_eq]; omega
      obtain ⟨q1, q2⟩ := runes_some hle hru
      have hok2 : okText (s.extract 0 b) = true := by unfold okText; rw [hd]; exact q2
      rw [lenOf_ok hok2, hd, q1, List.length_take]
      omega
    rw [h1, if_neg (by omega), Int.toNat_natCast, hex] at hf
    rw [hf, hls]
    refine ⟨by omega, by omega, fun i hi => ⟨fun h => ⟨by omega, ?_⟩, fun h => ?_⟩⟩
    · rcases Nat.lt_or_ge i k with hik | hik
      · exfalso
        have ho := place_occ ((hstand i (by omega)).1 h)
        have hm := blen_mono rs hik (by omega)
        have := h4 (blen rs i) (by omega)
        rw [ho] at this
        exact absurd this (by simp)
      · omega
    · have : i = k := by omega
      subst this
      exact (hstand i hkl).2 hk2
end Go.Proofs.YtibbkddncjohkaaDoor
