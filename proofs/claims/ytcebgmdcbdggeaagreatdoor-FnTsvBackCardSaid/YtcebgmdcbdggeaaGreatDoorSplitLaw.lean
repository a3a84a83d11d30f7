/-
  What is proved here: the plain laws of splitting: the parts joined again; the lines of a text; its paragraphs. No condition; no program in sight.
-/
import Derived.Test.YtcebgmdcbdggeaaGreatDoorRowLaw
import Derived.Lib.SplitLaws
import Derived.Lib.CutLaws
import Derived.Lib.IndexMore
namespace Go.Proofs.YtcebgmdcbdggeaaGreatDoor
open Go.RowKit
set_option linter.unusedVariables false
set_option linter.unusedSimpArgs false

def partsB (s sep : ByteArray) : List ByteArray := Lib.splitB sep 0 (Lib.countB s sep) s
theorem partsB_miss {s sep : ByteArray} (h : Lib.indexB s sep = -1) : partsB s sep = [s] := Lib.splitB_miss sep 0 _ s h
theorem partsB_hit {s sep : ByteArray} {i : Nat} (h1 : 1 ≤ sep.size) (h : Lib.indexB s sep = i) : partsB s sep = s.extract 0 i :: partsB (s.extract (i + sep.size) s.size) sep := by
  unfold partsB
  rw [Lib.countB_hit s sep i h1 h, Nat.add_comm, Lib.splitB_hit sep 0 _ s i h]
  rfl
theorem partsB_len (s sep : ByteArray) (h1 : 1 ≤ sep.size) : (partsB s sep).length = Lib.countB s sep + 1 := Lib.splitB_all sep h1 0 _ s rfl
theorem partsB_ne (s sep : ByteArray) : partsB s sep ≠ [] := by
  unfold partsB
  cases Lib.countB s sep with
  | zero => simp [Lib.splitB]
  | succ k => unfold Lib.splitB; split <;> simp
/-- the texts one behind the other, each with the separator -/
def joinE (sep : ByteArray) (l : List ByteArray) : ByteArray := l.foldl (fun t p => t ++ p ++ sep) ⟨#[]⟩
theorem ba_ext {a b : ByteArray} (h : a.data.toList = b.data.toList) : a = b := by
  cases a; cases b; congr 1; exact Array.toList_inj.1 h
theorem ba_append (a b : ByteArray) : (a ++ b).data.toList = a.data.toList ++ b.data.toList := by simp
theorem extract_l (s : ByteArray) (a b : Nat) : (s.extract a b).data.toList = (s.data.toList.take b).drop a := by
  rw [ByteArray.data_extract]
  simp only [Array.toList_extract, List.extract, List.drop_take]
theorem ba_len (s : ByteArray) : s.data.toList.length = s.size := rfl
theorem joinE_from (sep : ByteArray) (l : List ByteArray) : ∀ t : ByteArray, (l.foldl (fun t p => t ++ p ++ sep) t).data.toList = t.data.toList ++ (l.map fun p => p.data.toList ++ sep.data.toList).flatten := by
  induction l with
  | nil => intro t; simp
  | cons p r ih =>
    intro t
    rw [List.foldl_cons, ih]
    simp [ba_append]
theorem joinE_list (sep : ByteArray) (l : List ByteArray) : (joinE sep l).data.toList = (l.map fun p => p.data.toList ++ sep.data.toList).flatten := by
  unfold joinE
  rw [joinE_from]
  simp
theorem joinE_app (sep : ByteArray) (l : List ByteArray) (p : ByteArray) : joinE sep (l ++ [p]) = joinE sep l ++ p ++ sep := by
  unfold joinE
  rw [List.foldl_append]
  rfl
theorem index_at {s sep : ByteArray} {i : Nat} (h : Lib.indexB s sep = i) : s.data.toList = s.data.toList.take i ++ (sep.data.toList ++ s.data.toList.drop (i + sep.size)) := by
  rcases Lib.index_spec s.data.toList sep.data.toList with ⟨h1, _⟩ | ⟨j, h1, h2, h3, _⟩
  · have h0 : Lib.index s.data.toList sep.data.toList = i := h
    omega
  · have h0 : Lib.index s.data.toList sep.data.toList = i := h
    obtain rfl : j = i := by omega
    have h4 : sep.data.toList <+: s.data.toList.drop j := List.isPrefixOf_iff_prefix.1 h3
    obtain ⟨r, hr⟩ := h4
    have h5 : s.data.toList.drop (j + sep.size) = r := by
      rw [← List.drop_drop, ← hr, List.drop_left' (ba_len sep)]
    rw [h5, hr, List.take_append_drop]
theorem joinE_parts (sep : ByteArray) (h1 : 1 ≤ sep.size) : ∀ (n : Nat) (s : ByteArray), s.size ≤ n → joinE sep (partsB s sep) = s ++ sep := by
  intro n
  induction n with
  | zero =>
    intro s hs
    rcases Lib.indexB_cases s sep with h | ⟨i, h, hi⟩
    · rw [partsB_miss h]; apply ba_ext; rw [joinE_list, ba_append]; simp
    · omega
  | succ n ih =>
    intro s hs
    rcases Lib.indexB_cases s sep with h | ⟨i, h, hi⟩
    · rw [partsB_miss h]; apply ba_ext; rw [joinE_list, ba_append]; simp
    · have hsz : (s.extract (i + sep.size) s.size).size ≤ n := by rw [ByteArray.size_extract]; omega
      have h2 := ih _ hsz
      apply ba_ext
      have h3 := congrArg (fun b : ByteArray => b.data.toList) h2
      simp only [joinE_list, ba_append] at h3
      rw [partsB_hit h1 h, joinE_list, List.map_cons, List.flatten_cons, h3, ba_append, extract_l, extract_l]
      have e1 := index_at h
      rw [List.drop_zero, List.append_assoc, ← List.append_assoc, show s.data.toList.take s.size = s.data.toList from List.take_of_length_le (by rw [ba_len]; exact Nat.le_refl _)]
      conv => rhs; rw [e1]
      simp

/-! ### lines -/
def consH (a : List UInt8) : List (List UInt8) → List (List UInt8)
  | [] => [a]
  | h :: t => (a ++ h) :: t
def lns : List UInt8 → List (List UInt8)
  | [] => [[]]
  | c :: r => if c = 10 then [] :: lns r else consH [c] (lns r)
theorem lns_ne (l : List UInt8) : lns l ≠ [] := by
  cases l with
  | nil => simp [lns]
  | cons c r =>
    unfold lns
    split
    · simp
    · cases lns r <;> simp [consH]
theorem consH_nil {l : List (List UInt8)} (h : l ≠ []) : consH [] l = l := by
  cases l with
  | nil => exact absurd rfl h
  | cons a b => rfl
theorem consH_consH (a b : List UInt8) (l : List (List UInt8)) : consH a (consH b l) = consH (a ++ b) l := by
  cases l with
  | nil => rfl
  | cons c d => simp [consH]
theorem lns_nl (r : List UInt8) : lns (10 :: r) = [] :: lns r := by rw [lns, if_pos rfl]
theorem lns_c {c : UInt8} (r : List UInt8) (h : c ≠ 10) : lns (c :: r) = consH [c] (lns r) := by rw [lns, if_neg h]
theorem lns_pre : ∀ (a r : List UInt8), (∀ c ∈ a, c ≠ 10) → lns (a ++ r) = consH a (lns r) := by
  intro a
  induction a with
  | nil => intro r h; rw [List.nil_append, consH_nil (lns_ne r)]
  | cons c a ih =>
    intro r h
    rw [List.cons_append, lns_c _ (h c (by simp)), ih r (fun d hd => h d (by simp [hd])), consH_consH]
    rfl
theorem lns_app_nl : ∀ l : List UInt8, lns (l ++ [10]) = lns l ++ [[]] := by
  intro l
  induction l with
  | nil => rfl
  | cons c r ih =>
    rw [List.cons_append]
    by_cases hc : c = 10
    · subst hc; rw [lns_nl, lns_nl, ih]; rfl
    · rw [lns_c _ hc, lns_c _ hc, ih]
      cases h : lns r with
      | nil => exact absurd h (lns_ne r)
      | cons a b => rfl
theorem lns_no : ∀ l : List UInt8, ∀ p ∈ lns l, ∀ c ∈ p, c ≠ 10 := by
  intro l
  induction l with
  | nil => intro p hp c hc; simp [lns] at hp; subst hp; simp at hc
  | cons x r ih =>
    by_cases hx : x = 10
    · subst hx; rw [lns_nl]; intro p hp c hc
      rcases List.mem_cons.1 hp with h | h
      · subst h; simp at hc
      · exact ih p h c hc
    · rw [lns_c _ hx]
      cases h : lns r with
      | nil => exact absurd h (lns_ne r)
      | cons a b =>
        rw [h] at ih
        intro p hp c hc
        rcases List.mem_cons.1 hp with h' | h'
        · subst h'
          rcases List.mem_append.1 hc with h2 | h2
          · simp at h2; subst h2; exact hx
          · exact ih a (by simp) c h2
        · exact ih p (by simp [h']) c hc
def nlB : ByteArray := ⟨#[10]⟩
theorem index_nl (s : ByteArray) : Lib.indexB s nlB = Lib.indexByte s.data.toList 10 := Lib.index_one s.data.toList 10
theorem parts_nl : ∀ (n : Nat) (s : ByteArray), s.size ≤ n → (partsB s nlB).map (fun p => p.data.toList) = lns s.data.toList := by
  intro n
  induction n with
  | zero =>
    intro s hs
    rcases Lib.indexB_cases s nlB with h | ⟨i, h, hi⟩
    · rw [partsB_miss h]
      have h0 : s.data.toList = [] := List.eq_nil_of_length_eq_zero (by rw [ba_len]; omega)
      simp [h0, lns]
    · have : nlB.size = 1 := rfl
      omega
  | succ n ih =>
    intro s hs
    rcases Lib.indexB_cases s nlB with h | ⟨i, h, hi⟩
    · rw [partsB_miss h]
      rw [index_nl] at h
      have h1 := Lib.indexByte_none h
      have h2 := lns_pre s.data.toList [] (fun c hc e => by
        obtain ⟨k, hk, hkc⟩ := List.mem_iff_getElem.1 hc
        exact h1 k (by rw [List.getElem?_eq_getElem hk, hkc, e]))
      rw [List.append_nil] at h2
      rw [h2]
      simp [lns, consH]
    · have hl : nlB.size = 1 := rfl
      rw [partsB_hit (by decide) h, List.map_cons, ih _ (by rw [ByteArray.size_extract]; omega)]
      have e1 := index_at h
      rw [index_nl] at h
      obtain ⟨h1, h2⟩ := Lib.indexByte_some h
      have e2 : lns s.data.toList = consH (s.data.toList.take i) (lns (10 :: s.data.toList.drop (i + 1))) := by
        rw [← lns_pre]
        · congr 1
        · intro c hc e
          obtain ⟨k, hk, hkc⟩ := List.mem_iff_getElem.1 hc
          rw [List.length_take] at hk
          refine h2 k (by omega) ?_
          rw [List.getElem_take] at hkc
          rw [List.getElem?_eq_getElem (by omega), hkc, e]
      rw [e2, lns_nl, extract_l, extract_l, List.drop_zero, show s.data.toList.take s.size = s.data.toList from List.take_of_length_le (by rw [ba_len]; exact Nat.le_refl _), hl]
      simp [consH]
/-- the lines of a text, as strings -/
def lnsB (s : ByteArray) : List ByteArray := (lns s.data.toList).map fun l => ⟨l.toArray⟩
theorem parts_lnsB (s : ByteArray) : partsB s nlB = lnsB s := by
  have h := parts_nl s.size s (Nat.le_refl _)
  unfold lnsB
  rw [← h, List.map_map]
  have : ((fun l : List UInt8 => (⟨l.toArray⟩ : ByteArray)) ∘ fun p : ByteArray => p.data.toList) = id := by
    funext p; apply ba_ext; simp
  rw [this, List.map_id]
theorem lnsB_app (s : ByteArray) : lnsB (s ++ nlB) = lnsB s ++ [⟨#[]⟩] := by
  unfold lnsB
  rw [ba_append, show nlB.data.toList = [10] from rfl, lns_app_nl, List.map_append]
  rfl
/-! ### paragraphs -/
def pstep (st : List ByteArray × Bool) (l : ByteArray) : List ByteArray × Bool :=
  if l.size = 0 then (st.1, false) else if st.2 then (st.1.dropLast ++ [(st.1.getLast?.getD ⟨#[]⟩) ++ (nlB ++ l)], true) else (st.1 ++ [l], true)
def parasOf (s : ByteArray) : List ByteArray := ((lnsB s).foldl pstep ([], false)).1
theorem pstep_empty (o : List ByteArray) (b : Bool) {l : ByteArray} (h : l.size = 0) : pstep (o, b) l = (o, false) := by unfold pstep; rw [if_pos h]
theorem pstep_open (o : List ByteArray) (r : ByteArray) {l : ByteArray} (h : ¬ l.size = 0) : pstep (o ++ [r], true) l = (o ++ [r ++ (nlB ++ l)], true) := by
  unfold pstep
  rw [if_neg h, if_pos rfl]
  simp
theorem pstep_new (o : List ByteArray) {l : ByteArray} (h : ¬ l.size = 0) : pstep (o, false) l = (o ++ [l], true) := by unfold pstep; rw [if_neg h]; rfl
def pFold (s : ByteArray) (k : Nat) : List ByteArray × Bool := ((lnsB s).take k).foldl pstep ([], false)
theorem pFold_succ (s : ByteArray) (k : Nat) (hk : k < (lnsB s).length) : pFold s (k + 1) = pstep (pFold s k) (lnsB s)[k] := by
  unfold pFold
  rw [List.take_succ_eq_append_getElem hk, List.foldl_append]
  rfl
theorem pFold_all (s : ByteArray) : (pFold s (lnsB s).length).1 = parasOf s := by unfold pFold parasOf; rw [List.take_length]
theorem pFold_len (s : ByteArray) : ∀ k, (pFold s k).1.length ≤ k ∧ ((pFold s k).2 = true → 0 < (pFold s k).1.length) := by
  intro k
  induction k with
  | zero => exact ⟨Nat.le_refl _, fun h => by cases h⟩
  | succ k ih =>
    by_cases hk : k < (lnsB s).length
    · rw [pFold_succ s k hk]
      unfold pstep
      split
      · exact ⟨by simpa using Nat.le_succ_of_le ih.1, fun h => by cases h⟩
      · split
        · rename_i h
          have h1 := ih.2 h
          simp only [List.length_append, List.length_dropLast, List.length_cons, List.length_nil]
          exact ⟨by omega, fun _ => by omega⟩
        · simp only [List.length_append, List.length_cons, List.length_nil]
          exact ⟨by omega, fun _ => by omega⟩
    · have : pFold s (k + 1) = pFold s k := by unfold pFold; rw [List.take_of_length_le (by omega), List.take_of_length_le (by omega)]
      rw [this]
      exact ⟨Nat.le_succ_of_le ih.1, ih.2⟩
/-- a paragraph begins with a byte that is no line's end -/
def goodP (p : ByteArray) : Prop := ∃ c r, p.data.toList = c :: r ∧ c ≠ 10
theorem goodP_app {p : ByteArray} (h : goodP p) (q : ByteArray) : goodP (p ++ q) := by
  obtain ⟨c, r, h1, h2⟩ := h
  exact ⟨c, r ++ q.data.toList, by rw [ba_append, h1]; rfl, h2⟩
theorem pFold_good (s : ByteArray) : ∀ k, ∀ p ∈ (pFold s k).1, goodP p := by
  intro k
  induction k with
  | zero => intro p hp; simp [pFold] at hp
  | succ k ih =>
    by_cases hk : k < (lnsB s).length
    · rw [pFold_succ s k hk]
      have hline : ¬ ((lnsB s)[k]).size = 0 → goodP (lnsB s)[k] := by
        intro h
        have hm0 : ∀ p ∈ lnsB s, p.data.toList ∈ lns s.data.toList := by
          intro p hp
          unfold lnsB at hp
          obtain ⟨l, hl, rfl⟩ := List.mem_map.1 hp
          simpa using hl
        have hm := hm0 _ (List.getElem_mem hk)
        cases hc : ((lnsB s)[k]).data.toList with
        | nil => exact absurd (by rw [← ba_len, hc]; rfl) h
        | cons c r => exact ⟨c, r, hc, lns_no _ _ hm c (by rw [hc]; simp)⟩
      unfold pstep
      split
      · exact ih
      · rename_i hne
        split
        · intro p hp
          rcases List.mem_append.1 hp with h | h
          · exact ih p ((List.dropLast_sublist _).subset h)
          · simp only [List.mem_singleton] at h
            subst h
            cases hl : (pFold s k).1.getLast? with
            | none =>
              rename_i ho
              have := (pFold_len s k).2 ho
              rw [List.getLast?_eq_none_iff] at hl
              rw [hl] at this
              simp at this
            | some q => exact goodP_app (ih q (List.mem_of_getLast? hl)) _
        · intro p hp
          rcases List.mem_append.1 hp with h | h
          · exact ih p h
          · simp only [List.mem_singleton] at h
            subst h
            exact hline hne
    · have : pFold s (k + 1) = pFold s k := by unfold pFold; rw [List.take_of_length_le (by omega), List.take_of_length_le (by omega)]
      rw [this]
      exact ih
theorem parasOf_good (s : ByteArray) : ∀ p ∈ parasOf s, goodP p := by rw [← pFold_all]; exact pFold_good s _
/-- the lines that a text has, but for a last one that is empty -/
def recsOf (s sep : ByteArray) : List ByteArray := if (partsB s sep).getLast?.getD ⟨#[]⟩ = ⟨#[]⟩ then (partsB s sep).dropLast else partsB s sep
theorem recs_back (s sep : ByteArray) (h1 : 1 ≤ sep.size) : joinE sep (recsOf s sep) = s ∨ joinE sep (recsOf s sep) = s ++ sep := by
  have h := joinE_parts sep h1 s.size s (Nat.le_refl _)
  unfold recsOf
  split
  · rename_i he
    left
    have hne := partsB_ne s sep
    have e1 : partsB s sep = (partsB s sep).dropLast ++ [⟨#[]⟩] := by
      conv => lhs; rw [← List.dropLast_concat_getLast hne]
      rw [List.getLast?_eq_some_getLast hne] at he
      simp only [Option.getD_some] at he
      rw [he]
    rw [e1, joinE_app] at h
    apply ba_ext
    have h2 := congrArg (fun b : ByteArray => b.data.toList) h
    simp only [ba_append] at h2
    have h3 := List.append_cancel_right h2
    simpa using h3
  · exact Or.inr h
end Go.Proofs.YtcebgmdcbdggeaaGreatDoor
