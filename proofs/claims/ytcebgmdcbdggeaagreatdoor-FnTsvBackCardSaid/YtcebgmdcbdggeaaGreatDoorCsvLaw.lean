/-
  What is proved here: plain laws on rows with commas: reading, writing, and that rows are recovered from their text. No program in sight; no condition.
-/
import Derived.Test.YtcebgmdcbdggeaaGreatDoorFileOk
namespace Go.Proofs.YtcebgmdcbdggeaaGreatDoor
open Go.RowKit
set_option linter.unusedVariables false
set_option linter.unusedSimpArgs false

/-- how many bytes end a row here -/
def endR : List UInt8 → Option Nat
  | [] => some 0
  | c :: r => if c = 10 then some 1 else if c = 13 ∧ r.head? = some 10 then some 2 else none
/-- a cell without quotes: how many bytes, and a code -/
def unqN : List UInt8 → Nat × Nat
  | [] => (0, 0)
  | c :: r => if (endR (c :: r)).isSome = true ∨ c = 44 then (0, 0) else if c = 34 then (0, 2) else if c = 13 then (0, 4) else ((unqN r).1 + 1, (unqN r).2)
/-- a cell behind its first quote: its text, how many bytes with the last quote -/
def qP : List UInt8 → Option (List UInt8 × Nat)
  | [] => none
  | [c] => if c = 34 then some ([], 1) else none
  | c :: d :: r => if c = 34 then (if d = 34 then (qP r).map (fun q => (34 :: q.1, q.2 + 2)) else some ([], 1)) else (qP (d :: r)).map (fun q => (c :: q.1, q.2 + 1))
/-- may a cell end here? -/
def cellEnd (l : List UInt8) : Bool := (endR l).isSome || decide (l.head? = some 44)
/-- a cell: a code, how many bytes, the text -/
def cellP (l : List UInt8) : Nat × Nat × List UInt8 :=
  if l.head? = some 34 then
    match qP l.tail with
    | none => (3, l.length, [])
    | some (t, n) => if cellEnd (l.drop (n + 1)) = true then (0, n + 1, t) else (2, n + 1, [])
  else if (unqN l).2 = 0 then (0, (unqN l).1, l.take (unqN l).1) else ((unqN l).2, (unqN l).1, [])
/-- a row of at most so many cells more, off a place: a code, the place behind it or of the fault, the cells -/
def rowP (L : List UInt8) : Nat → Nat → List (List UInt8) → Nat × Nat × List (List UInt8)
  | 0, p, _ => (5, p, [])
  | k + 1, p, cs =>
    if (cellP (L.drop p)).1 ≠ 0 then ((cellP (L.drop p)).1, p + (cellP (L.drop p)).2.1, [])
    else if 1000 < (cellP (L.drop p)).2.2.length then (6, p, [])
    else match endR (L.drop (p + (cellP (L.drop p)).2.1)) with
      | some e => (0, p + (cellP (L.drop p)).2.1 + e, cs ++ [(cellP (L.drop p)).2.2])
      | none => rowP L k (p + (cellP (L.drop p)).2.1 + 1) (cs ++ [(cellP (L.drop p)).2.2])
/-- the rows off a place: rows, a place, a code -/
def readC (L : List UInt8) : Nat → Nat → List (List (List UInt8)) → List (List (List UInt8)) × Nat × Nat
  | 0, p, rs => (rs, 0, 0)
  | f + 1, p, rs => if L.length ≤ p then (rs, 0, 0) else if (rowP L 100 p []).1 ≠ 0 then (rs, (rowP L 100 p []).2.1, (rowP L 100 p []).1) else readC L f (rowP L 100 p []).2.1 (rs ++ [(rowP L 100 p []).2.2])
def csvR (s : ByteArray) : List (List (List UInt8)) × Nat × Nat := if fileOk s = true then readC s.data.toList s.size 0 [] else ([], 0, 1)
/-- a sign that wants quotes -/
def spc (c : UInt8) : Bool := decide (c = 44 ∨ c = 34 ∨ c = 10 ∨ c = 13)
def escQ : List UInt8 → List UInt8
  | [] => []
  | c :: r => if c = 34 then 34 :: 34 :: escQ r else c :: escQ r
def cellT (t : List UInt8) : List UInt8 := if t.any spc = true then 34 :: (escQ t ++ [34]) else t
def joinC : List (List UInt8) → List UInt8
  | [] => []
  | [a] => a
  | a :: b :: r => a ++ 44 :: joinC (b :: r)
def rowT (cs : List (List UInt8)) : List UInt8 := joinC (cs.map cellT) ++ [10]
def rowsT (rs : List (List (List UInt8))) : List UInt8 := (rs.map rowT).flatten
def rowOk (cs : List (List UInt8)) : Bool := decide (1 ≤ cs.length ∧ cs.length ≤ 100) && cs.all textOk
def rowsOk (rs : List (List (List UInt8))) : Bool := rs.all rowOk
/-- the text of rows -/
def csvT (rs : List (List (List UInt8))) : Option (List UInt8) := if rowsOk rs = true ∧ (rowsT rs).length ≤ 4000 then some (rowsT rs) else none

/-- what stands behind a cell in a text -/
def sepB (l : List UInt8) : Prop := l.head? = some 44 ∨ l.head? = some 10
theorem sepB_cons {l : List UInt8} (h : sepB l) : ∃ c r, l = c :: r ∧ (c = 44 ∨ c = 10) := by
  cases l with
  | nil => rcases h with h | h <;> cases h
  | cons c r => exact ⟨c, r, rfl, by rcases h with h | h <;> (injection h with h; simp [h])⟩
theorem sepB_end {l : List UInt8} (h : sepB l) : cellEnd l = true := by
  obtain ⟨c, r, rfl, rfl | rfl⟩ := sepB_cons h
  · simp [cellEnd]
  · simp [cellEnd, endR]
theorem spc_not {c : UInt8} (h : spc c = false) : c ≠ 44 ∧ c ≠ 34 ∧ c ≠ 10 ∧ c ≠ 13 := by
  unfold spc at h
  rw [decide_eq_false_iff_not] at h
  exact ⟨fun e => h (Or.inl e), fun e => h (Or.inr (Or.inl e)), fun e => h (Or.inr (Or.inr (Or.inl e))), fun e => h (Or.inr (Or.inr (Or.inr e)))⟩
theorem unq_run : ∀ {t rest : List UInt8}, t.any spc = false → sepB rest → unqN (t ++ rest) = (t.length, 0)
  | [], rest, _, hr => by
    obtain ⟨c, r, rfl, rfl | rfl⟩ := sepB_cons hr
    · rw [List.nil_append, unqN, if_pos (Or.inr rfl)]; rfl
    · rw [List.nil_append, unqN, if_pos (Or.inl (by simp [endR]))]; rfl
  | c :: t, rest, ht, hr => by
    rw [List.any_cons, Bool.or_eq_false_iff] at ht
    obtain ⟨h1, h2, h3, h4⟩ := spc_not ht.1
    have he : endR (c :: (t ++ rest)) = none := by
      show (if c = 10 then some 1 else if c = 13 ∧ (t ++ rest).head? = some 10 then some 2 else none) = none
      rw [if_neg h3, if_neg (fun h => h4 h.1)]
    rw [List.cons_append, unqN, he, if_neg (by simp [h1]), if_neg h2, if_neg h4, unq_run ht.2 hr]
    rfl
theorem qP_cons {c : UInt8} (h : c ≠ 34) : ∀ X : List UInt8, qP (c :: X) = (qP X).map (fun q => (c :: q.1, q.2 + 1))
  | [] => by
    show (if c = 34 then some ([], 1) else none) = none
    rw [if_neg h]
  | d :: r => by rw [qP, if_neg h]
theorem q_run : ∀ {t rest : List UInt8}, rest.head? ≠ some 34 → qP (escQ t ++ 34 :: rest) = some (t, (escQ t).length + 1)
  | [], rest, hr => by
    cases rest with
    | nil => rfl
    | cons d r =>
      have hd : d ≠ 34 := fun e => hr (by rw [e]; rfl)
      show qP (34 :: d :: r) = _
      rw [qP, if_pos rfl, if_neg hd]
      rfl
  | c :: t, rest, hr => by
    have ih := q_run (t := t) hr
    by_cases hc : c = 34
    · subst hc
      have e : escQ (34 :: t) = 34 :: 34 :: escQ t := by rw [escQ, if_pos rfl]
      rw [e, List.cons_append, List.cons_append, qP, if_pos rfl, if_pos rfl, ih]
      rfl
    · have e : escQ (c :: t) = c :: escQ t := by rw [escQ, if_neg hc]
      rw [e, List.cons_append, qP_cons hc, ih]
      rfl
theorem cell_run {t rest : List UInt8} (hr : sepB rest) : cellP (cellT t ++ rest) = (0, (cellT t).length, t) := by
  by_cases hs : t.any spc = true
  · have e : cellT t = 34 :: (escQ t ++ [34]) := by unfold cellT; rw [if_pos hs]
    have e2 : cellT t ++ rest = 34 :: (escQ t ++ 34 :: rest) := by rw [e]; simp
    have hne : rest.head? ≠ some 34 := by
      obtain ⟨c, r, rfl, rfl | rfl⟩ := sepB_cons hr <;> simp
    have hq := q_run (t := t) hne
    have hd : (34 :: (escQ t ++ 34 :: rest)).drop ((escQ t).length + 1 + 1) = rest := by
      rw [List.drop_succ_cons, show escQ t ++ 34 :: rest = (escQ t ++ [34]) ++ rest by simp, List.drop_left' (by simp)]
    unfold cellP
    rw [e2, if_pos (show (34 :: (escQ t ++ 34 :: rest) : List UInt8).head? = some 34 from rfl)]
    show (match qP (escQ t ++ 34 :: rest) with | none => _ | some (t, n) => _) = _
    rw [hq]
    dsimp only
    rw [hd, if_pos (sepB_end hr), e]
    simp
  · have hs : t.any spc = false := by simpa using hs
    have e : cellT t = t := by unfold cellT; rw [hs]; rfl
    have hh : (t ++ rest).head? ≠ some 34 := by
      cases t with
      | nil => obtain ⟨c, r, rfl, rfl | rfl⟩ := sepB_cons hr <;> simp
      | cons c t =>
        rw [List.any_cons, Bool.or_eq_false_iff] at hs
        have := (spc_not hs.1).2.1
        simp [this]
    unfold cellP
    rw [e, if_neg hh, unq_run hs hr]
    simp
theorem drop_more {L : List UInt8} {p : Nat} {a b : List UInt8} (h : L.drop p = a ++ b) : L.drop (p + a.length) = b := by
  rw [← List.drop_drop, h, List.drop_left]
theorem row_run {L : List UInt8} : ∀ (ts : List (List UInt8)) (k p : Nat) (cs : List (List UInt8)) (rest : List UInt8), ts ≠ [] → ts.length ≤ k → (∀ t ∈ ts, t.length ≤ 1000) → L.drop p = joinC (ts.map cellT) ++ 10 :: rest →
    rowP L k p cs = (0, p + (joinC (ts.map cellT)).length + 1, cs ++ ts)
  | [], _, _, _, _, h, _, _, _ => absurd rfl h
  | [t], k, p, cs, rest, _, hk, hl, hd => by
    obtain ⟨k, rfl⟩ : ∃ j, k = j + 1 := ⟨k - 1, by simp at hk; omega⟩
    have hd' : L.drop p = cellT t ++ 10 :: rest := hd
    have hc := cell_run (t := t) (rest := 10 :: rest) (Or.inr rfl)
    have hend := drop_more hd'
    have ht := hl t (by simp)
    rw [rowP, hd', hc]
    dsimp only
    rw [if_neg (by simp), if_neg (by omega), hend]
    rfl
  | t :: u :: ts, k, p, cs, rest, _, hk, hl, hd => by
    obtain ⟨k, rfl⟩ : ∃ j, k = j + 1 := ⟨k - 1, by simp at hk; omega⟩
    have hd' : L.drop p = cellT t ++ (44 :: (joinC ((u :: ts).map cellT) ++ 10 :: rest)) := by
      rw [hd]; simp [joinC]
    have hc := cell_run (t := t) (rest := 44 :: (joinC ((u :: ts).map cellT) ++ 10 :: rest)) (Or.inl rfl)
    have hend := drop_more hd'
    have hnext : L.drop (p + (cellT t).length + 1) = joinC ((u :: ts).map cellT) ++ 10 :: rest := by
      rw [← List.drop_drop, hend]; rfl
    have ht := hl t (by simp)
    have ih := row_run (u :: ts) k (p + (cellT t).length + 1) (cs ++ [t]) rest (by simp) (by simp at hk ⊢; omega) (fun x hx => hl x (by simp at hx ⊢; exact Or.inr hx)) hnext
    rw [rowP, hd', hc]
    dsimp only
    rw [if_neg (by simp), if_neg (by omega), hend]
    show rowP L k (p + (cellT t).length + 1) (cs ++ [t]) = _
    rw [ih]
    have e : joinC ((t :: u :: ts).map cellT) = cellT t ++ 44 :: joinC ((u :: ts).map cellT) := rfl
    rw [e]
    simp only [List.length_append, List.length_cons, List.append_assoc, List.singleton_append, Prod.mk.injEq, true_and, and_true]
    omega
theorem rows_run {L : List UInt8} : ∀ (rs : List (List (List UInt8))) (f p : Nat) (acc : List (List (List UInt8))), rs.length ≤ f → (∀ r ∈ rs, r ≠ [] ∧ r.length ≤ 100 ∧ ∀ t ∈ r, t.length ≤ 1000) → L.drop p = rowsT rs → readC L f p acc = (acc ++ rs, 0, 0)
  | [], f, p, acc, _, _, hd => by
    cases f with
    | zero => rw [readC, List.append_nil]
    | succ f =>
      have : L.length ≤ p := by
        have := congrArg List.length hd
        rw [List.length_drop] at this
        simp [rowsT] at this
        omega
      rw [readC, if_pos this, List.append_nil]
  | r :: rs, f, p, acc, hf, hr, hd => by
    obtain ⟨f, rfl⟩ : ∃ j, f = j + 1 := ⟨f - 1, by simp at hf; omega⟩
    obtain ⟨h1, h2, h3⟩ := hr r (by simp)
    have hd' : L.drop p = joinC (r.map cellT) ++ 10 :: rowsT rs := by
      rw [hd]; simp [rowsT, rowT]
    have hlen : ¬ L.length ≤ p := by
      intro h
      rw [List.drop_eq_nil_of_le h] at hd'
      exact absurd hd'.symm (by simp)
    have hrow := row_run r 100 p [] (rowsT rs) h1 h2 h3 hd'
    have hnext : L.drop (p + (joinC (r.map cellT)).length + 1) = rowsT rs := by
      rw [← List.drop_drop, drop_more hd']; rfl
    rw [readC, if_neg hlen, hrow]
    dsimp only
    rw [if_neg (by simp), rows_run rs f _ _ (by simp at hf; omega) (fun x hx => hr x (by simp [hx])) hnext]
    simp
/-! ### The text of rows is a file's -/
def okL (l : List UInt8) : Prop := (runesAll l).isSome = true
theorem okL_nil : okL [] := by unfold okL; rw [runesAll_nil]; rfl
theorem okL_texts {l : List UInt8} : okL l ↔ ∃ rs : List Nat, (∀ c ∈ rs, isPt c) ∧ texts rs = l := by
  unfold okL
  constructor
  · intro h
    cases hr : runesAll l with
    | none => rw [hr] at h; cases h
    | some rs => exact ⟨rs, (runesAll_len _ _ _ rfl hr).2.1, texts_runes _ _ _ rfl hr⟩
  · rintro ⟨rs, h1, rfl⟩
    rw [runes_texts rs h1]; rfl
theorem okL_app {a b : List UInt8} (ha : okL a) (hb : okL b) : okL (a ++ b) := by
  obtain ⟨ra, h1, rfl⟩ := okL_texts.1 ha
  obtain ⟨rb, h2, rfl⟩ := okL_texts.1 hb
  refine okL_texts.2 ⟨ra ++ rb, fun c hc => ?_, texts_append ra rb⟩
  rcases List.mem_append.1 hc with h | h
  · exact h1 c h
  · exact h2 c h
theorem okL_one {c : UInt8} (h : 1 ≤ c.toNat ∧ c.toNat < 128) : okL [c] := by
  refine okL_texts.2 ⟨[c.toNat], fun x hx => ?_, ?_⟩
  · rw [List.mem_singleton.1 hx]; exact ⟨h.1, by omega, by omega⟩
  · show enc c.toNat ++ [] = [c]
    unfold enc
    rw [if_pos h.2, UInt8.ofNat_toNat]; rfl
theorem okL_cons {c : UInt8} {r : List UInt8} (h : 1 ≤ c.toNat ∧ c.toNat < 128) (hr : okL r) : okL (c :: r) := okL_app (okL_one h) hr
theorem escQ_app : ∀ a b : List UInt8, escQ (a ++ b) = escQ a ++ escQ b
  | [], b => rfl
  | c :: a, b => by
    rw [List.cons_append, escQ, escQ, escQ_app a b]
    split <;> rfl
theorem escQ_same : ∀ {l : List UInt8}, (∀ c ∈ l, c ≠ 34) → escQ l = l
  | [], _ => rfl
  | c :: l, h => by rw [escQ, if_neg (h c (by simp)), escQ_same (fun x hx => h x (by simp [hx]))]
theorem enc_high {c : Nat} (h : ¬ c < 128) : ∀ x ∈ enc c, 128 ≤ x.toNat ∨ c ≥ 1114112 := by
  intro x hx
  by_cases hb : c < 1114112
  · left
    unfold enc at hx
    rw [if_neg h] at hx
    split at hx
    · simp only [List.mem_cons, List.not_mem_nil, or_false] at hx
      rcases hx with rfl | rfl <;> (rw [ofNat_toNat (by omega)]; omega)
    · split at hx
      · simp only [List.mem_cons, List.not_mem_nil, or_false] at hx
        rcases hx with rfl | rfl | rfl <;> (rw [ofNat_toNat (by omega)]; omega)
      · simp only [List.mem_cons, List.not_mem_nil, or_false] at hx
        rcases hx with rfl | rfl | rfl | rfl <;> (rw [ofNat_toNat (by omega)]; omega)
  · exact Or.inr (by omega)
theorem escQ_ok {t : List UInt8} (h : okL t) : okL (escQ t) := by
  obtain ⟨rs, h1, rfl⟩ := okL_texts.1 h
  clear h
  induction rs with
  | nil => exact okL_nil
  | cons c rs ih =>
    have ih' := ih (fun x hx => h1 x (by simp [hx]))
    have e : texts (c :: rs) = enc c ++ texts rs := by simp [texts]
    rw [e, escQ_app]
    refine okL_app ?_ ih'
    have hp := h1 c (by simp)
    by_cases hlow : c < 128
    · have e2 : enc c = [UInt8.ofNat c] := by unfold enc; rw [if_pos hlow]
      rw [e2, escQ]
      have hb : 1 ≤ (UInt8.ofNat c).toNat ∧ (UInt8.ofNat c).toNat < 128 := by
        rw [ofNat_toNat (by omega)]; exact ⟨hp.1, hlow⟩
      split
      · exact okL_cons (by decide) (okL_cons (by decide) okL_nil)
      · exact okL_cons hb okL_nil
    · rw [escQ_same (fun x hx e => ?_)]
      · exact okL_texts.2 ⟨[c], fun x hx => by rw [List.mem_singleton.1 hx]; exact hp, by simp [texts]⟩
      · rcases enc_high hlow x hx with h | h
        · rw [e] at h; exact absurd h (by decide)
        · have := hp.2; omega
theorem cellT_ok {t : List UInt8} (h : okL t) : okL (cellT t) := by
  unfold cellT
  split
  · exact okL_cons (by decide) (okL_app (escQ_ok h) (okL_one (by decide)))
  · exact h
theorem joinC_ok : ∀ {cs : List (List UInt8)}, (∀ c ∈ cs, okL c) → okL (joinC cs)
  | [], _ => okL_nil
  | [a], h => h a (by simp)
  | a :: b :: r, h => okL_app (h a (by simp)) (okL_cons (by decide) (joinC_ok (fun c hc => h c (by simp at hc ⊢; exact Or.inr hc))))
theorem textOk_okL {l : List UInt8} (h : textOk l = true) : okL l ∧ l.length ≤ 1000 := by
  unfold textOk runes? at h
  split at h
  · exact ⟨h, by assumption⟩
  · cases h
theorem rowOk_facts {r : List (List UInt8)} (h : rowOk r = true) : r ≠ [] ∧ r.length ≤ 100 ∧ (∀ t ∈ r, t.length ≤ 1000) ∧ ∀ t ∈ r, okL t := by
  unfold rowOk at h
  simp only [Bool.and_eq_true, decide_eq_true_eq, List.all_eq_true] at h
  obtain ⟨⟨h1, h2⟩, h3⟩ := h
  exact ⟨fun e => by rw [e] at h1; simp at h1, h2, fun t ht => (textOk_okL (h3 t ht)).2, fun t ht => (textOk_okL (h3 t ht)).1⟩
theorem rowsT_ok : ∀ {rs : List (List (List UInt8))}, rowsOk rs = true → okL (rowsT rs)
  | [], _ => okL_nil
  | r :: rs, h => by
    unfold rowsOk at h
    rw [List.all_cons, Bool.and_eq_true] at h
    have h1 := rowOk_facts h.1
    have e : rowsT (r :: rs) = (joinC (r.map cellT) ++ [10]) ++ rowsT rs := by simp [rowsT, rowT]
    rw [e]
    refine okL_app (okL_app (joinC_ok (fun c hc => ?_)) (okL_one (by decide))) (rowsT_ok h.2)
    obtain ⟨t, ht, rfl⟩ := List.mem_map.1 hc
    exact cellT_ok (h1.2.2.2 t ht)
theorem rowsT_len : ∀ (rs : List (List (List UInt8))), rs.length ≤ (rowsT rs).length
  | [] => Nat.zero_le _
  | r :: rs => by
    have := rowsT_len rs
    have e : rowsT (r :: rs) = (joinC (r.map cellT) ++ [10]) ++ rowsT rs := by simp [rowsT, rowT]
    rw [e]
    simp only [List.length_append, List.length_cons, List.length_nil]
    omega
/-- rows are recovered from their text -/
theorem csv_back {rs : List (List (List UInt8))} {t : List UInt8} (h : csvT rs = some t) : csvR (mkB t) = (rs, 0, 0) := by
  unfold csvT at h
  split at h
  · rename_i hc
    injection h with h
    subst h
    have hf : fileOk (mkB (rowsT rs)) = true := by
      unfold fileOk
      rw [mkB_size, mkB_data, decide_eq_true hc.2, Bool.true_and]
      exact rowsT_ok hc.1
    unfold csvR
    rw [hf, if_pos rfl, mkB_data, mkB_size, rows_run rs _ 0 [] (rowsT_len rs) (fun r hr => ?_) (by simp)]
    · simp
    · have := hc.1
      unfold rowsOk at this
      rw [List.all_eq_true] at this
      have h1 := rowOk_facts (this r hr)
      exact ⟨h1.1, h1.2.1, h1.2.2.1⟩
  · cases h
end Go.Proofs.YtcebgmdcbdggeaaGreatDoor
