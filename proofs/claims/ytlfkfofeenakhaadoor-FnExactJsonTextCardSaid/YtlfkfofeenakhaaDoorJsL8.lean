/-
  What is proved here: plain laws on JSON: a number or a word that stands elsewhere is read there. No program in sight; no condition.
-/
import Derived.Test.YtlfkfofeenakhaaDoorJsL7
namespace Go.Proofs.YtlfkfofeenakhaaDoor
open Go.RowKit
set_option linter.unusedVariables false
set_option linter.unusedSimpArgs false

/-- what may follow a value -/
def endV (c : Nat) : Prop := c = 0 ∨ c = 44 ∨ c = 93 ∨ c = 125
/-- from p to j, L stands in L2 from p2 on, and a value may end there -/
structure Sh (L L2 : List UInt8) (p j p2 : Nat) : Prop where
  le : p ≤ j
  same : ∀ i, p + i < j → gB L2 (p2 + i) = gB L (p + i)
  fin : endV (gB L2 (p2 + (j - p)))
  lenL : j ≤ L.length
  lenR : p2 + (j - p) ≤ L2.length
theorem Sh.of {L L2 : List UInt8} {p j p2 : Nat} {rest : List UInt8} (hp : p ≤ j) (hj : j ≤ L.length) (hd : L2.drop p2 = (L.drop p).take (j - p) ++ rest) (hr : endV (gB rest 0)) (hn : p < j) : Sh L L2 p j p2 := by
  have hl : ((L.drop p).take (j - p)).length = j - p := by rw [List.length_take, List.length_drop]; omega
  have hg : ∀ i, gB L2 (p2 + i) = gB ((L.drop p).take (j - p) ++ rest) i := by
    intro i
    rw [← hd]
    unfold gB
    simp [List.getD_eq_getElem?_getD, List.getElem?_drop]
  have hlen := congrArg List.length hd
  rw [List.length_drop, List.length_append, hl] at hlen
  refine ⟨hp, fun i hi => ?_, ?_, hj, by omega⟩
  · rw [hg, gB_at (by rw [List.length_append, hl]; omega), List.getElem_append_left (by rw [hl]; omega), gB_at (by omega)]
    simp [List.getElem_take, List.getElem_drop]
  · rw [hg]
    unfold gB at hr ⊢
    rw [List.getD_eq_getElem?_getD, List.getElem?_append_right (by omega), hl, Nat.sub_self, ← List.getD_eq_getElem?_getD]
    exact hr
section
variable {L L2 : List UInt8} {p j p2 : Nat}
theorem Sh.at (h : Sh L L2 p j p2) {q : Nat} (h1 : p ≤ q) (h2 : q < j) : gB L2 (p2 + (q - p)) = gB L q := by
  have := h.same (q - p) (by omega)
  rwa [show p + (q - p) = q by omega] at this
theorem endV_dg {c : Nat} (h : endV c) : dgB c = false := by rcases h with rfl | rfl | rfl | rfl <;> decide
theorem endV_ne {c d : Nat} (h : endV c) (hd : d ≠ 0 ∧ d ≠ 44 ∧ d ≠ 93 ∧ d ≠ 125) : c ≠ d := by rcases h with rfl | rfl | rfl | rfl <;> omega
theorem Sh.dg (h : Sh L L2 p j p2) : ∀ (n q : Nat), j - q = n → p ≤ q → dgE L q ≤ j → dgE L2 (p2 + (q - p)) = p2 + (dgE L q - p) := by
  intro n
  induction n using Nat.strongRecOn with
  | _ n ih =>
    intro q hn hq hj
    have hle : q ≤ dgE L q := runE_le _ _ _
    cases hb : dgB (gB L q) with
    | false =>
      have e : dgE L q = q := dgE_no.2 hb
      rw [e]
      refine dgE_no.2 ?_
      by_cases hlt : q < j
      · rw [h.at hq hlt]; exact hb
      · have e2 : q = j := by omega
        rw [e2]
        exact endV_dg h.fin
    | true =>
      have hlt : q < L.length := gB_lt (fun e => by rw [e] at hb; revert hb; decide)
      have hs : dgE L q = dgE L (q + 1) := runE_step hlt hb
      have hle2 : q + 1 ≤ dgE L (q + 1) := runE_le _ _ _
      have hqj : q < j := by omega
      have hst : dgE L2 (p2 + (q - p)) = dgE L2 (p2 + (q - p) + 1) := runE_step (by have := h.lenR; omega) (by rw [h.at hq hqj]; exact hb)
      rw [hst, hs, show p2 + (q - p) + 1 = p2 + (q + 1 - p) by omega]
      exact ih (j - (q + 1)) (by omega) (q + 1) rfl (by omega) (by omega)
/-- a byte that is looked for, and where it is not -/
theorem Sh.look (h : Sh L L2 p j p2) {q d : Nat} (hq : p ≤ q) (hqj : q ≤ j) (hd : d ≠ 0 ∧ d ≠ 44 ∧ d ≠ 93 ∧ d ≠ 125) (hy : gB L q = d → q < j) : (gB L2 (p2 + (q - p)) = d) ↔ gB L q = d := by
  by_cases hlt : q < j
  · rw [h.at hq hlt]
  · obtain rfl : q = j := by omega
    constructor
    · intro e; exact absurd e (endV_ne h.fin hd)
    · intro e; exact absurd (hy e) hlt
end
theorem numJ_parts {L : List UInt8} {p j : Nat} (h : numJ L p = (true, j)) : ∃ a c, intP L (sgP L p) = (true, a) ∧ frP L a = (true, c) ∧ exP L c = (true, j) := by
  unfold numJ at h
  cases hi : intP L (sgP L p) with
  | mk i1 a =>
    rw [hi] at h
    dsimp only at h
    cases i1 with
    | false => rw [if_pos rfl] at h; injection h with h; cases h
    | true =>
      rw [if_neg (by decide)] at h
      cases hf : frP L a with
      | mk f1 c =>
        rw [hf] at h
        dsimp only at h
        cases f1 with
        | false => rw [if_pos rfl] at h; injection h with h; cases h
        | true => rw [if_neg (by decide)] at h; exact ⟨a, c, rfl, hf, h⟩
theorem intP_le {L : List UInt8} {q a : Nat} (h : intP L q = (true, a)) : q < a := by
  unfold intP at h
  have := runE_le dgB L q
  split at h
  · injection h with _ h; omega
  · split at h
    · injection h with h _; cases h
    · rename_i hn
      injection h with _ h
      have e : runE dgB L q = dgE L q := rfl
      omega
theorem frP_le {L : List UInt8} {q a : Nat} (h : frP L q = (true, a)) : q ≤ a ∧ (gB L q = 46 → q + 1 < a) := by
  unfold frP at h
  have := runE_le dgB L (q + 1)
  split at h
  · split at h
    · injection h with h _; cases h
    · rename_i hn
      injection h with _ h
      have e : runE dgB L (q + 1) = dgE L (q + 1) := rfl
      exact ⟨by omega, fun _ => by omega⟩
  · rename_i hn
    injection h with _ h
    exact ⟨by omega, fun e => absurd e hn⟩
theorem sg2_le (L : List UInt8) (q : Nat) : q ≤ sg2 L q ∧ sg2 L q ≤ q + 1 := by unfold sg2; split <;> omega
theorem exP_le {L : List UInt8} {q a : Nat} (h : exP L q = (true, a)) : q ≤ a ∧ (gB L q = 101 ∨ gB L q = 69 → sg2 L (q + 1) < a ∧ a = dgE L (sg2 L (q + 1))) := by
  unfold exP at h
  have h1 := runE_le dgB L (sg2 L (q + 1))
  have e : runE dgB L (sg2 L (q + 1)) = dgE L (sg2 L (q + 1)) := rfl
  have h2 := sg2_le L (q + 1)
  split at h
  · split at h
    · injection h with h _; cases h
    · rename_i hn
      injection h with _ h
      exact ⟨by omega, fun _ => ⟨by omega, h.symm⟩⟩
  · rename_i hn
    injection h with _ h
    exact ⟨by omega, fun e => absurd e hn⟩
/-- a number that stands elsewhere is read there -/
theorem numJ_shift {L L2 : List UInt8} {p j p2 : Nat} (h : Sh L L2 p j p2) (hn : numJ L p = (true, j)) : numJ L2 p2 = (true, p2 + (j - p)) := by
  obtain ⟨a, c, h1, h2, h3⟩ := numJ_parts hn
  have l1 := intP_le h1
  have l2 := frP_le h2
  have l3 := exP_le h3
  have ls : p ≤ sgP L p ∧ sgP L p ≤ p + 1 := by unfold sgP; split <;> omega
  have hs : sgP L2 p2 = p2 + (sgP L p - p) := by
    have hy : gB L p = 45 → p < j := by
      intro e
      have : sgP L p = p + 1 := by unfold sgP; rw [if_pos e]
      omega
    have := h.look (q := p) (d := 45) (Nat.le_refl _) h.le (by decide) hy
    rw [Nat.sub_self, Nat.add_zero] at this
    unfold sgP
    by_cases e : gB L p = 45
    · rw [if_pos e, if_pos (this.2 e)]; omega
    · rw [if_neg e, if_neg (fun x => e (this.1 x))]; omega
  have hi : intP L2 (sgP L2 p2) = (true, p2 + (a - p)) := by
    rw [hs]
    obtain ⟨q, hq⟩ : ∃ q, sgP L p = q := ⟨_, rfl⟩
    rw [hq] at h1 l1 ls ⊢
    have hk := h.look (q := q) (d := 48) ls.1 (by omega) (by decide) (fun _ => by omega)
    unfold intP at h1 ⊢
    by_cases e : gB L q = 48
    · rw [if_pos e] at h1
      rw [if_pos (hk.2 e)]
      injection h1 with _ h1
      refine Prod.ext rfl ?_
      show p2 + (q - p) + 1 = p2 + (a - p)
      omega
    · rw [if_neg e] at h1
      rw [if_neg (fun x => e (hk.1 x))]
      split at h1
      · injection h1 with h1 _; cases h1
      · rename_i hne
        injection h1 with _ h1
        have hd := h.dg _ q rfl ls.1 (by omega)
        rw [hd, h1, if_neg (by omega)]
  have hf : frP L2 (p2 + (a - p)) = (true, p2 + (c - p)) := by
    have hk := h.look (q := a) (d := 46) (by omega) (by omega) (by decide) (fun e => by have := l2.2 e; omega)
    unfold frP at h2 ⊢
    by_cases e : gB L a = 46
    · rw [if_pos e] at h2
      rw [if_pos (hk.2 e)]
      split at h2
      · injection h2 with h2 _; cases h2
      · rename_i hne
        injection h2 with _ h2
        have hd := h.dg _ (a + 1) rfl (by omega) (by omega)
        rw [show p2 + (a - p) + 1 = p2 + (a + 1 - p) by omega, hd, h2, if_neg (by have := l2.2 e; omega)]
    · rw [if_neg e] at h2
      rw [if_neg (fun x => e (hk.1 x))]
      injection h2 with _ h2
      rw [h2]
  have he : exP L2 (p2 + (c - p)) = (true, p2 + (j - p)) := by
    have hsl := sg2_le L (c + 1)
    have hk1 := h.look (q := c) (d := 101) (by omega) (by omega) (by decide) (fun e => by have := (l3.2 (Or.inl e)).1; omega)
    have hk2 := h.look (q := c) (d := 69) (by omega) (by omega) (by decide) (fun e => by have := (l3.2 (Or.inr e)).1; omega)
    unfold exP at h3 ⊢
    by_cases e : gB L c = 101 ∨ gB L c = 69
    · obtain ⟨g1, g2⟩ := l3.2 e
      rw [if_pos (e.imp hk1.2 hk2.2)]
      have hsg : sg2 L2 (p2 + (c - p) + 1) = p2 + (sg2 L (c + 1) - p) := by
        rw [show p2 + (c - p) + 1 = p2 + (c + 1 - p) by omega]
        have hk3 := h.look (q := c + 1) (d := 43) (by omega) (by omega) (by decide) (fun _ => by omega)
        have hk4 := h.look (q := c + 1) (d := 45) (by omega) (by omega) (by decide) (fun _ => by omega)
        unfold sg2
        by_cases e2 : gB L (c + 1) = 43 ∨ gB L (c + 1) = 45
        · rw [if_pos e2, if_pos (e2.imp hk3.2 hk4.2)]; omega
        · rw [if_neg e2, if_neg (fun x => e2 (x.imp hk3.1 hk4.1))]
      have hd := h.dg _ (sg2 L (c + 1)) rfl (by omega) (by omega)
      rw [hsg, hd, ← g2, if_neg (by omega)]
    · rw [if_neg e] at h3
      rw [if_neg (fun x => e (x.imp hk1.1 hk2.1))]
      injection h3 with _ h3
      rw [h3]
  unfold numJ
  rw [hi]
  dsimp only
  rw [if_neg (by decide), hf]
  dsimp only
  rw [if_neg (by decide), he]
/-- a word that stands at a place is read there -/
theorem wordE_at {L : List UInt8} : ∀ (wd : List UInt8) (p : Nat) (rest : List UInt8), L.drop p = wd ++ rest → wordE L (wd.map UInt8.toNat) p = (true, p + wd.length)
  | [], p, rest, _ => rfl
  | c :: r, p, rest, h => by
    obtain ⟨e1, e2, _, _⟩ := gB_drop (r := r ++ rest) h
    rw [List.map_cons, wordE, if_pos e1, wordE_at r (p + 1) rest e2, List.length_cons]
    refine Prod.ext rfl ?_
    show p + 1 + r.length = p + (r.length + 1)
    omega
end Go.Proofs.YtlfkfofeenakhaaDoor
