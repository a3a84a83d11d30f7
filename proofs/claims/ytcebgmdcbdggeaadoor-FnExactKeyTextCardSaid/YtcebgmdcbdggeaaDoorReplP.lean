/-
  What is proved here: plain laws of the replaced text's length. No program in sight.
-/
import Derived.Test.YtcebgmdcbdggeaaDoorRepl
import Derived.Laws.CopyRow
import Derived.Laws.OwnMore
namespace Go.Proofs.YtcebgmdcbdggeaaDoor
open Go.RowKit
set_option linter.unusedVariables false
set_option linter.unusedSimpArgs false

/-- how many of a text's bytes are replaced -/
def sumC (ps : List (UInt8 × UInt8)) (l : List UInt8) : Nat := ps.foldr (fun p n => l.count p.1 + n) 0
theorem sumC_nil (ps : List (UInt8 × UInt8)) : sumC ps [] = 0 := by
  unfold sumC
  induction ps with
  | nil => rfl
  | cons p r ih => simpa using ih
theorem sumC_pair (p : UInt8 × UInt8) (r : List (UInt8 × UInt8)) (l : List UInt8) : sumC (p :: r) l = l.count p.1 + sumC r l := rfl
theorem sumC_notin {ps : List (UInt8 × UInt8)} {b : UInt8} {l : List UInt8} (h : b ∉ ps.map (·.1)) : sumC ps (b :: l) = sumC ps l := by
  induction ps with
  | nil => rfl
  | cons p r ih =>
    have h1 : ¬ b = p.1 := fun e => h (by simp [e])
    have h2 : b ∉ r.map (·.1) := fun e => h (by simp only [List.map_cons, List.mem_cons]; exact Or.inr e)
    rw [sumC_pair, sumC_pair, ih h2, List.count_cons_of_ne h1]
theorem sumC_cons {ps : List (UInt8 × UInt8)} (hn : (ps.map (·.1)).Nodup) (b : UInt8) (l : List UInt8) : sumC ps (b :: l) = sumC ps l + (if (rep ps b).isSome then 1 else 0) := by
  induction ps with
  | nil => rfl
  | cons p r ih =>
    rw [List.map_cons, List.nodup_cons] at hn
    by_cases h : p.1 = b
    · have hr : rep (p :: r) b = some p.2 := by show (if p.1 = b then some p.2 else rep r b) = _; rw [if_pos h]
      rw [sumC_pair, sumC_pair, hr]
      have h2 : b ∉ r.map (·.1) := h ▸ hn.1
      rw [sumC_notin h2, h, List.count_cons_self]
      simp
      omega
    · have hr : rep (p :: r) b = rep r b := by show (if p.1 = b then some p.2 else rep r b) = _; rw [if_neg h]
      rw [sumC_pair, sumC_pair, hr, ih hn.2, List.count_cons_of_ne (fun e => h e.symm)]
      omega
theorem replL_length {ps : List (UInt8 × UInt8)} (hn : (ps.map (·.1)).Nodup) (l : List UInt8) : (replL ps l).length = l.length + sumC ps l := by
  induction l with
  | nil => rw [sumC_nil]; rfl
  | cons b l ih =>
    have h : replL ps (b :: l) = replB ps b ++ replL ps l := rfl
    rw [h, List.length_append, ih, sumC_cons hn, replB_len, List.length_cons]
    split <;> omega
theorem replL_ge (ps : List (UInt8 × UInt8)) (l : List UInt8) : l.length ≤ (replL ps l).length := by
  induction l with
  | nil => exact Nat.zero_le _
  | cons b l ih =>
    have h : replL ps (b :: l) = replB ps b ++ replL ps l := rfl
    rw [h, List.length_append, replB_len, List.length_cons]
    split <;> omega
theorem replL_id (ps : List (UInt8 × UInt8)) {l : List UInt8} (h : (replL ps l).length = l.length) : replL ps l = l := by
  induction l with
  | nil => rfl
  | cons b l ih =>
    have h1 : replL ps (b :: l) = replB ps b ++ replL ps l := rfl
    have h2 := replL_ge ps l
    have h3 := replB_len ps b
    rw [h1, List.length_append, List.length_cons] at h
    cases hr : rep ps b with
    | some c => rw [hr] at h3; simp at h3; omega
    | none =>
      have h4 : replB ps b = [b] := by unfold replB; rw [hr]
      rw [h1, h4, ih (by rw [h4] at h; simp at h; omega)]
      rfl
theorem replL_take_le (ps : List (UInt8 × UInt8)) (l : List UInt8) (k : Nat) : (replL ps (l.take k)).length ≤ (replL ps l).length := by
  have h : replL ps l = replL ps (l.take k) ++ replL ps (l.drop k) := by
    unfold replL
    rw [← List.flatMap_append, List.take_append_drop]
  rw [h, List.length_append]
  omega
theorem rep_mem {ps : List (UInt8 × UInt8)} {p : UInt8 × UInt8} (h : p ∈ ps) : rep ps p.1 ≠ none := by
  induction ps with
  | nil => cases h
  | cons q r ih =>
    show (if q.1 = p.1 then some q.2 else rep r p.1) ≠ none
    split
    · exact fun e => by cases e
    · rename_i hq
      rcases List.mem_cons.1 h with rfl | h
      · exact absurd rfl hq
      · exact ih h
theorem sumC_drop_le (ps : List (UInt8 × UInt8)) (l : List UInt8) (j : Nat) : sumC (ps.drop j) l ≤ sumC ps l := by
  induction ps generalizing j with
  | nil => simp
  | cons p r ih =>
    cases j with
    | zero => exact Nat.le_refl _
    | succ j =>
      rw [List.drop_succ_cons, sumC_pair]
      have := ih j
      omega
/-- the operation copy in a walk -/
theorem oper_copy {P : Program} {w w' : World} {o : Oper} {a : Act} {K : Act → World → Prop} {Q : Exit → Act → World → Prop} {d x : Operand} {t u : TypeId} {v v1 v' : Value}
    (ho : o.op = .call { callee := .builtin .copy, args := #[d, x], argTypes := #[t, u] }) (hs : a.eval d = v) (hx : a.eval x = v1) (hr : (Builtin.copy_ #[t, u] o.type #[v, v1]).run P w = .ok v' w')
    (h : K (a.put o.dst v') w') : o.wp P a w K Q := by
  unfold Oper.wp execOp
  simp only [ho, resolve, invoke, builtin, Sem.run_bind, Sem.run_pure, Result.andThen_ok, List.map_toArray, List.map_cons, List.map_nil, hs, hx, hr]
  exact h
/-- a row of bytes behind a copy into it -/
theorem own_splice {w : World} {B : Nat} {e : TypeId} {g N cap : Nat} {xs cs : List Value} {J : Nat} (h : w.ownsRow B e 1 (.slice (some ⟨g, 0, none⟩) N cap) N xs) (hJ : J + cs.length ≤ N) :
    ∃ cur, w.heap[g]? = some (.cells cur e (0, 0)) ∧ J + cs.length ≤ cur.size ∧
      (w.setRow g (cur.toList.take J ++ cs ++ cur.toList.drop (J + cs.length)).toArray).ownsRow B e 1 (.slice (some ⟨g, 0, none⟩) N cap) N (xs.take J ++ cs ++ xs.drop (J + cs.length)) ∧ B ≤ g := by
  rcases h.2 with ⟨h', _⟩ | ⟨g', cap', cur, h', hb, hg, hnc, hcm, hcs, htake⟩
  · simp at h'
  · simp only [Value.slice.injEq, Option.some.injEq, Addr.mk.injEq, and_true, true_and] at h'
    obtain ⟨rfl, rfl⟩ := h'
    have hl := h.1
    rw [Nat.mul_one] at hcs htake hl
    have hcl : cur.toList.length = cap := by rw [Array.length_toList]; exact hcs
    refine ⟨cur, hg, by omega, ⟨?_, .inr ⟨g, cap, _, rfl, hb, setRow_heap w g cur _ e _ hg, hnc, hcm, ?_, ?_⟩⟩, hb⟩
    · simp only [List.length_append, List.length_take, List.length_drop]; omega
    · simp only [List.size_toArray, List.length_append, List.length_take, List.length_drop]; omega
    · rw [Nat.mul_one, ← htake]
      apply List.ext_getElem?
      intro i
      simp only [List.getElem?_take, List.getElem?_append, List.length_take, List.length_append, List.getElem?_drop]
      rw [hcl]
      have m1 : min J cap = J := by omega
      have m2 : min N cap = N := by omega
      rw [m1]
      by_cases c1 : i < N
      · rw [if_pos c1]
        have m3 : min J (min N cap) = J := by omega
        rw [m3]
        by_cases c2 : i < J + cs.length
        · rw [if_pos c2, if_pos c2]
          by_cases c3 : i < J
          · rw [if_pos c3, if_pos c3, if_pos c3, if_pos c3, if_pos c1]
          · rw [if_neg c3, if_neg c3]
        · rw [if_neg c2, if_neg c2, if_pos (by omega)]
      · rw [if_neg c1, if_neg (by omega), if_neg (by omega)]
end Go.Proofs.YtcebgmdcbdggeaaDoor
