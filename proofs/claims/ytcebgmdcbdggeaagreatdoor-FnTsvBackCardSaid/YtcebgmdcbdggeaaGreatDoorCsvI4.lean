/-
  What is proved here: the cell reader in impl: a row. No condition but that the reader lies in memory.
-/
import Derived.Test.YtcebgmdcbdggeaaGreatDoorCsvI3
import Derived.Laws.AppendOwn
import Derived.Laws.Build
namespace Go.Proofs.YtcebgmdcbdggeaaGreatDoor
open Go.RowKit
set_option linter.unusedVariables false
set_option linter.unusedSimpArgs false

theorem info_strC : (Tryz.prog.info? 9).map (fun i => (i.zero, i.size, i.bytes)) = some (some (.string ⟨#[]⟩), 1, 16) := by kernel_rfl
/-- the cells of a row as values -/
def cellV (cs : List (List UInt8)) : List Value := cs.map fun t => Value.string (mkB t)
theorem cellV_len (cs : List (List UInt8)) : (cellV cs).length = cs.length := by simp [cellV]
/-- a reading of a row -/
def RowRes (w w' : World) (g : Nat) (s : ByteArray) (R : Nat × Nat × List (List UInt8)) (e : Ending) : Prop :=
  ∃ (a : Option Addr) (n c : Nat), e = .returned (.tuple #[.agg #[.slice a n c], .int .i64 (R.1 : Int)]) ∧ CRd w' g s R.2.1 ∧ Kp g none w w' ∧ (R.1 = 0 → w'.ownsRow w.heap.size 9 1 (.slice a n c) R.2.2.length (cellV R.2.2)) ∧ R.2.1 ≤ s.size
theorem Kp.new {g : Nat} {r : Option Nat} {w w1 : World} (h : Kp g r w w1) {q o : Nat} (hq : w.heap.size ≤ q) (v : Value) : Kp g r w (w1.setCell ⟨q, o, none⟩ v) :=
  ⟨h.os, h.tape, h.output, by simpa [World.setCell] using h.size, fun b hb hg hr => (Below.heap_setCell w1 ⟨q, o, none⟩ v b (show b ≠ q by omega)).trans (h.block b hb hg hr)⟩
theorem Kp.newRow {g : Nat} {w w1 w2 : World} {r : Option Nat} (h : Kp g none w w1) (hg : w1.grownBy w2 r) (hr : ∀ b, r = some b → w.heap.size ≤ b) : Kp g none w w2 :=
  ⟨hg.os.trans h.os, hg.tape.trans h.tape, hg.output.trans h.output, Nat.le_trans h.size hg.size, fun b hb hgb _ => (hg.block b (Nat.lt_of_lt_of_le hb h.size) (fun e => by have := hr b e.symm; omega)).trans (h.block b hb hgb (by simp))⟩
theorem row_shapeC {w : World} {base : Nat} {e : TypeId} {n : Nat} {v : Value} {xs : List Value} (h : w.ownsRow base e 1 v n xs) : ∃ a c, v = .slice a n c := by
  rcases h.2 with ⟨rfl, hn⟩ | ⟨b, cap, cur, rfl, h1, h2⟩
  · subst hn; exact ⟨none, 0, rfl⟩
  · exact ⟨_, _, rfl⟩
theorem row_keepC {w w' : World} {g base : Nat} {e : TypeId} {size n : Nat} {v : Value} {xs : List Value} (hv : w.ownsRow base e size v n xs) (h : Kp g none w w') (hg : g < base) : w'.ownsRow base e size v n xs := by
  refine ⟨hv.1, ?_⟩
  rcases hv.2 with ⟨rfl, hn⟩ | ⟨b, cap, cur, rfl, h1, h2, h3, h4, h5, h6⟩
  · exact Or.inl ⟨rfl, hn⟩
  · have hb : b < w.heap.size := (Array.getElem?_eq_some_iff.1 h2).1
    exact Or.inr ⟨b, cap, cur, rfl, h1, (h.block b hb (by omega) (by simp)).trans h2, h3, h4, h5, h6⟩
theorem row_base {w : World} {base base' : Nat} {e : TypeId} {size n : Nat} {v : Value} {xs : List Value} (hv : w.ownsRow base e size v n xs) (h : base' ≤ base) : w.ownsRow base' e size v n xs := by
  refine ⟨hv.1, ?_⟩
  rcases hv.2 with h1 | ⟨b, cap, cur, h0, h1, h2⟩
  · exact Or.inl h1
  · exact Or.inr ⟨b, cap, cur, h0, Nat.le_trans h h1, h2⟩
theorem CRd.other {w : World} {g p b o : Nat} {s : ByteArray} (h : CRd w g s p) (hne : g ≠ b) (v : Value) : CRd (w.setCell ⟨b, o, none⟩ v) g s p := (Below.heap_setCell w ⟨b, o, none⟩ v g hne).trans h
theorem set_one {w : World} {b : Nat} {u v : Value} {t : TypeId} (h : w.heap[b]? = some (.cells #[u] t (0, 0))) : (w.setCell ⟨b, 0, none⟩ v).heap[b]? = some (.cells #[v] t (0, 0)) := (heap_setCell_same w b 0 _ _ _ h).trans rfl
theorem set_far {w : World} {b c o : Nat} {x : Option Obj} (h : w.heap[b]? = x) (hne : b ≠ c) (v : Value) : (w.setCell ⟨c, o, none⟩ v).heap[b]? = x := (Below.heap_setCell w ⟨c, o, none⟩ v b hne).trans h
theorem ownsRow_other {w : World} {base : Nat} {e : TypeId} {size n : Nat} {v : Value} {xs : List Value} (hv : w.ownsRow base e size v n xs) {c o : Nat} (hne : ∀ b, v.ownBlock = some b → b ≠ c) (u : Value) : (w.setCell ⟨c, o, none⟩ u).ownsRow base e size v n xs := by
  refine ⟨hv.1, ?_⟩
  rcases hv.2 with h1 | ⟨b, cap, cur, rfl, h1, h2, h3⟩
  · exact Or.inl h1
  · exact Or.inr ⟨b, cap, cur, rfl, h1, set_far h2 (hne b rfl) u, h3⟩
theorem rowP_zero (L : List UInt8) (p : Nat) (cs : List (List UInt8)) : rowP L 0 p cs = (5, p, []) := by rw [rowP]
theorem rowP_succ (L : List UInt8) (k p : Nat) (cs : List (List UInt8)) {c n : Nat} {t : List UInt8} (h : cellP (L.drop p) = (c, n, t)) : rowP L (k + 1) p cs =
    if c ≠ 0 then (c, p + n, []) else if 1000 < t.length then (6, p, []) else match endR (L.drop (p + n)) with | some e => (0, p + n + e, cs ++ [t]) | none => rowP L k (p + n + 1) (cs ++ [t]) := by
  rw [rowP, h]
  rfl
/-! ### how far reading comes -/
theorem endR_le {l : List UInt8} {e : Nat} (h : endR l = some e) : e ≤ l.length := by
  cases l with
  | nil => cases h; exact Nat.le_refl _
  | cons c r =>
    unfold endR at h
    simp only at h
    split at h
    · cases h; simp
    · split at h
      · rename_i hh
        cases h
        cases r with
        | nil => have := hh.2; cases this
        | cons d r => simp
      · cases h
theorem unqN_le : ∀ l : List UInt8, (unqN l).1 ≤ l.length
  | [] => Nat.le_refl _
  | c :: r => by
    rw [unqN_cons]
    have := unqN_le r
    simp only [List.length_cons]
    repeat' split
    all_goals simp only
    all_goals omega
theorem qP_le : ∀ {l t : List UInt8} {n : Nat}, qP l = some (t, n) → n ≤ l.length ∧ t.length + 1 ≤ n
  | [], _, _, h => by cases h
  | [c], t, n, h => by
    by_cases hc : c = 34
    · subst hc; cases h; simp
    · rw [qP, if_neg hc] at h; cases h
  | c :: d :: r, t, n, h => by
    by_cases hc : c = 34
    · subst hc
      by_cases hd : d = 34
      · subst hd
        rw [qP, if_pos rfl, if_pos rfl] at h
        cases hq : qP r with
        | none => rw [hq] at h; cases h
        | some q =>
          have := qP_le hq
          rw [hq] at h
          simp only [Option.map_some, Option.some.injEq, Prod.mk.injEq] at h
          obtain ⟨rfl, rfl⟩ := h
          simp only [List.length_cons]
          omega
      · rw [qP, if_pos rfl, if_neg hd] at h
        cases h; simp
    · rw [qP, if_neg hc] at h
      cases hq : qP (d :: r) with
      | none => rw [hq] at h; cases h
      | some q =>
        have := qP_le hq
        rw [hq] at h
        simp only [Option.map_some, Option.some.injEq, Prod.mk.injEq] at h
        obtain ⟨rfl, rfl⟩ := h
        simp only [List.length_cons] at this ⊢
        omega
theorem cellP_le (l : List UInt8) : (cellP l).2.1 ≤ l.length ∧ (cellP l).2.2.length ≤ l.length := by
  unfold cellP
  split
  · cases h : qP l.tail with
    | none => exact ⟨Nat.le_refl _, Nat.zero_le _⟩
    | some q =>
      obtain ⟨t, n⟩ := q
      have := qP_le h
      have hl : 1 ≤ l.length := by cases l with | nil => cases h | cons c r => simp
      rw [List.length_tail] at this
      dsimp only
      split
      · exact ⟨by show n + 1 ≤ _; omega, by show t.length ≤ _; omega⟩
      · exact ⟨by show n + 1 ≤ _; omega, Nat.zero_le _⟩
  · have := unqN_le l
    split
    · exact ⟨this, by rw [List.length_take]; omega⟩
    · exact ⟨this, Nat.zero_le _⟩
end Go.Proofs.YtcebgmdcbdggeaaGreatDoor
