/-
  What is proved here: the cell reader in impl: the end of a row, a cell. No condition but that the reader lies in memory.
-/
import Derived.Test.YtcebgmdcbdggeaaGreatDoorCsvLaw
import Derived.Test.YtcebgmdcbdggeaaGreatDoorRdr
import Derived.Test.YtcebgmdcbdggeaaGreatDoorShelfA
import Derived.Deep.QuietTactic
import Derived.BigQuiet
import Derived.IntWalk
import Derived.Laws.Concat
import Derived.Laws.Cover1
namespace Go.Proofs.YtcebgmdcbdggeaaGreatDoor
open Go.RowKit
set_option linter.unusedVariables false
set_option linter.unusedSimpArgs false

/-- a cell reader in its block -/
def CRd (w : World) (g : Nat) (s : ByteArray) (p : Nat) : Prop := w.heap[g]? = some (.cells #[.string s, .int .i64 (p : Int)] 44 (0, 0))
theorem CRd.cells {w : World} {g p : Nat} {s : ByteArray} (h : CRd w g s p) : w.cell? ⟨g, 0, none⟩ = some (.string s) ∧ w.cell? ⟨g, 1, none⟩ = some (.int .i64 (p : Int)) ∧ w.frozen? ⟨g, 0, none⟩ = false ∧ w.frozen? ⟨g, 1, none⟩ = false ∧ g < w.heap.size :=
  ⟨cell_of_row _ _ 0 _ _ _ h, cell_of_row _ _ 1 _ _ _ h, frozen_of_row _ _ 0 _ _ h, frozen_of_row _ _ 1 _ _ h, (Array.getElem?_eq_some_iff.1 h).1⟩
theorem CRd.qt {w w' : World} {g p : Nat} {s : ByteArray} (h : CRd w g s p) (hq : Qt w w') : CRd w' g s p := hq.at h
theorem CRd.set {w : World} {g p : Nat} {s : ByteArray} (h : CRd w g s p) (q : Nat) : CRd (w.setCell ⟨g, 1, none⟩ (.int .i64 (q : Int))) g s q := (heap_setCell_same w g 1 _ _ _ h).trans rfl
def endI (l : List UInt8) : Int := match endR l with | some e => (e : Int) | none => -1
theorem ext_drop (s : ByteArray) (p : Nat) : (s.extract p s.size).data.toList = s.data.toList.drop p := by
  rw [ByteArray.data_extract, Array.toList_extract, List.extract_eq_take_drop, List.take_of_length_le (by rw [List.length_drop, ← Lib.size_eq]; omega)]
theorem ba_empty {T : ByteArray} (h : T.data.toList = []) : T = ⟨#[]⟩ := by
  cases T with
  | mk d => cases d with | mk l => simp at h; subst h; rfl
theorem hix0 {T : ByteArray} {c : UInt8} {r : List UInt8} (h : T.data.toList = c :: r) (h0 : 0 < T.size) : (T[0]'h0) = c := by
  have : T.data.toList[0]? = some c := by rw [h]; rfl
  rw [List.getElem?_eq_getElem (by rw [← Lib.size_eq]; exact h0)] at this
  injection this
/-- where a reader stands -/
def atOf (w : World) (g : Nat) : Nat := match w.cell? ⟨g, 1, none⟩ with | some (.int _ z) => z.toNat | _ => 0
theorem CRd.atOf {w : World} {g p : Nat} {s : ByteArray} (h : CRd w g s p) : atOf w g = p := by
  unfold Go.Proofs.YtcebgmdcbdggeaaGreatDoor.atOf
  rw [h.cells.2.1]
  simp
theorem qP_piece : ∀ {A : List UInt8}, (∀ c ∈ A, c ≠ 34) → ∀ X : List UInt8, qP (A ++ X) = (qP X).map (fun q => (A ++ q.1, A.length + q.2))
  | [], _, X => by
    cases h : qP X with
    | none => rw [List.nil_append, h]; rfl
    | some q => rw [List.nil_append, h]; simp
  | c :: A, hA, X => by
    rw [List.cons_append, qP_cons (hA c (by simp)), qP_piece (fun x hx => hA x (by simp [hx])) X]
    cases qP X with
    | none => rfl
    | some q => simp; omega
theorem qP_none : ∀ {A : List UInt8}, (∀ c ∈ A, c ≠ 34) → qP A = none
  | [], _ => rfl
  | c :: A, hA => by rw [qP_cons (hA c (by simp)), qP_none (fun x hx => hA x (by simp [hx]))]; rfl
theorem qP_stop {Y : List UInt8} (h : Y.head? ≠ some 34) : qP (34 :: Y) = some ([], 1) := by
  have := q_run (t := []) h
  exact this
theorem qP_two (Z : List UInt8) : qP (34 :: 34 :: Z) = (qP Z).map (fun q => (34 :: q.1, 2 + q.2)) := by
  rw [qP, if_pos rfl, if_pos rfl]
  cases qP Z with
  | none => rfl
  | some q => simp; omega
/-- what IndexByte says of a quote -/
theorem idx34 (L : List UInt8) : (Lib.indexByte L 34 = -1 ∧ ∀ c ∈ L, c ≠ 34) ∨ ∃ A Y, L = A ++ 34 :: Y ∧ (∀ c ∈ A, c ≠ 34) ∧ Lib.indexByte L 34 = (A.length : Int) := by
  induction L with
  | nil => exact Or.inl ⟨rfl, fun c h => by cases h⟩
  | cons b L ih =>
    by_cases hb : b = 34
    · subst hb
      exact Or.inr ⟨[], L, rfl, fun c h => (by cases h), by simp [Lib.indexByte]⟩
    · have e : Lib.indexByte (b :: L) 34 = if Lib.indexByte L 34 == -1 then -1 else Lib.indexByte L 34 + 1 := by
        rw [Lib.indexByte, if_neg (by simpa using hb)]
      rcases ih with ⟨h1, h2⟩ | ⟨A, Y, rfl, h2, h3⟩
      · refine Or.inl ⟨by rw [e, h1]; rfl, fun c hc => ?_⟩
        rcases List.mem_cons.1 hc with rfl | hc
        · exact hb
        · exact h2 c hc
      · refine Or.inr ⟨b :: A, Y, rfl, fun c hc => ?_, ?_⟩
        · rcases List.mem_cons.1 hc with rfl | hc
          · exact hb
          · exact h2 c hc
        · rw [e, h3, if_neg (by rw [beq_iff_eq]; omega)]
          simp
/-- a reading of a cell -/
def CellRes (w w' : World) (g : Nat) (s : ByteArray) (p : Nat) (R : Nat × Nat × List UInt8) (e : Ending) : Prop :=
  e = .returned (.tuple #[.string (mkB R.2.2), .int .i64 (R.1 : Int)]) ∧ CRd w' g s (p + R.2.1) ∧ Kp g none w w'
theorem cellP_open {l : List UInt8} (h : qP l.tail = none) (h34 : l.head? = some 34) : cellP l = (3, l.length, []) := by unfold cellP; rw [if_pos h34, h]
theorem cellP_quoted {l t : List UInt8} {n : Nat} (h : qP l.tail = some (t, n)) (h34 : l.head? = some 34) : cellP l = if cellEnd (l.drop (n + 1)) = true then (0, n + 1, t) else (2, n + 1, []) := by unfold cellP; rw [if_pos h34, h]
theorem cellEnd_I (l : List UInt8) : cellEnd l = !(decide (endI l < 0) && !decide (l.head? = some 44)) := by
  unfold cellEnd endI
  cases endR l with
  | none => simp
  | some e =>
    have : ¬ ((e : Int) < 0) := by omega
    simp [this]
theorem endI_nil : endI [] = 0 := rfl
theorem byte_at {s : ByteArray} {p : Nat} {c : UInt8} {r : List UInt8} (h : s.data.toList.drop p = c :: r) : ∃ hp : p < s.size, (s[p]'hp) = c := by
  have hl : p < s.data.toList.length := by
    rcases Nat.lt_or_ge p s.data.toList.length with h1 | h1
    · exact h1
    · rw [List.drop_eq_nil_of_le h1] at h; cases h
  have hp : p < s.size := by rw [Lib.size_eq]; exact hl
  refine ⟨hp, ?_⟩
  rw [List.drop_eq_getElem_cons hl] at h
  injection h
theorem drop_nil_iff {s : ByteArray} {p : Nat} (hp : p ≤ s.size) : s.data.toList.drop p = [] ↔ p = s.size := by
  rw [List.drop_eq_nil_iff, ← Lib.size_eq]; omega
end Go.Proofs.YtcebgmdcbdggeaaGreatDoor
