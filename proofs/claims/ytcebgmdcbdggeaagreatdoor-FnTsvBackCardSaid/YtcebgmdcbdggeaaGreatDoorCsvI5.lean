/-
  What is proved here: CsvRead in impl. The condition 'Tabs' says that the library's tables for UTF-8 lie in the world.
-/
import Derived.Test.YtcebgmdcbdggeaaGreatDoorCsvI4
import Derived.Deep.AppendLies
namespace Go.Proofs.YtcebgmdcbdggeaaGreatDoor
open Go.RowKit
set_option linter.unusedVariables false
set_option linter.unusedSimpArgs false

structure CsvRow where
  cells : List ByteArray
@[reducible] instance : Rd CsvRow := Rd.via fun x => x.cells
def toRow (cs : List (List UInt8)) : CsvRow := ⟨cs.map mkB⟩
/-- the rows that a reader has made -/
def RowsNs (g : Nat) (nv : Value) (w : World) (rs : List CsvRow) : Prop := ∃ css : List (List Value), w.ownsRow (g + 1) 34 1 nv rs.length css.flatten ∧ Each (Beside (fun _ => False) g nv.ownBlock w) w css rs
theorem KpweakC {g : Nat} {w w' : World} (h : Kp g none w w') (r : Option Nat) : Kp g r w w' := ⟨h.os, h.tape, h.output, h.size, fun b hb hg _ => h.block b hb hg (by simp)⟩
theorem RowsNs.kp {g : Nat} {nv : Value} {w w' : World} {rs : List CsvRow} (h : RowsNs g nv w rs) (k : Kp g none w w') : RowsNs g nv w' rs := by
  obtain ⟨css, h1, h2⟩ := h
  exact ⟨css, k.row h1 (fun b _ => by simp), (KpweakC k nv.ownBlock).each (RowOn.refl _ _) h2⟩
theorem info_row : (Tryz.prog.info? 34).map (fun i => (i.zero, i.size, i.bytes)) = some (some (.agg #[.slice none 0 0]), 1, 24) := by kernel_rfl
theorem rd_cells {w : World} {B : Nat} {e : TypeId} {v : Value} {cs : List (List UInt8)} (h : w.ownsRow B e 1 v cs.length (cellV cs)) (hs : ∀ t ∈ cs, t.length ≤ 1000000) : Rd.rd (New B w) w [v] (cs.map mkB) := by
  rcases h.2 with ⟨hv, h1⟩ | ⟨g, cap', cur, hv, hB, hg, hle, hm, _⟩
  · subst hv
    exact ⟨none, 0, by rw [List.length_map, h1], by rw [List.length_map]; omega, by omega, fun h0 => by rw [List.length_map] at h0; omega⟩
  · subst hv
    refine ⟨some ⟨g, 0, none⟩, cap', by rw [List.length_map], by rw [List.length_map]; exact hle, by unfold maxLen at hm; omega, fun h0 => ⟨g, 0, rfl, ⟨hB, (Array.getElem?_eq_some_iff.1 hg).1⟩, fun i hi => ?_⟩⟩
    have hi' : i < cs.length := by rw [List.length_map] at hi; exact hi
    refine ⟨[.string (mkB cs[i])], fun j hj => ?_, by rw [List.getElem_map] <;> rfl, ?_⟩
    · have hj0 : j = 0 := by
        have : Rd.n ByteArray = 1 := rfl
        omega
      subst hj0
      have hx := h.cells (g := g) rfl i (.string (mkB cs[i])) (by unfold cellV; rw [List.getElem?_map, List.getElem?_eq_getElem hi'] <;> rfl)
      have hn : Rd.n ByteArray = 1 := rfl
      rw [hn, Nat.mul_one, Nat.zero_add, Nat.add_zero]
      simpa [Addr.add_lit] using hx
    · rw [List.getElem_map, mkB_size]
      have := hs _ (List.getElem_mem hi')
      omega
theorem rowP_cells (L : List UInt8) : ∀ (k p : Nat) (cs : List (List UInt8)), (rowP L k p cs).1 = 0 → ∀ t ∈ (rowP L k p cs).2.2, t ∈ cs ∨ t.length ≤ 1000
  | 0, p, cs, h => by rw [rowP_zero] at h; cases h
  | k + 1, p, cs, h => by
    obtain ⟨⟨c, n, t⟩, hc⟩ : ∃ x, cellP (L.drop p) = x := ⟨_, rfl⟩
    rw [rowP_succ L k p cs hc] at h ⊢
    by_cases h0 : c ≠ 0
    · rw [if_pos h0] at h; exact absurd h h0
    · rw [if_neg h0] at h ⊢
      by_cases h1 : 1000 < t.length
      · rw [if_pos h1] at h; cases h
      · rw [if_neg h1] at h ⊢
        cases hE : endR (L.drop (p + n)) with
        | some e =>
          intro x hx
          have hx' : x ∈ cs ++ [t] := hx
          rcases List.mem_append.1 hx' with h | h
          · exact Or.inl h
          · rw [List.mem_singleton.1 h]; exact Or.inr (by omega)
        | none =>
          rw [hE] at h
          intro x hx
          have hx' : x ∈ (rowP L k (p + n + 1) (cs ++ [t])).2.2 := hx
          rcases rowP_cells L k (p + n + 1) (cs ++ [t]) h x hx' with h2 | h2
          · rcases List.mem_append.1 h2 with h | h
            · exact Or.inl h
            · rw [List.mem_singleton.1 h]; exact Or.inr (by omega)
          · exact Or.inr h2
theorem rowP_mono (L : List UInt8) : ∀ (k p : Nat) (cs : List (List UInt8)), p ≤ (rowP L k p cs).2.1
  | 0, p, cs => by rw [rowP_zero]; exact Nat.le_refl _
  | k + 1, p, cs => by
    obtain ⟨⟨c, n, t⟩, hc⟩ : ∃ x, cellP (L.drop p) = x := ⟨_, rfl⟩
    rw [rowP_succ L k p cs hc]
    split
    · show p ≤ p + n; omega
    · split
      · exact Nat.le_refl _
      · cases hE : endR (L.drop (p + n)) with
        | some e => show p ≤ p + n + e; omega
        | none =>
          have := rowP_mono L k (p + n + 1) (cs ++ [t])
          show p ≤ (rowP L k (p + n + 1) (cs ++ [t])).2.1
          omega
theorem rowP_more (L : List UInt8) {k p : Nat} {cs : List (List UInt8)} (hp : p < L.length) (h : (rowP L (k + 1) p cs).1 = 0) : p < (rowP L (k + 1) p cs).2.1 := by
  obtain ⟨⟨c, n, t⟩, hc⟩ : ∃ x, cellP (L.drop p) = x := ⟨_, rfl⟩
  rw [rowP_succ L k p cs hc] at h ⊢
  by_cases h0 : c ≠ 0
  · rw [if_pos h0] at h; exact absurd h h0
  · rw [if_neg h0] at h ⊢
    by_cases h1 : 1000 < t.length
    · rw [if_pos h1] at h; cases h
    · rw [if_neg h1]
      cases hE : endR (L.drop (p + n)) with
      | some e =>
        show p < p + n + e
        rcases Nat.eq_zero_or_pos (n + e) with hz | hz
        · exfalso
          have hn : n = 0 := by omega
          have he : e = 0 := by omega
          subst hn; subst he
          rw [Nat.add_zero, List.drop_eq_getElem_cons hp] at hE
          unfold endR at hE
          simp only at hE
          repeat' split at hE
          all_goals cases hE
        · omega
      | none =>
        have := rowP_mono L k (p + n + 1) (cs ++ [t])
        show p < (rowP L k (p + n + 1) (cs ++ [t])).2.1
        omega
/-- a reading of rows -/
def ReadRes (w w' : World) (R : List (List (List UInt8)) × Nat × Nat) (e : Ending) : Prop :=
  ∃ nv : Value, e = .returned (.tuple #[nv, .int .i64 (R.2.1 : Int), .int .i64 (R.2.2 : Int)]) ∧ Rd.rd (New w.heap.size w') w' [nv] (R.1.map toRow) ∧ Below w.heap.size w w'
theorem rd_own_at {α : Type} [Rd α] {S : Nat → Prop} {w : World} {base : Nat} {e : TypeId} {v : Value} {css : List (List Value)} {xs : List α} (h : w.ownsRow base e (Rd.n α) v xs.length css.flatten) (he : Each S w css xs) (hS : ∀ b, v.ownBlock = some b → base ≤ b → b < w.heap.size → S b) : Rd.rd S w [v] xs := by
  rcases h.2 with ⟨rfl, hn⟩ | ⟨g, cap, cur, rfl, hb, hg, hnc, hcm, hcs, htake⟩
  · rw [show xs = [] from List.eq_nil_of_length_eq_zero hn]
    exact ⟨none, 0, rfl, Nat.le_refl _, by omega, fun h => absurd h (by simp)⟩
  · have hlt : g < w.heap.size := (Array.getElem?_eq_some_iff.1 hg).1
    have hcur : cur = (css.flatten ++ cur.toList.drop (xs.length * Rd.n α)).toArray := by
      rw [← htake, List.take_append_drop]
    rw [hcur] at hg
    exact rd_of_block hg he (hS g rfl hb hlt) hnc (by unfold maxLen at hcm; omega)
theorem RowOn.up {w w1 : World} {r r' : Option Nat} (h : RowOn w1 r r') (hs : w.heap.size ≤ w1.heap.size) : RowOn w r r' := by
  rcases h with h | ⟨b, h1, h2⟩
  · exact Or.inl h
  · exact Or.inr ⟨b, h1, Nat.le_trans hs h2⟩
theorem rows_new {g : Nat} {nv : Value} {w : World} {rs : List CsvRow} (h : RowsNs g nv w rs) : Rd.rd (New (g + 1) w) w [nv] rs := by
  obtain ⟨css, ho, he⟩ := h
  exact rd_own_at ho (he.mono (fun b hb => ⟨hb.1, hb.2.1⟩)) (fun b _ h1 h2 => ⟨h1, h2⟩)
theorem rows_base {B B' : Nat} {w : World} {nv : Value} {rs : List CsvRow} (h : Rd.rd (New B w) w [nv] rs) (hB : B' ≤ B) : Rd.rd (New B' w) w [nv] rs := Rd.mono (fun b hb => ⟨Nat.le_trans hB hb.1, hb.2⟩) h
theorem readC_end (L : List UInt8) {f p : Nat} (rs : List (List (List UInt8))) (h : L.length ≤ p) : readC L f p rs = (rs, 0, 0) := by
  cases f with
  | zero => rw [readC]
  | succ f => rw [readC, if_pos h]
theorem readC_step (L : List UInt8) {f p : Nat} (rs : List (List (List UInt8))) (h : ¬ L.length ≤ p) : readC L (f + 1) p rs = if (rowP L 100 p []).1 ≠ 0 then (rs, (rowP L 100 p []).2.1, (rowP L 100 p []).1) else readC L f (rowP L 100 p []).2.1 (rs ++ [(rowP L 100 p []).2.2]) := by rw [readC, if_neg h]
theorem readBel {w w1 w2 : World} (h : Below w.heap.size w w1) (k : Below w1.heap.size w1 w2) : Below w.heap.size w w2 := ext_trans h k
end Go.Proofs.YtcebgmdcbdggeaaGreatDoor
