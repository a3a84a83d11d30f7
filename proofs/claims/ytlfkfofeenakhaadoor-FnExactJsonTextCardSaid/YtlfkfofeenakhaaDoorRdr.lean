/-
  What is proved here: what a reader that is written through a pointer keeps: its own block, the row that it appends to, and what lies beside both. No condition; no program in sight.
-/
import Derived.Test.YtlfkfofeenakhaaDoorStr
namespace Go.Proofs.YtlfkfofeenakhaaDoor
open Go.RowKit
set_option linter.unusedVariables false
set_option linter.unusedSimpArgs false

/-- w' holds what w held, but for block g and for the row's own block; and what is new -/
structure Kp (g : Nat) (row : Option Nat) (w w' : World) : Prop where
  os : w'.os = w.os
  tape : w'.tape = w.tape
  output : w'.output = w.output
  size : w.heap.size ≤ w'.heap.size
  block : ∀ b, b < w.heap.size → b ≠ g → row ≠ some b → w'.heap[b]? = w.heap[b]?
theorem Kp.refl (g : Nat) (row : Option Nat) (w : World) : Kp g row w w := ⟨rfl, rfl, rfl, Nat.le_refl _, fun _ _ _ _ => rfl⟩
theorem Kp.of_below {g : Nat} {row : Option Nat} {w w' : World} (h : Below w.heap.size w w') : Kp g row w w' := ⟨h.os, h.tape, h.output, h.size, fun b hb _ _ => h.block b hb⟩
/-- the row's block is the old one, or a new one -/
def RowOn (w : World) (r r' : Option Nat) : Prop := r' = r ∨ ∃ b, r' = some b ∧ w.heap.size ≤ b
theorem RowOn.refl (w : World) (r : Option Nat) : RowOn w r r := Or.inl rfl
theorem RowOn.trans {w w1 : World} {r r1 r2 : Option Nat} (h : RowOn w r r1) (k : RowOn w1 r1 r2) (hs : w.heap.size ≤ w1.heap.size) : RowOn w r r2 := by
  rcases k with rfl | ⟨b, rfl, hb⟩
  · exact h
  · exact Or.inr ⟨b, rfl, Nat.le_trans hs hb⟩
theorem RowOn.ne {w : World} {r r' : Option Nat} {b : Nat} (h : RowOn w r r') (hb : b < w.heap.size) (hr : r ≠ some b) : r' ≠ some b := by
  rcases h with rfl | ⟨c, rfl, hc⟩
  · exact hr
  · intro e
    injection e with e
    omega
theorem Kp.trans {g : Nat} {r r1 : Option Nat} {w w1 w2 : World} (h : Kp g r w w1) (k : Kp g r1 w1 w2) (hr : RowOn w r r1) : Kp g r w w2 :=
  ⟨k.os.trans h.os, k.tape.trans h.tape, k.output.trans h.output, Nat.le_trans h.size k.size, fun b hb hg hrb => (k.block b (Nat.lt_of_lt_of_le hb h.size) hg (hr.ne hb hrb)).trans (h.block b hb hg hrb)⟩
theorem Kp.drewN {g : Nat} {r : Option Nat} {w w1 : World} (h : Kp g r w w1) (n : Nat) : Kp g r w (w1.drewN n) := ⟨h.os, h.tape, h.output, h.size, h.block⟩
theorem Kp.drew {g : Nat} {r : Option Nat} {w w1 : World} (h : Kp g r w w1) : Kp g r w w1.drew := ⟨h.os, h.tape, h.output, h.size, h.block⟩
theorem Kp.set {g : Nat} {r : Option Nat} {w w1 : World} (h : Kp g r w w1) (o : Nat) (v : Value) : Kp g r w (w1.setCell ⟨g, o, none⟩ v) :=
  ⟨h.os, h.tape, h.output, by simpa [World.setCell] using h.size, fun b hb hg hr => (Below.heap_setCell w1 ⟨g, o, none⟩ v b hg).trans (h.block b hb hg hr)⟩
theorem Kp.alloc {g : Nat} {r : Option Nat} {w w1 : World} (h : Kp g r w w1) (o : Obj) : Kp g r w (w1.alloc o) :=
  ⟨h.os, h.tape, h.output, Nat.le_trans h.size (ext_alloc w1 o).size, fun b hb hg hr => ((ext_alloc w1 o).block b (Nat.lt_of_lt_of_le hb h.size)).trans (h.block b hb hg hr)⟩
theorem Kp.below {g : Nat} {r : Option Nat} {w w1 : World} (h : Kp g r w w1) (hg : g ≤ w.heap.size) (hr : ∀ b, r = some b → g < b) : Below g w w1 :=
  ⟨h.os, h.tape, h.output, h.size, fun b hb => h.block b (Nat.lt_of_lt_of_le hb hg) (by omega) (fun e => by have := hr b e; omega)⟩
theorem Kp.grown {g : Nat} {w w1 w2 : World} {r : Option Nat} (h : Kp g r w w1) (hg : w1.grownBy w2 r) : Kp g r w w2 :=
  ⟨hg.os.trans h.os, hg.tape.trans h.tape, hg.output.trans h.output, Nat.le_trans h.size hg.size, fun b hb hgb hr => (hg.block b (Nat.lt_of_lt_of_le hb h.size) (fun e => hr e.symm)).trans (h.block b hb hgb hr)⟩
/-- nothing but draws -/
def Qt (w w' : World) : Prop := ∃ m, w' = w.drewN m
theorem Qt.refl (w : World) : Qt w w := ⟨0, rfl⟩
theorem Qt.trans {a b c : World} (h : Qt a b) (k : Qt b c) : Qt a c := by
  obtain ⟨m, rfl⟩ := h
  obtain ⟨n, rfl⟩ := k
  exact ⟨m + n, by simp [World.drewN, Nat.add_assoc]⟩
theorem Qt.one (w : World) (m : Nat) : Qt w (w.drewN m) := ⟨m, rfl⟩
theorem Qt.heap {w w' : World} (h : Qt w w') : w'.heap = w.heap := by
  obtain ⟨m, rfl⟩ := h
  rfl
theorem Qt.at {w w' : World} (h : Qt w w') {b : Nat} {o : Option Obj} (hb : w.heap[b]? = o) : w'.heap[b]? = o := by rw [h.heap]; exact hb
theorem Qt.kp {w w' : World} {g : Nat} {r : Option Nat} (h : Qt w w') : Kp g r w w' := by
  obtain ⟨m, rfl⟩ := h
  exact (Kp.refl g r w).drewN m
theorem Qt.below {w w' : World} (h : Qt w w') (b : Nat) : Below b w w' := by
  obtain ⟨m, rfl⟩ := h
  exact below_drewN (Below.refl _ _) m
/-- blocks beside a reader's own, beside its row's, and beside those of X -/
def Beside (X : Nat → Prop) (g : Nat) (row : Option Nat) (w : World) : Nat → Prop := fun b => g < b ∧ b < w.heap.size ∧ row ≠ some b ∧ ¬ X b
theorem Kp.rd {α : Type} [Rd α] {X : Nat → Prop} {g : Nat} {r r' : Option Nat} {w w' : World} {cs : List Value} {x : α} (h : Kp g r w w') (hr : RowOn w r r') (hx : Rd.rd (Beside X g r w) w cs x) : Rd.rd (Beside X g r' w') w' cs x :=
  Rd.mono (S := Beside X g r w) (fun b hb => ⟨hb.1, Nat.lt_of_lt_of_le hb.2.1 h.size, hr.ne hb.2.1 hb.2.2.1, hb.2.2.2⟩) (Rd.same (fun b hb => h.block b hb.2.1 (by have := hb.1; omega) hb.2.2.1) hx)
theorem Kp.each {α : Type} [Rd α] {X : Nat → Prop} {g : Nat} {r r' : Option Nat} {w w' : World} {css : List (List Value)} {xs : List α} (h : Kp g r w w') (hr : RowOn w r r') (hx : Each (Beside X g r w) w css xs) : Each (Beside X g r' w') w' css xs :=
  ⟨hx.1, fun i h1 h2 => h.rd hr (hx.2 i h1 h2)⟩
/-- a row of the call's own beside the reader stands -/
theorem Kp.row {g : Nat} {r : Option Nat} {w w' : World} {e : TypeId} {size n : Nat} {v : Value} {xs : List Value} (h : Kp g r w w') (hv : w.ownsRow (g + 1) e size v n xs) (hne : ∀ b, v.ownBlock = some b → r ≠ some b) : w'.ownsRow (g + 1) e size v n xs := by
  refine ⟨hv.1, ?_⟩
  rcases hv.2 with ⟨rfl, hn⟩ | ⟨b, cap, cur, rfl, h1, h2, h3, h4, h5, h6⟩
  · exact Or.inl ⟨rfl, hn⟩
  · have hb : b < w.heap.size := (Array.getElem?_eq_some_iff.1 h2).1
    exact Or.inr ⟨b, cap, cur, rfl, h1, (h.block b hb (by omega) (hne b rfl)).trans h2, h3, h4, h5, h6⟩
end Go.Proofs.YtlfkfofeenakhaaDoor
