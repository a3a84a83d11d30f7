/-
  What is proved here: how what is read through a set of blocks stands over calls, allocations and marks; the marks of an array from 1 on. No condition.
-/
import Derived.Test.YtommldonooicjaaDoorMarkArr
namespace Go.Proofs.YtommldonooicjaaDoor
open Go.RowKit
set_option linter.unusedVariables false
set_option linter.unusedSimpArgs false

structure Live (D : Nat → Prop) (wi w : World) : Prop where
  same : Same D wi w
  lt : ∀ b, D b → b < w.heap.size
theorem Live.refl {D : Nat → Prop} {w : World} (h : ∀ b, D b → b < w.heap.size) : Live D w w := ⟨Same.refl _ _, h⟩
theorem Live.call {D : Nat → Prop} {wi P w' : World} (h : Live D wi P) (hb : Below P.heap.size P w') : Live D wi w' :=
  ⟨h.same.trans ((Same.of_below hb).mono h.lt), fun b hD => Nat.lt_of_lt_of_le (h.lt b hD) hb.size⟩
theorem Live.alloc {D : Nat → Prop} {wi P : World} (h : Live D wi P) (o : Obj) : Live D wi (P.alloc o) := h.call (ext_alloc _ _)
theorem Live.off {D T : Nat → Prop} {wi P w' : World} (h : Live D wi P) (ho : OffS T P w') (hT : ∀ b, D b → T b → False) : Live D wi w' :=
  ⟨h.same.trans (ho.to_same fun b hD => ⟨h.lt b hD, fun ht => hT b hD ht⟩), fun b hD => Nat.lt_of_lt_of_le (h.lt b hD) ho.size⟩
theorem Live.rd {α : Type} [Rd α] {D : Nat → Prop} {wi w : World} {cs : List Value} {x : α} (h : Live D wi w) (hr : Rd.rd D wi cs x) : Rd.rd (Old w) w cs x := Rd.mono h.lt (Rd.same h.same hr)
theorem bw_call {B : Nat} {W P w' : World} (h : Below B W P) (hB : B ≤ P.heap.size) (hb : Below P.heap.size P w') : Below B W w' :=
  ⟨hb.os.trans h.os, hb.tape.trans h.tape, hb.output.trans h.output, Nat.le_trans h.size hb.size, fun c hc => (hb.block c (by omega)).trans (h.block c hc)⟩
theorem bw_off {B : Nat} {T : Nat → Prop} {W P w' : World} (h : Below B W P) (hB : B ≤ P.heap.size) (ho : OffS T P w') (hT : ∀ b, T b → B ≤ b) : Below B W w' :=
  ⟨ho.os.trans h.os, ho.tape.trans h.tape, ho.output.trans h.output, Nat.le_trans h.size ho.size, fun c hc => (ho.block c (by omega) (fun ht => absurd (hT c ht) (by omega))).trans (h.block c hc)⟩
theorem bw_drew {P w' : World} (hb : Below P.drew.heap.size P.drew w') : Below P.heap.size P w' := ⟨hb.os, hb.tape, hb.output, hb.size, hb.block⟩
theorem arr_cells {x : Arr} (h : Sz.sz x ≤ 1048576) : x.keys.length ≤ 1048576 ∧ x.vals.length ≤ 1048576 ∧ 1 + arrCells x ≤ 100000000 := by
  have h1 := sz_len x.keys
  have h2 := sz_len x.vals
  have h3 : Sz.sz x = Sz.sz x.keys + Sz.sz x.vals := rfl
  unfold arrCells
  omega
end Go.Proofs.YtommldonooicjaaDoor
