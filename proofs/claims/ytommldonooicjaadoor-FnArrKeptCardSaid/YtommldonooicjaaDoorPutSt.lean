/-
  What is proved here: what ArrPut computes; two rows of the call's own under appends. No condition; no program in sight but the types' numbers.
-/
import Derived.Test.YtommldonooicjaaDoorLive
import Derived.Test.YtommldonooicjaaDoorDropS
import Derived.Test.YtommldonooicjaaDoorValOk
namespace Go.Proofs.YtommldonooicjaaDoor
open Go.RowKit
set_option linter.unusedVariables false
set_option linter.unusedSimpArgs false

def putOk (x : Arr) (s : ByteArray) (v : Val) : Bool := okText s && valOk v && !(decide (arrAt x s < 0) && decide (200 ≤ x.keys.length))
def arrSet (x : Arr) (s : ByteArray) (v : Val) : Arr :=
  if arrAt x s < 0 then ⟨x.keys ++ [s], fillK x.vals x.keys.length ++ [v]⟩ else ⟨x.keys, (fillK x.vals x.keys.length).set (arrAt x s).toNat v⟩
def arrPut (x : Arr) (s : ByteArray) (v : Val) : Arr := if putOk x s v then arrSet x s v else arrFill x

structure PutSt (X : World) (B b9 : Nat) (w : World) (n m : Nat) (u v : Value) (xs ys : List Value) : Prop where
  bel : Below B X w
  hu : w.ownsRow B 9 1 u n xs
  hv : w.ownsRow B 31 5 v m ys
  ne : ∀ q, u.ownBlock = some q → v.ownBlock = some q → False
  nu : u.ownBlock ≠ some b9
  nv : v.ownBlock ≠ some b9
  hB : B ≤ w.heap.size
  h9 : b9 < w.heap.size
  b9B : B ≤ b9
structure Blk (w : World) (b : Nat) (cs : Array Value) (t : TypeId) (u v : Value) : Prop where
  hp : w.heap[b]? = some (.cells cs t (0, 0))
  nu : u.ownBlock ≠ some b
  nv : v.ownBlock ≠ some b
theorem grown_bel {X w w' : World} {B : Nat} {v : Value} {e : TypeId} {size n : Nat} {xs : List Value} (h : Below B X w) (hB : B ≤ w.heap.size) (hv : w.ownsRow B e size v n xs) (hg : w.grownBy w' v.ownBlock) : Below B X w' :=
  ⟨hg.os.trans h.os, hg.tape.trans h.tape, hg.output.trans h.output, Nat.le_trans h.size hg.size, fun c hc => (hg.block c (by omega) (fun e => by have := (hv.lt c e.symm).1; omega)).trans (h.block c hc)⟩
theorem PutSt.alloc {X w : World} {B b9 n m : Nat} {u v : Value} {xs ys : List Value} (h : PutSt X B b9 w n m u v xs ys) (o : Obj) : PutSt X B b9 (w.alloc o) n m u v xs ys :=
  ⟨Below.alloc h.bel h.hB o, h.hu.alloc o, h.hv.alloc o, h.ne, h.nu, h.nv, by simp; have := h.hB; omega, by simp; have := h.h9; omega, h.b9B⟩
theorem PutSt.drew {X w : World} {B b9 n m : Nat} {u v : Value} {xs ys : List Value} (h : PutSt X B b9 w n m u v xs ys) : PutSt X B b9 w.drew n m u v xs ys :=
  ⟨⟨h.bel.os, h.bel.tape, h.bel.output, h.bel.size, h.bel.block⟩, h.hu.drew, h.hv.drew, h.ne, h.nu, h.nv, h.hB, h.h9, h.b9B⟩
theorem ne_of_grown {w w' : World} {u : Value} {g b : Nat} (ha : u.ownBlock = some g ∨ g = w.heap.size) (hb : u.ownBlock ≠ some b) (hlt : b < w.heap.size) : g ≠ b := by
  rcases ha with h | h
  · intro e; rw [h, e] at hb; exact hb rfl
  · omega
theorem PutSt.apU {X w w' : World} {B b9 n m n' cap g H : Nat} {u v : Value} {xs ys xs' : List Value} (h : PutSt X B b9 w n m u v xs ys) (hH : w.heap.size = H)
    (h1 : w'.ownsRow B 9 1 (.slice (some ⟨g, 0, none⟩) n' cap) n' xs') (hg : w.grownBy w' u.ownBlock) (ha : u.ownBlock = some g ∨ g = H) : PutSt X B b9 w' n' m (.slice (some ⟨g, 0, none⟩) n' cap) v xs' ys := by
  subst hH
  refine ⟨grown_bel h.bel h.hB h.hu hg, h1, h.hv.kept hg ?_, ?_, ?_, h.nv, Nat.le_trans h.hB hg.size, Nat.lt_of_lt_of_le h.h9 hg.size, h.b9B⟩
  · cases hv : v.ownBlock with
    | none => exact .inl rfl
    | some q => right; intro e; exact h.ne q e.symm hv
  · intro q hq hv
    simp only [Value.ownBlock, Option.some.injEq] at hq
    subst hq
    rcases ha with h' | h'
    · exact h.ne _ h' hv
    · have := (h.hv.lt _ hv).2; omega
  · simp only [Value.ownBlock, ne_eq, Option.some.injEq]
    exact ne_of_grown (w' := w') ha h.nu h.h9
theorem PutSt.apV {X w w' : World} {B b9 n m m' cap g H : Nat} {u v : Value} {xs ys ys' : List Value} (h : PutSt X B b9 w n m u v xs ys) (hH : w.heap.size = H)
    (h1 : w'.ownsRow B 31 5 (.slice (some ⟨g, 0, none⟩) m' cap) m' ys') (hg : w.grownBy w' v.ownBlock) (ha : v.ownBlock = some g ∨ g = H) : PutSt X B b9 w' n m' u (.slice (some ⟨g, 0, none⟩) m' cap) xs ys' := by
  subst hH
  refine ⟨grown_bel h.bel h.hB h.hv hg, h.hu.kept hg ?_, h1, ?_, h.nu, ?_, Nat.le_trans h.hB hg.size, Nat.lt_of_lt_of_le h.h9 hg.size, h.b9B⟩
  · cases hu : u.ownBlock with
    | none => exact .inl rfl
    | some q => right; intro e; exact h.ne q hu e.symm
  · intro q hu hq
    simp only [Value.ownBlock, Option.some.injEq] at hq
    subst hq
    rcases ha with h' | h'
    · exact h.ne _ hu h'
    · have := (h.hu.lt _ hu).2; omega
  · simp only [Value.ownBlock, ne_eq, Option.some.injEq]
    exact ne_of_grown (w' := w') ha h.nv h.h9
theorem PutSt.box_u {X w w' : World} {B b9 n m : Nat} {u v : Value} {xs ys : List Value} (h : PutSt X B b9 w n m u v xs ys) (hg : w.grownBy w' u.ownBlock) : w'.heap[b9]? = w.heap[b9]? := hg.block b9 h.h9 (fun e => h.nu e.symm)
theorem PutSt.box_v {X w w' : World} {B b9 n m : Nat} {u v : Value} {xs ys : List Value} (h : PutSt X B b9 w n m u v xs ys) (hg : w.grownBy w' v.ownBlock) : w'.heap[b9]? = w.heap[b9]? := hg.block b9 h.h9 (fun e => h.nv e.symm)
theorem PutSt.set9 {X w : World} {B b9 n m o : Nat} {u v : Value} {xs ys : List Value} (h : PutSt X B b9 w n m u v xs ys) (z : Value) : PutSt X B b9 (w.setCell ⟨b9, o, none⟩ z) n m u v xs ys :=
  ⟨Below.setCell h.bel h.b9B z, ownsRow_setCell_other h.hu h.nu z, ownsRow_setCell_other h.hv h.nv z, h.ne, h.nu, h.nv, by simpa [World.setCell] using h.hB, by simpa [World.setCell] using h.h9, h.b9B⟩
theorem PutSt.blk {X w : World} {B b9 n m : Nat} {u v : Value} {xs ys : List Value} (h : PutSt X B b9 w n m u v xs ys) (cs : Array Value) (t : TypeId) : Blk (w.alloc (.cells cs t)) w.heap.size cs t u v :=
  ⟨heap_alloc_new w _, fun e => by have := (h.hu.lt _ e).2; omega, fun e => by have := (h.hv.lt _ e).2; omega⟩
theorem Blk.lt {w : World} {b : Nat} {cs : Array Value} {t : TypeId} {u v : Value} (h : Blk w b cs t u v) : b < w.heap.size := (Array.getElem?_eq_some_iff.1 h.hp).1
theorem Blk.alloc {w : World} {b : Nat} {cs : Array Value} {t : TypeId} {u v : Value} (h : Blk w b cs t u v) (o : Obj) : Blk (w.alloc o) b cs t u v := ⟨(heap_alloc_old w o h.lt).trans h.hp, h.nu, h.nv⟩
theorem Blk.apU {w w' : World} {b g n' cap H : Nat} {cs : Array Value} {t : TypeId} {u v : Value} (h : Blk w b cs t u v) (hH : w.heap.size = H) (hg : w.grownBy w' u.ownBlock) (ha : u.ownBlock = some g ∨ g = H) : Blk w' b cs t (.slice (some ⟨g, 0, none⟩) n' cap) v := by
  subst hH
  exact ⟨(hg.block b h.lt (fun e => h.nu e.symm)).trans h.hp, by simp only [Value.ownBlock, ne_eq, Option.some.injEq]; exact ne_of_grown (w' := w') ha h.nu h.lt, h.nv⟩
theorem Blk.apV {w w' : World} {b g m' cap H : Nat} {cs : Array Value} {t : TypeId} {u v : Value} (h : Blk w b cs t u v) (hH : w.heap.size = H) (hg : w.grownBy w' v.ownBlock) (ha : v.ownBlock = some g ∨ g = H) : Blk w' b cs t u (.slice (some ⟨g, 0, none⟩) m' cap) := by
  subst hH
  exact ⟨(hg.block b h.lt (fun e => h.nv e.symm)).trans h.hp, h.nu, by simp only [Value.ownBlock, ne_eq, Option.some.injEq]; exact ne_of_grown (w' := w') ha h.nv h.lt⟩
/-- a value stored in place -/
theorem vals_set (ys : List Val) (k : Nat) (y : Val) (hk : k < ys.length) :
    ((((((valsCells ys).set (k * 5) (.int .i64 y.kind)).set (k * 5 + 1) (.bool y.num.neg)).set (k * 5 + 2) (.string y.num.dig)).set (k * 5 + 3) (.int .i64 y.num.exp)).set (k * 5 + 4) (.string y.text)) = valsCells (ys.set k y) := by
  apply List.ext_getElem?
  intro j
  by_cases hj : j < ys.length * 5
  · have hq : j / 5 < ys.length := by omega
    have hr : j % 5 < 5 := by omega
    have hjq : j / 5 * 5 + j % 5 = j := by omega
    have hl := valsCells_len ys
    have g1 := valsCells_get (ys.set k y) (j / 5) (j % 5) (by simpa using hq) hr
    have g0 := valsCells_get ys (j / 5) (j % 5) hq hr
    rw [hjq] at g1 g0
    rw [g1]
    simp only [List.getElem?_set, List.length_set, hl]
    by_cases hjk : j / 5 = k
    · subst hjk
      rw [List.getElem_set_self]
      have h5 : j % 5 = 0 ∨ j % 5 = 1 ∨ j % 5 = 2 ∨ j % 5 = 3 ∨ j % 5 = 4 := by omega
      rcases h5 with h | h | h | h | h
      · rw [if_neg (by omega), if_neg (by omega), if_neg (by omega), if_neg (by omega), if_pos (by omega), if_pos (by omega), h]; rfl
      · rw [if_neg (by omega), if_neg (by omega), if_neg (by omega), if_pos (by omega), if_pos (by omega), h]; rfl
      · rw [if_neg (by omega), if_neg (by omega), if_pos (by omega), if_pos (by omega), h]; rfl
      · rw [if_neg (by omega), if_pos (by omega), if_pos (by omega), h]; rfl
      · rw [if_pos (by omega), if_pos (by omega), h]; rfl
    · rw [if_neg (by omega), if_neg (by omega), if_neg (by omega), if_neg (by omega), if_neg (by omega), g0, List.getElem_set_ne (fun e => hjk e.symm)]
  · rw [List.getElem?_eq_none (by simp only [List.length_set, valsCells_len]; omega), List.getElem?_eq_none (by rw [valsCells_len, List.length_set]; omega)]
theorem own_set5 {w : World} {B g n cap : Nat} {e : TypeId} {ys : List Val} (h : w.ownsRow B e 5 (.slice (some ⟨g, 0, none⟩) n cap) n (valsCells ys)) (k : Nat) (y : Val) (hk : k < ys.length) :
    (((((w.setCell ⟨g, k * 5, none⟩ (.int .i64 y.kind)).setCell ⟨g, k * 5 + 1, none⟩ (.bool y.num.neg)).setCell ⟨g, k * 5 + 2, none⟩ (.string y.num.dig)).setCell ⟨g, k * 5 + 3, none⟩ (.int .i64 y.num.exp)).setCell ⟨g, k * 5 + 4, none⟩ (.string y.text)).ownsRow B e 5 (.slice (some ⟨g, 0, none⟩) n cap) n (valsCells (ys.set k y)) := by
  rw [← vals_set ys k y hk]
  exact (((((h.stored _ _).1.stored _ _).1.stored _ _).1.stored _ _).1.stored _ _).1
end Go.Proofs.YtommldonooicjaaDoor
