/-
  What is proved here: which rows are fresh ('Ow': a block of its own from offset 0, not frozen), that the copies of strings, values and arrays lie in such rows, and what the marks of an array set and read. No condition.
-/
import Derived.Test.YtcebgmdcbdggeaaDoorMark
import Derived.Test.YtcebgmdcbdggeaaDoorDv
namespace Go.Proofs.YtcebgmdcbdggeaaDoor
open Go.RowKit
set_option linter.unusedVariables false
set_option linter.unusedSimpArgs false

/-- a slice of n elements, m cells: at the head of a block of S that is not frozen -/
def Ow (S : Nat → Prop) (w : World) (n m : Nat) (v : Value) : Prop :=
  ∃ a c, v = .slice a n c ∧ (0 < n → ∃ g cur e, a = some ⟨g, 0, none⟩ ∧ S g ∧ w.heap[g]? = some (.cells cur e (0, 0)) ∧ m ≤ cur.size)
theorem Ow.same {S : Nat → Prop} {w w' : World} {n m : Nat} {v : Value} (h : Ow S w n m v) (hs : Same S w w') : Ow S w' n m v := by
  obtain ⟨a, c, hv, h⟩ := h
  exact ⟨a, c, hv, fun hn => let ⟨g, cur, e, h1, h2, h3, h4⟩ := h hn; ⟨g, cur, e, h1, h2, (hs g h2).trans h3, h4⟩⟩
theorem Ow.mono {S T : Nat → Prop} {w : World} {n m : Nat} {v : Value} (h : Ow S w n m v) (hs : ∀ b, S b → T b) : Ow T w n m v := by
  obtain ⟨a, c, hv, h⟩ := h
  exact ⟨a, c, hv, fun hn => let ⟨g, cur, e, h1, h2, h3, h4⟩ := h hn; ⟨g, cur, e, h1, hs g h2, h3, h4⟩⟩
theorem Ow.less {S : Nat → Prop} {w : World} {n m m' : Nat} {v : Value} (h : Ow S w n m v) (hm : m' ≤ m) : Ow S w n m' v := by
  obtain ⟨a, c, hv, h⟩ := h
  exact ⟨a, c, hv, fun hn => let ⟨g, cur, e, h1, h2, h3, h4⟩ := h hn; ⟨g, cur, e, h1, h2, h3, by omega⟩⟩
theorem ow_row {S : Nat → Prop} {w : World} {g n m c : Nat} {cur : Array Value} {e : TypeId} (hg : w.heap[g]? = some (.cells cur e (0, 0))) (hS : S g) (hm : m ≤ cur.size) : Ow S w n m (.slice (some ⟨g, 0, none⟩) n c) :=
  ⟨_, _, rfl, fun _ => ⟨g, cur, e, rfl, hS, hg, hm⟩⟩
theorem ow_nil {S : Nat → Prop} {w : World} {a : Option Addr} {m c : Nat} : Ow S w 0 m (.slice a 0 c) := ⟨_, _, rfl, fun h => absurd h (by omega)⟩
theorem Keeps.ow {A B : Nat} {w1 W : World} {n m : Nat} {v : Value} (h : Keeps B w1 W) (hA : A ≤ B) (hx : Ow (New B w1) w1 n m v) : Ow (New A W) W n m v :=
  (hx.same h.2).mono (fun b (hb : B ≤ b ∧ b < w1.heap.size) => ⟨Nat.le_trans hA hb.1, Nat.lt_of_lt_of_le hb.2 h.1⟩)
theorem Keeps.ow' {B : Nat} {w1 W : World} {n m : Nat} {v : Value} (h : Keeps B w1 W) (hx : Ow (New B w1) w1 n m v) : Ow (New B w1) W n m v := hx.same h.2
/-- the two rows of an array: fresh, and not the same block -/
def OwArr (S : Nat → Prop) (w : World) (x : Arr) (cs : Array Value) : Prop :=
  ∃ (S1 S2 : Nat → Prop) (u v : Value), cs = #[u, v] ∧ (∀ b, S1 b → S b) ∧ (∀ b, S2 b → S b) ∧ (∀ b, S1 b → S2 b → False) ∧ Ow S1 w x.keys.length x.keys.length u ∧ Ow S2 w x.vals.length (x.vals.length * 5) v
theorem OwArr.same {S : Nat → Prop} {w w' : World} {x : Arr} {cs : Array Value} (h : OwArr S w x cs) (hs : Same S w w') : OwArr S w' x cs := by
  obtain ⟨S1, S2, u, v, h0, h1, h2, h3, h4, h5⟩ := h
  exact ⟨S1, S2, u, v, h0, h1, h2, h3, h4.same (hs.mono h1), h5.same (hs.mono h2)⟩
theorem OwArr.mono {S T : Nat → Prop} {w : World} {x : Arr} {cs : Array Value} (h : OwArr S w x cs) (hs : ∀ b, S b → T b) : OwArr T w x cs := by
  obtain ⟨S1, S2, u, v, h0, h1, h2, h3, h4, h5⟩ := h
  exact ⟨S1, S2, u, v, h0, fun b hb => hs b (h1 b hb), fun b hb => hs b (h2 b hb), h3, h4, h5⟩

/-- all blocks but those of T stand -/
structure OffS (T : Nat → Prop) (w w' : World) : Prop where
  os : w'.os = w.os
  tape : w'.tape = w.tape
  output : w'.output = w.output
  size : w.heap.size ≤ w'.heap.size
  block : ∀ c, c < w.heap.size → ¬ T c → w'.heap[c]? = w.heap[c]?
theorem OffS.refl (T : Nat → Prop) (w : World) : OffS T w w := ⟨rfl, rfl, rfl, Nat.le_refl _, fun _ _ _ => rfl⟩
theorem OffS.trans {T : Nat → Prop} {a b c : World} (h : OffS T a b) (k : OffS T b c) : OffS T a c :=
  ⟨k.os.trans h.os, k.tape.trans h.tape, k.output.trans h.output, Nat.le_trans h.size k.size, fun x hx hT => (k.block x (Nat.lt_of_lt_of_le hx h.size) hT).trans (h.block x hx hT)⟩
theorem OffS.of {T : Nat → Prop} {g : Nat} {w w' : World} (h : Off g w w') (hT : T g) : OffS T w w' :=
  ⟨h.os, h.tape, h.output, h.size, fun c hc hn => h.block c hc (fun e => hn (e ▸ hT))⟩
theorem OffS.below {T : Nat → Prop} {w w' : World} (h : Below w.heap.size w w') : OffS T w w' :=
  ⟨h.os, h.tape, h.output, h.size, fun c hc _ => h.block c hc⟩
theorem OffS.to_below {T : Nat → Prop} {B : Nat} {w w' : World} (h : OffS T w w') (hT : ∀ b, T b → B ≤ b) (hB : B ≤ w.heap.size) : Below B w w' :=
  ⟨h.os, h.tape, h.output, h.size, fun c hc => h.block c (Nat.lt_of_lt_of_le hc hB) (fun ht => absurd (hT c ht) (by omega))⟩
theorem OffS.cell {T : Nat → Prop} {w w' : World} (h : OffS T w w') {p : Addr} (hp : p.block < w.heap.size) (hT : ¬ T p.block) : w'.cell? p = w.cell? p :=
  World.cell?_of_block (w := w) (h.block p.block hp hT)
theorem OffS.frozen {T : Nat → Prop} {w w' : World} (h : OffS T w w') {p : Addr} (hp : p.block < w.heap.size) (hT : ¬ T p.block) : w'.frozen? p = w.frozen? p := by
  unfold World.frozen?; rw [h.block p.block hp hT]
theorem OffS.to_same {T S : Nat → Prop} {w w' : World} (h : OffS T w w') (hS : ∀ b, S b → b < w.heap.size ∧ ¬ T b) : Same S w w' :=
  fun b hb => h.block b (hS b hb).1 (hS b hb).2

end Go.Proofs.YtcebgmdcbdggeaaDoor
