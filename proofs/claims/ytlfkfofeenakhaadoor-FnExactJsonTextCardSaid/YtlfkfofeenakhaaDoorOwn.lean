/-
  What is proved here: which rows are fresh ('Ow': a block of its own from offset 0, not frozen), that the copies of strings, values and arrays lie in such rows, and what the marks of an array set and read. No condition.
-/
import Derived.Test.YtlfkfofeenakhaaDoorMark
import Derived.Test.YtlfkfofeenakhaaDoorDv
namespace Go.Proofs.YtlfkfofeenakhaaDoor
open Go.RowKit
set_option linter.unusedVariables false
set_option linter.unusedSimpArgs false

/-- a slice of n elements, m cells: at the head of a block of S that is not frozen -/
def Ow (S : Nat → Prop) (w : World) (n m : Nat) (v : Value) : Prop :=
  ∃ a c, v = .slice a n c ∧ (0 < n → ∃ g cur e, a = some ⟨g, 0, none⟩ ∧ S g ∧ w.heap[g]? = some (.cells cur e (0, 0)) ∧ m ≤ cur.size)
theorem Ow.same {S : Nat → Prop} {w w' : World} {n m : Nat} {v : Value} (h : Ow S w n m v) (hs : Same S w w') : Ow S w' n m v := by
  obtain ⟨a, c, hv, h⟩ := h
  exact ⟨a, c, hv, fun hn => let ⟨g, cur, e, h1, h2, h3, h4⟩ := h hn; ⟨g, cur, e, h1, h2, (hs g h2).trans h3, h4⟩⟩
theorem Ow.mono {S T : Nat → Prop} {w : World} {n m : Nat} {v : Value} (h : Ow S w n m v) (hs : ∀ b, S b → T b) : Ow T w n m v := by
  obtain ⟨a, c, hv, h⟩ := h
  exact ⟨a, c, hv, fun hn => let ⟨g, cur, e, h1, h2, h3, h4⟩ := h hn; ⟨g, cur, e, h1, hs g h2, h3, h4⟩⟩
theorem Ow.less {S : Nat → Prop} {w : World} {n m m' : Nat} {v : Value} (h : Ow S w n m v) (hm : m' ≤ m) : Ow S w n m' v := by
  obtain ⟨a, c, hv, h⟩ := h
  exact ⟨a, c, hv, fun hn => let ⟨g, cur, e, h1, h2, h3, h4⟩ := h hn; ⟨g, cur, e, h1, h2, h3, by omega⟩⟩
theorem ow_row {S : Nat → Prop} {w : World} {g n m c : Nat} {cur : Array Value} {e : TypeId} (hg : w.heap[g]? = some (.cells cur e (0, 0))) (hS : S g) (hm : m ≤ cur.size) : Ow S w n m (.slice (some ⟨g, 0, none⟩) n c) :=
  ⟨_, _, rfl, fun _ => ⟨g, cur, e, rfl, hS, hg, hm⟩⟩
theorem ow_nil {S : Nat → Prop} {w : World} {a : Option Addr} {m c : Nat} : Ow S w 0 m (.slice a 0 c) := ⟨_, _, rfl, fun h => absurd h (by omega)⟩
theorem Keeps.ow {A B : Nat} {w1 W : World} {n m : Nat} {v : Value} (h : Keeps B w1 W) (hA : A ≤ B) (hx : Ow (New B w1) w1 n m v) : Ow (New A W) W n m v :=
  (hx.same h.2).mono (fun b (hb : B ≤ b ∧ b < w1.heap.size) => ⟨Nat.le_trans hA hb.1, Nat.lt_of_lt_of_le hb.2 h.1⟩)
theorem Keeps.ow' {B : Nat} {w1 W : World} {n m : Nat} {v : Value} (h : Keeps B w1 W) (hx : Ow (New B w1) w1 n m v) : Ow (New B w1) W n m v := hx.same h.2
/-- the two rows of an array: fresh, and not the same block -/
def OwArr (S : Nat → Prop) (w : World) (x : Arr) (cs : Array Value) : Prop :=
  ∃ (S1 S2 : Nat → Prop) (u v : Value), cs = #[u, v] ∧ (∀ b, S1 b → S b) ∧ (∀ b, S2 b → S b) ∧ (∀ b, S1 b → S2 b → False) ∧ Ow S1 w x.keys.length x.keys.length u ∧ Ow S2 w x.vals.length (x.vals.length * 5) v
theorem OwArr.same {S : Nat → Prop} {w w' : World} {x : Arr} {cs : Array Value} (h : OwArr S w x cs) (hs : Same S w w') : OwArr S w' x cs := by
  obtain ⟨S1, S2, u, v, h0, h1, h2, h3, h4, h5⟩ := h
  exact ⟨S1, S2, u, v, h0, h1, h2, h3, h4.same (hs.mono h1), h5.same (hs.mono h2)⟩
theorem OwArr.mono {S T : Nat → Prop} {w : World} {x : Arr} {cs : Array Value} (h : OwArr S w x cs) (hs : ∀ b, S b → T b) : OwArr T w x cs := by
  obtain ⟨S1, S2, u, v, h0, h1, h2, h3, h4, h5⟩ := h
  exact ⟨S1, S2, u, v, h0, fun b hb => hs b (h1 b hb), fun b hb => hs b (h2 b hb), h3, h4, h5⟩

/-- all blocks but those of T stand -/
structure OffS (T : Nat → Prop) (w w' : World) : Prop where
  os : w'.os = w.os
  tape : w'.tape = w.tape
  output : w'.output = w.output
  size : w.heap.size ≤ w'.heap.size
  block : ∀ c, c < w.heap.size → ¬ T c → w'.heap[c]? = w.heap[c]?
theorem OffS.refl (T : Nat → Prop) (w : World) : OffS T w w := ⟨rfl, rfl, rfl, Nat.le_refl _, fun _ _ _ => rfl⟩
theorem OffS.trans {T : Nat → Prop} {a b c : World} (h : OffS T a b) (k : OffS T b c) : OffS T a c :=
  ⟨k.os.trans h.os, k.tape.trans h.tape, k.output.trans h.output, Nat.le_trans h.size k.size, fun x hx hT => (k.block x (Nat.lt_of_lt_of_le hx h.size) hT).trans (h.block x hx hT)⟩
theorem OffS.of {T : Nat → Prop} {g : Nat} {w w' : World} (h : Off g w w') (hT : T g) : OffS T w w' :=
  ⟨h.os, h.tape, h.output, h.size, fun c hc hn => h.block c hc (fun e => hn (e ▸ hT))⟩
theorem OffS.below {T : Nat → Prop} {w w' : World} (h : Below w.heap.size w w') : OffS T w w' :=
  ⟨h.os, h.tape, h.output, h.size, fun c hc _ => h.block c hc⟩
theorem OffS.to_below {T : Nat → Prop} {B : Nat} {w w' : World} (h : OffS T w w') (hT : ∀ b, T b → B ≤ b) (hB : B ≤ w.heap.size) : Below B w w' :=
  ⟨h.os, h.tape, h.output, h.size, fun c hc => h.block c (Nat.lt_of_lt_of_le hc hB) (fun ht => absurd (hT c ht) (by omega))⟩
theorem OffS.cell {T : Nat → Prop} {w w' : World} (h : OffS T w w') {p : Addr} (hp : p.block < w.heap.size) (hT : ¬ T p.block) : w'.cell? p = w.cell? p :=
  World.cell?_of_block (w := w) (h.block p.block hp hT)
theorem OffS.frozen {T : Nat → Prop} {w w' : World} (h : OffS T w w') {p : Addr} (hp : p.block < w.heap.size) (hT : ¬ T p.block) : w'.frozen? p = w.frozen? p := by
  unfold World.frozen?; rw [h.block p.block hp hT]
theorem OffS.to_same {T S : Nat → Prop} {w w' : World} (h : OffS T w w') (hS : ∀ b, S b → b < w.heap.size ∧ ¬ T b) : Same S w w' :=
  fun b hb => h.block b (hS b hb).1 (hS b hb).2

set_option maxHeartbeats 2000000 in
theorem toStrs_own {v : Value} {xs : List ByteArray} (w : World) (h : Rd.rd (Old w) w [v] xs) (hsz : Sz.sz xs ≤ 1048576) :
    Calls Tryd.prog 125 #[v] w fun e w' => ∃ u, e = .returned u ∧ Rd.rd (New w.heap.size w') w' [u] xs ∧ Ow (New w.heap.size w') w' xs.length xs.length u ∧ Below w.heap.size w w' := by
  obtain ⟨a, cap, rfl, h1, h2, hc⟩ := rdStrs h
  clear h
  have hn : xs.length ≤ 1048576 := Nat.le_trans (sz_len xs) hsz
  clear hsz
  have hmk := run_make_row' (P := Tryd.prog) 73 9 _ 16 Tryd.underlying73 info_string rfl .i64 .i64 xs.length (by omega) (by omega)
  go_enter Tryd.func125, Tryd.ntmps125
  go_wp2
  clear hmk
  go_loopw [4] (fun i wr => ∃ k css, k ≤ xs.length ∧ i = .int .i64 (k : Nat) ∧ Below w.heap.size w wr ∧ wr.heap.size = w.heap.size + 1 ∧ wr.heap[w.heap.size]? = some (.cells (css.flatten ++ List.replicate (xs.length - k) (.string ⟨#[]⟩)).toArray 9 (0, 0)) ∧ Each (fun _ => False) wr css (xs.take k)) (fun i _ => xs.length - (intOf i).toNat)
  case atStart =>
    exact ⟨0, [], Nat.zero_le _, rfl, (Below.refl _ _).alloc (Nat.le_refl _) _, by simp, fill_made _ _ _ _, Each.nil⟩
  case round =>
    obtain ⟨k, css, hk, rfl, hb, hsz, hg, he⟩ := hrel
    by_cases hlt : k < xs.length
    · obtain ⟨b, off, rfl, hB, hcell⟩ := hc (by omega)
      obtain ⟨hce, hs⟩ := hcell k hlt
      have hce' : wr.cell? ⟨b, off + k, none⟩ = some (.string xs[k]) := (hb.cell (p := ⟨b, off + k, none⟩) hB).trans hce
      have hcl := each_take he hk
      have hold := fill_old hg he.len hcl hlt
      have hfr : wr.frozen? ⟨w.heap.size, k, none⟩ = false := frozen_of_row wr w.heap.size k _ _ hg
      have HC := hid hcell
      have HG := hid hg
      have HE := hid he
      have HS := hid hsz
      have HL := hid hcl
      clear hcell hc hg he hsz hcl hce
      go_wp2
      go_roundw
      case rel =>
        refine ⟨k + 1, css ++ [[.string xs[k]]], by omega, by go_num, hb.setCell (Nat.le_refl _) _, by simpa [World.setCell] using HS.out, ?_, ?_⟩
        · exact fill_set HG.out HE.out.len HL.out hlt
        · exact each_next (HE.out.same (fun b hb' => hb'.elim)) hlt ⟨rfl, hs⟩
      case measure => simp [intOf]; omega
    · have : k = xs.length := by omega
      subst this
      clear hc
      have HG := hid hg
      have HE := hid he
      have HS := hid hsz
      clear hg he hsz
      go_wp2
      go_ret
      refine ⟨_, rfl, ?_, ow_row HG.out ⟨Nat.le_refl _, by rw [HS.out]; omega⟩ (by have hfl := flatten_length HE.out.len; have h1 := HE.out.1; rw [List.length_take] at h1; simp only [List.size_toArray, List.length_append, hfl, h1, List.length_replicate]; show _ ≤ _ * 1 + _; omega), hb⟩
      have he := HE.out
      rw [List.take_length] at he
      exact rd_of_block HG.out (he.mono (T := New w.heap.size wr) (fun b hb' => hb'.elim)) ⟨Nat.le_refl _, by rw [HS.out]; omega⟩ (Nat.le_refl _) (by omega)
end Go.Proofs.YtlfkfofeenakhaaDoor
