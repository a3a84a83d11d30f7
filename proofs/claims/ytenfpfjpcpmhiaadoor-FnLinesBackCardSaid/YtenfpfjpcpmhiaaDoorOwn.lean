/-
  What is proved here: which rows are fresh ('Ow': a block of its own from offset 0, not frozen), that the copies of strings, values and arrays lie in such rows, and what the marks of an array set and read. No condition.
-/
import Derived.Test.YtenfpfjpcpmhiaaDoorMark
import Derived.Test.YtenfpfjpcpmhiaaDoorDv
namespace Go.Proofs.YtenfpfjpcpmhiaaDoor
open Go.RowKit
set_option linter.unusedVariables false
set_option linter.unusedSimpArgs false

/-- a slice of n elements, m cells: at the head of a block of S that is not frozen -/
def Ow (S : Nat → Prop) (w : World) (n m : Nat) (v : Value) : Prop :=
  ∃ a c, v = .slice a n c ∧ (0 < n → ∃ g cur e, a = some ⟨g, 0, none⟩ ∧ S g ∧ w.heap[g]? = some (.cells cur e (0, 0)) ∧ m ≤ cur.size)
theorem Ow.same {S : Nat → Prop} {w w' : World} {n m : Nat} {v : Value} (h : Ow S w n m v) (hs : Same S w w') : Ow S w' n m v := by
  obtain ⟨a, c, hv, h⟩ := h
  exact ⟨a, c, hv, fun hn => let ⟨g, cur, e, h1, h2, h3, h4⟩ := h hn; ⟨g, cur, e, h1, h2, (hs g h2).trans h3, h4⟩⟩
theorem Ow.mono {S T : Nat → Prop} {w : World} {n m : Nat} {v : Value} (h : Ow S w n m v) (hs : ∀ b, S b → T b) : Ow T w n m v := by
  obtain ⟨a, c, hv, h⟩ := h
  exact ⟨a, c, hv, fun hn => let ⟨g, cur, e, h1, h2, h3, h4⟩ := h hn; ⟨g, cur, e, h1, hs g h2, h3, h4⟩⟩
theorem Ow.less {S : Nat → Prop} {w : World} {n m m' : Nat} {v : Value} (h : Ow S w n m v) (hm : m' ≤ m) : Ow S w n m' v := by
  obtain ⟨a, c, hv, h⟩ := h
  exact ⟨a, c, hv, fun hn => let ⟨g, cur, e, h1, h2, h3, h4⟩ := h hn; ⟨g, cur, e, h1, h2, h3, by omega⟩⟩
theorem ow_row {S : Nat → Prop} {w : World} {g n m c : Nat} {cur : Array Value} {e : TypeId} (hg : w.heap[g]? = some (.cells cur e (0, 0))) (hS : S g) (hm : m ≤ cur.size) : Ow S w n m (.slice (some ⟨g, 0, none⟩) n c) :=
  ⟨_, _, rfl, fun _ => ⟨g, cur, e, rfl, hS, hg, hm⟩⟩
theorem ow_nil {S : Nat → Prop} {w : World} {a : Option Addr} {m c : Nat} : Ow S w 0 m (.slice a 0 c) := ⟨_, _, rfl, fun h => absurd h (by omega)⟩
theorem Keeps.ow {A B : Nat} {w1 W : World} {n m : Nat} {v : Value} (h : Keeps B w1 W) (hA : A ≤ B) (hx : Ow (New B w1) w1 n m v) : Ow (New A W) W n m v :=
  (hx.same h.2).mono (fun b (hb : B ≤ b ∧ b < w1.heap.size) => ⟨Nat.le_trans hA hb.1, Nat.lt_of_lt_of_le hb.2 h.1⟩)
theorem Keeps.ow' {B : Nat} {w1 W : World} {n m : Nat} {v : Value} (h : Keeps B w1 W) (hx : Ow (New B w1) w1 n m v) : Ow (New B w1) W n m v := hx.same h.2
/-- the two rows of an array: fresh, and not the same block -/
def OwArr (S : Nat → Prop) (w : World) (x : Arr) (cs : Array Value) : Prop :=
  ∃ (S1 S2 : Nat → Prop) (u v : Value), cs = #[u, v] ∧ (∀ b, S1 b → S b) ∧ (∀ b, S2 b → S b) ∧ (∀ b, S1 b → S2 b → False) ∧ Ow S1 w x.keys.length x.keys.length u ∧ Ow S2 w x.vals.length (x.vals.length * 5) v
theorem OwArr.same {S : Nat → Prop} {w w' : World} {x : Arr} {cs : Array Value} (h : OwArr S w x cs) (hs : Same S w w') : OwArr S w' x cs := by
  obtain ⟨S1, S2, u, v, h0, h1, h2, h3, h4, h5⟩ := h
  exact ⟨S1, S2, u, v, h0, h1, h2, h3, h4.same (hs.mono h1), h5.same (hs.mono h2)⟩
theorem OwArr.mono {S T : Nat → Prop} {w : World} {x : Arr} {cs : Array Value} (h : OwArr S w x cs) (hs : ∀ b, S b → T b) : OwArr T w x cs := by
  obtain ⟨S1, S2, u, v, h0, h1, h2, h3, h4, h5⟩ := h
  exact ⟨S1, S2, u, v, h0, fun b hb => hs b (h1 b hb), fun b hb => hs b (h2 b hb), h3, h4, h5⟩

/-- all blocks but those of T stand -/
structure OffS (T : Nat → Prop) (w w' : World) : Prop where
  os : w'.os = w.os
  tape : w'.tape = w.tape
  output : w'.output = w.output
  size : w.heap.size ≤ w'.heap.size
  block : ∀ c, c < w.heap.size → ¬ T c → w'.heap[c]? = w.heap[c]?
theorem OffS.refl (T : Nat → Prop) (w : World) : OffS T w w := ⟨rfl, rfl, rfl, Nat.le_refl _, fun _ _ _ => rfl⟩
theorem OffS.trans {T : Nat → Prop} {a b c : World} (h : OffS T a b) (k : OffS T b c) : OffS T a c :=
  ⟨k.os.trans h.os, k.tape.trans h.tape, k.output.trans h.output, Nat.le_trans h.size k.size, fun x hx hT => (k.block x (Nat.lt_of_lt_of_le hx h.size) hT).trans (h.block x hx hT)⟩
theorem OffS.of {T : Nat → Prop} {g : Nat} {w w' : World} (h : Off g w w') (hT : T g) : OffS T w w' :=
  ⟨h.os, h.tape, h.output, h.size, fun c hc hn => h.block c hc (fun e => hn (e ▸ hT))⟩
theorem OffS.below {T : Nat → Prop} {w w' : World} (h : Below w.heap.size w w') : OffS T w w' :=
  ⟨h.os, h.tape, h.output, h.size, fun c hc _ => h.block c hc⟩
theorem OffS.to_below {T : Nat → Prop} {B : Nat} {w w' : World} (h : OffS T w w') (hT : ∀ b, T b → B ≤ b) (hB : B ≤ w.heap.size) : Below B w w' :=
  ⟨h.os, h.tape, h.output, h.size, fun c hc => h.block c (Nat.lt_of_lt_of_le hc hB) (fun ht => absurd (hT c ht) (by omega))⟩
theorem OffS.cell {T : Nat → Prop} {w w' : World} (h : OffS T w w') {p : Addr} (hp : p.block < w.heap.size) (hT : ¬ T p.block) : w'.cell? p = w.cell? p :=
  World.cell?_of_block (w := w) (h.block p.block hp hT)
theorem OffS.frozen {T : Nat → Prop} {w w' : World} (h : OffS T w w') {p : Addr} (hp : p.block < w.heap.size) (hT : ¬ T p.block) : w'.frozen? p = w.frozen? p := by
  unfold World.frozen?; rw [h.block p.block hp hT]
theorem OffS.to_same {T S : Nat → Prop} {w w' : World} (h : OffS T w w') (hS : ∀ b, S b → b < w.heap.size ∧ ¬ T b) : Same S w w' :=
  fun b hb => h.block b (hS b hb).1 (hS b hb).2

set_option maxHeartbeats 2000000 in
theorem toStrs_own {v : Value} {xs : List ByteArray} (w : World) (h : Rd.rd (Old w) w [v] xs) (hsz : Sz.sz xs ≤ 1048576) :
    Calls Tryd.prog 37 #[v] w fun e w' => ∃ u, e = .returned u ∧ Rd.rd (New w.heap.size w') w' [u] xs ∧ Ow (New w.heap.size w') w' xs.length xs.length u ∧ Below w.heap.size w w' := by
  obtain ⟨a, cap, rfl, h1, h2, hc⟩ := rdStrs h
  clear h
  have hn : xs.length ≤ 1048576 := Nat.le_trans (sz_len xs) hsz
  clear hsz
  have hmk := run_make_row' (P := Tryd.prog) 22 9 _ 16 Tryd.underlying22 info_string rfl .i64 .i64 xs.length (by omega) (by omega)
  go_enter Tryd.func37, Tryd.ntmps37
  go_wp2
  clear hmk
  go_loopw [4] (fun i wr => ∃ k css, k ≤ xs.length ∧ i = .int .i64 (k : Nat) ∧ Below w.heap.size w wr ∧ wr.heap.size = w.heap.size + 1 ∧ wr.heap[w.heap.size]? = some (.cells (css.flatten ++ List.replicate (xs.length - k) (.string ⟨#[]⟩)).toArray 9 (0, 0)) ∧ Each (fun _ => False) wr css (xs.take k)) (fun i _ => xs.length - (intOf i).toNat)
  case atStart =>
    exact ⟨0, [], Nat.zero_le _, rfl, (Below.refl _ _).alloc (Nat.le_refl _) _, by simp, fill_made _ _ _ _, Each.nil⟩
  case round =>
    obtain ⟨k, css, hk, rfl, hb, hsz, hg, he⟩ := hrel
    by_cases hlt : k < xs.length
    · obtain ⟨b, off, rfl, hB, hcell⟩ := hc (by omega)
      obtain ⟨hce, hs⟩ := hcell k hlt
      have hce' : wr.cell? ⟨b, off + k, none⟩ = some (.string xs[k]) := (hb.cell (p := ⟨b, off + k, none⟩) hB).trans hce
      have hcl := each_take he hk
      have hold := fill_old hg he.len hcl hlt
      have hfr : wr.frozen? ⟨w.heap.size, k, none⟩ = false := frozen_of_row wr w.heap.size k _ _ hg
      have HC := hid hcell
      have HG := hid hg
      have HE := hid he
      have HS := hid hsz
      have HL := hid hcl
      clear hcell hc hg he hsz hcl hce
      go_wp2
      go_roundw
      case rel =>
        refine ⟨k + 1, css ++ [[.string xs[k]]], by omega, by go_num, hb.setCell (Nat.le_refl _) _, by simpa [World.setCell] using HS.out, ?_, ?_⟩
        · exact fill_set HG.out HE.out.len HL.out hlt
        · exact each_next (HE.out.same (fun b hb' => hb'.elim)) hlt ⟨rfl, hs⟩
      case measure => simp [intOf]; omega
    · have : k = xs.length := by omega
      subst this
      clear hc
      have HG := hid hg
      have HE := hid he
      have HS := hid hsz
      clear hg he hsz
      go_wp2
      go_ret
      refine ⟨_, rfl, ?_, ow_row HG.out ⟨Nat.le_refl _, by rw [HS.out]; omega⟩ (by have hfl := flatten_length HE.out.len; have h1 := HE.out.1; rw [List.length_take] at h1; simp only [List.size_toArray, List.length_append, hfl, h1, List.length_replicate]; show _ ≤ _ * 1 + _; omega), hb⟩
      have he := HE.out
      rw [List.take_length] at he
      exact rd_of_block HG.out (he.mono (T := New w.heap.size wr) (fun b hb' => hb'.elim)) ⟨Nat.le_refl _, by rw [HS.out]; omega⟩ (Nat.le_refl _) (by omega)
set_option maxHeartbeats 4000000 in
theorem toValS_own {v : Value} {xs : List Val} (w : World) (h : Rd.rd (Old w) w [v] xs) (hsz : Sz.sz xs ≤ 1048576) :
    Calls Tryd.prog 38 #[v] w fun e w' => ∃ u, e = .returned u ∧ Rd.rd (New w.heap.size w') w' [u] xs ∧ Ow (New w.heap.size w') w' xs.length (xs.length * 5) u ∧ Below w.heap.size w w' := by
  obtain ⟨a, cap, hv, h1, h2, hc⟩ := h
  obtain rfl : v = .slice a xs.length cap := by simpa using hv
  clear hv
  have hn : xs.length ≤ 1048576 := Nat.le_trans (sz_len xs) hsz
  have HZ := hid (sz_each hsz)
  clear hsz
  obtain ⟨zc, hzl, hmk⟩ := make_cells (P := Tryd.prog) (t := 32) (e := 40) (n := 5) (bytes := 56) Tryd.underlying32 info_Val xs.length (by omega) (by omega)
  go_enter Tryd.func38, Tryd.ntmps38
  go_wp2
  clear hmk
  go_loopw [4] (fun i wr => ∃ (k : Nat) (css : List (List Value)) (rest : List Value), k ≤ xs.length ∧ i = .int .i64 k ∧ Below w.heap.size w wr ∧ w.heap.size < wr.heap.size ∧ wr.heap[w.heap.size]? = some (.cells (css.flatten ++ rest).toArray 40 (0, 0)) ∧ rest.length = (xs.length - k) * 5 ∧ Each (New (w.heap.size + 1) wr) wr css (xs.take k)) (fun i _ => xs.length - (intOf i).toNat)
  case atStart => exact ⟨0, [], zc, Nat.zero_le _, rfl, ext_alloc _ _, by simp, by simpa using heap_alloc_new w _, by simpa using hzl, Each.nil⟩
  case round =>
    obtain ⟨k, css, rest, hk, rfl, hb, hsz, hg, hrl, he⟩ := hrel
    by_cases hlt : k < xs.length
    · have hcl := each_take he hk
      obtain ⟨b, off, rfl, hB, hrow⟩ := hc (by omega)
      obtain ⟨cs, hcell, hx⟩ := hrow k hlt
      obtain ⟨hcs, f0, f2, f3, f4⟩ := rdVal hx
      subst hcs
      have t0 : wr.cell? ⟨b, off + k * 5, none⟩ = some (.int .i64 xs[k].kind) := (hb.cell (p := ⟨b, off + k * 5, none⟩) hB).trans (hcell 0 (by decide))
      have t1 : wr.cell? ⟨b, off + k * 5 + 1, none⟩ = some (.bool xs[k].num.neg) := (hb.cell (p := ⟨b, off + k * 5 + 1, none⟩) hB).trans (hcell 1 (by decide))
      have t2 : wr.cell? ⟨b, off + k * 5 + 2, none⟩ = some (.string xs[k].num.dig) := (hb.cell (p := ⟨b, off + k * 5 + 2, none⟩) hB).trans (hcell 2 (by decide))
      have t3 : wr.cell? ⟨b, off + k * 5 + 3, none⟩ = some (.int .i64 xs[k].num.exp) := (hb.cell (p := ⟨b, off + k * 5 + 3, none⟩) hB).trans (hcell 3 (by decide))
      have t4 : wr.cell? ⟨b, off + k * 5 + 4, none⟩ = some (.string xs[k].text) := (hb.cell (p := ⟨b, off + k * 5 + 4, none⟩) hB).trans (hcell 4 (by decide))
      clear hrow hcell
      clear hc
      have hx' := Rd.later hb hx
      have HR := hid hrl
      have HG := hid hg
      have HE := hid he
      have HL := hid hcl
      have hrn : 5 ≤ rest.length := by rw [hrl]; have := Nat.mul_le_mul_right 5 (show 1 ≤ xs.length - k by omega); omega
      clear hrl hg he hcl
      go_wp2_with fail
      refine (toVal_any _ (by exact hx') (HZ.out k hlt)).mono ?_
      rintro e w1 ⟨cs1, rfl, hr1, hb1⟩
      obtain ⟨hcs1, rf0, rf2, rf3, rf4⟩ := rdVal hr1
      obtain rfl := arr_of_list hcs1
      have HX := hid hr1
      clear hcs1 hr1
      have hB1 := ext_trans hb hb1
      have HG1 := hid ((hb1.block _ hsz).trans HG.out)
      obtain ⟨o0, s0⟩ : ∃ v, w1.cell? ⟨w.heap.size, k * 5, none⟩ = some v := row_get (n := 5) HG1.out HE.out.len HL.out hrn (j := 0) (by decide)
      obtain ⟨o1, s1⟩ : ∃ v, w1.cell? ⟨w.heap.size, k * 5 + 1, none⟩ = some v := row_get (n := 5) HG1.out HE.out.len HL.out hrn (j := 1) (by decide)
      obtain ⟨o2, s2⟩ : ∃ v, w1.cell? ⟨w.heap.size, k * 5 + 2, none⟩ = some v := row_get (n := 5) HG1.out HE.out.len HL.out hrn (j := 2) (by decide)
      obtain ⟨o3, s3⟩ : ∃ v, w1.cell? ⟨w.heap.size, k * 5 + 3, none⟩ = some v := row_get (n := 5) HG1.out HE.out.len HL.out hrn (j := 3) (by decide)
      obtain ⟨o4, s4⟩ : ∃ v, w1.cell? ⟨w.heap.size, k * 5 + 4, none⟩ = some v := row_get (n := 5) HG1.out HE.out.len HL.out hrn (j := 4) (by decide)
      have z0 : w1.frozen? ⟨w.heap.size, k * 5, none⟩ = false := frozen_of_row w1 w.heap.size _ _ _ HG1.out
      have z1 : w1.frozen? ⟨w.heap.size, k * 5 + 1, none⟩ = false := frozen_of_row w1 w.heap.size _ _ _ HG1.out
      have z2 : w1.frozen? ⟨w.heap.size, k * 5 + 2, none⟩ = false := frozen_of_row w1 w.heap.size _ _ _ HG1.out
      have z3 : w1.frozen? ⟨w.heap.size, k * 5 + 3, none⟩ = false := frozen_of_row w1 w.heap.size _ _ _ HG1.out
      have z4 : w1.frozen? ⟨w.heap.size, k * 5 + 4, none⟩ = false := frozen_of_row w1 w.heap.size _ _ _ HG1.out
      have hl1 : w.heap.size < w1.heap.size := by have := hb1.size; omega
      go_wp2
      go_roundw
      case rel =>
        obtain ⟨rest', hg', hrl', hs', hB', he'⟩ := row_next (g := w.heap.size) (n := 5) rfl hlt HG1.out HE.out HL.out HR.out hsz hb1 hB1 HX.out
        exact ⟨k + 1, _, rest', by omega, by go_num, hB', hs', hg', hrl', he'⟩
      case measure => simp [intOf]; omega
    · have : k = xs.length := by omega
      subst this
      clear hc
      have HG := hid hg
      have HE := hid he
      clear hg he hrl
      go_wp2
      go_ret
      refine ⟨_, rfl, ?_, ow_row HG.out ⟨Nat.le_refl _, hsz⟩ (by have hfl := flatten_length HE.out.len; have h1 := HE.out.1; rw [List.length_take] at h1; simp only [List.size_toArray, List.length_append, hfl, h1]; show _ ≤ _ * 5 + _; omega), hb⟩
      have he := HE.out
      rw [List.take_length] at he
      exact rd_of_block HG.out (he.mono (T := New w.heap.size wr) (fun b (hb' : w.heap.size + 1 ≤ b ∧ b < wr.heap.size) => ⟨by omega, hb'.2⟩)) ⟨Nat.le_refl _, hsz⟩ (Nat.le_refl _) (by omega)
set_option maxHeartbeats 4000000 in
theorem toArr_own {cs : Array Value} {x : Arr} (w : World) (h : Rd.rd (Old w) w cs.toList x) (hn : Sz.sz x ≤ 1048576) :
    Calls Tryd.prog 9 #[.agg cs] w fun e w' => ∃ cs' : Array Value, e = .returned (.agg cs') ∧ Rd.rd (New w.heap.size w') w' cs'.toList x ∧ OwArr (New w.heap.size w') w' x cs' ∧ Below w.heap.size w w' := by
  obtain ⟨a0, c0, a1, c1, hcs, f0, f1⟩ := rdArr h
  obtain rfl := arr_of_list hcs
  clear hcs h
  have hn_keys : Sz.sz x.keys ≤ 1048576 := Nat.le_trans (by show _ ≤ Sz.sz x.keys + Sz.sz x.vals; omega) hn
  have hn_vals : Sz.sz x.vals ≤ 1048576 := Nat.le_trans (by show _ ≤ Sz.sz x.keys + Sz.sz x.vals; omega) hn
  have HN := hid hn
  clear hn
  go_enter Tryd.func9, Tryd.ntmps9
  go_wp2_with fail
  refine (toStrs_own _ (by exact Rd.later (by repeat' (first | (with_reducible exact Below.refl _ _) | (with_reducible refine Below.setCell ?_ ?_ _) | (with_reducible refine Below.alloc ?_ ?_ _) | (simp; done) | (simp; omega) | omega)) (f0)) hn_keys).mono ?_
  rintro e w1 ⟨r0, rfl, hr0, ho0, hb0⟩
  obtain ⟨r0_a, r0_c, e0⟩ := rdSlc hr0
  obtain rfl : r0 = .slice r0_a x.keys.length r0_c := by simpa using e0
  clear e0
  have hB1 : Below w.heap.size w w1 := ext_trans (by repeat' (first | (with_reducible exact Below.refl _ _) | (with_reducible refine Below.setCell ?_ ?_ _) | (with_reducible refine Below.alloc ?_ ?_ _) | (simp; done) | (simp; omega) | omega)) hb0
  obtain ⟨hc0, hf0⟩ := bcell hb0
  have hl0 : w.heap.size + 1 + 1 < w1.heap.size := by have := hb0.size; (try simp at this); omega
  have hl0' : w.heap.size + 1 < w1.heap.size := by omega
  have hl0'' : w.heap.size < w1.heap.size := by omega
  go_wp2_with fail
  refine (toValS_own _ (by exact Rd.later (by repeat' (first | (with_reducible exact hB1) | (with_reducible exact Below.refl _ _) | (with_reducible refine Below.setCell ?_ ?_ _) | (with_reducible refine Below.alloc ?_ ?_ _) | (simp; done) | (simp; omega) | omega)) (f1)) hn_vals).mono ?_
  rintro e w2 ⟨r1, rfl, hr1, ho1, hb1⟩
  obtain ⟨r1_a, r1_c, e1⟩ := rdSlc hr1
  obtain rfl : r1 = .slice r1_a x.vals.length r1_c := by simpa using e1
  clear e1
  have hB2 : Below w.heap.size w w2 := ext_trans (by repeat' (first | (with_reducible exact hB1) | (with_reducible exact Below.refl _ _) | (with_reducible refine Below.setCell ?_ ?_ _) | (with_reducible refine Below.alloc ?_ ?_ _) | (simp; done) | (simp; omega) | omega)) hb1
  obtain ⟨hc1, hf1⟩ := bcell hb1
  have hl1 : w.heap.size + 1 + 1 < w2.heap.size := by have := hb1.size; (try simp at this); omega
  have hl1' : w.heap.size + 1 < w2.heap.size := by omega
  have hl1'' : w.heap.size < w2.heap.size := by omega
  go_wp2
  refine bodyPost_ret (v := .agg #[.slice r0_a x.keys.length r0_c, .slice r1_a x.vals.length r1_c]) (by simp [results, Tryd.results9, go_sem, hc0, hl0', hc1, hl1']) rfl ⟨_, rfl, ?_, ?_, ?_⟩
  · exact rdArr_mk (Keeps.rd (by repeat' (first | (with_reducible exact Keeps.refl _ _) | (with_reducible refine Keeps.call ?_ hb1) | (with_reducible refine Keeps.set ?_ ?_ _) | (with_reducible refine Keeps.alloc ?_ _) | (simp; done) | (simp; omega) | omega)) (by first | (simp; done) | (simp; omega) | omega) hr0) (Keeps.rd (by repeat' (first | (with_reducible exact Keeps.refl _ _) | (with_reducible refine Keeps.set ?_ ?_ _) | (with_reducible refine Keeps.alloc ?_ _) | (simp; done) | (simp; omega) | omega)) (by first | (simp; done) | (simp; omega) | omega) hr1)
  · refine ⟨_, _, _, _, rfl, ?_, ?_, ?_, Keeps.ow' (by repeat' (first | (with_reducible exact Keeps.refl _ _) | (with_reducible refine Keeps.call ?_ hb1) | (with_reducible refine Keeps.set ?_ ?_ _) | (with_reducible refine Keeps.alloc ?_ _) | (simp; done) | (simp; omega) | omega)) ho0, Keeps.ow' (by repeat' (first | (with_reducible exact Keeps.refl _ _) | (with_reducible refine Keeps.set ?_ ?_ _) | (with_reducible refine Keeps.alloc ?_ _) | (simp; done) | (simp; omega) | omega)) ho1⟩
    · rintro b ⟨hb1', hb2'⟩
      have := hb1.size
      simp at hb1' hb2' this
      exact ⟨by omega, by simp; omega⟩
    · rintro b ⟨hb1', hb2'⟩
      have := hb0.size
      simp at hb1' hb2' this
      exact ⟨by omega, by simp; omega⟩
    · rintro b ⟨_, h2⟩ ⟨h3, _⟩; simp at h2 h3; omega
  · exact (by repeat' (first | (with_reducible exact hB2) | (with_reducible exact hB1) | (with_reducible exact Below.refl _ _) | (with_reducible refine Below.setCell ?_ ?_ _) | (with_reducible refine Below.alloc ?_ ?_ _) | (simp; done) | (simp; omega) | omega))
end Go.Proofs.YtenfpfjpcpmhiaaDoor
