/-
  What is proved here: the drawing of numbers (l01Cur): what pick, size, once return lies in its bounds, and nothing but the cursor's own block changes. No condition.
-/
import Derived.Test.YtcebgmdcbdggeaaGreatDoorBase
import Derived.Test.YtcebgmdcbdggeaaGreatDoorTypes
import Derived.Deep.QuietTactic
import Derived.BigQuiet
import Derived.Deep.RegionHeld3
import Derived.Laws.AppendOwn
import Derived.Laws.Build
namespace Go.Proofs.YtcebgmdcbdggeaaGreatDoor
open Go.RowKit
set_option linter.unusedVariables false
set_option linter.unusedSimpArgs false

/-- The block p holds a cursor over a code that lies below B. -/
def Cur (B : Nat) (w : World) (p k : Nat) : Prop :=
  ∃ (a : Option Addr) (n cap seed : Nat), w.heap[p]? = some (.cells #[.slice a n cap, .int .i64 (k : Int), .int .i64 (seed : Int)] 50 (0, 0)) ∧ seed < 65521 ∧ n ≤ 1048576 ∧ B ≤ p ∧
    (0 < n → ∃ g off, a = some ⟨g, off, none⟩ ∧ g < B ∧ ∀ i, i < n → ∃ x : Nat, x < 256 ∧ w.cell? ⟨g, off + i, none⟩ = some (.int .u8 (x : Int)))
/-- What a world becomes where one block alone may have changed. -/
theorem grown_refl (w : World) (r : Option Nat) : w.grownBy w r := ⟨rfl, rfl, rfl, Nat.le_refl _, fun _ _ _ => rfl⟩
theorem grown_trans {a b c : World} {r : Option Nat} (h1 : a.grownBy b r) (h2 : b.grownBy c r) : a.grownBy c r :=
  ⟨h2.os.trans h1.os, h2.tape.trans h1.tape, h2.output.trans h1.output, Nat.le_trans h1.size h2.size, fun k hk hr => (h2.block k (Nat.lt_of_lt_of_le hk h1.size) hr).trans (h1.block k hk hr)⟩
theorem grown_set {a b : World} {p : Nat} (h : a.grownBy b (some p)) (o : Nat) (v : Value) : a.grownBy (b.setCell ⟨p, o, none⟩ v) (some p) :=
  grown_trans h ⟨rfl, rfl, rfl, by simp [World.setCell], fun k hk hr => heap_setCell_other b ⟨p, o, none⟩ k v (fun e => hr (by rw [e]))⟩
theorem grown_below {B : Nat} {a b c : World} {p : Nat} (h : Below B a b) (hB : B ≤ a.heap.size) (hp : B ≤ p) (h2 : b.grownBy c (some p)) : Below B a c :=
  ⟨h2.os.trans h.os, h2.tape.trans h.tape, h2.output.trans h.output, Nat.le_trans h.size h2.size, fun i hi => (h2.block i (Nat.lt_of_lt_of_le (Nat.lt_of_lt_of_le hi hB) h.size) (fun e => by cases e; omega)).trans (h.block i hi)⟩
theorem below_grown {a b : World} {r : Option Nat} (h : Below a.heap.size a b) : a.grownBy b r :=
  ⟨h.os, h.tape, h.output, h.size, fun k hk _ => h.block k hk⟩
theorem grown_alloc {a b : World} {r : Option Nat} (h : a.grownBy b r) (o : Obj) : a.grownBy (b.alloc o) r := grown_trans h (below_grown (ext_alloc _ _))
theorem grown_drewN {a b : World} {r : Option Nat} (h : a.grownBy b r) (q : Nat) : a.grownBy (b.drewN q) r := ⟨h.os, h.tape, h.output, h.size, h.block⟩
theorem grown_drew {a b : World} {r : Option Nat} (h : a.grownBy b r) : a.grownBy b.drew r := ⟨h.os, h.tape, h.output, h.size, h.block⟩
/-- A cursor stays one where its block stands and what lies below B. -/
theorem Cur.keep {B : Nat} {w w' : World} {p k : Nat} (h : Cur B w p k) (hp : w'.heap[p]? = w.heap[p]?) (hb : Below B w w') : Cur B w' p k := by
  obtain ⟨a, n, cap, seed, h1, h2, h3, h4, h5⟩ := h
  refine ⟨a, n, cap, seed, hp.trans h1, h2, h3, h4, fun hn => ?_⟩
  obtain ⟨g, off, e, hg, hx⟩ := h5 hn
  exact ⟨g, off, e, hg, fun i hi => let ⟨x, hx1, hx2⟩ := hx i hi; ⟨x, hx1, ((bcell hb).1 g _ hg).trans hx2⟩⟩
theorem Cur.lt {B : Nat} {w : World} {p k : Nat} (h : Cur B w p k) : B ≤ p ∧ p < w.heap.size := by
  obtain ⟨a, n, cap, seed, h1, h2, h3, h4, h5⟩ := h
  exact ⟨h4, (Array.getElem?_eq_some_iff.1 h1).1⟩
theorem Cur.later {B : Nat} {w w' : World} {p k : Nat} (h : Cur B w p k) (hb : Below w.heap.size w w') : Cur B w' p k :=
  h.keep (hb.block p h.lt.2) (hb.mono (Nat.le_trans h.lt.1 (Nat.le_of_lt h.lt.2)))

theorem cur_new {B : Nat} {w w' : World} {p k k' : Nat} {a : Option Addr} {n cap seed seed' : Nat} (h1 : w.heap[p]? = some (.cells #[.slice a n cap, .int .i64 (k : Int), .int .i64 (seed : Int)] 50 (0, 0))) (h3 : n ≤ 1048576) (h4 : B ≤ p)
    (h5 : 0 < n → ∃ g off, a = some ⟨g, off, none⟩ ∧ g < B ∧ ∀ i, i < n → ∃ x : Nat, x < 256 ∧ w.cell? ⟨g, off + i, none⟩ = some (.int .u8 (x : Int)))
    (h' : w'.heap[p]? = some (.cells #[.slice a n cap, .int .i64 (k' : Int), .int .i64 (seed' : Int)] 50 (0, 0))) (h2 : seed' < 65521) (hg : w.grownBy w' (some p)) : Cur B w' p k' := by
  refine ⟨a, n, cap, seed', h', h2, h3, h4, fun hn => ?_⟩
  obtain ⟨g, off, e, hg1, hx⟩ := h5 hn
  exact ⟨g, off, e, hg1, fun i hi => let ⟨x, hx1, hx2⟩ := hx i hi; ⟨x, hx1, hg.cell hx2 (fun e => absurd (Option.some.inj e) (Nat.ne_of_lt (Nat.lt_of_lt_of_le hg1 h4)))⟩⟩

set_option maxHeartbeats 4000000 in
set_option maxRecDepth 100000 in
theorem curPick {B p k : Nat} (n : Int) (w : World) (hc : Cur B w p k) (hk : k ≤ 1000000000000) (hn : n ≤ 9223372036854775807) :
    Calls Tryz.prog 24 #[.pointer (some ⟨p, 0, none⟩), .int .i64 n] w fun e w' => ∃ r : Nat, e = .returned (.int .i64 (r : Int)) ∧ ((r : Int) < n ∨ r = 0) ∧ ∃ k', k' ≤ k + 1 ∧ Cur B w' p k' ∧ w.grownBy w' (some p) := by
  by_cases h2 : n < 2
  · go_enter Tryz.func24, Tryz.ntmps24
    go_wp2
    go_ret
    exact ⟨0, rfl, Or.inr rfl, k, by omega, hc, grown_refl _ _⟩
  obtain ⟨a, len, cap, seed, hblk, hseed, hlen, hBp, hcode⟩ := hc
  have c0 : w.cell? ⟨p, 0, none⟩ = some (.slice a len cap) := cell_of_row w p 0 _ _ _ hblk
  have c1 : w.cell? ⟨p, 1, none⟩ = some (.int .i64 (k : Int)) := cell_of_row w p 1 _ _ _ hblk
  have c2 : w.cell? ⟨p, 2, none⟩ = some (.int .i64 (seed : Int)) := cell_of_row w p 2 _ _ _ hblk
  have z1 : w.frozen? ⟨p, 1, none⟩ = false := frozen_of_row w p 1 _ _ hblk
  have z2 : w.frozen? ⟨p, 2, none⟩ = false := frozen_of_row w p 2 _ _ hblk
  have HB := hid hblk
  have HC := hid hcode
  have hn1 : (0 : Int) < n := by omega
  by_cases hin : (k : Int) < (len : Int)
  · obtain ⟨g, off, rfl, hg, hx⟩ := hcode (by omega)
    obtain ⟨x, hx1, hx2⟩ := hx k (by omega)
    have hk0 : (0 : Int) ≤ (k : Int) := by omega
    have hr : ∃ r : Nat, ((x : Int) % n) = (r : Int) ∧ (r : Int) < n := ⟨((x : Int) % n).toNat, by have := Int.emod_nonneg (x : Int) (show n ≠ 0 by omega); omega, by have := Int.emod_lt_of_pos (x : Int) hn1; have := Int.emod_nonneg (x : Int) (show n ≠ 0 by omega); omega⟩
    obtain ⟨r, hr1, hr2⟩ := hr
    have HR := hid hr1
    clear hblk hcode hx hr1
    go_enter Tryz.func24, Tryz.ntmps24
    go_wp2_with (go_quiet (fail))
    go_ret
    refine ⟨r, end_int HR.out, Or.inl hr2, k + 1, Nat.le_refl _, ?_, grown_set (grown_drewN (grown_refl _ _) _) _ _⟩
    exact cur_new HB.out hlen hBp HC.out ((heap_setCell_same _ p 1 _ _ _ (show (World.drewN w _).heap[p]? = _ from HB.out)).trans rfl) hseed (grown_set (grown_drewN (grown_refl _ _) _) _ _)
  · have hs1 : ((seed : Int) * 1103 + 12345) % 65521 = (((seed * 1103 + 12345) % 65521 : Nat) : Int) := by omega
    obtain ⟨sd, hsd⟩ : ∃ sd, (seed * 1103 + 12345) % 65521 = sd := ⟨_, rfl⟩
    have hsdl : sd < 65521 := by omega
    rw [hsd] at hs1
    by_cases hz : (0 : Int) < (len : Int)
    · obtain ⟨g, off, rfl, hg, hx⟩ := hcode (by omega)
      have hm1 : (k : Int) % (len : Int) = ((k % len : Nat) : Int) := by omega
      have hm2 : k % len < len := Nat.mod_lt _ (by omega)
      obtain ⟨m, hm⟩ : ∃ m, k % len = m := ⟨_, rfl⟩
      rw [hm] at hm1 hm2
      obtain ⟨x, hx1, hx2⟩ := hx m hm2
      have hm3 : (0 : Int) ≤ (m : Int) := by omega
      have hm4 : (m : Int) < (len : Int) := by omega
      have hd7 : (sd : Int) / 7 = ((sd / 7 : Nat) : Int) := by omega
      obtain ⟨y, hy⟩ : ∃ y, sd / 7 = y := ⟨_, rfl⟩
      rw [hy] at hd7
      have hyl : y < 65521 := by omega
      have hr : ∃ r : Nat, (((y : Int) + (x : Int)) % n) = (r : Int) ∧ (r : Int) < n := ⟨(((y : Int) + (x : Int)) % n).toNat, by have := Int.emod_nonneg ((y : Int) + (x : Int)) (show n ≠ 0 by omega); omega, by have := Int.emod_lt_of_pos ((y : Int) + (x : Int)) hn1; have := Int.emod_nonneg ((y : Int) + (x : Int)) (show n ≠ 0 by omega); omega⟩
      obtain ⟨r, hr1, hr2⟩ := hr
      have HR := hid hr1
      have hgp : g ≠ p := by omega
      have hgp' : p ≠ g := by omega
      have hlz : (len : Int) ≠ 0 := by omega
      have hlz2 : ((len : Int) == 0) = false := by rw [beq_eq_false_iff_ne]; exact hlz
      clear hblk hcode hx hr1 hsd hm hy
      go_enter Tryz.func24, Tryz.ntmps24
      go_wp2_with (go_quiet (fail))
      go_ret
      refine ⟨r, end_int HR.out, Or.inl hr2, k + 1, Nat.le_refl _, ?_, by repeat' (first | exact grown_refl _ _ | refine grown_set ?_ _ _ | refine grown_drewN ?_ _)⟩
      refine cur_new (seed' := sd) HB.out hlen hBp HC.out ((heap_setCell_same _ p 1 _ _ _ (((heap_setCell_same _ p 2 _ _ _ (show (World.drewN w _).heap[p]? = _ from HB.out)).trans rfl : _ = some (Obj.cells #[.slice (some ⟨g, off, none⟩) len cap, .int .i64 (k : Int), .int .i64 (sd : Int)] 50 (0, 0))))).trans rfl) hsdl ?_
      repeat' (first | exact grown_refl _ _ | refine grown_set ?_ _ _ | refine grown_drewN ?_ _)
    · have hz0 : len = 0 := by omega
      subst hz0
      clear hblk hcode
      go_enter Tryz.func24, Tryz.ntmps24
      go_wp2_with (go_quiet (fail))
      go_ret
      refine ⟨0, end_int (by simp), Or.inr rfl, k + 1, Nat.le_refl _, ?_, by repeat' (first | exact grown_refl _ _ | refine grown_set ?_ _ _ | refine grown_drewN ?_ _)⟩
      refine cur_new (seed' := sd) HB.out hlen hBp HC.out ((heap_setCell_same _ p 1 _ _ _ (((heap_setCell_same _ p 2 _ _ _ (show (World.drewN w _).heap[p]? = _ from HB.out)).trans rfl : _ = some (Obj.cells #[.slice a 0 cap, .int .i64 (k : Int), .int .i64 (sd : Int)] 50 (0, 0))))).trans rfl) hsdl ?_
      repeat' (first | exact grown_refl _ _ | refine grown_set ?_ _ _ | refine grown_drewN ?_ _)

theorem wpAnyH_weaken {P : Program} {ops : Array Oper} {Q : Exit → Act → World → Prop} {md : Region.Mode} {S S' : World → Prop} (h : ∀ w, S' w → S w) : ∀ {fuel : Nat} {listed : Array Bool} {a : Act} {w : World}, wpAnyH P md ops Q S' fuel listed a w → wpAnyH P md ops Q S fuel listed a w
  | 0, _, _, _, h1 => h1
  | _ + 1, _, _, _, h1 => ⟨h1.1, fun i hi => wpOp_mono (fun a' w' h' => ⟨h _ h'.1, wpAnyH_weaken h h'.2⟩) (h1.2 i hi)⟩
theorem Cur.drew {B : Nat} {w : World} {p k : Nat} (h : Cur B w p k) : Cur B w.drew p k := h.keep rfl ⟨rfl, rfl, rfl, Nat.le_refl _, fun _ _ => rfl⟩
theorem Cur.drewN {B : Nat} {w : World} {p k : Nat} (h : Cur B w p k) (q : Nat) : Cur B (w.drewN q) p k := h.keep rfl ⟨rfl, rfl, rfl, Nat.le_refl _, fun _ _ => rfl⟩
theorem Cur.alloc {B : Nat} {w : World} {p k : Nat} (h : Cur B w p k) (o : Obj) : Cur B (w.alloc o) p k := h.later (ext_alloc _ _)

theorem curOnce {B p k : Nat} (n : Int) (w : World) (hc : Cur B w p k) (hk : k ≤ 1000000000000) (h0 : 0 ≤ n) (hn : n ≤ 9223372036854775807) :
    Calls Tryz.prog 26 #[.pointer (some ⟨p, 0, none⟩), .int .i64 n] w fun e w' => ∃ b : Bool, e = .returned (.bool b) ∧ ∃ k', k' ≤ k + 1 ∧ Cur B w' p k' ∧ w.grownBy w' (some p) := by
  go_enter Tryz.func26, Tryz.ntmps26
  go_wp2_with fail
  refine (curPick n _ hc hk hn).mono ?_
  rintro e w1 ⟨r, rfl, hr, k1, hk1, hc1, hg1⟩
  go_wp2
  go_ret
  exact ⟨_, rfl, k1, hk1, hc1, hg1⟩
set_option maxHeartbeats 1000000 in
theorem curSize {B p k : Nat} (n : Int) (w : World) (hc : Cur B w p k) (hk : k ≤ 1000000000000) (h0 : 0 ≤ n) (hn : n ≤ 1000000) :
    Calls Tryz.prog 23 #[.pointer (some ⟨p, 0, none⟩), .int .i64 n] w fun e w' => ∃ r : Nat, e = .returned (.int .i64 (r : Int)) ∧ (r : Int) ≤ n ∧ ∃ k', k' ≤ k + 1 ∧ Cur B w' p k' ∧ w.grownBy w' (some p) := by
  have hc' := hc
  obtain ⟨a, len, cap, seed, hblk, hseed, hlen, hBp, hcode⟩ := hc'
  have c0 : w.cell? ⟨p, 0, none⟩ = some (.slice a len cap) := cell_of_row w p 0 _ _ _ hblk
  obtain ⟨d, hd⟩ : ∃ d, len / 10 = d := ⟨_, rfl⟩
  have hd1 : (len : Int) / 10 = (d : Int) := by omega
  have hd2 : d ≤ 1048576 := by omega
  clear hblk hcode hd
  by_cases hgt : n < 1 + (d : Int)
  · go_enter Tryz.func23, Tryz.ntmps23
    go_wp2_with fail
    refine (curPick _ _ hc hk (by omega)).mono ?_
    rintro e w1 ⟨r, rfl, hr, k1, hk1, hc1, hg1⟩
    go_wp2
    go_ret
    exact ⟨r, rfl, by omega, k1, hk1, hc1, hg1⟩
  · go_enter Tryz.func23, Tryz.ntmps23
    go_wp2_with fail
    refine (curPick _ _ hc hk (by omega)).mono ?_
    rintro e w1 ⟨r, rfl, hr, k1, hk1, hc1, hg1⟩
    go_wp2
    go_ret
    exact ⟨r, rfl, by omega, k1, hk1, hc1, hg1⟩
set_option maxRecDepth 100000 in
theorem curOpen {a : Option Addr} {n cap : Nat} (w : World) (hn : n ≤ 1048576) (hcode : 0 < n → ∃ g off, a = some ⟨g, off, none⟩ ∧ g < w.heap.size ∧ ∀ i, i < n → ∃ x : Nat, x < 256 ∧ w.cell? ⟨g, off + i, none⟩ = some (.int .u8 (x : Int))) :
    Calls Tryz.prog 11 #[.slice a n cap] w fun e w' => e = .returned (.pointer (some ⟨w.heap.size, 0, none⟩)) ∧ Cur w.heap.size w' w.heap.size 0 ∧ Below w.heap.size w w' := by
  have hm : (n : Int) % 1000 = ((n % 1000 : Nat) : Int) := by omega
  obtain ⟨m, hm2⟩ : ∃ m, n % 1000 = m := ⟨_, rfl⟩
  have hm3 : m < 1000 := by omega
  rw [hm2] at hm
  have HC := hid hcode
  clear hcode hm2
  go_enter Tryz.func11, Tryz.ntmps11
  go_wp2
  go_ret
  refine ⟨rfl, ⟨a, n, cap, 17 + m, (heap_alloc_new w _).trans (by rw [show ((17 + m : Nat) : Int) = 17 + (m : Int) by omega]; rfl), by omega, hn, Nat.le_refl _, fun h0 => ?_⟩, ext_alloc _ _⟩
  obtain ⟨g, off, e, hg, hx⟩ := HC.out h0
  exact ⟨g, off, e, hg, fun i hi => let ⟨x, hx1, hx2⟩ := hx i hi; ⟨x, hx1, ((bcell (ext_alloc w _)).1 g _ hg).trans hx2⟩⟩
end Go.Proofs.YtcebgmdcbdggeaaGreatDoor
