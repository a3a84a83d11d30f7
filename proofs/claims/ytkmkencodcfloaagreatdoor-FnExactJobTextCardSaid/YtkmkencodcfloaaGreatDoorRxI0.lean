/-
  What is proved here: the pattern reader's look ahead in impl. No condition but that the reader and its list lie in memory.
-/
import Derived.Test.YtkmkencodcfloaaGreatDoorRxLaw
import Derived.Test.YtkmkencodcfloaaGreatDoorRdr
import Derived.Test.YtkmkencodcfloaaGreatDoorWithin
import Derived.Deep.QuietTactic
import Derived.BigQuiet
import Derived.Deep.AppendLies
import Derived.IntWalk
namespace Go.Proofs.YtkmkencodcfloaaGreatDoor
open Go.RowKit
set_option linter.unusedVariables false
set_option linter.unusedSimpArgs false

/-- a list of code points in a block below the reader's own -/
structure RxL (w : World) (g : Nat) (a : Option Addr) (l : List Nat) : Prop where
  cel : 0 < l.length → ∃ lb lo, a = some ⟨lb, lo, none⟩ ∧ lb < g ∧ ∀ i (h : i < l.length), w.cell? ⟨lb, lo + i, none⟩ = some (.int .i64 (l[i] : Int))
  len : l.length ≤ 1000
  pts : ∀ c ∈ l, 1 ≤ c ∧ c ≤ 1114111
theorem RxL.below {w w' : World} {g : Nat} {a : Option Addr} {l : List Nat} (h : RxL w g a l) (hb : Below g w w') : RxL w' g a l :=
  ⟨fun hp => by
    obtain ⟨lb, lo, e, h1, h2⟩ := h.cel hp
    exact ⟨lb, lo, e, h1, fun i hi => (hb.cell (p := ⟨lb, lo + i, none⟩) h1).trans (h2 i hi)⟩, h.len, h.pts⟩
theorem gN_le {l : List Nat} (h : ∀ c ∈ l, 1 ≤ c ∧ c ≤ 1114111) (i : Nat) : gN l i ≤ 1114111 := by
  by_cases hi : i < l.length
  · rw [gN_at hi]; exact (h _ (List.getElem_mem _)).2
  · rw [gN_end (by omega)]; omega
theorem blk4 {w : World} {g : Nat} {x0 x1 x2 x3 : Value} {t : TypeId} (h : w.heap[g]? = some (.cells #[x0, x1, x2, x3] t (0, 0))) :
    w.cell? ⟨g, 0, none⟩ = some x0 ∧ w.cell? ⟨g, 1, none⟩ = some x1 ∧ w.cell? ⟨g, 2, none⟩ = some x2 ∧ w.cell? ⟨g, 3, none⟩ = some x3 ∧
    w.frozen? ⟨g, 0, none⟩ = false ∧ w.frozen? ⟨g, 1, none⟩ = false ∧ w.frozen? ⟨g, 2, none⟩ = false ∧ w.frozen? ⟨g, 3, none⟩ = false ∧ g < w.heap.size := by
  have h' : w.heap[g]? = some (.cells ([x0, x1, x2, x3] : List Value).toArray t (0, 0)) := h
  exact ⟨cell_of_block h', cell_of_block h', cell_of_block h', cell_of_block h', frozen_of_row w g _ _ _ h', frozen_of_row w g _ _ _ h', frozen_of_row w g _ _ _ h', frozen_of_row w g _ _ _ h', (Array.getElem?_eq_some_iff.1 h).1⟩
theorem RxL.qt {w w' : World} {g : Nat} {a : Option Addr} {l : List Nat} (h : RxL w g a l) (hq : Qt w w') : RxL w' g a l := h.below (hq.below g)
set_option maxHeartbeats 4000000 in
theorem implAhead {g cap i d : Nat} {a : Option Addr} {l : List Nat} {nv : Value} (k : Nat) (w : World) (hb : w.heap[g]? = some (.cells #[.slice a l.length cap, .int .i64 (i : Int), .int .i64 (d : Int), nv] 108 (0, 0)))
    (hL : RxL w g a l) (hi : i ≤ 2000) (hk : k ≤ 2000) :
    Calls Tryz.prog 134 #[.pointer (some ⟨g, 0, none⟩), .int .i64 (k : Int)] w fun e w' => e = .returned (.int .i64 (gN l (i + k) : Int)) ∧ Qt w w' := by
  obtain ⟨c0, c1, c2, c3, y0, y1, y2, y3, hl⟩ := blk4 hb
  clear hb
  have hlen := hL.len
  have hs : IntKind.i64.wrap ((i : Int) + (k : Int)) = (i : Int) + (k : Int) := IntWalk.i64_in _ (by omega)
  by_cases h : l.length ≤ i + k
  · have HE := hid (gN_end h)
    have h1 : (l.length : Int) ≤ (i : Int) + (k : Int) := by omega
    clear h hL
    go_enter Tryz.func134, Tryz.ntmps134
    go_wp2_with fail
    go_quiet (fail)
    go_wp2
    go_ret
    rw [HE.out]
    exact ⟨rfl, _, rfl⟩
  · obtain ⟨lb, lo, rfl, hlb, hc⟩ := hL.cel (by omega)
    have hcell := hc (i + k) (by omega)
    have HE := hid (gN_at (l := l) (i := i + k) (by omega))
    obtain ⟨m, hm⟩ : ∃ m, i + k = m := ⟨_, rfl⟩
    obtain ⟨c, hcc⟩ : ∃ c, l[i + k]'(by omega) = c := ⟨_, rfl⟩
    rw [hcc] at hcell HE
    rw [hm] at hcell HE ⊢
    have hmi : (i : Int) + (k : Int) = (m : Int) := by omega
    have hs2 : IntKind.i64.wrap (m : Int) = (m : Int) := IntWalk.i64_in _ (by omega)
    have hm0 : (0 : Int) ≤ (m : Int) := by omega
    have hm1 : (m : Int) < (l.length : Int) := by omega
    have h1 : ¬ (l.length : Int) ≤ (m : Int) := by omega
    clear h hL hc hcc hm
    go_enter Tryz.func134, Tryz.ntmps134
    go_wp2_with fail
    go_quiet (fail)
    go_wp2_with fail
    go_quiet (fail)
    go_wp2
    go_ret
    rw [HE.out]
    exact ⟨rfl, by first | exact ⟨_, rfl⟩ | exact (Qt.one _ _).trans (Qt.one _ _)⟩
theorem implNext {g cap i d : Nat} {a : Option Addr} {l : List Nat} {nv : Value} (w : World) (hb : w.heap[g]? = some (.cells #[.slice a l.length cap, .int .i64 (i : Int), .int .i64 (d : Int), nv] 108 (0, 0)))
    (hL : RxL w g a l) (hi : i ≤ 2000) :
    Calls Tryz.prog 121 #[.pointer (some ⟨g, 0, none⟩)] w fun e w' => e = .returned (.int .i64 (gN l i : Int)) ∧ Qt w w' := by
  have CA := hid (implAhead (k := 0) w hb hL hi (by decide))
  rw [Nat.add_zero] at CA
  clear hb
  go_enter Tryz.func121, Tryz.ntmps121
  go_wp2_with fail
  refine CA.out.mono ?_
  rintro e w1 ⟨rfl, hq⟩
  go_wp2
  go_ret
  exact ⟨rfl, hq⟩
end Go.Proofs.YtkmkencodcfloaaGreatDoor
