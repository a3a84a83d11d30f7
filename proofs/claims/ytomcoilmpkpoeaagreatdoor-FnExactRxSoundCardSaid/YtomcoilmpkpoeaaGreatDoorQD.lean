/-
  What is proved here: the laws' sizes, copies and comparisons of the program's structs. No condition. Written by gensz.py.
  What is proved here: from what a row lists (the tables of unicode-utf8, the powers of ten) to what the library's contracts ask of the world. No condition.
  What is proved here: RxSound in both packages, at a pattern of a bounded size. The condition 'TP' speaks of the library's tables.
  What is proved here: the walks of FnExactRxSound. The condition 'Tabs' (where it stands) says that the library's tables for UTF-8 lie in the world.
-/
import Derived.Test.YtomcoilmpkpoeaaGreatDoorQInts
import Derived.Test.YtomcoilmpkpoeaaGreatDoorQDvConf
import Derived.Deep.RegionHeld3
import Derived.Test.YtomcoilmpkpoeaaGreatDoorQTabs
import Derived.Test.YtomcoilmpkpoeaaGreatDoorQNum
import Derived.Test.YtomcoilmpkpoeaaGreatDoorQB
namespace Go.Proofs.YtomcoilmpkpoeaaGreatDoor
open Go.RowKit
set_option linter.unusedVariables false
set_option linter.unusedSimpArgs false

theorem rdRxNode {S : Nat → Prop} {w : World} {cs : List Value} {x : RxNode} (h : Rd.rd S w cs x) : ∃ (a4 : Option Addr) (c4 : Nat), ∃ (a5 : Option Addr) (c5 : Nat), cs = [.int .i64 x.kind, .int .i64 x.lo, .int .i64 x.hi, .bool x.neg, .slice a4 x.set.length c4, .slice a5 x.kids.length c5] ∧ (-9223372036854775808 ≤ x.kind ∧ x.kind ≤ 9223372036854775807) ∧ (-9223372036854775808 ≤ x.lo ∧ x.lo ≤ 9223372036854775807) ∧ (-9223372036854775808 ≤ x.hi ∧ x.hi ≤ 9223372036854775807) ∧ (Rd.rd S w [.slice a4 x.set.length c4] x.set) ∧ (Rd.rd S w [.slice a5 x.kids.length c5] x.kids) := by
  obtain ⟨_, _, rfl, ⟨rfl, h0⟩, ⟨_, _, rfl, ⟨rfl, h1⟩, ⟨_, _, rfl, ⟨rfl, h2⟩, ⟨_, _, rfl, rfl, ⟨_, _, rfl, h4, h5⟩⟩⟩⟩⟩ := h
  obtain ⟨a4, c4, e4⟩ := rdSlc h4
  subst e4
  obtain ⟨a5, c5, e5⟩ := rdSlc h5
  subst e5
  exact ⟨a4, c4, a5, c5, rfl, h0, h1, h2, h4, h5⟩
theorem rdRxNode_mk {S : Nat → Prop} {w : World} {x : RxNode} {a4 : Option Addr} {c4 : Nat} {a5 : Option Addr} {c5 : Nat} (h0 : -9223372036854775808 ≤ x.kind ∧ x.kind ≤ 9223372036854775807) (h1 : -9223372036854775808 ≤ x.lo ∧ x.lo ≤ 9223372036854775807) (h2 : -9223372036854775808 ≤ x.hi ∧ x.hi ≤ 9223372036854775807) (h3 : Rd.rd S w [.slice a4 x.set.length c4] x.set) (h4 : Rd.rd S w [.slice a5 x.kids.length c5] x.kids) : Rd.rd S w [.int .i64 x.kind, .int .i64 x.lo, .int .i64 x.hi, .bool x.neg, .slice a4 x.set.length c4, .slice a5 x.kids.length c5] x :=
  ⟨_, _, rfl, ⟨rfl, h0⟩, ⟨_, _, rfl, ⟨rfl, h1⟩, ⟨_, _, rfl, ⟨rfl, h2⟩, ⟨_, _, rfl, rfl, ⟨_, _, rfl, h3, h4⟩⟩⟩⟩⟩
instance : Sz RxNode := ⟨fun x => Sz.sz x.set + Sz.sz x.kids⟩
set_option maxHeartbeats 1000000 in
theorem szRxNode_any {cs : Array Value} {x : RxNode} (left : Int) (w : World) (h : Rd.rd (Old w) w cs.toList x) (h3 : 0 ≤ left) (h4 : left ≤ 1048576) :
    Calls Tryz.prog 66 #[.agg cs, .int .i64 left] w fun e w' => e = .returned (.int .i64 (szOut left (Sz.sz x))) ∧ Below w.heap.size w w' := by
  obtain ⟨a4, c4, a5, c5, hcs, f0, f1, f2, f4, f5⟩ := rdRxNode h
  obtain rfl := arr_of_list hcs
  clear hcs
  have hsz : Sz.sz x = Sz.sz x.set + Sz.sz x.kids := rfl
  rw [hsz]; clear hsz
  generalize hg_set : Sz.sz x.set = n_set
  have Hg_set := hid hg_set; clear hg_set
  generalize hg_kids : Sz.sz x.kids = n_kids
  have Hg_kids := hid hg_kids; clear hg_kids
  by_cases k0 : (n_set : Int) ≤ left
  · skip
    by_cases k1 : (n_set : Int) + (n_kids : Int) ≤ left
    · skip
      go_enter Tryz.func66, Tryz.ntmps66
      go_wp2_with fail
      refine (szInts_any _ _ (by exact Rd.later (ext_alloc _ _) (f4)) (by omega) (by omega)).mono ?_
      rintro e w1 ⟨rfl, hb0⟩
      rw [Hg_set.out, szOut_val (by omega)]
      obtain ⟨hc0, hf0⟩ := bcell hb0
      have hl0 : w.heap.size < w1.heap.size := by have := hb0.size; (try simp at this); omega
      go_wp2_with fail
      refine (szInts_any _ _ (by exact Rd.later (ext_trans (ext_alloc _ _) hb0) (f5)) (by omega) (by omega)).mono ?_
      rintro e w2 ⟨rfl, hb1⟩
      rw [Hg_kids.out, szOut_val (by omega)]
      obtain ⟨hc1, hf1⟩ := bcell hb1
      have hl1 : w.heap.size < w2.heap.size := by have := hb1.size; (try simp at this); omega
      go_wp2
      go_ret
      exact ⟨end_int (by rw [szOut_val (by omega)] <;> omega), (ext_trans (ext_trans (ext_alloc _ _) hb0) hb1)⟩
    · skip
      go_enter Tryz.func66, Tryz.ntmps66
      go_wp2_with fail
      refine (szInts_any _ _ (by exact Rd.later (ext_alloc _ _) (f4)) (by omega) (by omega)).mono ?_
      rintro e w1 ⟨rfl, hb0⟩
      rw [Hg_set.out, szOut_val (by omega)]
      obtain ⟨hc0, hf0⟩ := bcell hb0
      have hl0 : w.heap.size < w1.heap.size := by have := hb0.size; (try simp at this); omega
      go_wp2_with fail
      refine (szInts_any _ _ (by exact Rd.later (ext_trans (ext_alloc _ _) hb0) (f5)) (by omega) (by omega)).mono ?_
      rintro e w2 ⟨rfl, hb1⟩
      rw [Hg_kids.out, szOut_bad (by omega)]
      obtain ⟨hc1, hf1⟩ := bcell hb1
      have hl1 : w.heap.size < w2.heap.size := by have := hb1.size; (try simp at this); omega
      go_wp2
      go_ret
      exact ⟨end_int (by rw [szOut_bad (by omega)]), (ext_trans (ext_trans (ext_alloc _ _) hb0) hb1)⟩
  · skip
    go_enter Tryz.func66, Tryz.ntmps66
    go_wp2_with fail
    refine (szInts_any _ _ (by exact Rd.later (ext_alloc _ _) (f4)) (by omega) (by omega)).mono ?_
    rintro e w1 ⟨rfl, hb0⟩
    rw [Hg_set.out, szOut_bad (by omega)]
    obtain ⟨hc0, hf0⟩ := bcell hb0
    have hl0 : w.heap.size < w1.heap.size := by have := hb0.size; (try simp at this); omega
    go_wp2
    go_ret
    exact ⟨end_int (by rw [szOut_bad (by omega)]), (ext_trans (ext_alloc _ _) hb0)⟩
set_option maxHeartbeats 2000000 in
theorem toRxNode_any {cs : Array Value} {x : RxNode} (w : World) (h : Rd.rd (Old w) w cs.toList x) (hn : Sz.sz x ≤ 1048576) :
    Calls Tryz.prog 75 #[.agg cs] w fun e w' => ∃ cs' : Array Value, e = .returned (.agg cs') ∧ Rd.rd (New w.heap.size w') w' cs'.toList x ∧ Below w.heap.size w w' := by
  obtain ⟨a4, c4, a5, c5, hcs, f0, f1, f2, f4, f5⟩ := rdRxNode h
  obtain rfl := arr_of_list hcs
  clear hcs h
  have hn_set : Sz.sz x.set ≤ 1048576 := Nat.le_trans (by show _ ≤ Sz.sz x.set + Sz.sz x.kids; omega) hn
  have hn_kids : Sz.sz x.kids ≤ 1048576 := Nat.le_trans (by show _ ≤ Sz.sz x.set + Sz.sz x.kids; omega) hn
  have HN := hid hn
  clear hn
  go_enter Tryz.func75, Tryz.ntmps75
  go_wp2_with fail
  refine (toInts_any _ (by exact Rd.later (by repeat' (first | (with_reducible exact Below.refl _ _) | (with_reducible refine Below.setCell ?_ ?_ _) | (with_reducible refine Below.alloc ?_ ?_ _) | (simp; done) | (simp; omega) | omega)) (f4)) hn_set).mono ?_
  rintro e w1 ⟨r0, rfl, hr0, hb0⟩
  obtain ⟨r0_a, r0_c, e0⟩ := rdSlc hr0
  obtain rfl : r0 = .slice r0_a x.set.length r0_c := by simpa using e0
  clear e0
  have hB1 : Below w.heap.size w w1 := ext_trans (by repeat' (first | (with_reducible exact Below.refl _ _) | (with_reducible refine Below.setCell ?_ ?_ _) | (with_reducible refine Below.alloc ?_ ?_ _) | (simp; done) | (simp; omega) | omega)) hb0
  obtain ⟨hc0, hf0⟩ := bcell hb0
  have hl0 : w.heap.size + 1 + 1 < w1.heap.size := by have := hb0.size; (try simp at this); omega
  have hl0' : w.heap.size + 1 < w1.heap.size := by omega
  have hl0'' : w.heap.size < w1.heap.size := by omega
  go_wp2_with fail
  refine (toInts_any _ (by exact Rd.later (by repeat' (first | (with_reducible exact hB1) | (with_reducible exact Below.refl _ _) | (with_reducible refine Below.setCell ?_ ?_ _) | (with_reducible refine Below.alloc ?_ ?_ _) | (simp; done) | (simp; omega) | omega)) (f5)) hn_kids).mono ?_
  rintro e w2 ⟨r1, rfl, hr1, hb1⟩
  obtain ⟨r1_a, r1_c, e1⟩ := rdSlc hr1
  obtain rfl : r1 = .slice r1_a x.kids.length r1_c := by simpa using e1
  clear e1
  have hB2 : Below w.heap.size w w2 := ext_trans (by repeat' (first | (with_reducible exact hB1) | (with_reducible exact Below.refl _ _) | (with_reducible refine Below.setCell ?_ ?_ _) | (with_reducible refine Below.alloc ?_ ?_ _) | (simp; done) | (simp; omega) | omega)) hb1
  obtain ⟨hc1, hf1⟩ := bcell hb1
  have hl1 : w.heap.size + 1 + 1 < w2.heap.size := by have := hb1.size; (try simp at this); omega
  have hl1' : w.heap.size + 1 < w2.heap.size := by omega
  have hl1'' : w.heap.size < w2.heap.size := by omega
  have ez : (w.alloc (.cells #[.int .i64 x.kind, .int .i64 x.lo, .int .i64 x.hi, .bool x.neg, .slice a4 x.set.length c4, .slice a5 x.kids.length c5] 80)).heap.size = w.heap.size + 1 := by simp
  have Z0 : ((w.alloc (.cells #[.int .i64 x.kind, .int .i64 x.lo, .int .i64 x.hi, .bool x.neg, .slice a4 x.set.length c4, .slice a5 x.kids.length c5] 80)).alloc (.cells ([.int .i64 0, .int .i64 0, .int .i64 0, .bool false, .slice none 0 0, .slice none 0 0] : List Value).toArray 82 (0, 0))).heap[w.heap.size + 1]? = some (.cells ([.int .i64 0, .int .i64 0, .int .i64 0, .bool false, .slice none 0 0, .slice none 0 0] : List Value).toArray 82 (0, 0)) := by rw [← ez]; exact heap_alloc_new _ _
  have hne1 : w.heap.size + 1 ≠ w.heap.size + 1 + 1 := by omega
  have Z1 : w1.heap[w.heap.size + 1]? = some (.cells ([.int .i64 0, .int .i64 0, .int .i64 0, .bool false, .slice none 0 0, .slice none 0 0] : List Value).toArray 82 (0, 0)) := blk_stay (by first | exact (blk_alloc Z0 _) | (refine blk_set ?_ hne1 _; refine blk_set ?_ hne1 _; refine blk_set ?_ hne1 _; refine blk_set ?_ hne1 _; exact (blk_alloc Z0 _))) hb0
  have Z2 : w2.heap[w.heap.size + 1]? = some (.cells ([.int .i64 0, .int .i64 0, .int .i64 0, .bool false, .slice none 0 0, .slice none 0 0] : List Value).toArray 82 (0, 0)) := blk_stay (by first | exact Z1 | (refine blk_set ?_ hne1 _; exact Z1)) hb1
  have ZF : ((w2).setCell ⟨w.heap.size + 1 + 1, 5, none⟩ (.slice r1_a x.kids.length r1_c)).heap[w.heap.size + 1]? = some (.cells ([.int .i64 0, .int .i64 0, .int .i64 0, .bool false, .slice none 0 0, .slice none 0 0] : List Value).toArray 82 (0, 0)) := by refine blk_set ?_ hne1 _; exact Z2
  have FB := (setAll_block [.int .i64 x.kind, .int .i64 x.lo, .int .i64 x.hi, .bool x.neg, .slice r0_a x.set.length r0_c, .slice r1_a x.kids.length r1_c] ((w2).setCell ⟨w.heap.size + 1 + 1, 5, none⟩ (.slice r1_a x.kids.length r1_c)) (w.heap.size + 1) 0 0 [] [.int .i64 0, .int .i64 0, .int .i64 0, .bool false, .slice none 0 0, .slice none 0 0] [] 82 ZF rfl rfl).1
  obtain ⟨wF, hwF⟩ : ∃ W', setAll ((w2).setCell ⟨w.heap.size + 1 + 1, 5, none⟩ (.slice r1_a x.kids.length r1_c)) (w.heap.size + 1) 0 0 [.int .i64 x.kind, .int .i64 x.lo, .int .i64 x.hi, .bool x.neg, .slice r0_a x.set.length r0_c, .slice r1_a x.kids.length r1_c] = W' := ⟨_, rfl⟩
  rw [hwF] at FB
  have F0 : wF.cell? ⟨w.heap.size + 1, 0, none⟩ = some (.int .i64 x.kind) := cell_of_block FB
  have F1 : wF.cell? ⟨w.heap.size + 1, 1, none⟩ = some (.int .i64 x.lo) := cell_of_block FB
  have F2 : wF.cell? ⟨w.heap.size + 1, 2, none⟩ = some (.int .i64 x.hi) := cell_of_block FB
  have F3 : wF.cell? ⟨w.heap.size + 1, 3, none⟩ = some (.bool x.neg) := cell_of_block FB
  have F4 : wF.cell? ⟨w.heap.size + 1, 4, none⟩ = some (.slice r0_a x.set.length r0_c) := cell_of_block FB
  have F5 : wF.cell? ⟨w.heap.size + 1, 5, none⟩ = some (.slice r1_a x.kids.length r1_c) := cell_of_block FB
  have HFB := hid FB
  have HWF := hid hwF
  clear FB ZF Z0 Z1 Z2 ez hwF
  go_wp2
  change bodyPost _ _ _ _ _ (setAll ((w2).setCell ⟨w.heap.size + 1 + 1, 5, none⟩ (.slice r1_a x.kids.length r1_c)) (w.heap.size + 1) 0 0 [.int .i64 x.kind, .int .i64 x.lo, .int .i64 x.hi, .bool x.neg, .slice r0_a x.set.length r0_c, .slice r1_a x.kids.length r1_c])
  rw [HWF.out]
  refine bodyPost_ret (v := .agg #[.int .i64 x.kind, .int .i64 x.lo, .int .i64 x.hi, .bool x.neg, .slice r0_a x.set.length r0_c, .slice r1_a x.kids.length r1_c]) (by simp [results, Tryz.results75, go_sem, F0, F1, F2, F3, F4, F5]) rfl ⟨_, rfl, ?_, ?_⟩
  · exact rdRxNode_mk f0 f1 f2 (Keeps.rd (by rw [← HWF.out]; refine keeps_setAll _ _ _ ?_ ?_; repeat' (first | (with_reducible exact Keeps.refl _ _) | (with_reducible refine Keeps.call ?_ hb1) | (with_reducible refine Keeps.set ?_ ?_ _) | (with_reducible refine Keeps.alloc ?_ _) | (simp; done) | (simp; omega) | omega)) (by first | (simp; done) | (simp; omega) | omega) hr0) (Keeps.rd (by rw [← HWF.out]; refine keeps_setAll _ _ _ ?_ ?_; repeat' (first | (with_reducible exact Keeps.refl _ _) | (with_reducible refine Keeps.set ?_ ?_ _) | (with_reducible refine Keeps.alloc ?_ _) | (simp; done) | (simp; omega) | omega)) (by first | (simp; done) | (simp; omega) | omega) hr1)
  · exact (by rw [← HWF.out]; refine below_setAll _ _ _ ?_ ?_; repeat' (first | (with_reducible exact hB2) | (with_reducible exact hB1) | (with_reducible exact Below.refl _ _) | (with_reducible refine Below.setCell ?_ ?_ _) | (with_reducible refine Below.alloc ?_ ?_ _) | (simp; done) | (simp; omega) | omega))
set_option maxHeartbeats 2000000 in
theorem eqRxNode_same {cs cs' : Array Value} {x : RxNode} (w : World) (h : Rd.rd (Old w) w cs.toList x) (h' : Rd.rd (Old w) w cs'.toList x) :
    Calls Tryz.prog 83 #[.agg cs, .agg cs'] w fun e w' => e = .returned (.bool true) ∧ Below w.heap.size w w' := by
  obtain ⟨a4, c4, a5, c5, hcs, f0, f1, f2, f4, f5⟩ := rdRxNode h
  obtain rfl := arr_of_list hcs
  obtain ⟨ga4, gc4, ga5, gc5, hcs', gf0, gf1, gf2, gf4, gf5⟩ := rdRxNode h'
  obtain rfl := arr_of_list hcs'
  clear hcs hcs' h h'
  go_enter Tryz.func83, Tryz.ntmps83
  go_wp2_with fail
  refine (eqInts_same _ (by exact Rd.later (by repeat' (first | (with_reducible exact Below.refl _ _) | (with_reducible refine Below.setCell ?_ ?_ _) | (with_reducible refine Below.alloc ?_ ?_ _) | (simp; done) | (simp; omega) | omega)) f4) (by exact Rd.later (by repeat' (first | (with_reducible exact Below.refl _ _) | (with_reducible refine Below.setCell ?_ ?_ _) | (with_reducible refine Below.alloc ?_ ?_ _) | (simp; done) | (simp; omega) | omega)) gf4)).mono ?_
  rintro e w1 ⟨rfl, hb0⟩
  have hB1 : Below w.heap.size w w1 := ext_trans (by repeat' (first | (with_reducible exact Below.refl _ _) | (with_reducible refine Below.setCell ?_ ?_ _) | (with_reducible refine Below.alloc ?_ ?_ _) | (simp; done) | (simp; omega) | omega)) hb0
  obtain ⟨hc0, hf0⟩ := bcell hb0
  have hl0 : w.heap.size + 1 < w1.heap.size := by have := hb0.size; (try simp at this); omega
  have hl0' : w.heap.size < w1.heap.size := by omega
  go_wp2_with fail
  refine (eqInts_same _ (by exact Rd.later (by repeat' (first | (with_reducible exact hB1) | (with_reducible exact Below.refl _ _) | (with_reducible refine Below.setCell ?_ ?_ _) | (with_reducible refine Below.alloc ?_ ?_ _) | (simp; done) | (simp; omega) | omega)) f5) (by exact Rd.later (by repeat' (first | (with_reducible exact hB1) | (with_reducible exact Below.refl _ _) | (with_reducible refine Below.setCell ?_ ?_ _) | (with_reducible refine Below.alloc ?_ ?_ _) | (simp; done) | (simp; omega) | omega)) gf5)).mono ?_
  rintro e w2 ⟨rfl, hb1⟩
  have hB2 : Below w.heap.size w w2 := ext_trans (by repeat' (first | (with_reducible exact hB1) | (with_reducible exact Below.refl _ _) | (with_reducible refine Below.setCell ?_ ?_ _) | (with_reducible refine Below.alloc ?_ ?_ _) | (simp; done) | (simp; omega) | omega)) hb1
  obtain ⟨hc1, hf1⟩ := bcell hb1
  have hl1 : w.heap.size + 1 < w2.heap.size := by have := hb1.size; (try simp at this); omega
  have hl1' : w.heap.size < w2.heap.size := by omega
  go_wp2
  go_ret
  exact ⟨rfl, (by repeat' (first | (with_reducible exact hB2) | (with_reducible exact hB1) | (with_reducible exact Below.refl _ _) | (with_reducible refine Below.setCell ?_ ?_ _) | (with_reducible refine Below.alloc ?_ ?_ _) | (simp; done) | (simp; omega) | omega))⟩

set_option maxHeartbeats 1000000 in
theorem szRxNodeS_any {v : Value} {xs : List RxNode} (left : Int) (w : World) (h : Rd.rd (Old w) w [v] xs) (h3 : 0 ≤ left) (h4 : left ≤ 1048576) :
    Calls Tryz.prog 29 #[v, .int .i64 left] w fun e w' => e = .returned (.int .i64 (szOut left (Sz.sz xs))) ∧ Below w.heap.size w w' := by
  obtain ⟨a, cap, hv, h1, h2, hc⟩ := h
  obtain rfl : v = .slice a xs.length cap := by simpa using hv
  clear hv
  have hss : Sz.sz xs = xs.length + sumTo Sz.sz xs xs.length := rfl
  rw [hss]; clear hss
  by_cases hl : (xs.length : Int) ≤ left
  · go_enter Tryz.func29, Tryz.ntmps29
    go_wp2
    go_loopw [1, 5] (fun l i wr => ∃ k : Nat, k ≤ xs.length ∧ i = .int .i64 k ∧ 0 ≤ left - xs.length - sumTo Sz.sz xs k ∧ l = .int .i64 (left - xs.length - sumTo Sz.sz xs k) ∧ Below w.heap.size w wr) (fun _ i _ => xs.length - (intOf i).toNat)
    case atStart => exact ⟨0, Nat.zero_le _, rfl, by rw [sumTo_zero]; omega, by rw [sumTo_zero]; simp, Below.refl _ _⟩
    case round =>
      obtain ⟨k, hk, rfl, hr, rfl, hb⟩ := hrel
      by_cases hlt : k < xs.length
      · have HS := hid (sumTo_succ Sz.sz xs k hlt)
        have HM := hid (sumTo_le Sz.sz xs (show k + 1 ≤ xs.length by omega))
        obtain ⟨b, off, rfl, hB, hrow⟩ := hc (by omega)
        obtain ⟨cs, hcell, hx⟩ := hrow k hlt
        obtain ⟨a4, c4, a5, c5, hcs, f0, f1, f2, f4, f5⟩ := rdRxNode hx
        subst hcs
        have t0 : wr.cell? ⟨b, off + k * 6, none⟩ = some (.int .i64 xs[k].kind) := (hb.cell (p := ⟨b, off + k * 6, none⟩) hB).trans (hcell 0 (by decide))
        have t1 : wr.cell? ⟨b, off + k * 6 + 1, none⟩ = some (.int .i64 xs[k].lo) := (hb.cell (p := ⟨b, off + k * 6 + 1, none⟩) hB).trans (hcell 1 (by decide))
        have t2 : wr.cell? ⟨b, off + k * 6 + 2, none⟩ = some (.int .i64 xs[k].hi) := (hb.cell (p := ⟨b, off + k * 6 + 2, none⟩) hB).trans (hcell 2 (by decide))
        have t3 : wr.cell? ⟨b, off + k * 6 + 3, none⟩ = some (.bool xs[k].neg) := (hb.cell (p := ⟨b, off + k * 6 + 3, none⟩) hB).trans (hcell 3 (by decide))
        have t4 : wr.cell? ⟨b, off + k * 6 + 4, none⟩ = some (.slice a4 xs[k].set.length c4) := (hb.cell (p := ⟨b, off + k * 6 + 4, none⟩) hB).trans (hcell 4 (by decide))
        have t5 : wr.cell? ⟨b, off + k * 6 + 5, none⟩ = some (.slice a5 xs[k].kids.length c5) := (hb.cell (p := ⟨b, off + k * 6 + 5, none⟩) hB).trans (hcell 5 (by decide))
        clear hrow hcell
        clear hc
        have hx' := Rd.later hb hx
        go_wp2_with fail
        refine (szRxNode_any _ _ (by exact hx') (by omega) (by omega)).mono ?_
        rintro e w1 ⟨rfl, hb1⟩
        have hB1 := ext_trans hb hb1
        by_cases hfit : ((Sz.sz xs[k] : Nat) : Int) ≤ left - xs.length - sumTo Sz.sz xs k
        · rw [szOut_val hfit]
          go_wp2
          go_roundw
          case rel => exact ⟨k + 1, by omega, by go_num, by rw [HS.out]; omega, by rw [HS.out]; go_num, hB1⟩
          case measure => simp [intOf]; omega
        · rw [szOut_bad (by omega)]
          go_wp2
          go_ret
          exact ⟨end_int (by have := HS.out; have := HM.out; rw [szOut_bad (by omega)]), hB1⟩
      · have : k = xs.length := by omega
        subst this
        clear hc
        go_wp2
        go_ret
        exact ⟨end_int (by rw [szOut_val (by omega)]; omega), hb⟩
  · clear hc
    go_enter Tryz.func29, Tryz.ntmps29
    go_wp2
    go_ret
    exact ⟨end_int (by rw [szOut_bad (by omega)]), Below.refl _ _⟩
theorem info_RxNode : (Tryz.prog.info? 82).map (fun i => (i.zero.isSome, i.size, i.bytes)) = some (true, 6, 80) := by kernel_rfl
set_option maxHeartbeats 2000000 in
theorem toRxNodeS_any {v : Value} {xs : List RxNode} (w : World) (h : Rd.rd (Old w) w [v] xs) (hsz : Sz.sz xs ≤ 1048576) :
    Calls Tryz.prog 34 #[v] w fun e w' => ∃ u, e = .returned u ∧ Rd.rd (New w.heap.size w') w' [u] xs ∧ Below w.heap.size w w' := by
  obtain ⟨a, cap, hv, h1, h2, hc⟩ := h
  obtain rfl : v = .slice a xs.length cap := by simpa using hv
  clear hv
  have hn : xs.length ≤ 1048576 := Nat.le_trans (sz_len xs) hsz
  have HZ := hid (sz_each hsz)
  clear hsz
  obtain ⟨zc, hzl, hmk⟩ := make_cells (P := Tryz.prog) (t := 27) (e := 82) (n := 6) (bytes := 80) Tryz.underlying27 info_RxNode xs.length (by omega) (by omega)
  go_enter Tryz.func34, Tryz.ntmps34
  go_wp2
  clear hmk
  go_loopw [4] (fun i wr => ∃ (k : Nat) (css : List (List Value)) (rest : List Value), k ≤ xs.length ∧ i = .int .i64 k ∧ Below w.heap.size w wr ∧ w.heap.size < wr.heap.size ∧ wr.heap[w.heap.size]? = some (.cells (css.flatten ++ rest).toArray 82 (0, 0)) ∧ rest.length = (xs.length - k) * 6 ∧ Each (New (w.heap.size + 1) wr) wr css (xs.take k)) (fun i _ => xs.length - (intOf i).toNat)
  case atStart => exact ⟨0, [], zc, Nat.zero_le _, rfl, ext_alloc _ _, by simp, by simpa using heap_alloc_new w _, by simpa using hzl, Each.nil⟩
  case round =>
    obtain ⟨k, css, rest, hk, rfl, hb, hsz, hg, hrl, he⟩ := hrel
    by_cases hlt : k < xs.length
    · have hcl := each_take he hk
      obtain ⟨b, off, rfl, hB, hrow⟩ := hc (by omega)
      obtain ⟨cs, hcell, hx⟩ := hrow k hlt
      obtain ⟨a4, c4, a5, c5, hcs, f0, f1, f2, f4, f5⟩ := rdRxNode hx
      subst hcs
      have t0 : wr.cell? ⟨b, off + k * 6, none⟩ = some (.int .i64 xs[k].kind) := (hb.cell (p := ⟨b, off + k * 6, none⟩) hB).trans (hcell 0 (by decide))
      have t1 : wr.cell? ⟨b, off + k * 6 + 1, none⟩ = some (.int .i64 xs[k].lo) := (hb.cell (p := ⟨b, off + k * 6 + 1, none⟩) hB).trans (hcell 1 (by decide))
      have t2 : wr.cell? ⟨b, off + k * 6 + 2, none⟩ = some (.int .i64 xs[k].hi) := (hb.cell (p := ⟨b, off + k * 6 + 2, none⟩) hB).trans (hcell 2 (by decide))
      have t3 : wr.cell? ⟨b, off + k * 6 + 3, none⟩ = some (.bool xs[k].neg) := (hb.cell (p := ⟨b, off + k * 6 + 3, none⟩) hB).trans (hcell 3 (by decide))
      have t4 : wr.cell? ⟨b, off + k * 6 + 4, none⟩ = some (.slice a4 xs[k].set.length c4) := (hb.cell (p := ⟨b, off + k * 6 + 4, none⟩) hB).trans (hcell 4 (by decide))
      have t5 : wr.cell? ⟨b, off + k * 6 + 5, none⟩ = some (.slice a5 xs[k].kids.length c5) := (hb.cell (p := ⟨b, off + k * 6 + 5, none⟩) hB).trans (hcell 5 (by decide))
      clear hrow hcell
      clear hc
      have hx' := Rd.later hb hx
      have HR := hid hrl
      have HG := hid hg
      have HE := hid he
      have HL := hid hcl
      have hrn : 6 ≤ rest.length := by rw [hrl]; have := Nat.mul_le_mul_right 6 (show 1 ≤ xs.length - k by omega); omega
      clear hrl hg he hcl
      go_wp2_with fail
      refine (toRxNode_any _ (by exact hx') (HZ.out k hlt)).mono ?_
      rintro e w1 ⟨cs1, rfl, hr1, hb1⟩
      obtain ⟨ra4, rc4, ra5, rc5, hcs1, rf0, rf1, rf2, rf4, rf5⟩ := rdRxNode hr1
      obtain rfl := arr_of_list hcs1
      have HX := hid hr1
      clear hcs1 hr1
      have hB1 := ext_trans hb hb1
      have HG1 := hid ((hb1.block _ hsz).trans HG.out)
      obtain ⟨o0, s0⟩ : ∃ v, w1.cell? ⟨w.heap.size, k * 6, none⟩ = some v := row_get (n := 6) HG1.out HE.out.len HL.out hrn (j := 0) (by decide)
      obtain ⟨o1, s1⟩ : ∃ v, w1.cell? ⟨w.heap.size, k * 6 + 1, none⟩ = some v := row_get (n := 6) HG1.out HE.out.len HL.out hrn (j := 1) (by decide)
      obtain ⟨o2, s2⟩ : ∃ v, w1.cell? ⟨w.heap.size, k * 6 + 2, none⟩ = some v := row_get (n := 6) HG1.out HE.out.len HL.out hrn (j := 2) (by decide)
      obtain ⟨o3, s3⟩ : ∃ v, w1.cell? ⟨w.heap.size, k * 6 + 3, none⟩ = some v := row_get (n := 6) HG1.out HE.out.len HL.out hrn (j := 3) (by decide)
      obtain ⟨o4, s4⟩ : ∃ v, w1.cell? ⟨w.heap.size, k * 6 + 4, none⟩ = some v := row_get (n := 6) HG1.out HE.out.len HL.out hrn (j := 4) (by decide)
      obtain ⟨o5, s5⟩ : ∃ v, w1.cell? ⟨w.heap.size, k * 6 + 5, none⟩ = some v := row_get (n := 6) HG1.out HE.out.len HL.out hrn (j := 5) (by decide)
      have z0 : w1.frozen? ⟨w.heap.size, k * 6, none⟩ = false := frozen_of_row w1 w.heap.size _ _ _ HG1.out
      have z1 : w1.frozen? ⟨w.heap.size, k * 6 + 1, none⟩ = false := frozen_of_row w1 w.heap.size _ _ _ HG1.out
      have z2 : w1.frozen? ⟨w.heap.size, k * 6 + 2, none⟩ = false := frozen_of_row w1 w.heap.size _ _ _ HG1.out
      have z3 : w1.frozen? ⟨w.heap.size, k * 6 + 3, none⟩ = false := frozen_of_row w1 w.heap.size _ _ _ HG1.out
      have z4 : w1.frozen? ⟨w.heap.size, k * 6 + 4, none⟩ = false := frozen_of_row w1 w.heap.size _ _ _ HG1.out
      have z5 : w1.frozen? ⟨w.heap.size, k * 6 + 5, none⟩ = false := frozen_of_row w1 w.heap.size _ _ _ HG1.out
      have hl1 : w.heap.size < w1.heap.size := by have := hb1.size; omega
      go_wp2
      go_roundw
      case rel =>
        obtain ⟨rest', hg', hrl', hs', hB', he'⟩ := row_next (g := w.heap.size) (n := 6) rfl hlt HG1.out HE.out HL.out HR.out hsz hb1 hB1 HX.out
        exact ⟨k + 1, _, rest', by omega, by go_num, hB', hs', hg', hrl', he'⟩
      case measure => simp [intOf]; omega
    · have : k = xs.length := by omega
      subst this
      clear hc
      have HG := hid hg
      have HE := hid he
      clear hg he hrl
      go_wp2
      go_ret
      refine ⟨_, rfl, ?_, hb⟩
      have he := HE.out
      rw [List.take_length] at he
      exact rd_of_block HG.out (he.mono (T := New w.heap.size wr) (fun b (hb' : w.heap.size + 1 ≤ b ∧ b < wr.heap.size) => ⟨by omega, hb'.2⟩)) ⟨Nat.le_refl _, hsz⟩ (Nat.le_refl _) (by omega)
set_option maxHeartbeats 4000000 in
theorem eqRxNodeS_same {v u : Value} {xs : List RxNode} (w : World) (h : Rd.rd (Old w) w [v] xs) (h' : Rd.rd (Old w) w [u] xs) :
    Calls Tryz.prog 36 #[v, u] w fun e w' => e = .returned (.bool true) ∧ Below w.heap.size w w' := by
  obtain ⟨a, cap, hv, h1, h2, hc⟩ := h
  obtain rfl : v = .slice a xs.length cap := by simpa using hv
  obtain ⟨a', cap', hv', h1', h2', hc'⟩ := h'
  obtain rfl : u = .slice a' xs.length cap' := by simpa using hv'
  clear hv hv'
  go_enter Tryz.func36, Tryz.ntmps36
  go_wp2
  go_loopw [5] (fun i wr => ∃ k : Nat, k ≤ xs.length ∧ i = .int .i64 k ∧ Below w.heap.size w wr) (fun i _ => xs.length - (intOf i).toNat)
  case atStart => exact ⟨0, Nat.zero_le _, rfl, Below.refl _ _⟩
  case round =>
    obtain ⟨k, hk, rfl, hb⟩ := hrel
    by_cases hlt : k < xs.length
    · skip
      obtain ⟨b, off, rfl, hB, hrow⟩ := hc (by omega)
      obtain ⟨cs, hcell, hx⟩ := hrow k hlt
      obtain ⟨a4, c4, a5, c5, hcs, f0, f1, f2, f4, f5⟩ := rdRxNode hx
      subst hcs
      have t0 : wr.cell? ⟨b, off + k * 6, none⟩ = some (.int .i64 xs[k].kind) := (hb.cell (p := ⟨b, off + k * 6, none⟩) hB).trans (hcell 0 (by decide))
      have t1 : wr.cell? ⟨b, off + k * 6 + 1, none⟩ = some (.int .i64 xs[k].lo) := (hb.cell (p := ⟨b, off + k * 6 + 1, none⟩) hB).trans (hcell 1 (by decide))
      have t2 : wr.cell? ⟨b, off + k * 6 + 2, none⟩ = some (.int .i64 xs[k].hi) := (hb.cell (p := ⟨b, off + k * 6 + 2, none⟩) hB).trans (hcell 2 (by decide))
      have t3 : wr.cell? ⟨b, off + k * 6 + 3, none⟩ = some (.bool xs[k].neg) := (hb.cell (p := ⟨b, off + k * 6 + 3, none⟩) hB).trans (hcell 3 (by decide))
      have t4 : wr.cell? ⟨b, off + k * 6 + 4, none⟩ = some (.slice a4 xs[k].set.length c4) := (hb.cell (p := ⟨b, off + k * 6 + 4, none⟩) hB).trans (hcell 4 (by decide))
      have t5 : wr.cell? ⟨b, off + k * 6 + 5, none⟩ = some (.slice a5 xs[k].kids.length c5) := (hb.cell (p := ⟨b, off + k * 6 + 5, none⟩) hB).trans (hcell 5 (by decide))
      clear hrow hcell
      obtain ⟨b', off', rfl, hBq, hrowq⟩ := hc' (by omega)
      obtain ⟨csq, hcellq, hxq⟩ := hrowq k hlt
      obtain ⟨qa4, qc4, qa5, qc5, hcsq, qf0, qf1, qf2, qf4, qf5⟩ := rdRxNode hxq
      subst hcsq
      have tq0 : wr.cell? ⟨b', off' + k * 6, none⟩ = some (.int .i64 xs[k].kind) := (hb.cell (p := ⟨b', off' + k * 6, none⟩) hBq).trans (hcellq 0 (by decide))
      have tq1 : wr.cell? ⟨b', off' + k * 6 + 1, none⟩ = some (.int .i64 xs[k].lo) := (hb.cell (p := ⟨b', off' + k * 6 + 1, none⟩) hBq).trans (hcellq 1 (by decide))
      have tq2 : wr.cell? ⟨b', off' + k * 6 + 2, none⟩ = some (.int .i64 xs[k].hi) := (hb.cell (p := ⟨b', off' + k * 6 + 2, none⟩) hBq).trans (hcellq 2 (by decide))
      have tq3 : wr.cell? ⟨b', off' + k * 6 + 3, none⟩ = some (.bool xs[k].neg) := (hb.cell (p := ⟨b', off' + k * 6 + 3, none⟩) hBq).trans (hcellq 3 (by decide))
      have tq4 : wr.cell? ⟨b', off' + k * 6 + 4, none⟩ = some (.slice qa4 xs[k].set.length qc4) := (hb.cell (p := ⟨b', off' + k * 6 + 4, none⟩) hBq).trans (hcellq 4 (by decide))
      have tq5 : wr.cell? ⟨b', off' + k * 6 + 5, none⟩ = some (.slice qa5 xs[k].kids.length qc5) := (hb.cell (p := ⟨b', off' + k * 6 + 5, none⟩) hBq).trans (hcellq 5 (by decide))
      clear hrowq hcellq
      clear hc hc'
      have hx' := Rd.later hb hx
      have hqx' := Rd.later hb hxq
      have hi1 : (0 : Int) ≤ k := by omega
      have hi2 : (k : Int) < xs.length := by omega
      have hwr : wr.heap.size ≤ wr.heap.size := Nat.le_refl _
      go_wp2_with fail
      go_region_held3 (fun w' => w'.cell? ⟨b, off + k * 6, none⟩ = some (.int .i64 xs[k].kind) ∧ w'.cell? ⟨b, off + k * 6 + 1, none⟩ = some (.int .i64 xs[k].lo) ∧ w'.cell? ⟨b, off + k * 6 + 2, none⟩ = some (.int .i64 xs[k].hi) ∧ w'.cell? ⟨b, off + k * 6 + 3, none⟩ = some (.bool xs[k].neg) ∧ w'.cell? ⟨b, off + k * 6 + 4, none⟩ = some (.slice a4 xs[k].set.length c4) ∧ w'.cell? ⟨b, off + k * 6 + 5, none⟩ = some (.slice a5 xs[k].kids.length c5) ∧ w'.cell? ⟨b', off' + k * 6, none⟩ = some (.int .i64 xs[k].kind) ∧ w'.cell? ⟨b', off' + k * 6 + 1, none⟩ = some (.int .i64 xs[k].lo) ∧ w'.cell? ⟨b', off' + k * 6 + 2, none⟩ = some (.int .i64 xs[k].hi) ∧ w'.cell? ⟨b', off' + k * 6 + 3, none⟩ = some (.bool xs[k].neg) ∧ w'.cell? ⟨b', off' + k * 6 + 4, none⟩ = some (.slice qa4 xs[k].set.length qc4) ∧ w'.cell? ⟨b', off' + k * 6 + 5, none⟩ = some (.slice qa5 xs[k].kids.length qc5)) (simp [*])
        ((go_at_call 83; refine (eqRxNode_same _ (by exact Rd.later (by repeat' (first | (with_reducible exact Below.refl _ _) | (with_reducible refine Below.drew ?_))) hx') (by exact Rd.later (by repeat' (first | (with_reducible exact Below.refl _ _) | (with_reducible refine Below.drew ?_))) hqx')).mono ?_; rintro e w1 ⟨rfl, hb1⟩; have hk1 := keeps_cells hb1; have hbx := ext_trans (by repeat' (first | (with_reducible exact hb) | (with_reducible refine Below.drew ?_)) : Below w.heap.size w _) hb1))
      go_wp2
      go_roundw
      case rel => exact ⟨k + 1, by omega, by go_num, by repeat' (first | (with_reducible exact hbx) | (with_reducible refine Below.drew ?_))⟩
      case measure => simp [intOf]; omega
    · have : k = xs.length := by omega
      subst this
      clear hc hc'
      go_wp2
      go_ret
      exact ⟨rfl, hb⟩

theorem rdRx {S : Nat → Prop} {w : World} {cs : List Value} {x : Rx} (h : Rd.rd S w cs x) : ∃ (a0 : Option Addr) (c0 : Nat), cs = [.slice a0 x.nodes.length c0] ∧ (Rd.rd S w [.slice a0 x.nodes.length c0] x.nodes) := by
  have h0 : Rd.rd S w cs x.nodes := h
  obtain ⟨a0, c0, e0⟩ := rdSlc h0
  subst e0
  exact ⟨a0, c0, rfl, h0⟩
theorem rdRx_mk {S : Nat → Prop} {w : World} {x : Rx} {a0 : Option Addr} {c0 : Nat} (h0 : Rd.rd S w [.slice a0 x.nodes.length c0] x.nodes) : Rd.rd S w [.slice a0 x.nodes.length c0] x :=
  h0
instance : Sz Rx := ⟨fun x => Sz.sz x.nodes⟩
set_option maxHeartbeats 1000000 in
theorem szRx_any {cs : Array Value} {x : Rx} (left : Int) (w : World) (h : Rd.rd (Old w) w cs.toList x) (h3 : 0 ≤ left) (h4 : left ≤ 1048576) :
    Calls Tryz.prog 6 #[.agg cs, .int .i64 left] w fun e w' => e = .returned (.int .i64 (szOut left (Sz.sz x))) ∧ Below w.heap.size w w' := by
  obtain ⟨a0, c0, hcs, f0⟩ := rdRx h
  obtain rfl := arr_of_list hcs
  clear hcs
  have hsz : Sz.sz x = Sz.sz x.nodes := rfl
  rw [hsz]; clear hsz
  generalize hg_nodes : Sz.sz x.nodes = n_nodes
  have Hg_nodes := hid hg_nodes; clear hg_nodes
  by_cases k0 : (n_nodes : Int) ≤ left
  · skip
    go_enter Tryz.func6, Tryz.ntmps6
    go_wp2_with fail
    refine (szRxNodeS_any _ _ (by exact Rd.later (ext_alloc _ _) (f0)) (by omega) (by omega)).mono ?_
    rintro e w1 ⟨rfl, hb0⟩
    rw [Hg_nodes.out, szOut_val (by omega)]
    obtain ⟨hc0, hf0⟩ := bcell hb0
    have hl0 : w.heap.size < w1.heap.size := by have := hb0.size; (try simp at this); omega
    go_wp2
    go_ret
    exact ⟨end_int (by rw [szOut_val (by omega)] <;> omega), (ext_trans (ext_alloc _ _) hb0)⟩
  · skip
    go_enter Tryz.func6, Tryz.ntmps6
    go_wp2_with fail
    refine (szRxNodeS_any _ _ (by exact Rd.later (ext_alloc _ _) (f0)) (by omega) (by omega)).mono ?_
    rintro e w1 ⟨rfl, hb0⟩
    rw [Hg_nodes.out, szOut_bad (by omega)]
    obtain ⟨hc0, hf0⟩ := bcell hb0
    have hl0 : w.heap.size < w1.heap.size := by have := hb0.size; (try simp at this); omega
    go_wp2
    go_ret
    exact ⟨end_int (by rw [szOut_bad (by omega)]), (ext_trans (ext_alloc _ _) hb0)⟩
set_option maxHeartbeats 2000000 in
theorem toRx_any {cs : Array Value} {x : Rx} (w : World) (h : Rd.rd (Old w) w cs.toList x) (hn : Sz.sz x ≤ 1048576) :
    Calls Tryz.prog 8 #[.agg cs] w fun e w' => ∃ cs' : Array Value, e = .returned (.agg cs') ∧ Rd.rd (New w.heap.size w') w' cs'.toList x ∧ Below w.heap.size w w' := by
  obtain ⟨a0, c0, hcs, f0⟩ := rdRx h
  obtain rfl := arr_of_list hcs
  clear hcs h
  have hn_nodes : Sz.sz x.nodes ≤ 1048576 := Nat.le_trans (by show _ ≤ Sz.sz x.nodes; omega) hn
  have HN := hid hn
  clear hn
  go_enter Tryz.func8, Tryz.ntmps8
  go_wp2_with fail
  refine (toRxNodeS_any _ (by exact Rd.later (by repeat' (first | (with_reducible exact Below.refl _ _) | (with_reducible refine Below.setCell ?_ ?_ _) | (with_reducible refine Below.alloc ?_ ?_ _) | (simp; done) | (simp; omega) | omega)) (f0)) hn_nodes).mono ?_
  rintro e w1 ⟨r0, rfl, hr0, hb0⟩
  obtain ⟨r0_a, r0_c, e0⟩ := rdSlc hr0
  obtain rfl : r0 = .slice r0_a x.nodes.length r0_c := by simpa using e0
  clear e0
  have hB1 : Below w.heap.size w w1 := ext_trans (by repeat' (first | (with_reducible exact Below.refl _ _) | (with_reducible refine Below.setCell ?_ ?_ _) | (with_reducible refine Below.alloc ?_ ?_ _) | (simp; done) | (simp; omega) | omega)) hb0
  obtain ⟨hc0, hf0⟩ := bcell hb0
  have hl0 : w.heap.size + 1 + 1 < w1.heap.size := by have := hb0.size; (try simp at this); omega
  have hl0' : w.heap.size + 1 < w1.heap.size := by omega
  have hl0'' : w.heap.size < w1.heap.size := by omega
  go_wp2
  refine bodyPost_ret (v := .agg #[.slice r0_a x.nodes.length r0_c]) (by simp [results, Tryz.results8, go_sem, hc0, hl0']) rfl ⟨_, rfl, ?_, ?_⟩
  · exact rdRx_mk (Keeps.rd (by repeat' (first | (with_reducible exact Keeps.refl _ _) | (with_reducible refine Keeps.set ?_ ?_ _) | (with_reducible refine Keeps.alloc ?_ _) | (simp; done) | (simp; omega) | omega)) (by first | (simp; done) | (simp; omega) | omega) hr0)
  · exact (by repeat' (first | (with_reducible exact hB1) | (with_reducible exact Below.refl _ _) | (with_reducible refine Below.setCell ?_ ?_ _) | (with_reducible refine Below.alloc ?_ ?_ _) | (simp; done) | (simp; omega) | omega))
set_option maxHeartbeats 2000000 in
theorem eqRx_same {cs cs' : Array Value} {x : Rx} (w : World) (h : Rd.rd (Old w) w cs.toList x) (h' : Rd.rd (Old w) w cs'.toList x) :
    Calls Tryz.prog 10 #[.agg cs, .agg cs'] w fun e w' => e = .returned (.bool true) ∧ Below w.heap.size w w' := by
  obtain ⟨a0, c0, hcs, f0⟩ := rdRx h
  obtain rfl := arr_of_list hcs
  obtain ⟨ga0, gc0, hcs', gf0⟩ := rdRx h'
  obtain rfl := arr_of_list hcs'
  clear hcs hcs' h h'
  go_enter Tryz.func10, Tryz.ntmps10
  go_wp2_with fail
  refine (eqRxNodeS_same _ (by exact Rd.later (by repeat' (first | (with_reducible exact Below.refl _ _) | (with_reducible refine Below.setCell ?_ ?_ _) | (with_reducible refine Below.alloc ?_ ?_ _) | (simp; done) | (simp; omega) | omega)) f0) (by exact Rd.later (by repeat' (first | (with_reducible exact Below.refl _ _) | (with_reducible refine Below.setCell ?_ ?_ _) | (with_reducible refine Below.alloc ?_ ?_ _) | (simp; done) | (simp; omega) | omega)) gf0)).mono ?_
  rintro e w1 ⟨rfl, hb0⟩
  have hB1 : Below w.heap.size w w1 := ext_trans (by repeat' (first | (with_reducible exact Below.refl _ _) | (with_reducible refine Below.setCell ?_ ?_ _) | (with_reducible refine Below.alloc ?_ ?_ _) | (simp; done) | (simp; omega) | omega)) hb0
  obtain ⟨hc0, hf0⟩ := bcell hb0
  have hl0 : w.heap.size + 1 < w1.heap.size := by have := hb0.size; (try simp at this); omega
  have hl0' : w.heap.size < w1.heap.size := by omega
  go_wp2
  go_ret
  exact ⟨rfl, (by repeat' (first | (with_reducible exact hB1) | (with_reducible exact Below.refl _ _) | (with_reducible refine Below.setCell ?_ ?_ _) | (with_reducible refine Below.alloc ?_ ?_ _) | (simp; done) | (simp; omega) | omega))⟩

end Go.Proofs.YtomcoilmpkpoeaaGreatDoor

namespace Go.Proofs.YtomcoilmpkpoeaaGreatDoor
open Go.Shelf Go.Lib

def TP (w : World) : Prop := Tabs w ∧ PT w
theorem tp_below {w w' : World} (h : TP w) (hb : Go.RowKit.Below w.heap.size w w') : TP w' := ⟨tabs_below h.1 hb, pt_below h.2 hb⟩
theorem pt_of_reads {w : World} (h : VarReads Tryz.prog w "internal/strconv.uint64pow10" (tabData .u64 pow10Tab)) : PT w := by
  obtain ⟨g, t, cs, fuel, p, hg, hty, hvar, hd⟩ := h
  obtain rfl : 5 = g := Option.some.inj ((show Tryz.prog.globalNamed "internal/strconv.uint64pow10" = some 5 by kernel_rfl).symm.trans hg)
  obtain rfl : 206 = t := Option.some.inj ((show (Tryz.prog.globals[5]?).map (·.type) = some 206 by kernel_rfl).symm.trans hty)
  unfold PT TabIs
  rw [hvar, ← cells_of_tab Tryz.underlying206 Tryz.underlying165 (by kernel_rfl) (by kernel_rfl) hd]
theorem tp_of_list {n3 n4 n0 n1 n2 : String} {d3 d4 d0 d1 d2 : DataW Unit} {W : World} {l : List (String × DataW Unit)} (hl : l = [(n3, d3), (n4, d4), (n0, d0), (n1, d1), (n2, d2)]) (hp : (l.all fun x => x.2.handleName?.isNone) = true) (e0 : d0 = tabData .u64 pow10Tab) (e1 : d1 = acceptData) (e2 : d2 = firstData)
    (hn0 : n0 = "internal/strconv.uint64pow10") (hn2 : Tryz.prog.globalNamed n2 = some (Tryz.laysValid_ren.g 3)) (hn1 : Tryz.prog.globalNamed n1 = some (Tryz.laysValid_ren.g 4)) (h : laidMetH Tryz.prog l W) : TP W := by
  rw [Go.MakeChecks.laidMetH_plain _ _ _ hp] at h
  subst hl e0 e1 e2 hn0
  exact ⟨tabs_of_reads Tryz.laysValid hn2 hn1 (by kernel_rfl) (by kernel_rfl) (by kernel_rfl) (by kernel_rfl) (by kernel_rfl) (laidMet.reads h (by simp)) (laidMet.reads h (by simp)), pt_of_reads (laidMet.reads h (by simp))⟩
theorem tp_of_list7 {n3 n4 n0 n1 n5 n6 n2 : String} {d3 d4 d0 d1 d5 d6 d2 : DataW Unit} {W : World} {l : List (String × DataW Unit)} (hl : l = [(n3, d3), (n4, d4), (n0, d0), (n1, d1), (n5, d5), (n6, d6), (n2, d2)]) (hp : (l.all fun x => x.2.handleName?.isNone) = true) (e0 : d0 = tabData .u64 pow10Tab) (e1 : d1 = acceptData) (e2 : d2 = firstData)
    (hn0 : n0 = "internal/strconv.uint64pow10") (hn2 : Tryz.prog.globalNamed n2 = some (Tryz.laysValid_ren.g 3)) (hn1 : Tryz.prog.globalNamed n1 = some (Tryz.laysValid_ren.g 4)) (h : laidMetH Tryz.prog l W) : TP W := by
  rw [Go.MakeChecks.laidMetH_plain _ _ _ hp] at h
  subst hl e0 e1 e2 hn0
  exact ⟨tabs_of_reads Tryz.laysValid hn2 hn1 (by kernel_rfl) (by kernel_rfl) (by kernel_rfl) (by kernel_rfl) (by kernel_rfl) (laidMet.reads h (by simp)) (laidMet.reads h (by simp)), pt_of_reads (laidMet.reads h (by simp))⟩
end Go.Proofs.YtomcoilmpkpoeaaGreatDoor

namespace Go.Proofs.YtomcoilmpkpoeaaGreatDoor
open Go.RowKit
set_option linter.unusedVariables false
set_option linter.unusedSimpArgs false

theorem kids_sum : ∀ (ns : List RxNode), (kidsOf ns).flatten.length ≤ sumTo Sz.sz ns ns.length := by
  intro ns
  have h : ∀ k, k ≤ ns.length → ((kidsOf ns).take k).flatten.length ≤ sumTo Sz.sz ns k := by
    intro k
    induction k with
    | zero => intro _; simp
    | succ k ih =>
      intro hk
      have hk' : k < ns.length := by omega
      have e := sumTo_succ (Sz.sz : RxNode → Nat) ns k hk'
      have h1 := ih (by omega)
      have hkk : k < (kidsOf ns).length := by simpa [kidsOf] using hk'
      rw [List.take_add_one, List.getElem?_eq_getElem hkk, List.flatten_append, List.length_append, kidsOf_get hk']
      have h2 : ns[k].kids.length ≤ Sz.sz ns[k] := by
        have := sz_len ns[k].kids
        show _ ≤ Sz.sz ns[k].set + Sz.sz ns[k].kids
        omega
      simp only [Option.toList_some, List.flatten_cons, List.flatten_nil, List.append_nil]
      omega
  have := h ns.length (Nat.le_refl _)
  rw [show (kidsOf ns).take ns.length = kidsOf ns from List.take_of_length_le (by simp [kidsOf])] at this
  exact this
theorem rx_sizes {x : Rx} (h : Sz.sz x ≤ 1048576) : x.nodes.length ≤ 2000000 ∧ (kidsOf x.nodes).flatten.length ≤ 1000000000000 ∧ ∀ n ∈ x.nodes, n.kids.length ≤ 1048576 := by
  have h0 : Sz.sz x.nodes ≤ 1048576 := h
  have e : Sz.sz x.nodes = x.nodes.length + sumTo Sz.sz x.nodes x.nodes.length := rfl
  have h1 := kids_sum x.nodes
  refine ⟨by omega, by omega, fun n hn => ?_⟩
  obtain ⟨k, hk, rfl⟩ := List.mem_iff_getElem.1 hn
  have h2 := sz_each h0 k hk
  have h3 := sz_len x.nodes[k].kids
  have h4 : Sz.sz x.nodes[k] = Sz.sz x.nodes[k].set + Sz.sz x.nodes[k].kids := rfl
  omega
theorem specRxSoundL {cs : Array Value} {x : Rx} (w : World) (h : Rd.rd (Old w) w cs.toList x) (hs : Sz.sz x ≤ 1048576) :
    Calls Tryz.prog 7 #[.agg cs] w fun e w' => e = .returned (.bool (soundP x.nodes)) ∧ Below w.heap.size w w' := by
  obtain ⟨a0, c0, hcs, h0⟩ := rdRx h
  obtain rfl := arr_of_list hcs
  exact specRxSound w h0 (rx_sizes hs).1
theorem implRxSoundL {cs : Array Value} {x : Rx} (w : World) (h : Rd.rd (Old w) w cs.toList x) (hs : Sz.sz x ≤ 1048576) (hT : TP w) :
    Calls Tryz.prog 9 #[.agg cs] w fun e w' => e = .returned (.bool (soundP x.nodes)) ∧ Below w.heap.size w w' := by
  obtain ⟨a0, c0, hcs, h0⟩ := rdRx h
  obtain rfl := arr_of_list hcs
  have := rx_sizes hs
  exact implRxSound w hT.1 hT.2 h0 this.1 this.2.1 this.2.2
end Go.Proofs.YtomcoilmpkpoeaaGreatDoor

namespace Go.Proofs.YtomcoilmpkpoeaaGreatDoor
open Go.RowKit
set_option linter.unusedVariables false
set_option linter.unusedSimpArgs false

set_option maxHeartbeats 4000000 in
theorem fnExactRxSound_walk (W : World) (hT : TP W) {cs0 : Array Value} {x0 : Rx} (h0 : Rd.rd (Old W) W cs0.toList x0) :
    Calls Tryz.prog 3 #[.agg cs0] W fun e w' => e = .returned (.bool true) ∧ Below W.heap.size W w' := by
  obtain ⟨p0a0, p0c0, hcs0, p0f0⟩ := rdRx h0
  obtain rfl := arr_of_list hcs0
  clear hcs0
  by_cases hz0 : (Sz.sz x0 : Int) ≤ 1048576
  rotate_left
  · go_enter Tryz.func3, Tryz.ntmps3
    go_wp2_with fail
    refine (szRx_any _ _ (by exact Rd.later (by repeat' (first | (with_reducible exact Below.refl _ _) | (with_reducible refine ext_trans ?_ (ext_alloc _ _)) | (with_reducible refine Below.drew ?_) | (with_reducible refine Below.setCell ?_ ?_ _) | (simp; done) | (simp; omega) | omega)) h0) (by omega) (by omega)).mono ?_
    rintro e w0 ⟨rfl, hb0⟩
    rw [szOut_bad (by omega)]
    obtain ⟨hc0, hf0⟩ := bcell hb0
    have hl0_0 : W.heap.size < w0.heap.size := by have := hb0.size; (try simp at this); omega
    go_wp2
    go_ret
    exact ⟨rfl, (by repeat' (first | (with_reducible exact Below.refl _ _) | (with_reducible refine ext_trans ?_ hb0) | (with_reducible refine ext_trans ?_ (ext_alloc _ _)) | (with_reducible refine Below.drew ?_) | (with_reducible refine Below.setCell ?_ ?_ _) | (simp; done) | (simp; omega) | omega))⟩
  go_enter Tryz.func3, Tryz.ntmps3
  go_wp2_with fail
  refine (szRx_any _ _ (by exact Rd.later (by repeat' (first | (with_reducible exact Below.refl _ _) | (with_reducible refine ext_trans ?_ (ext_alloc _ _)) | (with_reducible refine Below.drew ?_) | (with_reducible refine Below.setCell ?_ ?_ _) | (simp; done) | (simp; omega) | omega)) h0) (by omega) (by omega)).mono ?_
  rintro e w0 ⟨rfl, hb0⟩
  rw [szOut_val (by omega)]
  obtain ⟨hc0, hf0⟩ := bcell hb0
  have hl0_0 : W.heap.size < w0.heap.size := by have := hb0.size; (try simp at this); omega
  have hzz0 : Sz.sz x0 ≤ 1048576 := by omega
  go_wp2_with fail
  refine (toRx_any _ (by exact Rd.later (by repeat' (first | (with_reducible exact Below.refl _ _) | (with_reducible refine ext_trans ?_ hb0) | (with_reducible refine ext_trans ?_ (ext_alloc _ _)) | (with_reducible refine Below.drew ?_) | (with_reducible refine Below.setCell ?_ ?_ _) | (simp; done) | (simp; omega) | omega)) h0) hzz0).mono ?_
  rintro e w1 ⟨q1, rfl, hr1, hb1⟩
  replace hr1 := Rd.old hr1
  obtain ⟨q1a0, q1c0, hcs1, q1f0⟩ := rdRx hr1
  obtain rfl := arr_of_list hcs1
  clear hcs1 q1f0
  obtain ⟨hc1, hf1⟩ := bcell hb1
  have hl1_0 : W.heap.size < w1.heap.size := by have := hb1.size; (try simp at this); omega
  go_wp2_with fail
  refine (specRxSoundL  _ (by exact Rd.later (by repeat' (first | (with_reducible exact Below.refl _ _) | (with_reducible refine ext_trans ?_ hb1) | (with_reducible refine ext_trans ?_ hb0) | (with_reducible refine ext_trans ?_ (ext_alloc _ _)) | (with_reducible refine Below.drew ?_) | (with_reducible refine Below.setCell ?_ ?_ _) | (simp; done) | (simp; omega) | omega)) hr1) (by omega)).mono ?_
  rintro e w2 ⟨rfl, hb2⟩
  obtain ⟨hc2, hf2⟩ := bcell hb2
  have hl2_0 : W.heap.size < w2.heap.size := by have := hb2.size; (try simp at this); omega
  go_wp2_with fail
  refine (toRx_any _ (by exact Rd.later (by repeat' (first | (with_reducible exact Below.refl _ _) | (with_reducible refine ext_trans ?_ hb2) | (with_reducible refine ext_trans ?_ hb1) | (with_reducible refine ext_trans ?_ hb0) | (with_reducible refine ext_trans ?_ (ext_alloc _ _)) | (with_reducible refine Below.drew ?_) | (with_reducible refine Below.setCell ?_ ?_ _) | (simp; done) | (simp; omega) | omega)) h0) hzz0).mono ?_
  rintro e w3 ⟨q3, rfl, hr3, hb3⟩
  replace hr3 := Rd.old hr3
  obtain ⟨q3a0, q3c0, hcs3, q3f0⟩ := rdRx hr3
  obtain rfl := arr_of_list hcs3
  clear hcs3 q3f0
  obtain ⟨hc3, hf3⟩ := bcell hb3
  have hl3_0 : W.heap.size < w3.heap.size := by have := hb3.size; (try simp at this); omega
  go_wp2_with fail
  refine (implRxSoundL  _ (by exact Rd.later (by repeat' (first | (with_reducible exact Below.refl _ _) | (with_reducible refine ext_trans ?_ hb3) | (with_reducible refine ext_trans ?_ hb2) | (with_reducible refine ext_trans ?_ hb1) | (with_reducible refine ext_trans ?_ hb0) | (with_reducible refine ext_trans ?_ (ext_alloc _ _)) | (with_reducible refine Below.drew ?_) | (with_reducible refine Below.setCell ?_ ?_ _) | (simp; done) | (simp; omega) | omega)) hr3) (by omega) (tp_below hT (by repeat' (first | (with_reducible exact Below.refl _ _) | (with_reducible refine ext_trans ?_ hb3) | (with_reducible refine ext_trans ?_ hb2) | (with_reducible refine ext_trans ?_ hb1) | (with_reducible refine ext_trans ?_ hb0) | (with_reducible refine ext_trans ?_ (ext_alloc _ _)) | (with_reducible refine Below.drew ?_) | (with_reducible refine Below.setCell ?_ ?_ _) | (simp; done) | (simp; omega) | omega)))).mono ?_
  rintro e w4 ⟨rfl, hb4⟩
  obtain ⟨hc4, hf4⟩ := bcell hb4
  have hl4_0 : W.heap.size < w4.heap.size := by have := hb4.size; (try simp at this); omega
  have hl4_1 : w3.heap.size < w4.heap.size := by have := hb4.size; (try simp at this); omega
  go_wp2_with fail
  have d_x0_0 : w4.cell? ⟨w3.heap.size, 0, none⟩ = some (.slice q3a0 x0.nodes.length q3c0) := keeps_cells ((by repeat' (first | (with_reducible exact Below.refl _ _) | (with_reducible refine ext_trans ?_ hb4) | (with_reducible refine ext_trans ?_ hb3) | (with_reducible refine ext_trans ?_ hb2) | (with_reducible refine ext_trans ?_ hb1) | (with_reducible refine ext_trans ?_ hb0) | (with_reducible refine ext_trans ?_ (ext_alloc _ _)) | (with_reducible refine Below.drew ?_) | (with_reducible refine Below.setCell ?_ ?_ _) | (simp; done) | (simp; omega) | omega)) : Below (w3.alloc (.cells #[.slice q3a0 x0.nodes.length q3c0] 29)).heap.size (w3.alloc (.cells #[.slice q3a0 x0.nodes.length q3c0] 29)) w4) _ _ (by simp)
  have d_aX_0 : w4.cell? ⟨W.heap.size, 0, none⟩ = some (.slice p0a0 x0.nodes.length p0c0) := keeps_cells ((by repeat' (first | (with_reducible exact Below.refl _ _) | (with_reducible refine ext_trans ?_ hb4) | (with_reducible refine ext_trans ?_ hb3) | (with_reducible refine ext_trans ?_ hb2) | (with_reducible refine ext_trans ?_ hb1) | (with_reducible refine ext_trans ?_ hb0) | (with_reducible refine ext_trans ?_ (ext_alloc _ _)) | (with_reducible refine Below.drew ?_) | (with_reducible refine Below.setCell ?_ ?_ _) | (simp; done) | (simp; omega) | omega)) : Below (W.alloc (.cells #[.slice p0a0 x0.nodes.length p0c0] 24)).heap.size (W.alloc (.cells #[.slice p0a0 x0.nodes.length p0c0] 24)) w4) _ _ (by simp)
  go_region_held3 (fun w' => w'.cell? ⟨w3.heap.size, 0, none⟩ = some (.slice q3a0 x0.nodes.length q3c0) ∧ w'.cell? ⟨W.heap.size, 0, none⟩ = some (.slice p0a0 x0.nodes.length p0c0)) (simp [*])
    (first | (go_at_call 8; refine (toRx_any _ (by exact Rd.later (by repeat' (first | (with_reducible exact Below.refl _ _) | (with_reducible refine ext_trans ?_ hb4) | (with_reducible refine ext_trans ?_ hb3) | (with_reducible refine ext_trans ?_ hb2) | (with_reducible refine ext_trans ?_ hb1) | (with_reducible refine ext_trans ?_ hb0) | (with_reducible refine ext_trans ?_ (ext_alloc _ _)) | (with_reducible refine Below.drew ?_) | (with_reducible refine Below.setCell ?_ ?_ _) | (simp; done) | (simp; omega) | omega)) h0) hzz0).mono ?_; rintro e w5 ⟨q5, rfl, hr5, hb5⟩; replace hr5 := Rd.old hr5; have hkc5 := keeps_cells hb5) | (go_at_call 10; refine (eqRx_same _ (by exact Rd.later (by repeat' (first | (with_reducible exact Below.refl _ _) | (with_reducible refine ext_trans ?_ hb5) | (with_reducible refine ext_trans ?_ hb4) | (with_reducible refine ext_trans ?_ hb3) | (with_reducible refine ext_trans ?_ hb2) | (with_reducible refine ext_trans ?_ hb1) | (with_reducible refine ext_trans ?_ hb0) | (with_reducible refine ext_trans ?_ (ext_alloc _ _)) | (with_reducible refine Below.drew ?_) | (with_reducible refine Below.setCell ?_ ?_ _) | (simp; done) | (simp; omega) | omega)) hr3) (by exact Rd.later (by repeat' (first | (with_reducible exact Below.refl _ _) | (with_reducible refine ext_trans ?_ hb5) | (with_reducible refine ext_trans ?_ hb4) | (with_reducible refine ext_trans ?_ hb3) | (with_reducible refine ext_trans ?_ hb2) | (with_reducible refine ext_trans ?_ hb1) | (with_reducible refine ext_trans ?_ hb0) | (with_reducible refine ext_trans ?_ (ext_alloc _ _)) | (with_reducible refine Below.drew ?_) | (with_reducible refine Below.setCell ?_ ?_ _) | (simp; done) | (simp; omega) | omega)) hr5)).mono ?_; rintro e w6 ⟨rfl, hb6⟩; have hkc6 := keeps_cells hb6))
  go_wp2
  go_ret
  exact ⟨rfl, (by repeat' (first | (with_reducible exact Below.refl _ _) | (with_reducible refine ext_trans ?_ hb6) | (with_reducible refine ext_trans ?_ hb5) | (with_reducible refine ext_trans ?_ hb4) | (with_reducible refine ext_trans ?_ hb3) | (with_reducible refine ext_trans ?_ hb2) | (with_reducible refine ext_trans ?_ hb1) | (with_reducible refine ext_trans ?_ hb0) | (with_reducible refine ext_trans ?_ (ext_alloc _ _)) | (with_reducible refine Below.drew ?_) | (with_reducible refine Below.setCell ?_ ?_ _) | (simp; done) | (simp; omega) | omega))⟩
end Go.Proofs.YtomcoilmpkpoeaaGreatDoor
