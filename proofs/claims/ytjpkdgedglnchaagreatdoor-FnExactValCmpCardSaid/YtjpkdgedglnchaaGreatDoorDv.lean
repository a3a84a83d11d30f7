/-
  What is proved here: the laws' sizes, copies and comparisons of the program's structs. No condition. Written by gensz.py.
-/
import Derived.Test.YtjpkdgedglnchaaGreatDoorStr
import Derived.Deep.RegionHeld3
namespace Go.Proofs.YtjpkdgedglnchaaGreatDoor
open Go.RowKit
set_option linter.unusedVariables false
set_option linter.unusedSimpArgs false
theorem rdDec {S : Nat → Prop} {w : World} {cs : List Value} {x : Dec} (h : Rd.rd S w cs x) : cs = [.bool x.neg, .string x.dig, .int .i64 x.exp] ∧ (x.dig.size ≤ 9223372036854775807) ∧ (-9223372036854775808 ≤ x.exp ∧ x.exp ≤ 9223372036854775807) := by
  obtain ⟨_, _, rfl, rfl, ⟨_, _, rfl, ⟨rfl, h1⟩, ⟨rfl, h2⟩⟩⟩ := h
  exact ⟨rfl, h1, h2⟩
theorem rdDec_mk {S : Nat → Prop} {w : World} {x : Dec} (h0 : x.dig.size ≤ 9223372036854775807) (h1 : -9223372036854775808 ≤ x.exp ∧ x.exp ≤ 9223372036854775807) : Rd.rd S w [.bool x.neg, .string x.dig, .int .i64 x.exp] x :=
  ⟨_, _, rfl, rfl, ⟨_, _, rfl, ⟨rfl, h0⟩, ⟨rfl, h1⟩⟩⟩
instance : Sz Dec := ⟨fun x => x.dig.size⟩
set_option maxHeartbeats 1000000 in
theorem szDec_any {cs : Array Value} {x : Dec} (left : Int) (w : World) (h : Rd.rd (Old w) w cs.toList x) (h3 : 0 ≤ left) (h4 : left ≤ 1048576) :
    Calls Tryz.prog 15 #[.agg cs, .int .i64 left] w fun e w' => e = .returned (.int .i64 (szOut left (Sz.sz x))) ∧ Below w.heap.size w w' := by
  obtain ⟨hcs, f1, f2⟩ := rdDec h
  obtain rfl := arr_of_list hcs
  clear hcs
  have hsz : Sz.sz x = x.dig.size := rfl
  rw [hsz]; clear hsz
  by_cases k0 : (x.dig.size : Int) ≤ left
  · skip
    go_enter Tryz.func15, Tryz.ntmps15
    go_wp2_with fail
    go_wp2
    go_ret
    exact ⟨end_int (by rw [szOut_val (by omega)] <;> omega), (ext_alloc _ _)⟩
  · skip
    go_enter Tryz.func15, Tryz.ntmps15
    go_wp2_with fail
    go_wp2
    go_ret
    exact ⟨end_int (by rw [szOut_bad (by omega)]), (ext_alloc _ _)⟩
set_option maxHeartbeats 2000000 in
theorem toDec_any {cs : Array Value} {x : Dec} (w : World) (h : Rd.rd (Old w) w cs.toList x) (hn : Sz.sz x ≤ 1048576) :
    Calls Tryz.prog 18 #[.agg cs] w fun e w' => ∃ cs' : Array Value, e = .returned (.agg cs') ∧ Rd.rd (New w.heap.size w') w' cs'.toList x ∧ Below w.heap.size w w' := by
  obtain ⟨hcs, f1, f2⟩ := rdDec h
  obtain rfl := arr_of_list hcs
  clear hcs h
  clear hn
  go_enter Tryz.func18, Tryz.ntmps18
  go_wp2
  refine bodyPost_ret (v := .agg #[.bool x.neg, .string x.dig, .int .i64 x.exp]) (by simp [results, Tryz.results18, go_sem]) rfl ⟨_, rfl, ?_, ?_⟩
  · exact rdDec_mk f1 f2
  · exact (by repeat' (first | (with_reducible exact Below.refl _ _) | (with_reducible refine Below.setCell ?_ ?_ _) | (with_reducible refine Below.alloc ?_ ?_ _) | (simp; done) | (simp; omega) | omega))
set_option maxHeartbeats 2000000 in
theorem eqDec_same {cs cs' : Array Value} {x : Dec} (w : World) (h : Rd.rd (Old w) w cs.toList x) (h' : Rd.rd (Old w) w cs'.toList x) :
    Calls Tryz.prog 10 #[.agg cs, .agg cs'] w fun e w' => e = .returned (.bool true) ∧ Below w.heap.size w w' := by
  obtain ⟨hcs, f1, f2⟩ := rdDec h
  obtain rfl := arr_of_list hcs
  obtain ⟨hcs', gf1, gf2⟩ := rdDec h'
  obtain rfl := arr_of_list hcs'
  clear hcs hcs' h h'
  go_enter Tryz.func10, Tryz.ntmps10
  go_wp2
  go_ret
  exact ⟨rfl, (by repeat' (first | (with_reducible exact Below.refl _ _) | (with_reducible refine Below.setCell ?_ ?_ _) | (with_reducible refine Below.alloc ?_ ?_ _) | (simp; done) | (simp; omega) | omega))⟩

theorem rdVal {S : Nat → Prop} {w : World} {cs : List Value} {x : Val} (h : Rd.rd S w cs x) : cs = [.int .i64 x.kind, .bool x.num.neg, .string x.num.dig, .int .i64 x.num.exp, .string x.text] ∧ (-9223372036854775808 ≤ x.kind ∧ x.kind ≤ 9223372036854775807) ∧ (x.num.dig.size ≤ 9223372036854775807) ∧ (-9223372036854775808 ≤ x.num.exp ∧ x.num.exp ≤ 9223372036854775807) ∧ (x.text.size ≤ 9223372036854775807) := by
  obtain ⟨_, _, rfl, ⟨rfl, h0⟩, ⟨_, _, rfl, ⟨_, _, rfl, rfl, ⟨_, _, rfl, ⟨rfl, h2⟩, ⟨rfl, h3⟩⟩⟩, ⟨rfl, h4⟩⟩⟩ := h
  exact ⟨rfl, h0, h2, h3, h4⟩
theorem rdVal_mk {S : Nat → Prop} {w : World} {x : Val} (h0 : -9223372036854775808 ≤ x.kind ∧ x.kind ≤ 9223372036854775807) (h1 : x.num.dig.size ≤ 9223372036854775807) (h2 : -9223372036854775808 ≤ x.num.exp ∧ x.num.exp ≤ 9223372036854775807) (h3 : x.text.size ≤ 9223372036854775807) : Rd.rd S w [.int .i64 x.kind, .bool x.num.neg, .string x.num.dig, .int .i64 x.num.exp, .string x.text] x :=
  ⟨_, _, rfl, ⟨rfl, h0⟩, ⟨_, _, rfl, ⟨_, _, rfl, rfl, ⟨_, _, rfl, ⟨rfl, h1⟩, ⟨rfl, h2⟩⟩⟩, ⟨rfl, h3⟩⟩⟩
instance : Sz Val := ⟨fun x => Sz.sz x.num + x.text.size⟩
set_option maxHeartbeats 1000000 in
theorem szVal_any {cs : Array Value} {x : Val} (left : Int) (w : World) (h : Rd.rd (Old w) w cs.toList x) (h3 : 0 ≤ left) (h4 : left ≤ 1048576) :
    Calls Tryz.prog 6 #[.agg cs, .int .i64 left] w fun e w' => e = .returned (.int .i64 (szOut left (Sz.sz x))) ∧ Below w.heap.size w w' := by
  obtain ⟨hcs, f0, f2, f3, f4⟩ := rdVal h
  obtain rfl := arr_of_list hcs
  clear hcs
  have hsz : Sz.sz x = Sz.sz x.num + x.text.size := rfl
  rw [hsz]; clear hsz
  generalize hg_num : Sz.sz x.num = n_num
  have Hg_num := hid hg_num; clear hg_num
  by_cases k0 : (n_num : Int) ≤ left
  · skip
    by_cases k1 : (n_num : Int) + (x.text.size : Int) ≤ left
    · skip
      go_enter Tryz.func6, Tryz.ntmps6
      go_wp2_with fail
      refine (szDec_any _ _ (by exact rdDec_mk f2 f3) (by omega) (by omega)).mono ?_
      rintro e w1 ⟨rfl, hb0⟩
      rw [Hg_num.out, szOut_val (by omega)]
      obtain ⟨hc0, hf0⟩ := bcell hb0
      have hl0 : w.heap.size < w1.heap.size := by have := hb0.size; (try simp at this); omega
      go_wp2
      go_ret
      exact ⟨end_int (by rw [szOut_val (by omega)] <;> omega), (ext_trans (ext_alloc _ _) hb0)⟩
    · skip
      go_enter Tryz.func6, Tryz.ntmps6
      go_wp2_with fail
      refine (szDec_any _ _ (by exact rdDec_mk f2 f3) (by omega) (by omega)).mono ?_
      rintro e w1 ⟨rfl, hb0⟩
      rw [Hg_num.out, szOut_val (by omega)]
      obtain ⟨hc0, hf0⟩ := bcell hb0
      have hl0 : w.heap.size < w1.heap.size := by have := hb0.size; (try simp at this); omega
      go_wp2
      go_ret
      exact ⟨end_int (by rw [szOut_bad (by omega)]), (ext_trans (ext_alloc _ _) hb0)⟩
  · skip
    go_enter Tryz.func6, Tryz.ntmps6
    go_wp2_with fail
    refine (szDec_any _ _ (by exact rdDec_mk f2 f3) (by omega) (by omega)).mono ?_
    rintro e w1 ⟨rfl, hb0⟩
    rw [Hg_num.out, szOut_bad (by omega)]
    obtain ⟨hc0, hf0⟩ := bcell hb0
    have hl0 : w.heap.size < w1.heap.size := by have := hb0.size; (try simp at this); omega
    go_wp2
    go_ret
    exact ⟨end_int (by rw [szOut_bad (by omega)]), (ext_trans (ext_alloc _ _) hb0)⟩
set_option maxHeartbeats 2000000 in
theorem toVal_any {cs : Array Value} {x : Val} (w : World) (h : Rd.rd (Old w) w cs.toList x) (hn : Sz.sz x ≤ 1048576) :
    Calls Tryz.prog 8 #[.agg cs] w fun e w' => ∃ cs' : Array Value, e = .returned (.agg cs') ∧ Rd.rd (New w.heap.size w') w' cs'.toList x ∧ Below w.heap.size w w' := by
  obtain ⟨hcs, f0, f2, f3, f4⟩ := rdVal h
  obtain rfl := arr_of_list hcs
  clear hcs h
  have hn_num : Sz.sz x.num ≤ 1048576 := Nat.le_trans (by show _ ≤ Sz.sz x.num + x.text.size; omega) hn
  have HN := hid hn
  clear hn
  go_enter Tryz.func8, Tryz.ntmps8
  go_wp2_with fail
  refine (toDec_any _ (by exact rdDec_mk f2 f3) hn_num).mono ?_
  rintro e w1 ⟨r0, rfl, hr0, hb0⟩
  obtain ⟨hcs0, r0_f1, r0_f2⟩ := rdDec hr0
  obtain rfl := arr_of_list hcs0
  clear hcs0
  have hB1 : Below w.heap.size w w1 := ext_trans (by repeat' (first | (with_reducible exact Below.refl _ _) | (with_reducible refine Below.setCell ?_ ?_ _) | (with_reducible refine Below.alloc ?_ ?_ _) | (simp; done) | (simp; omega) | omega)) hb0
  obtain ⟨hc0, hf0⟩ := bcell hb0
  have hl0 : w.heap.size + 1 + 1 < w1.heap.size := by have := hb0.size; (try simp at this); omega
  have hl0' : w.heap.size + 1 < w1.heap.size := by omega
  have hl0'' : w.heap.size < w1.heap.size := by omega
  go_wp2
  refine bodyPost_ret (v := .agg #[.int .i64 x.kind, .bool x.num.neg, .string x.num.dig, .int .i64 x.num.exp, .string x.text]) (by simp [results, Tryz.results8, go_sem, hc0, hl0']) rfl ⟨_, rfl, ?_, ?_⟩
  · exact rdVal_mk f0 f2 f3 f4
  · exact (by repeat' (first | (with_reducible exact hB1) | (with_reducible exact Below.refl _ _) | (with_reducible refine Below.setCell ?_ ?_ _) | (with_reducible refine Below.alloc ?_ ?_ _) | (simp; done) | (simp; omega) | omega))


theorem rdArr {S : Nat → Prop} {w : World} {cs : List Value} {x : Arr} (h : Rd.rd S w cs x) : ∃ (a0 : Option Addr) (c0 : Nat), ∃ (a1 : Option Addr) (c1 : Nat), cs = [.slice a0 x.keys.length c0, .slice a1 x.vals.length c1] ∧ (Rd.rd S w [.slice a0 x.keys.length c0] x.keys) ∧ (Rd.rd S w [.slice a1 x.vals.length c1] x.vals) := by
  obtain ⟨_, _, rfl, h0, h1⟩ := h
  obtain ⟨a0, c0, e0⟩ := rdSlc h0
  subst e0
  obtain ⟨a1, c1, e1⟩ := rdSlc h1
  subst e1
  exact ⟨a0, c0, a1, c1, rfl, h0, h1⟩
theorem rdArr_mk {S : Nat → Prop} {w : World} {x : Arr} {a0 : Option Addr} {c0 : Nat} {a1 : Option Addr} {c1 : Nat} (h0 : Rd.rd S w [.slice a0 x.keys.length c0] x.keys) (h1 : Rd.rd S w [.slice a1 x.vals.length c1] x.vals) : Rd.rd S w [.slice a0 x.keys.length c0, .slice a1 x.vals.length c1] x :=
  ⟨_, _, rfl, h0, h1⟩
instance : Sz Arr := ⟨fun x => Sz.sz x.keys + Sz.sz x.vals⟩

theorem rdLeaf {S : Nat → Prop} {w : World} {cs : List Value} {x : Leaf} (h : Rd.rd S w cs x) : cs = [.string x.path, .int .i64 x.kind, .string x.text] ∧ (x.path.size ≤ 9223372036854775807) ∧ (-9223372036854775808 ≤ x.kind ∧ x.kind ≤ 9223372036854775807) ∧ (x.text.size ≤ 9223372036854775807) := by
  obtain ⟨_, _, rfl, ⟨rfl, h0⟩, ⟨_, _, rfl, ⟨rfl, h1⟩, ⟨rfl, h2⟩⟩⟩ := h
  exact ⟨rfl, h0, h1, h2⟩
theorem rdLeaf_mk {S : Nat → Prop} {w : World} {x : Leaf} (h0 : x.path.size ≤ 9223372036854775807) (h1 : -9223372036854775808 ≤ x.kind ∧ x.kind ≤ 9223372036854775807) (h2 : x.text.size ≤ 9223372036854775807) : Rd.rd S w [.string x.path, .int .i64 x.kind, .string x.text] x :=
  ⟨_, _, rfl, ⟨rfl, h0⟩, ⟨_, _, rfl, ⟨rfl, h1⟩, ⟨rfl, h2⟩⟩⟩
instance : Sz Leaf := ⟨fun x => x.path.size + x.text.size⟩


end Go.Proofs.YtjpkdgedglnchaaGreatDoor
