/-
  What is proved here: the laws' sizes, copies and comparisons of the program's structs. No condition. Written by gensz.py.
-/
import Derived.Test.YtflleebdfddkfaaDoorStr
import Derived.Deep.RegionHeld3
namespace Go.Proofs.YtflleebdfddkfaaDoor
open Go.RowKit
set_option linter.unusedVariables false
set_option linter.unusedSimpArgs false
theorem rdIns {S : Nat → Prop} {w : World} {cs : List Value} {x : Ins} (h : Rd.rd S w cs x) : cs = [.int .i64 x.op, .int .i64 x.place, .int .i64 x.a, .int .i64 x.b, .string x.s] ∧ (-9223372036854775808 ≤ x.op ∧ x.op ≤ 9223372036854775807) ∧ (-9223372036854775808 ≤ x.place ∧ x.place ≤ 9223372036854775807) ∧ (-9223372036854775808 ≤ x.a ∧ x.a ≤ 9223372036854775807) ∧ (-9223372036854775808 ≤ x.b ∧ x.b ≤ 9223372036854775807) ∧ (x.s.size ≤ 9223372036854775807) := by
  obtain ⟨_, _, rfl, ⟨rfl, h0⟩, ⟨_, _, rfl, ⟨rfl, h1⟩, ⟨_, _, rfl, ⟨rfl, h2⟩, ⟨_, _, rfl, ⟨rfl, h3⟩, ⟨rfl, h4⟩⟩⟩⟩⟩ := h
  exact ⟨rfl, h0, h1, h2, h3, h4⟩
theorem rdIns_mk {S : Nat → Prop} {w : World} {x : Ins} (h0 : -9223372036854775808 ≤ x.op ∧ x.op ≤ 9223372036854775807) (h1 : -9223372036854775808 ≤ x.place ∧ x.place ≤ 9223372036854775807) (h2 : -9223372036854775808 ≤ x.a ∧ x.a ≤ 9223372036854775807) (h3 : -9223372036854775808 ≤ x.b ∧ x.b ≤ 9223372036854775807) (h4 : x.s.size ≤ 9223372036854775807) : Rd.rd S w [.int .i64 x.op, .int .i64 x.place, .int .i64 x.a, .int .i64 x.b, .string x.s] x :=
  ⟨_, _, rfl, ⟨rfl, h0⟩, ⟨_, _, rfl, ⟨rfl, h1⟩, ⟨_, _, rfl, ⟨rfl, h2⟩, ⟨_, _, rfl, ⟨rfl, h3⟩, ⟨rfl, h4⟩⟩⟩⟩⟩
instance : Sz Ins := ⟨fun x => x.s.size⟩
set_option maxHeartbeats 1000000 in
theorem szIns_any {cs : Array Value} {x : Ins} (left : Int) (w : World) (h : Rd.rd (Old w) w cs.toList x) (h3 : 0 ≤ left) (h4 : left ≤ 1048576) :
    Calls Tryd.prog 9 #[.agg cs, .int .i64 left] w fun e w' => e = .returned (.int .i64 (szOut left (Sz.sz x))) ∧ Below w.heap.size w w' := by
  obtain ⟨hcs, f0, f1, f2, f3, f4⟩ := rdIns h
  obtain rfl := arr_of_list hcs
  clear hcs
  have hsz : Sz.sz x = x.s.size := rfl
  rw [hsz]; clear hsz
  by_cases k0 : (x.s.size : Int) ≤ left
  · skip
    go_enter Tryd.func9, Tryd.ntmps9
    go_wp2_with fail
    go_wp2
    go_ret
    exact ⟨end_int (by rw [szOut_val (by omega)] <;> omega), (ext_alloc _ _)⟩
  · skip
    go_enter Tryd.func9, Tryd.ntmps9
    go_wp2_with fail
    go_wp2
    go_ret
    exact ⟨end_int (by rw [szOut_bad (by omega)]), (ext_alloc _ _)⟩
set_option maxHeartbeats 2000000 in
theorem toIns_any {cs : Array Value} {x : Ins} (w : World) (h : Rd.rd (Old w) w cs.toList x) (hn : Sz.sz x ≤ 1048576) :
    Calls Tryd.prog 11 #[.agg cs] w fun e w' => ∃ cs' : Array Value, e = .returned (.agg cs') ∧ Rd.rd (New w.heap.size w') w' cs'.toList x ∧ Below w.heap.size w w' := by
  obtain ⟨hcs, f0, f1, f2, f3, f4⟩ := rdIns h
  obtain rfl := arr_of_list hcs
  clear hcs h
  clear hn
  go_enter Tryd.func11, Tryd.ntmps11
  go_wp2
  refine bodyPost_ret (v := .agg #[.int .i64 x.op, .int .i64 x.place, .int .i64 x.a, .int .i64 x.b, .string x.s]) (by simp [results, Tryd.results11, go_sem]) rfl ⟨_, rfl, ?_, ?_⟩
  · exact rdIns_mk f0 f1 f2 f3 f4
  · exact (by repeat' (first | (with_reducible exact Below.refl _ _) | (with_reducible refine Below.setCell ?_ ?_ _) | (with_reducible refine Below.alloc ?_ ?_ _) | (simp; done) | (simp; omega) | omega))

end Go.Proofs.YtflleebdfddkfaaDoor
