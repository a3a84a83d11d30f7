/-
  What is proved here: the laws' sizes, copies and comparisons of the program's structs. No condition. Written by gensz.py.
-/
import Derived.Test.YtomcoilmpkpoeaaGreatDoorQA
import Derived.Deep.RegionHeld3
namespace Go.Proofs.YtomcoilmpkpoeaaGreatDoor
open Go.RowKit
set_option linter.unusedVariables false
set_option linter.unusedSimpArgs false

theorem keeps_setAll {B : Nat} {w1 : World} {g : Nat} (o : Nat) : ∀ (i : Nat) (cs : List Value) {W : World}, Keeps B w1 W → g < B → Keeps B w1 (setAll W g o i cs)
  | _, [], _, h, _ => h
  | i, c :: r, _, h, hg => keeps_setAll o (i + 1) r (h.set hg c) hg
theorem below_setAll {B : Nat} {w1 : World} {g : Nat} (o : Nat) : ∀ (i : Nat) (cs : List Value) {W : World}, Below B w1 W → B ≤ g → Below B w1 (setAll W g o i cs)
  | _, [], _, h, _ => h
  | i, c :: r, _, h, hg => below_setAll o (i + 1) r (h.setCell hg c) hg
theorem blk_stay {W w1 : World} {g : Nat} {o : Obj} (h : W.heap[g]? = some o) (hb : Below W.heap.size W w1) : w1.heap[g]? = some o := (hb.block g (Array.getElem?_eq_some_iff.1 h).1).trans h
theorem blk_set {W : World} {g : Nat} {p : Addr} {o : Obj} (h : W.heap[g]? = some o) (hp : g ≠ p.block) (u : Value) : (W.setCell p u).heap[g]? = some o := (Below.heap_setCell W p u g hp).trans h
theorem blk_alloc {W : World} {g : Nat} {o : Obj} (h : W.heap[g]? = some o) (o' : Obj) : (W.alloc o').heap[g]? = some o := blk_stay h (ext_alloc W o')
theorem rdConf {S : Nat → Prop} {w : World} {cs : List Value} {x : Conf} (h : Rd.rd S w cs x) : cs = [.int .i64 x.tag, .string x.fs, .string x.rs, .string x.ofs, .string x.ors, .bool x.head] ∧ (-9223372036854775808 ≤ x.tag ∧ x.tag ≤ 9223372036854775807) ∧ (x.fs.size ≤ 9223372036854775807) ∧ (x.rs.size ≤ 9223372036854775807) ∧ (x.ofs.size ≤ 9223372036854775807) ∧ (x.ors.size ≤ 9223372036854775807) := by
  obtain ⟨_, _, rfl, ⟨rfl, h0⟩, ⟨_, _, rfl, ⟨rfl, h1⟩, ⟨_, _, rfl, ⟨rfl, h2⟩, ⟨_, _, rfl, ⟨rfl, h3⟩, ⟨_, _, rfl, ⟨rfl, h4⟩, rfl⟩⟩⟩⟩⟩ := h
  exact ⟨rfl, h0, h1, h2, h3, h4⟩
theorem rdConf_mk {S : Nat → Prop} {w : World} {x : Conf} (h0 : -9223372036854775808 ≤ x.tag ∧ x.tag ≤ 9223372036854775807) (h1 : x.fs.size ≤ 9223372036854775807) (h2 : x.rs.size ≤ 9223372036854775807) (h3 : x.ofs.size ≤ 9223372036854775807) (h4 : x.ors.size ≤ 9223372036854775807) : Rd.rd S w [.int .i64 x.tag, .string x.fs, .string x.rs, .string x.ofs, .string x.ors, .bool x.head] x :=
  ⟨_, _, rfl, ⟨rfl, h0⟩, ⟨_, _, rfl, ⟨rfl, h1⟩, ⟨_, _, rfl, ⟨rfl, h2⟩, ⟨_, _, rfl, ⟨rfl, h3⟩, ⟨_, _, rfl, ⟨rfl, h4⟩, rfl⟩⟩⟩⟩⟩
instance : Sz Conf := ⟨fun x => x.fs.size + x.rs.size + x.ofs.size + x.ors.size⟩

theorem rdFile {S : Nat → Prop} {w : World} {cs : List Value} {x : File} (h : Rd.rd S w cs x) : cs = [.string x.name, .string x.text] ∧ (x.name.size ≤ 9223372036854775807) ∧ (x.text.size ≤ 9223372036854775807) := by
  obtain ⟨_, _, rfl, ⟨rfl, h0⟩, ⟨rfl, h1⟩⟩ := h
  exact ⟨rfl, h0, h1⟩
theorem rdFile_mk {S : Nat → Prop} {w : World} {x : File} (h0 : x.name.size ≤ 9223372036854775807) (h1 : x.text.size ≤ 9223372036854775807) : Rd.rd S w [.string x.name, .string x.text] x :=
  ⟨_, _, rfl, ⟨rfl, h0⟩, ⟨rfl, h1⟩⟩
instance : Sz File := ⟨fun x => x.name.size + x.text.size⟩


end Go.Proofs.YtomcoilmpkpoeaaGreatDoor
