/-
  What is proved here: the laws' sizes, copies and comparisons of the program's structs. No condition. Written by gensz.py.
-/
import Derived.Test.YtlfkfofeenakhaaDoorStr
import Derived.Deep.RegionHeld3
namespace Go.Proofs.YtlfkfofeenakhaaDoor
open Go.RowKit
set_option linter.unusedVariables false
set_option linter.unusedSimpArgs false
theorem rdDec {S : Nat → Prop} {w : World} {cs : List Value} {x : Dec} (h : Rd.rd S w cs x) : cs = [.bool x.neg, .string x.dig, .int .i64 x.exp] ∧ (x.dig.size ≤ 9223372036854775807) ∧ (-9223372036854775808 ≤ x.exp ∧ x.exp ≤ 9223372036854775807) := by
  obtain ⟨_, _, rfl, rfl, ⟨_, _, rfl, ⟨rfl, h1⟩, ⟨rfl, h2⟩⟩⟩ := h
  exact ⟨rfl, h1, h2⟩
theorem rdDec_mk {S : Nat → Prop} {w : World} {x : Dec} (h0 : x.dig.size ≤ 9223372036854775807) (h1 : -9223372036854775808 ≤ x.exp ∧ x.exp ≤ 9223372036854775807) : Rd.rd S w [.bool x.neg, .string x.dig, .int .i64 x.exp] x :=
  ⟨_, _, rfl, rfl, ⟨_, _, rfl, ⟨rfl, h0⟩, ⟨rfl, h1⟩⟩⟩
instance : Sz Dec := ⟨fun x => x.dig.size⟩

theorem rdVal {S : Nat → Prop} {w : World} {cs : List Value} {x : Val} (h : Rd.rd S w cs x) : cs = [.int .i64 x.kind, .bool x.num.neg, .string x.num.dig, .int .i64 x.num.exp, .string x.text] ∧ (-9223372036854775808 ≤ x.kind ∧ x.kind ≤ 9223372036854775807) ∧ (x.num.dig.size ≤ 9223372036854775807) ∧ (-9223372036854775808 ≤ x.num.exp ∧ x.num.exp ≤ 9223372036854775807) ∧ (x.text.size ≤ 9223372036854775807) := by
  obtain ⟨_, _, rfl, ⟨rfl, h0⟩, ⟨_, _, rfl, ⟨_, _, rfl, rfl, ⟨_, _, rfl, ⟨rfl, h2⟩, ⟨rfl, h3⟩⟩⟩, ⟨rfl, h4⟩⟩⟩ := h
  exact ⟨rfl, h0, h2, h3, h4⟩
theorem rdVal_mk {S : Nat → Prop} {w : World} {x : Val} (h0 : -9223372036854775808 ≤ x.kind ∧ x.kind ≤ 9223372036854775807) (h1 : x.num.dig.size ≤ 9223372036854775807) (h2 : -9223372036854775808 ≤ x.num.exp ∧ x.num.exp ≤ 9223372036854775807) (h3 : x.text.size ≤ 9223372036854775807) : Rd.rd S w [.int .i64 x.kind, .bool x.num.neg, .string x.num.dig, .int .i64 x.num.exp, .string x.text] x :=
  ⟨_, _, rfl, ⟨rfl, h0⟩, ⟨_, _, rfl, ⟨_, _, rfl, rfl, ⟨_, _, rfl, ⟨rfl, h1⟩, ⟨rfl, h2⟩⟩⟩, ⟨rfl, h3⟩⟩⟩
instance : Sz Val := ⟨fun x => Sz.sz x.num + x.text.size⟩


theorem rdArr {S : Nat → Prop} {w : World} {cs : List Value} {x : Arr} (h : Rd.rd S w cs x) : ∃ (a0 : Option Addr) (c0 : Nat), ∃ (a1 : Option Addr) (c1 : Nat), cs = [.slice a0 x.keys.length c0, .slice a1 x.vals.length c1] ∧ (Rd.rd S w [.slice a0 x.keys.length c0] x.keys) ∧ (Rd.rd S w [.slice a1 x.vals.length c1] x.vals) := by
  obtain ⟨_, _, rfl, h0, h1⟩ := h
  obtain ⟨a0, c0, e0⟩ := rdSlc h0
  subst e0
  obtain ⟨a1, c1, e1⟩ := rdSlc h1
  subst e1
  exact ⟨a0, c0, a1, c1, rfl, h0, h1⟩
theorem rdArr_mk {S : Nat → Prop} {w : World} {x : Arr} {a0 : Option Addr} {c0 : Nat} {a1 : Option Addr} {c1 : Nat} (h0 : Rd.rd S w [.slice a0 x.keys.length c0] x.keys) (h1 : Rd.rd S w [.slice a1 x.vals.length c1] x.vals) : Rd.rd S w [.slice a0 x.keys.length c0, .slice a1 x.vals.length c1] x :=
  ⟨_, _, rfl, h0, h1⟩
instance : Sz Arr := ⟨fun x => Sz.sz x.keys + Sz.sz x.vals⟩

theorem rdLeaf {S : Nat → Prop} {w : World} {cs : List Value} {x : Leaf} (h : Rd.rd S w cs x) : cs = [.string x.path, .int .i64 x.kind, .string x.text] ∧ (x.path.size ≤ 9223372036854775807) ∧ (-9223372036854775808 ≤ x.kind ∧ x.kind ≤ 9223372036854775807) ∧ (x.text.size ≤ 9223372036854775807) := by
  obtain ⟨_, _, rfl, ⟨rfl, h0⟩, ⟨_, _, rfl, ⟨rfl, h1⟩, ⟨rfl, h2⟩⟩⟩ := h
  exact ⟨rfl, h0, h1, h2⟩
theorem rdLeaf_mk {S : Nat → Prop} {w : World} {x : Leaf} (h0 : x.path.size ≤ 9223372036854775807) (h1 : -9223372036854775808 ≤ x.kind ∧ x.kind ≤ 9223372036854775807) (h2 : x.text.size ≤ 9223372036854775807) : Rd.rd S w [.string x.path, .int .i64 x.kind, .string x.text] x :=
  ⟨_, _, rfl, ⟨rfl, h0⟩, ⟨_, _, rfl, ⟨rfl, h1⟩, ⟨rfl, h2⟩⟩⟩
instance : Sz Leaf := ⟨fun x => x.path.size + x.text.size⟩


end Go.Proofs.YtlfkfofeenakhaaDoor
