/-
  What is proved here: the walks of LeafText, of the laws' copies and sizes of a leaf, and the law FnExactLeafText's walk. No condition.
-/
import Derived.Test.YtbogeelckgfaeaaTypes
import Derived.Test.YtbogeelckgfaeaaRows
import Derived.WalkKit
import Derived.WalkSpells
import Derived.WalkLawsBesides
namespace Go.Proofs.Ytbogeelckgfaeaa
open Go.RowKit

theorem rdLeaf {S : Nat → Prop} {w : World} {cs : List Value} {l : Leaf} (h : Rd.rd S w cs l) :
    cs = [.string l.path, .int .i64 l.kind, .string l.text] ∧ l.path.size ≤ 9223372036854775807 ∧ l.text.size ≤ 9223372036854775807 ∧ -9223372036854775808 ≤ l.kind ∧ l.kind ≤ 9223372036854775807 := by
  obtain ⟨c1, c2, rfl, ⟨rfl, h1⟩, c3, c4, rfl, ⟨rfl, h2⟩, rfl, h3⟩ := h
  exact ⟨rfl, h1, h3, h2⟩
theorem rdLeaf_mk {S : Nat → Prop} {w : World} {l : Leaf} (h1 : l.path.size ≤ 9223372036854775807) (h2 : l.text.size ≤ 9223372036854775807) (h3 : -9223372036854775808 ≤ l.kind) (h4 : l.kind ≤ 9223372036854775807) :
    Rd.rd S w [.string l.path, .int .i64 l.kind, .string l.text] l := ⟨_, _, rfl, ⟨rfl, h1⟩, _, _, rfl, ⟨rfl, h3, h4⟩, rfl, h2⟩



theorem szLeaf_any (p t : ByteArray) (k left : Int) (w : World) (h1 : p.size ≤ 9223372036854775807) (h2 : t.size ≤ 9223372036854775807) (h3 : 0 ≤ left) (h4 : left ≤ 1048576) :
    Calls Try.prog 22 #[.agg #[.string p, .int .i64 k, .string t], .int .i64 left] w fun e w' => e = .returned (.int .i64 (szOut left (p.size + t.size))) ∧ Below w.heap.size w w' := by
  go_enter Try.func22, Try.ntmps22
  go_wp2
  all_goals (go_ret; exact ⟨end_int (by unfold szOut; split <;> omega), (Below.refl _ _).alloc (Nat.le_refl _) _⟩)

theorem toLeaf_any (p t : ByteArray) (k : Int) (w : World) :
    Calls Try.prog 24 #[.agg #[.string p, .int .i64 k, .string t]] w fun e w' => e = .returned (.agg #[.string p, .int .i64 k, .string t]) ∧ Below w.heap.size w w' := by
  go_enter Try.func24, Try.ntmps24
  go_wp2
  exact bodyPost_ret (v := .agg #[.string p, .int .i64 k, .string t]) (by simp [results, Try.results24, go_sem]) rfl ⟨rfl, (((Below.refl _ _).alloc (Nat.le_refl _) _).alloc (by simp) _).alloc (by simp; omega) _⟩

def leafText (l : Leaf) : ByteArray :=
  if l.kind = 1 then ⟨#[110, 117, 108, 108]⟩ else if l.kind = 2 then ⟨#[116, 114, 117, 101]⟩ else if l.kind = 3 then ⟨#[102, 97, 108, 115, 101]⟩ else if l.kind = 4 ∨ l.kind = 5 then l.text else if l.kind = 6 then ⟨#[91, 93]⟩ else if l.kind = 7 then ⟨#[123, 125]⟩ else ⟨#[]⟩
set_option maxHeartbeats 1000000 in
theorem specLeafText (l : Leaf) (w : World) :
    Calls Try.prog 23 #[.agg #[.string l.path, .int .i64 l.kind, .string l.text]] w fun e w' => e = .returned (.string (leafText l)) ∧ Below w.heap.size w w' := by
  obtain ⟨p, k, t⟩ := l
  go_enter Try.func23, Try.ntmps23
  go_wp2
  all_goals first | (exfalso; simp_all; done) | (exfalso; simp_all; omega) | (go_ret; exact ⟨end_string (by simp_all [leafText]), (Below.refl _ _).alloc (Nat.le_refl _) _⟩)
set_option maxHeartbeats 1000000 in
theorem implLeafText (l : Leaf) (w : World) :
    Calls Try.prog 25 #[.agg #[.string l.path, .int .i64 l.kind, .string l.text]] w fun e w' => e = .returned (.string (leafText l)) ∧ Below w.heap.size w w' := by
  obtain ⟨p, k, t⟩ := l
  go_enter Try.func25, Try.ntmps25
  go_wp2
  all_goals first | (exfalso; simp_all; done) | (exfalso; simp_all; omega) | (go_ret; exact ⟨end_string (by simp_all [leafText]), (Below.refl _ _).alloc (Nat.le_refl _) _⟩)

set_option maxHeartbeats 400000 in
theorem fnExactLeafText_walk (W : World) {cs0 : Array Value} {x0 : Leaf} (h0 : Rd.rd (Old W) W cs0.toList x0) :
    Calls Try.prog 8 #[.agg cs0] W fun e w' => e = .returned (.bool true) ∧ Below W.heap.size W w' := by
  obtain ⟨h, h1, h2, h3, h4⟩ := rdLeaf h0
  obtain rfl : cs0 = #[.string x0.path, .int .i64 x0.kind, .string x0.text] := by cases cs0; simp_all
  clear h0 h
  go_enter Try.func8, Try.ntmps8
  go_wp2_with fail
  refine (szLeaf_any _ _ _ _ _ h1 h2 (by omega) (by omega)).mono ?_
  rintro e w1 ⟨rfl, hb1⟩
  have hz1 := hb1.size
  by_cases hn : szOut 1048576 (x0.path.size + x0.text.size) < 0
  · go_wp2
    go_ret
    exact ⟨rfl, (((Below.refl _ _).alloc (Nat.le_refl _) _).trans (hb1.mono (by simp)))⟩
  · obtain ⟨hc1, hf1⟩ := bcell hb1
    simp at hz1
    have hl1 : W.heap.size < w1.heap.size := by omega
    go_wp2_with fail
    refine (toLeaf_any _ _ _ _).mono ?_; rintro e w2 ⟨rfl, hb2⟩; obtain ⟨hc2, hf2⟩ := bcell hb2; have hz2 := hb2.size; have hl2 : W.heap.size < w2.heap.size := by omega
    go_wp2_with fail
    refine (specLeafText x0 _).mono ?_; rintro e w3 ⟨rfl, hb3⟩; obtain ⟨hc3, hf3⟩ := bcell hb3; have hz3 := hb3.size; have hl3 : W.heap.size < w3.heap.size := by omega
    go_wp2_with fail
    refine (toLeaf_any _ _ _ _).mono ?_; rintro e w4 ⟨rfl, hb4⟩; obtain ⟨hc4, hf4⟩ := bcell hb4; have hz4 := hb4.size; have hl4 : W.heap.size < w4.heap.size := by omega
    go_wp2_with fail
    refine (implLeafText x0 _).mono ?_; rintro e w5 ⟨rfl, hb5⟩
    go_wp2
    go_ret
    exact ⟨rfl, (((((Below.refl _ _).alloc (Nat.le_refl _) _).trans (hb1.mono (by simp))).trans (hb2.mono (by omega))).trans (hb3.mono (by omega))).trans ((hb4.mono (by omega)).trans (hb5.mono (by omega)))⟩
end Go.Proofs.Ytbogeelckgfaeaa
