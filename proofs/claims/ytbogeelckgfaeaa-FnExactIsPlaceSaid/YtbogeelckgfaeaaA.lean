/-
  What is proved here: the walks of the small functions of this seat (IsPlace, IsOwn, IsWord, Arity, LeafText): each returns what the plain function of the same name says. No condition.
-/
import Derived.Test.YtbogeelckgfaeaaBase
import Derived.Test.YtbogeelckgfaeaaRows
import Derived.WalkKit
import Derived.WalkSpells
import Derived.WalkLawsBesides
namespace Go.Proofs.Ytbogeelckgfaeaa
open Go.RowKit

set_option maxHeartbeats 400000 in
theorem fnExactIsPlace_walk (W : World) {v0 : Value} {x0 : Int} (h0 : Rd.rd (Old W) W [v0] x0) :
    Calls Try.prog 3 #[v0] W fun e w' => e = .returned (.bool true) ∧ Below W.heap.size W w' := by
  obtain ⟨h, h1, h2⟩ := h0
  simp only [List.cons.injEq, and_true] at h
  subst h
  by_cases hp : x0 = 4 ∨ x0 = 5 ∨ x0 = 6 ∨ x0 = 7
  · rcases hp with rfl | rfl | rfl | rfl
    all_goals
      go_enter Try.func3, Try.ntmps3
      go_wp2
      go_ret
      exact ⟨rfl, Below.refl _ _⟩
  · have a4 : (x0 == 4) = false := by simp; omega
    have a5 : (x0 == 5) = false := by simp; omega
    have a6 : (x0 == 6) = false := by simp; omega
    have a7 : (x0 == 7) = false := by simp; omega
    have hlt : x0 < 4 ∨ 7 < x0 := by omega
    clear hp h1 h2
    rcases hlt with hlt | hlt
    all_goals
      go_enter Try.func3, Try.ntmps3
      go_wp2
      go_ret
      exact ⟨rfl, Below.refl _ _⟩

def isOwn (s : ByteArray) : Bool := [[108, 101, 110, 103, 116, 104], [115, 117, 98, 115, 116, 114], [105, 110, 100, 101, 120], [115, 112, 108, 105, 116], [115, 117, 98], [103, 115, 117, 98], [109, 97, 116, 99, 104],
  [116, 111, 108, 111, 119, 101, 114], [116, 111, 117, 112, 112, 101, 114], [105, 110, 116], [115, 112, 114, 105, 110, 116, 102]].contains s.toList
set_option maxHeartbeats 1000000 in
theorem specIsOwn (s : ByteArray) (w : World) :
    Calls Try.prog 11 #[.string s] w fun e w' => e = .returned (.bool (isOwn s)) ∧ w = w' := by
  go_enter Try.func11, Try.ntmps11
  go_wp2
  all_goals first | (exfalso; simp_all; done) | (go_ret; exact ⟨end_bool (by simp_all [isOwn]), rfl⟩)
set_option maxHeartbeats 1000000 in
theorem implIsOwn (s : ByteArray) (w : World) :
    Calls Try.prog 12 #[.string s] w fun e w' => e = .returned (.bool (isOwn s)) ∧ w = w' := by
  go_enter Try.func12, Try.ntmps12
  go_wp2
  all_goals first | (exfalso; simp_all; done) | (go_ret; exact ⟨end_bool (by simp_all [isOwn]), rfl⟩)
set_option maxHeartbeats 400000 in
theorem fnExactIsOwn_walk (W : World) {v0 : Value} {x0 : ByteArray} (h0 : Rd.rd (Old W) W [v0] x0) :
    Calls Try.prog 4 #[v0] W fun e w' => e = .returned (.bool true) ∧ Below W.heap.size W w' := by
  obtain ⟨h, h1⟩ := h0
  simp only [List.cons.injEq, and_true] at h
  subst h
  go_enter Try.func4, Try.ntmps4
  go_wp2_with (first | (go_at_call 11; refine (specIsOwn _ _).mono ?_; rintro e w' ⟨rfl, rfl⟩) | (go_at_call 12; refine (implIsOwn _ _).mono ?_; rintro e w' ⟨rfl, rfl⟩))
  all_goals (go_ret; exact ⟨rfl, Below.refl _ _⟩)
def isWord (s : ByteArray) : Bool := [[66, 69, 71, 73, 78], [69, 78, 68], [102, 117, 110, 99, 116, 105, 111, 110], [105, 102], [101, 108, 115, 101], [119, 104, 105, 108, 101], [102, 111, 114], [100, 111], [98, 114, 101, 97, 107], [99, 111, 110, 116, 105, 110, 117, 101], [110, 101, 120, 116], [101, 120, 105, 116], [114, 101, 116, 117, 114, 110], [100, 101, 108, 101, 116, 101], [105, 110], [103, 101, 116, 108, 105, 110, 101], [112, 114, 105, 110, 116], [112, 114, 105, 110, 116, 102]].contains s.toList
set_option maxHeartbeats 2000000 in
theorem specIsWord (s : ByteArray) (w : World) :
    Calls Try.prog 13 #[.string s] w fun e w' => e = .returned (.bool (isWord s)) ∧ w = w' := by
  go_enter Try.func13, Try.ntmps13
  go_wp2
  all_goals first | (exfalso; simp_all; done) | (go_ret; exact ⟨end_bool (by simp_all [isWord]), rfl⟩)
set_option maxHeartbeats 2000000 in
theorem implIsWord (s : ByteArray) (w : World) :
    Calls Try.prog 14 #[.string s] w fun e w' => e = .returned (.bool (isWord s)) ∧ w = w' := by
  go_enter Try.func14, Try.ntmps14
  go_wp2
  all_goals first | (exfalso; simp_all; done) | (go_ret; exact ⟨end_bool (by simp_all [isWord]), rfl⟩)
set_option maxHeartbeats 400000 in
theorem fnExactIsWord_walk (W : World) {v0 : Value} {x0 : ByteArray} (h0 : Rd.rd (Old W) W [v0] x0) :
    Calls Try.prog 5 #[v0] W fun e w' => e = .returned (.bool true) ∧ Below W.heap.size W w' := by
  obtain ⟨h, h1⟩ := h0
  simp only [List.cons.injEq, and_true] at h
  subst h
  go_enter Try.func5, Try.ntmps5
  go_wp2_with (first | (go_at_call 13; refine (specIsWord _ _).mono ?_; rintro e w' ⟨rfl, rfl⟩) | (go_at_call 14; refine (implIsWord _ _).mono ?_; rintro e w' ⟨rfl, rfl⟩))
  all_goals (go_ret; exact ⟨rfl, Below.refl _ _⟩)
def arity (s : ByteArray) : Int × Int := if s.toList == [108, 101, 110, 103, 116, 104] then (0, 1) else if s.toList == [115, 117, 98, 115, 116, 114] then (2, 3) else if s.toList == [115, 112, 108, 105, 116] then (2, 3) else if s.toList == [115, 117, 98] then (2, 3) else if s.toList == [103, 115, 117, 98] then (2, 3) else if s.toList == [105, 110, 100, 101, 120] then (2, 2) else if s.toList == [109, 97, 116, 99, 104] then (2, 2) else if s.toList == [116, 111, 108, 111, 119, 101, 114] then (1, 1) else if s.toList == [116, 111, 117, 112, 112, 101, 114] then (1, 1) else if s.toList == [105, 110, 116] then (1, 1) else if s.toList == [115, 112, 114, 105, 110, 116, 102] then (1, 1000) else (0, -1)
set_option maxHeartbeats 2000000 in
theorem specArity (s : ByteArray) (w : World) :
    Calls Try.prog 15 #[.string s] w fun e w' => e = .returned (.tuple #[.int .i64 (arity s).1, .int .i64 (arity s).2]) ∧ w = w' := by
  go_enter Try.func15, Try.ntmps15
  go_wp2
  all_goals first | (exfalso; simp_all; done) | (go_ret2; exact ⟨end_two (by simp_all [arity]), rfl⟩)
set_option maxHeartbeats 2000000 in
theorem implArity (s : ByteArray) (w : World) :
    Calls Try.prog 16 #[.string s] w fun e w' => e = .returned (.tuple #[.int .i64 (arity s).1, .int .i64 (arity s).2]) ∧ w = w' := by
  go_enter Try.func16, Try.ntmps16
  go_wp2
  all_goals first | (exfalso; simp_all; done) | (go_ret2; exact ⟨end_two (by simp_all [arity]), rfl⟩)
set_option maxHeartbeats 400000 in
theorem fnExactArity_walk (W : World) {v0 : Value} {x0 : ByteArray} (h0 : Rd.rd (Old W) W [v0] x0) :
    Calls Try.prog 6 #[v0] W fun e w' => e = .returned (.bool true) ∧ Below W.heap.size W w' := by
  obtain ⟨h, h1⟩ := h0
  simp only [List.cons.injEq, and_true] at h
  subst h
  go_enter Try.func6, Try.ntmps6
  go_wp2_with (first | (go_at_call 15; refine (specArity _ _).mono ?_; rintro e w' ⟨rfl, rfl⟩) | (go_at_call 16; refine (implArity _ _).mono ?_; rintro e w' ⟨rfl, rfl⟩))
  all_goals (go_ret; exact ⟨rfl, Below.refl _ _⟩)
end Go.Proofs.Ytbogeelckgfaeaa
