/-
  What is proved here: what laws on drawn values share: the code's bytes, its bound, a drawn int. No condition.
-/
import Derived.Test.YtcebgmdcbdggeaaGreatDoorCurT
namespace Go.Proofs.YtcebgmdcbdggeaaGreatDoor
open Go.RowKit
set_option linter.unusedVariables false
set_option linter.unusedSimpArgs false

theorem opens_22 : Opens Tryz.prog 22 (List UInt8) := opens_slice Tryz.underlying22 (by kernel_rfl) (opens_byte Tryz.underlying5)
theorem rdBytes {S : Nat → Prop} {w : World} {v : Value} {c : List UInt8} (h : Rd.rd S w [v] c) :
    ∃ a cap, v = .slice a c.length cap ∧ c.length ≤ cap ∧ cap ≤ 9223372036854775807 ∧ (0 < c.length → ∃ g off, a = some ⟨g, off, none⟩ ∧ S g ∧ ∀ i, i < c.length → ∃ x : Nat, x < 256 ∧ w.cell? ⟨g, off + i, none⟩ = some (.int .u8 (x : Int))) := by
  obtain ⟨a, cap, hv, h1, h2, h3⟩ := h
  refine ⟨a, cap, by simpa using hv, h1, h2, fun h => ?_⟩
  obtain ⟨g, off, ha, hb, hr⟩ := h3 h
  refine ⟨g, off, ha, hb, fun i hi => ?_⟩
  obtain ⟨cs, h4, rfl⟩ := hr i hi
  have := h4 0 Nat.one_pos
  simp only [Rd.n, Nat.mul_one, Nat.add_zero] at this
  exact ⟨(c[i]).toNat, (c[i]).toNat_lt, this⟩
/-- the world behind a draw: nothing old has changed -/
theorem drawn_below {w w1 w2 : World} (hb : Below w.heap.size w w1) (hg : w1.grownBy w2 (some w.heap.size)) : Below w.heap.size w w2 :=
  hb.grown hg hb.size (fun q hq => by cases hq; exact Nat.le_refl _)
theorem lawBig {S : Nat → Prop} {v : Value} {c : List UInt8} (w : World) (h : Rd.rd S w [v] c) :
    Calls Tryz.prog 4 #[v] w fun e w' => e = .returned (.bool (decide (1048576 < (c.length : Int)))) ∧ w = w' := by
  obtain ⟨a, cap, rfl, h1, h2, hc⟩ := rdBytes h
  clear hc h
  by_cases hb : 1048576 < (c.length : Int)
  · have HB := hid (decide_eq_true hb)
    go_enter Tryz.func4, Tryz.ntmps4
    go_wp2
    go_ret
    exact ⟨end_bool HB.out.symm, rfl⟩
  · have HB := hid (decide_eq_false hb)
    go_enter Tryz.func4, Tryz.ntmps4
    go_wp2
    go_ret
    exact ⟨end_bool HB.out.symm, rfl⟩
def isI64 : Value → Bool
  | .int .i64 x => decide (-9223372036854775808 ≤ x ∧ x ≤ 9223372036854775807)
  | _ => false
theorem lit_int' {w w' : World} {cs : Array Value} {e : TypeId} {r p : Nat} (hg : (w.alloc (.cells cs e)).grownBy w' (some p)) (hp : p < w.heap.size) (ha : cs.toList.all isI64 = true) (hr : r < cs.size) : ∃ t : Int, (-9223372036854775808 ≤ t ∧ t ≤ 9223372036854775807) ∧ w'.cell? ⟨w.heap.size, r, none⟩ = some (.int .i64 t) := by
  have h1 : (w.alloc (.cells cs e)).cell? ⟨w.heap.size, r, none⟩ = cs[r]? := cell_of_row _ _ r cs e _ (heap_alloc_new w _)
  have h2 : cs[r]? = some cs[r] := Array.getElem?_eq_getElem hr
  have h3 := List.all_eq_true.1 ha cs[r] (by simp)
  cases hv : cs[r] with
  | int k x =>
    rw [hv] at h2 h3
    cases k <;> first | (cases h3; done) | skip
    exact ⟨x, of_decide_eq_true h3, hg.cell (h1.trans h2) (fun e => absurd (Option.some.inj e) (Nat.ne_of_gt hp))⟩
  | _ => rw [hv] at h3; cases h3
end Go.Proofs.YtcebgmdcbdggeaaGreatDoor
