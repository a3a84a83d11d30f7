/-
  What is proved here: the drawn texts (DrawRunes, DrawBlanks): some string of a bounded size is returned, and no old memory changes. Conditions: the code has at most 1048576 bytes.
-/
import Derived.Test.YtojonbdkijnbnaaDoorCurAny
namespace Go.Proofs.YtojonbdkijnbnaaDoor
open Go.RowKit
set_option linter.unusedVariables false
set_option linter.unusedSimpArgs false

theorem opens_50 : Opens Tryd.prog 50 (List UInt8) := opens_slice Tryd.underlying50 (by kernel_rfl) (opens_byte Tryd.underlying5)
theorem rdBytes {S : Nat → Prop} {w : World} {v : Value} {c : List UInt8} (h : Rd.rd S w [v] c) :
    ∃ a cap, v = .slice a c.length cap ∧ c.length ≤ cap ∧ cap ≤ 9223372036854775807 ∧ (0 < c.length → ∃ g off, a = some ⟨g, off, none⟩ ∧ S g ∧ ∀ i, i < c.length → ∃ x : Nat, x < 256 ∧ w.cell? ⟨g, off + i, none⟩ = some (.int .u8 (x : Int))) := by
  obtain ⟨a, cap, hv, h1, h2, h3⟩ := h
  refine ⟨a, cap, by simpa using hv, h1, h2, fun h => ?_⟩
  obtain ⟨g, off, ha, hb, hr⟩ := h3 h
  refine ⟨g, off, ha, hb, fun i hi => ?_⟩
  obtain ⟨cs, h4, rfl⟩ := hr i hi
  have := h4 0 Nat.one_pos
  simp only [Rd.n, Nat.mul_one, Nat.add_zero] at this
  exact ⟨(c[i]).toNat, (c[i]).toNat_lt, this⟩
/-- the world behind a draw: nothing old has changed -/
theorem drawn_below {w w1 w2 : World} (hb : Below w.heap.size w w1) (hg : w1.grownBy w2 (some w.heap.size)) : Below w.heap.size w w2 :=
  hb.grown hg hb.size (fun q hq => by cases hq; exact Nat.le_refl _)
set_option maxHeartbeats 1000000 in
theorem drawRunes {v : Value} {c : List UInt8} (w : World) (h : Rd.rd (Old w) w [v] c) (hn : c.length ≤ 1048576) :
    Calls Tryd.prog 26 #[v] w fun e w' => ∃ s : ByteArray, e = .returned (.string s) ∧ s.size ≤ 2000 ∧ Below w.heap.size w w' := by
  obtain ⟨a, cap, rfl, h1, h2, hc⟩ := rdBytes h
  have CO := fun w' (e : w = w') => curOpen (a := a) (cap := cap) w hn hc
  clear hc h h1 h2
  go_enter Tryd.func26, Tryd.ntmps26
  go_wp2_with fail
  refine (CO _ rfl).mono ?_
  rintro e w1 ⟨rfl, hc1, hb1⟩
  go_wp2_with fail
  refine (curAny 12 _ hc1 (by omega) (by omega)).mono ?_
  rintro e w2 ⟨s, rfl, hs, k, hk, hc2, hg2⟩
  go_wp2
  go_ret
  exact ⟨s, rfl, by omega, drawn_below hb1 hg2⟩
set_option maxHeartbeats 1000000 in
theorem drawBlanks {v : Value} {c : List UInt8} (w : World) (h : Rd.rd (Old w) w [v] c) (hn : c.length ≤ 1048576) :
    Calls Tryd.prog 39 #[v] w fun e w' => ∃ s : ByteArray, e = .returned (.string s) ∧ s.size ≤ 2000 ∧ Below w.heap.size w w' := by
  obtain ⟨a, cap, rfl, h1, h2, hc⟩ := rdBytes h
  have CO := fun w' (e : w = w') => curOpen (a := a) (cap := cap) w hn hc
  clear hc h h1 h2
  go_enter Tryd.func39, Tryd.ntmps39
  go_wp2_with fail
  refine (CO _ rfl).mono ?_
  rintro e w1 ⟨rfl, hc1, hb1⟩
  go_wp2_with fail
  refine (curOnce 10 _ hc1 (by omega) (by omega) (by omega)).mono ?_
  rintro e w2 ⟨r, rfl, k, hk, hc2, hg2⟩
  cases r with
  | true =>
    go_wp2_with fail
    refine (curAny 4 _ hc2 (by omega) (by omega)).mono ?_
    rintro e w3 ⟨s, rfl, hs, k3, hk3, hc3, hg3⟩
    go_wp2
    go_ret
    exact ⟨s, rfl, by omega, drawn_below hb1 (grown_trans hg2 hg3)⟩
  | false =>
    go_wp2_with fail
    refine (curLine _ hc2 (by omega)).mono ?_
    rintro e w3 ⟨s, rfl, hs, k3, hk3, hc3, hg3⟩
    go_wp2
    go_ret
    exact ⟨s, rfl, by omega, drawn_below hb1 (grown_trans hg2 hg3)⟩
end Go.Proofs.YtojonbdkijnbnaaDoor
