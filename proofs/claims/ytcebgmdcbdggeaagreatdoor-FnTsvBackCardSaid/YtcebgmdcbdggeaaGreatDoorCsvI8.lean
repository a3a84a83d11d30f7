/-
  What is proved here: slices.IndexFunc and slices.ContainsFunc at Row and at string, for whatever predicate that turns nothing; RowsOk of impl. The condition 'Tabs' says that the library's tables for UTF-8 lie in the world.
-/
import Derived.Test.YtcebgmdcbdggeaaGreatDoorCsvI5
import Derived.Test.YtcebgmdcbdggeaaGreatDoorCsvI7
namespace Go.Proofs.YtcebgmdcbdggeaaGreatDoor
open Go.RowKit
set_option linter.unusedVariables false
set_option linter.unusedSimpArgs false

theorem rdRow {S : Nat → Prop} {w : World} {cs : List Value} {x : CsvRow} (h : Rd.rd S w cs x) : ∃ a c, cs = [.slice a x.cells.length c] ∧ Rd.rd S w [.slice a x.cells.length c] x.cells := by
  obtain ⟨a, c, e, r⟩ := (show Rd.rd S w cs x.cells from h)
  exact ⟨a, c, e, a, c, rfl, r⟩
def idxGo {α : Type} (p : α → Bool) : List α → Nat → Int
  | [], _ => -1
  | x :: r, k => if p x = true then (k : Int) else idxGo p r (k + 1)
/-- the first place at which p holds; -1 of none -/
def idxP {α : Type} (p : α → Bool) (xs : List α) : Int := idxGo p xs 0
theorem idxGo_hit {α : Type} {p : α → Bool} : ∀ {xs : List α} {k b : Nat} (h : k < xs.length), p xs[k] = true → (∀ j (hj : j < xs.length), j < k → p xs[j] = false) → idxGo p xs b = ((b + k : Nat) : Int)
  | x :: r, 0, b, _, h1, _ => by rw [idxGo, if_pos (by simpa using h1), Nat.add_zero]
  | x :: r, k + 1, b, h, h1, h2 => by
    have h0 := h2 0 (by simp) (by omega)
    rw [idxGo, if_neg (by simpa using h0), idxGo_hit (k := k) (b := b + 1) (by simpa using h) (by simpa using h1) (fun j hj hjk => by
      have := h2 (j + 1) (by simp only [List.length_cons]; omega) (by omega)
      simpa using this)]
    congr 1
    omega
theorem idxP_hit {α : Type} {p : α → Bool} {xs : List α} {k : Nat} (h : k < xs.length) (h1 : p xs[k] = true) (h2 : ∀ j (hj : j < xs.length), j < k → p xs[j] = false) : idxP p xs = (k : Int) := by
  unfold idxP
  rw [idxGo_hit h h1 h2, Nat.zero_add]
theorem idxGo_miss {α : Type} {p : α → Bool} : ∀ {xs : List α} {b : Nat}, (∀ j (hj : j < xs.length), p xs[j] = false) → idxGo p xs b = -1
  | [], b, _ => rfl
  | x :: r, b, h => by
    have h0 := h 0 (by simp)
    rw [idxGo, if_neg (by simpa using h0)]
    exact idxGo_miss (fun j hj => by
      have := h (j + 1) (by simp only [List.length_cons]; omega)
      simpa using this)
theorem idxP_miss {α : Type} {p : α → Bool} {xs : List α} (h : ∀ j (hj : j < xs.length), p xs[j] = false) : idxP p xs = -1 := idxGo_miss h
theorem idxGo_nonneg {α : Type} {p : α → Bool} : ∀ {xs : List α} {b : Nat}, decide (0 ≤ idxGo p xs b) = xs.any p
  | [], b => by simp [idxGo]
  | x :: r, b => by
    rw [idxGo, List.any_cons]
    cases hx : p x with
    | true => simp
    | false => simp [idxGo_nonneg (xs := r) (b := b + 1)]
theorem idxP_nonneg {α : Type} {p : α → Bool} {xs : List α} : decide (0 ≤ idxP p xs) = xs.any p := idxGo_nonneg
theorem eq_dec (a b : ByteArray) : (a.toList == b.toList) = decide (a = b) := by
  by_cases h : a = b
  · subst h; simp
  · rw [ba_ne h, decide_eq_false h]
theorem rd_take {α : Type} [Rd α] {S : Nat → Prop} {w : World} {a : Option Addr} {cap : Nat} {xs : List α} (h : Rd.rd S w [.slice a xs.length cap] xs) {k : Nat} (hk : k ≤ xs.length) : Rd.rd S w [.slice a k cap] (xs.take k) := by
  obtain ⟨a', cap', hv, h1, h2, hF⟩ := h
  obtain ⟨rfl, rfl⟩ : a = a' ∧ cap = cap' := by simpa using hv
  refine ⟨a, cap, by rw [List.length_take, Nat.min_eq_left hk], by rw [List.length_take]; omega, h2, fun h0 => ?_⟩
  obtain ⟨b, off, rfl, hB, hrow⟩ := hF (by rw [List.length_take] at h0; omega)
  refine ⟨b, off, rfl, hB, fun i hi => ?_⟩
  have hi' : i < xs.length := by rw [List.length_take] at hi; omega
  obtain ⟨cs, hc, hx⟩ := hrow i hi'
  exact ⟨cs, hc, by rw [List.getElem_take]; exact hx⟩
set_option maxHeartbeats 2000000 in
theorem idxRow (p : CsvRow → Bool) (g : Nat) (lb : Array Value) (eg : ∀ args w, (callFunc g args).run Tryz.prog w = .ok (.enter g args) w) {v : Value} {xs : List CsvRow} (w : World) (h : Rd.rd (Old w) w [v] xs) (hn : xs.length ≤ 9223372036854775807)
    (hp : ∀ (x : CsvRow) (u : Value) (W : World), Rd.rd (Old w) w [u] x → Below w.heap.size w W → Calls Tryz.prog g (#[.agg #[u]] ++ lb) W fun e W' => e = .returned (.bool (p x)) ∧ Below W.heap.size W W') :
    Calls Tryz.prog 55 #[v, .func (.func g) #[] lb] w fun e w' => e = .returned (.int .i64 (idxP p xs)) ∧ Below w.heap.size w w' := by
  obtain ⟨a, cap, hv, h1, h2, hF⟩ := h
  obtain rfl : v = .slice a xs.length cap := by simpa using hv
  have HP := hid hp
  clear hv hp
  go_enter Tryz.func55, Tryz.ntmps55
  go_wp2
  go_loopw [5, 8] (fun _ i wr => ∃ k : Nat, k ≤ xs.length ∧ i = .int .i64 (k : Int) ∧ Hid (∀ j (hj : j < xs.length), j < k → p xs[j] = false) ∧ Below w.heap.size w wr) (fun _ i _ => xs.length - (intOf i).toNat)
  case atStart => exact ⟨0, Nat.zero_le _, rfl, hid (fun j _ hj => absurd hj (Nat.not_lt_zero _)), Below.refl _ _⟩
  case round =>
    obtain ⟨k, hk, rfl, HA, hb⟩ := hrel
    by_cases hlt : k < xs.length
    · obtain ⟨b, off, rfl, hB, hrow⟩ := hF (by omega)
      obtain ⟨cs, hcell, hx⟩ := hrow k hlt
      obtain ⟨ua, uc, hu, hu2⟩ := rdRow hx
      subst hu
      have t0 : wr.cell? ⟨b, off + k, none⟩ = some (.slice ua xs[k].cells.length uc) := (hb.cell (p := ⟨b, off + k, none⟩) hB).trans (by have h9 := hcell 0 (by decide); rw [show off + k * Rd.n CsvRow + 0 = off + k from by show off + k * 1 + 0 = _; omega] at h9; exact h9)
      obtain ⟨x, hxe⟩ : ∃ x, xs[k] = x := ⟨_, rfl⟩
      rw [hxe] at t0 hx
      have HX := hid hxe
      have CP := HP.out x _ wr hx hb
      obtain ⟨un, hun⟩ : ∃ n, x.cells.length = n := ⟨_, rfl⟩
      rw [hun] at t0 CP
      obtain ⟨q, hq⟩ : ∃ q, p x = q := ⟨_, rfl⟩
      rw [hq] at CP
      have HQ := hid hq
      have hki : (k : Int) < (xs.length : Int) := by omega
      have hk0 : (0 : Int) ≤ (k : Int) := by omega
      clear hun hrow hcell hx hu2 hq hxe hF
      cases q with
      | true =>
        go_wp2_with fail
        refine CP.mono ?_
        rintro e w1 ⟨rfl, hb1⟩
        clear CP
        go_wp2
        go_ret
        exact ⟨end_int (idxP_hit hlt (by rw [HX.out]; exact HQ.out) (fun j hj hjk => HA.out j hj hjk)).symm, ext_trans hb hb1⟩
      | false =>
        go_wp2_with fail
        refine CP.mono ?_
        rintro e w1 ⟨rfl, hb1⟩
        clear CP
        go_wp2
        go_roundw
        case rel =>
          refine ⟨k + 1, by omega, by go_num, hid (fun j hj hjk => ?_), ext_trans hb hb1⟩
          by_cases e : j = k
          · subst e; rw [HX.out]; exact HQ.out
          · exact HA.out j hj (by omega)
        case measure => simp [intOf]; omega
    · have hki : ¬ (k : Int) < (xs.length : Int) := by omega
      clear hF
      go_wp2
      go_ret
      exact ⟨end_int (idxP_miss (fun j hj => HA.out j hj (by omega))).symm, hb⟩
set_option maxHeartbeats 1000000 in
theorem anyRow (p : CsvRow → Bool) (g : Nat) (lb : Array Value) (eg : ∀ args w, (callFunc g args).run Tryz.prog w = .ok (.enter g args) w) {v : Value} {xs : List CsvRow} (w : World) (h : Rd.rd (Old w) w [v] xs) (hn : xs.length ≤ 9223372036854775807)
    (hp : ∀ (x : CsvRow) (u : Value) (W : World), Rd.rd (Old w) w [u] x → Below w.heap.size w W → Calls Tryz.prog g (#[.agg #[u]] ++ lb) W fun e W' => e = .returned (.bool (p x)) ∧ Below W.heap.size W W') :
    Calls Tryz.prog 42 #[v, .func (.func g) #[] lb] w fun e w' => e = .returned (.bool (xs.any p)) ∧ Below w.heap.size w w' := by
  have CI := idxRow p g lb eg w h hn hp
  obtain ⟨z, hz⟩ : ∃ z, idxP p xs = z := ⟨_, rfl⟩
  rw [← idxP_nonneg, hz]
  rw [hz] at CI
  clear hz hp h
  go_enter Tryz.func42, Tryz.ntmps42
  go_wp2_with fail
  refine CI.mono ?_
  rintro e w1 ⟨rfl, hb1⟩
  go_wp2
  go_ret
  exact ⟨rfl, hb1⟩
set_option maxHeartbeats 2000000 in
theorem idxText (p : ByteArray → Bool) (g : Nat) (lb : Array Value) (eg : ∀ args w, (callFunc g args).run Tryz.prog w = .ok (.enter g args) w) {v : Value} {xs : List ByteArray} (w : World) (h : Rd.rd (Old w) w [v] xs) (hn : xs.length ≤ 9223372036854775807)
    (hp : ∀ (x : ByteArray) (W : World), Below w.heap.size w W → Calls Tryz.prog g (#[.string x] ++ lb) W fun e W' => e = .returned (.bool (p x)) ∧ Below W.heap.size W W') :
    Calls Tryz.prog 56 #[v, .func (.func g) #[] lb] w fun e w' => e = .returned (.int .i64 (idxP p xs)) ∧ Below w.heap.size w w' := by
  obtain ⟨a, cap, hv, h1, h2, hF⟩ := h
  obtain rfl : v = .slice a xs.length cap := by simpa using hv
  have HP := hid hp
  clear hv hp
  go_enter Tryz.func56, Tryz.ntmps56
  go_wp2
  go_loopw [5, 8] (fun _ i wr => ∃ k : Nat, k ≤ xs.length ∧ i = .int .i64 (k : Int) ∧ Hid (∀ j (hj : j < xs.length), j < k → p xs[j] = false) ∧ Below w.heap.size w wr) (fun _ i _ => xs.length - (intOf i).toNat)
  case atStart => exact ⟨0, Nat.zero_le _, rfl, hid (fun j _ hj => absurd hj (Nat.not_lt_zero _)), Below.refl _ _⟩
  case round =>
    obtain ⟨k, hk, rfl, HA, hb⟩ := hrel
    by_cases hlt : k < xs.length
    · obtain ⟨b, off, rfl, hB, hrow⟩ := hF (by omega)
      obtain ⟨cs, hcell, hx⟩ := hrow k hlt
      have hx0 := hx; obtain ⟨hcs, f0⟩ := hx0
      subst hcs
      have t0 : wr.cell? ⟨b, off + k, none⟩ = some (.string xs[k]) := (hb.cell (p := ⟨b, off + k, none⟩) hB).trans (by have h9 := hcell 0 (by decide); rw [show off + k * Rd.n ByteArray + 0 = off + k from by show off + k * 1 + 0 = _; omega] at h9; exact h9)
      obtain ⟨x, hxe⟩ : ∃ x, xs[k] = x := ⟨_, rfl⟩
      rw [hxe] at t0
      have HX := hid hxe
      have CP := HP.out x wr hb
      obtain ⟨q, hq⟩ : ∃ q, p x = q := ⟨_, rfl⟩
      rw [hq] at CP
      have HQ := hid hq
      have hki : (k : Int) < (xs.length : Int) := by omega
      have hk0 : (0 : Int) ≤ (k : Int) := by omega
      clear hrow hcell hx hq hxe hF
      cases q with
      | true =>
        go_wp2_with fail
        refine CP.mono ?_
        rintro e w1 ⟨rfl, hb1⟩
        clear CP
        go_wp2
        go_ret
        exact ⟨end_int (idxP_hit hlt (by rw [HX.out]; exact HQ.out) (fun j hj hjk => HA.out j hj hjk)).symm, ext_trans hb hb1⟩
      | false =>
        go_wp2_with fail
        refine CP.mono ?_
        rintro e w1 ⟨rfl, hb1⟩
        clear CP
        go_wp2
        go_roundw
        case rel =>
          refine ⟨k + 1, by omega, by go_num, hid (fun j hj hjk => ?_), ext_trans hb hb1⟩
          by_cases e : j = k
          · subst e; rw [HX.out]; exact HQ.out
          · exact HA.out j hj (by omega)
        case measure => simp [intOf]; omega
    · have hki : ¬ (k : Int) < (xs.length : Int) := by omega
      clear hF
      go_wp2
      go_ret
      exact ⟨end_int (idxP_miss (fun j hj => HA.out j hj (by omega))).symm, hb⟩
set_option maxHeartbeats 1000000 in
theorem anyText (p : ByteArray → Bool) (g : Nat) (lb : Array Value) (eg : ∀ args w, (callFunc g args).run Tryz.prog w = .ok (.enter g args) w) {v : Value} {xs : List ByteArray} (w : World) (h : Rd.rd (Old w) w [v] xs) (hn : xs.length ≤ 9223372036854775807)
    (hp : ∀ (x : ByteArray) (W : World), Below w.heap.size w W → Calls Tryz.prog g (#[.string x] ++ lb) W fun e W' => e = .returned (.bool (p x)) ∧ Below W.heap.size W W') :
    Calls Tryz.prog 45 #[v, .func (.func g) #[] lb] w fun e w' => e = .returned (.bool (xs.any p)) ∧ Below w.heap.size w w' := by
  have CI := idxText p g lb eg w h hn hp
  obtain ⟨z, hz⟩ : ∃ z, idxP p xs = z := ⟨_, rfl⟩
  rw [← idxP_nonneg, hz]
  rw [hz] at CI
  clear hz hp h
  go_enter Tryz.func45, Tryz.ntmps45
  go_wp2_with fail
  refine CI.mono ?_
  rintro e w1 ⟨rfl, hb1⟩
  go_wp2
  go_ret
  exact ⟨rfl, hb1⟩
end Go.Proofs.YtcebgmdcbdggeaaGreatDoor
