/-
  What is proved here: sameTexts and sameRows at two that read alike. No condition.
-/
import Derived.Test.YtcebgmdcbdggeaaGreatDoorCsvI9
namespace Go.Proofs.YtcebgmdcbdggeaaGreatDoor
open Go.RowKit
set_option linter.unusedVariables false
set_option linter.unusedSimpArgs false

set_option maxHeartbeats 1000000 in
theorem sameTexts_qt {v u : Value} {xs : List ByteArray} (w : World) (h : Rd.rd (Old w) w [v] xs) (h' : Rd.rd (Old w) w [u] xs) :
    Calls Tryz.prog 22 #[v, u] w fun e w' => e = .returned (.bool true) ∧ Qt w w' := by
  obtain ⟨a, cap, hv, h1, h2, hc⟩ := h
  obtain rfl : v = .slice a xs.length cap := by simpa using hv
  obtain ⟨a', cap', hv', h1', h2', hc'⟩ := h'
  obtain rfl : u = .slice a' xs.length cap' := by simpa using hv'
  clear hv hv'
  go_enter Tryz.func22, Tryz.ntmps22
  go_wp2
  go_loopw [5] (fun i wr => ∃ k : Nat, k ≤ xs.length ∧ i = .int .i64 (k : Int) ∧ Qt w wr) (fun i _ => xs.length - (intOf i).toNat)
  case atStart => exact ⟨0, Nat.zero_le _, rfl, Qt.refl _⟩
  case round =>
    obtain ⟨k, hk, rfl, hb⟩ := hrel
    by_cases hlt : k < xs.length
    · obtain ⟨b, off, rfl, hB, hrow⟩ := hc (by omega)
      obtain ⟨b', off', rfl, hB', hrow'⟩ := hc' (by omega)
      obtain ⟨cs, hcell, hx⟩ := hrow k hlt
      obtain ⟨hcs, f0⟩ := hx
      subst hcs
      obtain ⟨cs', hcell', hx'⟩ := hrow' k hlt
      obtain ⟨hcs', f0'⟩ := hx'
      subst hcs'
      have hce : wr.cell? ⟨b, off + k, none⟩ = some (.string xs[k]) := ((hb.below w.heap.size).cell (p := ⟨b, off + k, none⟩) hB).trans (by have h9 := hcell 0 (by decide); rw [show off + k * Rd.n ByteArray + 0 = off + k from by show off + k * 1 + 0 = _; omega] at h9; exact h9)
      have hce' : wr.cell? ⟨b', off' + k, none⟩ = some (.string xs[k]) := ((hb.below w.heap.size).cell (p := ⟨b', off' + k, none⟩) hB').trans (by have h9 := hcell' 0 (by decide); rw [show off' + k * Rd.n ByteArray + 0 = off' + k from by show off' + k * 1 + 0 = _; omega] at h9; exact h9)
      clear hcell hc hcell' hc' hrow hrow' f0 f0'
      have hi1 : (0 : Int) ≤ k := by omega
      have hi2 : (k : Int) < xs.length := by omega
      go_wp2
      go_quiet (fail)
      go_wp2
      go_roundw
      case rel => exact ⟨k + 1, by omega, by go_num, hb.trans (Qt.one _ _)⟩
      case measure => simp [intOf]; omega
    · have : k = xs.length := by omega
      subst this
      clear hc hc'
      go_wp2
      go_ret
      exact ⟨rfl, hb⟩
set_option maxHeartbeats 1000000 in
theorem sameRows_qt {v u : Value} {xs : List CsvRow} (w : World) (h : Rd.rd (Old w) w [v] xs) (h' : Rd.rd (Old w) w [u] xs) :
    Calls Tryz.prog 10 #[v, u] w fun e w' => e = .returned (.bool true) ∧ Qt w w' := by
  obtain ⟨a, cap, hv, h1, h2, hc⟩ := h
  obtain rfl : v = .slice a xs.length cap := by simpa using hv
  obtain ⟨a', cap', hv', h1', h2', hc'⟩ := h'
  obtain rfl : u = .slice a' xs.length cap' := by simpa using hv'
  clear hv hv'
  go_enter Tryz.func10, Tryz.ntmps10
  go_wp2
  go_loopw [5] (fun i wr => ∃ k : Nat, k ≤ xs.length ∧ i = .int .i64 (k : Int) ∧ Qt w wr) (fun i _ => xs.length - (intOf i).toNat)
  case atStart => exact ⟨0, Nat.zero_le _, rfl, Qt.refl _⟩
  case round =>
    obtain ⟨k, hk, rfl, hb⟩ := hrel
    by_cases hlt : k < xs.length
    · obtain ⟨b, off, rfl, hB, hrow⟩ := hc (by omega)
      obtain ⟨b', off', rfl, hB', hrow'⟩ := hc' (by omega)
      obtain ⟨cs, hcell, hx⟩ := hrow k hlt
      obtain ⟨ua, uc, hu, hx2⟩ := rdRow hx
      subst hu
      obtain ⟨cs', hcell', hx'⟩ := hrow' k hlt
      obtain ⟨ua', uc', hu', hx2'⟩ := rdRow hx'
      subst hu'
      have hce : wr.cell? ⟨b, off + k, none⟩ = some (.slice ua xs[k].cells.length uc) := ((hb.below w.heap.size).cell (p := ⟨b, off + k, none⟩) hB).trans (by have h9 := hcell 0 (by decide); rw [show off + k * Rd.n CsvRow + 0 = off + k from by show off + k * 1 + 0 = _; omega] at h9; exact h9)
      have hce' : wr.cell? ⟨b', off' + k, none⟩ = some (.slice ua' xs[k].cells.length uc') := ((hb.below w.heap.size).cell (p := ⟨b', off' + k, none⟩) hB').trans (by have h9 := hcell' 0 (by decide); rw [show off' + k * Rd.n CsvRow + 0 = off' + k from by show off' + k * 1 + 0 = _; omega] at h9; exact h9)
      have CS := hid (fun (W : World) (hq : Qt wr W) => sameTexts_qt W (Rd.later ((hb.trans hq).below w.heap.size) hx2) (Rd.later ((hb.trans hq).below w.heap.size) hx2'))
      obtain ⟨n, hn⟩ : ∃ n, xs[k].cells.length = n := ⟨_, rfl⟩
      rw [hn] at hce hce' CS
      clear hcell hc hcell' hc' hrow hrow' hx hx' hx2 hx2' hn
      have hi1 : (0 : Int) ≤ k := by omega
      have hi2 : (k : Int) < xs.length := by omega
      go_wp2_with fail
      go_quiet (refine Calls.quiet_of (CS.out _ (Qt.one _ _)))
      go_wp2
      go_roundw
      case rel => exact ⟨k + 1, by omega, by go_num, hb.trans (Qt.one _ _)⟩
      case measure => simp [intOf]; omega
    · have : k = xs.length := by omega
      subst this
      clear hc hc'
      go_wp2
      go_ret
      exact ⟨rfl, hb⟩
end Go.Proofs.YtcebgmdcbdggeaaGreatDoor
