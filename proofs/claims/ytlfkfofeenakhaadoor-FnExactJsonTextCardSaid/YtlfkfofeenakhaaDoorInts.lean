/-
  What is proved here: the laws' sizes, copies and comparisons of slices of ints. No condition.
-/
import Derived.Test.YtlfkfofeenakhaaDoorStr
namespace Go.Proofs.YtlfkfofeenakhaaDoor
open Go.RowKit
set_option linter.unusedVariables false
set_option linter.unusedSimpArgs false

theorem rdIntsL {S : Nat → Prop} {w : World} {v : Value} {xs : List Int} (h : Rd.rd S w [v] xs) :
    ∃ a cap, v = .slice a xs.length cap ∧ xs.length ≤ cap ∧ cap ≤ 9223372036854775807 ∧ (0 < xs.length → ∃ b off, a = some ⟨b, off, none⟩ ∧ S b ∧ ∀ k (hk : k < xs.length), w.cell? ⟨b, off + k, none⟩ = some (.int .i64 xs[k]) ∧ (-9223372036854775808 ≤ xs[k] ∧ xs[k] ≤ 9223372036854775807)) := by
  obtain ⟨a, cap, hv, h1, h2, hF⟩ := h
  obtain rfl : v = .slice a xs.length cap := by simpa using hv
  refine ⟨a, cap, rfl, h1, h2, fun h0 => ?_⟩
  obtain ⟨b, off, rfl, hB, hrow⟩ := hF h0
  refine ⟨b, off, rfl, hB, fun k hk => ?_⟩
  obtain ⟨cs, hc, rfl, hx⟩ := hrow k hk
  have h9 := hc 0 (by decide)
  rw [show off + k * Rd.n Int + 0 = off + k from by show off + k * 1 + 0 = _; omega] at h9
  exact ⟨h9, hx⟩
theorem sz_ints (xs : List Int) : Sz.sz xs = xs.length := by
  have h : sumTo (Sz.sz : Int → Nat) xs xs.length = 0 := by
    unfold sumTo
    rw [List.take_length]
    induction xs with
    | nil => rfl
    | cons a r ih => rw [List.map_cons, List.sum_cons, ih]; rfl
  show xs.length + sumTo Sz.sz xs xs.length = _
  rw [h, Nat.add_zero]
theorem szInts_any {v : Value} {xs : List Int} (left : Int) (w : World) (h : Rd.rd (Old w) w [v] xs) (h3 : 0 ≤ left) (h4 : left ≤ 1048576) :
    Calls Tryd.prog 124 #[v, .int .i64 left] w fun e w' => e = .returned (.int .i64 (szOut left (Sz.sz xs))) ∧ Below w.heap.size w w' := by
  obtain ⟨a, cap, rfl, h1, h2, _⟩ := rdIntsL h
  rw [sz_ints]
  clear h
  by_cases hl : (xs.length : Int) ≤ left
  · go_enter Tryd.func124, Tryd.ntmps124
    go_wp2
    go_ret
    exact ⟨end_int (by unfold szOut; rw [if_pos (by omega)]), Below.refl _ _⟩
  · go_enter Tryd.func124, Tryd.ntmps124
    go_wp2
    go_ret
    exact ⟨end_int (by unfold szOut; rw [if_neg (by omega)]), Below.refl _ _⟩
theorem info_intZ : (Tryd.prog.info? 3).map (fun i => (i.zero, i.size, i.bytes)) = some (some (.int .i64 0), 1, 8) := by kernel_rfl

set_option maxHeartbeats 400000 in
theorem toInts_any {v : Value} {xs : List Int} (w : World) (h : Rd.rd (Old w) w [v] xs) (hsz : Sz.sz xs ≤ 1048576) :
    Calls Tryd.prog 126 #[v] w fun e w' => ∃ u, e = .returned u ∧ Rd.rd (New w.heap.size w') w' [u] xs ∧ Below w.heap.size w w' := by
  obtain ⟨a, cap, rfl, h1, h2, hc⟩ := rdIntsL h
  clear h
  have hn : xs.length ≤ 1048576 := Nat.le_trans (sz_len xs) hsz
  clear hsz
  have hmk := run_make_row' (P := Tryd.prog) 61 3 _ 8 Tryd.underlying61 info_intZ rfl .i64 .i64 xs.length (by omega) (by omega)
  go_enter Tryd.func126, Tryd.ntmps126
  go_wp2
  clear hmk
  go_loopw [4] (fun i wr => ∃ k css, k ≤ xs.length ∧ i = .int .i64 (k : Nat) ∧ Below w.heap.size w wr ∧ wr.heap.size = w.heap.size + 1 ∧ wr.heap[w.heap.size]? = some (.cells (css.flatten ++ List.replicate (xs.length - k) (.int .i64 0)).toArray 3 (0, 0)) ∧ Each (fun _ => False) wr css (xs.take k)) (fun i _ => xs.length - (intOf i).toNat)
  case atStart =>
    exact ⟨0, [], Nat.zero_le _, rfl, (Below.refl _ _).alloc (Nat.le_refl _) _, by simp, fill_made _ _ _ _, Each.nil⟩
  case round =>
    obtain ⟨k, css, hk, rfl, hb, hsz, hg, he⟩ := hrel
    by_cases hlt : k < xs.length
    · obtain ⟨b, off, rfl, hB, hcell⟩ := hc (by omega)
      obtain ⟨hce, hs⟩ := hcell k hlt
      have hce' : wr.cell? ⟨b, off + k, none⟩ = some (.int .i64 xs[k]) := (hb.cell (p := ⟨b, off + k, none⟩) hB).trans hce
      have hcl := each_take he hk
      have hold := fill_old hg he.len hcl hlt
      have hfr : wr.frozen? ⟨w.heap.size, k, none⟩ = false := frozen_of_row wr w.heap.size k _ _ hg
      have HC := hid hcell
      have HG := hid hg
      have HE := hid he
      have HS := hid hsz
      have HL := hid hcl
      clear hcell hc hg he hsz hcl hce
      go_wp2
      go_roundw
      case rel =>
        refine ⟨k + 1, css ++ [[.int .i64 xs[k]]], by omega, by go_num, hb.setCell (Nat.le_refl _) _, by simpa [World.setCell] using HS.out, ?_, ?_⟩
        · exact fill_set HG.out HE.out.len HL.out hlt
        · exact each_next (HE.out.same (fun b hb' => hb'.elim)) hlt ⟨rfl, hs⟩
      case measure => simp [intOf]; omega
    · have : k = xs.length := by omega
      subst this
      clear hc
      have HG := hid hg
      have HE := hid he
      have HS := hid hsz
      clear hg he hsz
      go_wp2
      go_ret
      refine ⟨_, rfl, ?_, hb⟩
      have he := HE.out
      rw [List.take_length] at he
      exact rd_of_block HG.out (he.mono (T := New w.heap.size wr) (fun b hb' => hb'.elim)) ⟨Nat.le_refl _, by rw [HS.out]; omega⟩ (Nat.le_refl _) (by omega)

set_option maxHeartbeats 400000 in
/-- The comparison of a slice with a copy of it. -/
theorem eqInts_same {v u : Value} {xs : List Int} (w : World) (h : Rd.rd (Old w) w [v] xs) (h' : Rd.rd (Old w) w [u] xs) :
    Calls Tryd.prog 115 #[v, u] w fun e w' => e = .returned (.bool true) ∧ Below w.heap.size w w' := by
  obtain ⟨a, cap, rfl, h1, h2, hc⟩ := rdIntsL h
  obtain ⟨a', cap', rfl, h1', h2', hc'⟩ := rdIntsL h'
  clear h h'
  go_enter Tryd.func115, Tryd.ntmps115
  go_wp2
  go_loopw [5] (fun i wr => ∃ k : Nat, k ≤ xs.length ∧ i = .int .i64 k ∧ Below w.heap.size w wr) (fun i _ => xs.length - (intOf i).toNat)
  case atStart => exact ⟨0, Nat.zero_le _, rfl, Below.refl _ _⟩
  case round =>
    obtain ⟨k, hk, rfl, hb⟩ := hrel
    by_cases hlt : k < xs.length
    · obtain ⟨b, off, rfl, hB, hcell⟩ := hc (by omega)
      obtain ⟨b', off', rfl, hB', hcell'⟩ := hc' (by omega)
      have hce : wr.cell? ⟨b, off + k, none⟩ = some (.int .i64 xs[k]) := (hb.cell (p := ⟨b, off + k, none⟩) hB).trans (hcell k hlt).1
      have hce' : wr.cell? ⟨b', off' + k, none⟩ = some (.int .i64 xs[k]) := (hb.cell (p := ⟨b', off' + k, none⟩) hB').trans (hcell' k hlt).1
      clear hcell hc hcell' hc'
      have hi1 : (0 : Int) ≤ k := by omega
      have hi2 : (k : Int) < xs.length := by omega
      go_wp2
      go_quiet (fail)
      go_wp2
      go_roundw
      case rel => exact ⟨k + 1, by omega, by go_num, by first | exact hb | exact hb.drew | (rename_i nq _; exact below_drewN hb _)⟩
      case measure => simp [intOf]; omega
    · have : k = xs.length := by omega
      subst this
      clear hc hc'
      go_wp2
      go_ret
      exact ⟨rfl, hb⟩

end Go.Proofs.YtlfkfofeenakhaaDoor
