/-
  What is proved here: the laws' size, copy and comparison of slices of strings and of ints. No condition.
-/
import Derived.Test.YtlfkfofeenakhaaDoorTypes
import Derived.Test.YtlfkfofeenakhaaDoorRows
import Derived.WalkKit
import Derived.WalkSpells
import Derived.WalkLawsBesides
import Derived.Deep.QuietTactic
import Derived.BigQuiet
import Derived.Lib.Strings
import Derived.Deep.OwnRows
namespace Go.Proofs.YtlfkfofeenakhaaDoor
open Go.RowKit

theorem rdStrs {S : Nat → Prop} {w : World} {v : Value} {xs : List ByteArray} (h : Rd.rd S w [v] xs) :
    ∃ a cap, v = .slice a xs.length cap ∧ xs.length ≤ cap ∧ cap ≤ 9223372036854775807 ∧ (0 < xs.length → ∃ b off, a = some ⟨b, off, none⟩ ∧ S b ∧ ∀ i (hi : i < xs.length), w.cell? ⟨b, off + i, none⟩ = some (.string xs[i]) ∧ xs[i].size ≤ 9223372036854775807) := by
  obtain ⟨a, cap, hv, h1, h2, h3⟩ := h
  refine ⟨a, cap, by simpa using hv, h1, h2, fun h => ?_⟩
  obtain ⟨b, off, ha, hb, hr⟩ := h3 h
  refine ⟨b, off, ha, hb, fun i hi => ?_⟩
  obtain ⟨cs, h4, rfl, h5⟩ := hr i hi
  have := h4 0 Nat.one_pos
  simp only [Rd.n, Nat.mul_one, Nat.add_zero] at this
  exact ⟨this, h5⟩

theorem ba_toList_inj {a b : ByteArray} (h : a.toList = b.toList) : a = b := by
  rw [Lib.toList_data, Lib.toList_data] at h
  rw [← Lib.mk_data a, ← Lib.mk_data b, h]
theorem ba_ne {a b : ByteArray} (h : a ≠ b) : (a.toList == b.toList) = false := by
  simp only [beq_eq_false_iff_ne]
  exact fun e => h (ba_toList_inj e)
theorem sz_strs (xs : List ByteArray) : Sz.sz xs = xs.length + sumTo ByteArray.size xs xs.length := rfl
theorem sz_len {α : Type} [Sz α] (xs : List α) : xs.length ≤ Sz.sz xs := Nat.le_add_right _ _
theorem arr_of_list {a : Array Value} {l : List Value} (h : a.toList = l) : a = l.toArray := by
  rw [← h]

set_option maxHeartbeats 400000 in
theorem szStrs_any' {v : Value} {xs : List ByteArray} {S : Nat → Prop} (left : Int) (w : World) (h : Rd.rd S w [v] xs) (h3 : 0 ≤ left) (h4 : left ≤ 1048576) :
    Calls Tryd.prog 123 #[v, .int .i64 left] w fun e w' => e = .returned (.int .i64 (szOut left (Sz.sz xs))) ∧ w = w' := by
  obtain ⟨a, cap, rfl, h1, h2, hc⟩ := rdStrs h
  clear h
  by_cases hl : (xs.length : Int) ≤ left
  · go_enter Tryd.func123, Tryd.ntmps123
    go_wp2
    go_loop [1, 5] (fun l i => ∃ k : Nat, k ≤ xs.length ∧ i = .int .i64 k ∧ 0 ≤ left - xs.length - sumTo ByteArray.size xs k ∧ l = .int .i64 (left - xs.length - sumTo ByteArray.size xs k)) (fun _ i => xs.length - (intOf i).toNat)
    case atStart => exact ⟨0, Nat.zero_le _, rfl, by rw [sumTo_zero]; omega, by rw [sumTo_zero]; simp⟩
    case round =>
      obtain ⟨k, hk, rfl, hr, rfl⟩ := hrel
      by_cases hlt : k < xs.length
      · obtain ⟨b, off, rfl, _, hcell⟩ := hc (by omega)
        obtain ⟨hce, hsz⟩ := hcell k hlt
        have HS := hid (sumTo_succ ByteArray.size xs k hlt)
        have HM := hid (sumTo_le ByteArray.size xs (show k + 1 ≤ xs.length by omega))
        clear hcell hc
        go_wp2
        · go_ret
          exact ⟨end_int (by have := HS.out; have := HM.out; have hss := sz_strs xs; rw [hss]; unfold szOut; rw [if_neg]; omega), rfl⟩
        · go_round
          case rel => exact ⟨k + 1, by omega, by go_num, by rw [HS.out]; omega, by rw [HS.out]; go_num⟩
          case measure => simp [intOf]; omega
      · have : k = xs.length := by omega
        subst this
        clear hc
        go_wp2
        go_ret
        exact ⟨end_int (by have hss := sz_strs xs; rw [hss]; unfold szOut; rw [if_pos (by omega)]; omega), rfl⟩
  · clear hc
    go_enter Tryd.func123, Tryd.ntmps123
    go_wp2
    go_ret
    exact ⟨end_int (by have hss := sz_strs xs; rw [hss]; unfold szOut; rw [if_neg]; omega), rfl⟩

theorem szStrs_any {v : Value} {xs : List ByteArray} (left : Int) (w : World) (h : Rd.rd (Old w) w [v] xs) (h3 : 0 ≤ left) (h4 : left ≤ 1048576) :
    Calls Tryd.prog 123 #[v, .int .i64 left] w fun e w' => e = .returned (.int .i64 (szOut left (Sz.sz xs))) ∧ Below w.heap.size w w' :=
  (szStrs_any' left w h h3 h4).mono fun _ _ ⟨he, hw⟩ => ⟨he, hw ▸ Below.refl _ _⟩
theorem info_string : (Tryd.prog.info? 9).map (fun i => (i.zero, i.size, i.bytes)) = some (some (.string ⟨#[]⟩), 1, 16) := by kernel_rfl

set_option maxHeartbeats 400000 in
theorem toStrs_any {v : Value} {xs : List ByteArray} (w : World) (h : Rd.rd (Old w) w [v] xs) (hsz : Sz.sz xs ≤ 1048576) :
    Calls Tryd.prog 125 #[v] w fun e w' => ∃ u, e = .returned u ∧ Rd.rd (New w.heap.size w') w' [u] xs ∧ Below w.heap.size w w' := by
  obtain ⟨a, cap, rfl, h1, h2, hc⟩ := rdStrs h
  clear h
  have hn : xs.length ≤ 1048576 := Nat.le_trans (sz_len xs) hsz
  clear hsz
  have hmk := run_make_row' (P := Tryd.prog) 73 9 _ 16 Tryd.underlying73 info_string rfl .i64 .i64 xs.length (by omega) (by omega)
  go_enter Tryd.func125, Tryd.ntmps125
  go_wp2
  clear hmk
  go_loopw [4] (fun i wr => ∃ k css, k ≤ xs.length ∧ i = .int .i64 (k : Nat) ∧ Below w.heap.size w wr ∧ wr.heap.size = w.heap.size + 1 ∧ wr.heap[w.heap.size]? = some (.cells (css.flatten ++ List.replicate (xs.length - k) (.string ⟨#[]⟩)).toArray 9 (0, 0)) ∧ Each (fun _ => False) wr css (xs.take k)) (fun i _ => xs.length - (intOf i).toNat)
  case atStart =>
    exact ⟨0, [], Nat.zero_le _, rfl, (Below.refl _ _).alloc (Nat.le_refl _) _, by simp, fill_made _ _ _ _, Each.nil⟩
  case round =>
    obtain ⟨k, css, hk, rfl, hb, hsz, hg, he⟩ := hrel
    by_cases hlt : k < xs.length
    · obtain ⟨b, off, rfl, hB, hcell⟩ := hc (by omega)
      obtain ⟨hce, hs⟩ := hcell k hlt
      have hce' : wr.cell? ⟨b, off + k, none⟩ = some (.string xs[k]) := (hb.cell (p := ⟨b, off + k, none⟩) hB).trans hce
      have hcl := each_take he hk
      have hold := fill_old hg he.len hcl hlt
      have hfr : wr.frozen? ⟨w.heap.size, k, none⟩ = false := frozen_of_row wr w.heap.size k _ _ hg
      have HC := hid hcell
      have HG := hid hg
      have HE := hid he
      have HS := hid hsz
      have HL := hid hcl
      clear hcell hc hg he hsz hcl hce
      go_wp2
      go_roundw
      case rel =>
        refine ⟨k + 1, css ++ [[.string xs[k]]], by omega, by go_num, hb.setCell (Nat.le_refl _) _, by simpa [World.setCell] using HS.out, ?_, ?_⟩
        · exact fill_set HG.out HE.out.len HL.out hlt
        · exact each_next (HE.out.same (fun b hb' => hb'.elim)) hlt ⟨rfl, hs⟩
      case measure => simp [intOf]; omega
    · have : k = xs.length := by omega
      subst this
      clear hc
      have HG := hid hg
      have HE := hid he
      have HS := hid hsz
      clear hg he hsz
      go_wp2
      go_ret
      refine ⟨_, rfl, ?_, hb⟩
      have he := HE.out
      rw [List.take_length] at he
      exact rd_of_block HG.out (he.mono (T := New w.heap.size wr) (fun b hb' => hb'.elim)) ⟨Nat.le_refl _, by rw [HS.out]; omega⟩ (Nat.le_refl _) (by omega)

set_option maxHeartbeats 400000 in
/-- The comparison of a slice with a copy of it. -/
theorem eqStrs_same {v u : Value} {xs : List ByteArray} (w : World) (h : Rd.rd (Old w) w [v] xs) (h' : Rd.rd (Old w) w [u] xs) :
    Calls Tryd.prog 114 #[v, u] w fun e w' => e = .returned (.bool true) ∧ Below w.heap.size w w' := by
  obtain ⟨a, cap, rfl, h1, h2, hc⟩ := rdStrs h
  obtain ⟨a', cap', rfl, h1', h2', hc'⟩ := rdStrs h'
  clear h h'
  go_enter Tryd.func114, Tryd.ntmps114
  go_wp2
  go_loopw [5] (fun i wr => ∃ k : Nat, k ≤ xs.length ∧ i = .int .i64 k ∧ Below w.heap.size w wr) (fun i _ => xs.length - (intOf i).toNat)
  case atStart => exact ⟨0, Nat.zero_le _, rfl, Below.refl _ _⟩
  case round =>
    obtain ⟨k, hk, rfl, hb⟩ := hrel
    by_cases hlt : k < xs.length
    · obtain ⟨b, off, rfl, hB, hcell⟩ := hc (by omega)
      obtain ⟨b', off', rfl, hB', hcell'⟩ := hc' (by omega)
      have hce : wr.cell? ⟨b, off + k, none⟩ = some (.string xs[k]) := (hb.cell (p := ⟨b, off + k, none⟩) hB).trans (hcell k hlt).1
      have hce' : wr.cell? ⟨b', off' + k, none⟩ = some (.string xs[k]) := (hb.cell (p := ⟨b', off' + k, none⟩) hB').trans (hcell' k hlt).1
      clear hcell hc hcell' hc'
      have hi1 : (0 : Int) ≤ k := by omega
      have hi2 : (k : Int) < xs.length := by omega
      go_wp2
      go_quiet (fail)
      go_wp2
      go_roundw
      case rel => exact ⟨k + 1, by omega, by go_num, by first | exact hb | exact hb.drew | (rename_i nq _; exact below_drewN hb _)⟩
      case measure => simp [intOf]; omega
    · have : k = xs.length := by omega
      subst this
      clear hc hc'
      go_wp2
      go_ret
      exact ⟨rfl, hb⟩

end Go.Proofs.YtlfkfofeenakhaaDoor
