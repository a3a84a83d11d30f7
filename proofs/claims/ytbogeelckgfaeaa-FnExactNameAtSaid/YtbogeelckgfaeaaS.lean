/-
  What is proved here: the walks over slices of strings: the laws' size, copy and comparison; slices.Index; NameAt on both sides. No condition.
-/
import Derived.Test.YtbogeelckgfaeaaTypes
import Derived.Test.YtbogeelckgfaeaaRows
import Derived.WalkKit
import Derived.WalkSpells
import Derived.WalkLawsBesides
import Derived.Deep.QuietTactic
import Derived.BigQuiet
import Derived.Lib.Strings
import Derived.Deep.OwnRows
namespace Go.Proofs.Ytbogeelckgfaeaa
open Go.RowKit

theorem rdStrs {S : Nat → Prop} {w : World} {v : Value} {xs : List ByteArray} (h : Rd.rd S w [v] xs) :
    ∃ a cap, v = .slice a xs.length cap ∧ xs.length ≤ cap ∧ cap ≤ 9223372036854775807 ∧ (0 < xs.length → ∃ b off, a = some ⟨b, off, none⟩ ∧ S b ∧ ∀ i (hi : i < xs.length), w.cell? ⟨b, off + i, none⟩ = some (.string xs[i]) ∧ xs[i].size ≤ 9223372036854775807) := by
  obtain ⟨a, cap, hv, h1, h2, h3⟩ := h
  refine ⟨a, cap, by simpa using hv, h1, h2, fun h => ?_⟩
  obtain ⟨b, off, ha, hb, hr⟩ := h3 h
  refine ⟨b, off, ha, hb, fun i hi => ?_⟩
  obtain ⟨cs, h4, rfl, h5⟩ := hr i hi
  have := h4 0 Nat.one_pos
  simp only [Rd.n, Nat.mul_one, Nat.add_zero] at this
  exact ⟨this, h5⟩

def sumTo {α : Type} (f : α → Nat) (xs : List α) (k : Nat) : Nat := ((xs.take k).map f).sum
theorem sumTo_zero {α : Type} (f : α → Nat) (xs : List α) : sumTo f xs 0 = 0 := by simp [sumTo]
theorem sumTo_succ {α : Type} (f : α → Nat) (xs : List α) (k : Nat) (h : k < xs.length) : sumTo f xs (k + 1) = sumTo f xs k + f xs[k] := by
  unfold sumTo
  rw [List.take_succ_eq_append_getElem h, List.map_append, List.sum_append]
  simp
theorem sumTo_le {α : Type} (f : α → Nat) (xs : List α) {k m : Nat} (h : k ≤ m) : sumTo f xs k ≤ sumTo f xs m := by
  unfold sumTo
  have e : xs.take m = xs.take k ++ (xs.take m).drop k := by
    have := (List.take_append_drop k (xs.take m)).symm
    rwa [List.take_take, Nat.min_eq_left h] at this
  rw [e, List.map_append, List.sum_append]
  exact Nat.le_add_right _ _
def szStrs (xs : List ByteArray) : Nat := xs.length + sumTo ByteArray.size xs xs.length

set_option maxHeartbeats 400000 in
theorem szStringS_any {v : Value} {xs : List ByteArray} {S : Nat → Prop} (left : Int) (w : World) (h : Rd.rd S w [v] xs) (h3 : 0 ≤ left) (h4 : left ≤ 1048576) :
    Calls Try.prog 17 #[v, .int .i64 left] w fun e w' => e = .returned (.int .i64 (szOut left (szStrs xs))) ∧ w = w' := by
  obtain ⟨a, cap, rfl, h1, h2, hc⟩ := rdStrs h
  clear h
  by_cases hl : (xs.length : Int) ≤ left
  · go_enter Try.func17, Try.ntmps17
    go_wp2
    go_loop [1, 5] (fun l i => ∃ k : Nat, k ≤ xs.length ∧ i = .int .i64 k ∧ 0 ≤ left - xs.length - sumTo ByteArray.size xs k ∧ l = .int .i64 (left - xs.length - sumTo ByteArray.size xs k)) (fun _ i => xs.length - (intOf i).toNat)
    case atStart => exact ⟨0, Nat.zero_le _, rfl, by rw [sumTo_zero]; omega, by rw [sumTo_zero]; simp⟩
    case round =>
      obtain ⟨k, hk, rfl, hr, rfl⟩ := hrel
      by_cases hlt : k < xs.length
      · obtain ⟨b, off, rfl, _, hcell⟩ := hc (by omega)
        obtain ⟨hce, hsz⟩ := hcell k hlt
        have HS := hid (sumTo_succ ByteArray.size xs k hlt)
        have HM := hid (sumTo_le ByteArray.size xs (show k + 1 ≤ xs.length by omega))
        clear hcell hc
        go_wp2
        · go_ret
          exact ⟨end_int (by have := HS.out; have := HM.out; unfold szOut szStrs; rw [if_neg]; omega), rfl⟩
        · go_round
          case rel => exact ⟨k + 1, by omega, by go_num, by rw [HS.out]; omega, by rw [HS.out]; go_num⟩
          case measure => simp [intOf]; omega
      · have : k = xs.length := by omega
        subst this
        clear hc
        go_wp2
        go_ret
        exact ⟨end_int (by unfold szOut szStrs; rw [if_pos (by omega)]; omega), rfl⟩
  · clear hc
    go_enter Try.func17, Try.ntmps17
    go_wp2
    go_ret
    exact ⟨end_int (by unfold szOut szStrs; rw [if_neg]; omega), rfl⟩

def nameAt (xs : List ByteArray) (s : ByteArray) : Int := match xs.findIdx? (fun x => decide (x = s)) with | some i => (i : Int) + 1 | none => 0
theorem nameAt_hit {xs : List ByteArray} {s : ByteArray} {k : Nat} (hk : k < xs.length) (h : ∀ i (hi : i < k), (xs[i]'(by omega)) ≠ s) (he : xs[k] = s) : nameAt xs s = (k : Int) + 1 := by
  have : xs.findIdx? (fun x => decide (x = s)) = some k := by
    rw [List.findIdx?_eq_some_iff_getElem]
    exact ⟨hk, by simp [he], fun j hj => by simpa using h j hj⟩
  simp only [nameAt, this]
theorem nameAt_miss {xs : List ByteArray} {s : ByteArray} (h : ∀ i (hi : i < xs.length), xs[i] ≠ s) : nameAt xs s = 0 := by
  have : xs.findIdx? (fun x => decide (x = s)) = none := by
    rw [List.findIdx?_eq_none_iff]
    intro x hx
    obtain ⟨i, hi, rfl⟩ := List.mem_iff_getElem.1 hx
    simpa using h i hi
  simp only [nameAt, this]
theorem ba_toList_inj {a b : ByteArray} (h : a.toList = b.toList) : a = b := by
  rw [Lib.toList_data, Lib.toList_data] at h
  rw [← Lib.mk_data a, ← Lib.mk_data b, h]
theorem ba_ne {a b : ByteArray} (h : a ≠ b) : (a.toList == b.toList) = false := by
  simp only [beq_eq_false_iff_ne]
  exact fun e => h (ba_toList_inj e)

set_option maxHeartbeats 400000 in
theorem specNameAt {v : Value} {xs : List ByteArray} {S : Nat → Prop} (s : ByteArray) (w : World) (h : Rd.rd S w [v] xs) :
    Calls Try.prog 18 #[v, .string s] w fun e w' => e = .returned (.int .i64 (nameAt xs s)) ∧ w = w' := by
  obtain ⟨a, cap, rfl, h1, h2, hc⟩ := rdStrs h
  clear h
  go_enter Try.func18, Try.ntmps18
  go_wp2
  go_loop [5] (fun i => ∃ k : Nat, k ≤ xs.length ∧ i = .int .i64 k ∧ ∀ i (hi : i < k) (hi' : i < xs.length), xs[i] ≠ s) (fun i => xs.length - (intOf i).toNat)
  case atStart => exact ⟨0, Nat.zero_le _, rfl, fun i hi => absurd hi (by omega)⟩
  case round =>
    obtain ⟨k, hk, rfl, hr⟩ := hrel
    have HR := hid hr
    clear hr
    by_cases hlt : k < xs.length
    · obtain ⟨b, off, rfl, _, hcell⟩ := hc (by omega)
      obtain ⟨hce, hsz⟩ := hcell k hlt
      clear hcell hc
      by_cases he : xs[k] = s
      · have hb : (xs[k].toList == s.toList) = true := by rw [he]; simp
        have HE := hid he
        clear he
        go_wp2
        go_ret
        exact ⟨end_int (nameAt_hit hlt (fun i hi => HR.out i hi (by omega)) HE.out).symm, rfl⟩
      · have hb : (xs[k].toList == s.toList) = false := ba_ne he
        have HE := hid he
        clear he
        go_wp2
        go_round
        case rel => exact ⟨k + 1, by omega, by go_num, fun i hi hi' => by
          by_cases hik : i = k
          · subst hik; exact HE.out
          · exact HR.out i (by omega) hi'⟩
        case measure => simp [intOf]; omega
    · have : k = xs.length := by omega
      subst this
      clear hc
      go_wp2
      go_ret
      exact ⟨end_int (nameAt_miss (fun i hi => HR.out i hi hi)).symm, rfl⟩

theorem info_string : (Try.prog.info? 9).map (fun i => (i.zero, i.size, i.bytes)) = some (some (.string ⟨#[]⟩), 1, 16) := by kernel_rfl

set_option maxHeartbeats 400000 in
theorem toStringS_any {v : Value} {xs : List ByteArray} (w : World) (h : Rd.rd (Old w) w [v] xs) (hn : xs.length ≤ 1048576) :
    Calls Try.prog 19 #[v] w fun e w' => ∃ u, e = .returned u ∧ Rd.rd (New w.heap.size w') w' [u] xs ∧ Below w.heap.size w w' := by
  obtain ⟨a, cap, rfl, h1, h2, hc⟩ := rdStrs h
  clear h
  have hmk := run_make_row' (P := Try.prog) 26 9 _ 16 Try.underlying26 info_string rfl .i64 .i64 xs.length (by omega) (by omega)
  go_enter Try.func19, Try.ntmps19
  go_wp2
  clear hmk
  go_loopw [4] (fun i wr => ∃ k css, k ≤ xs.length ∧ i = .int .i64 (k : Nat) ∧ Below w.heap.size w wr ∧ wr.heap.size = w.heap.size + 1 ∧ wr.heap[w.heap.size]? = some (.cells (css.flatten ++ List.replicate (xs.length - k) (.string ⟨#[]⟩)).toArray 9 (0, 0)) ∧ Each (fun _ => False) wr css (xs.take k)) (fun i _ => xs.length - (intOf i).toNat)
  case atStart =>
    exact ⟨0, [], Nat.zero_le _, rfl, (Below.refl _ _).alloc (Nat.le_refl _) _, by simp, fill_made _ _ _ _, Each.nil⟩
  case round =>
    obtain ⟨k, css, hk, rfl, hb, hsz, hg, he⟩ := hrel
    by_cases hlt : k < xs.length
    · obtain ⟨b, off, rfl, hB, hcell⟩ := hc (by omega)
      obtain ⟨hce, hs⟩ := hcell k hlt
      have hce' : wr.cell? ⟨b, off + k, none⟩ = some (.string xs[k]) := (hb.cell (p := ⟨b, off + k, none⟩) hB).trans hce
      have hcl := each_take he hk
      have hold := fill_old hg he.len hcl hlt
      have hfr : wr.frozen? ⟨w.heap.size, k, none⟩ = false := frozen_of_row wr w.heap.size k _ _ hg
      have HC := hid hcell
      have HG := hid hg
      have HE := hid he
      have HS := hid hsz
      have HL := hid hcl
      clear hcell hc hg he hsz hcl hce
      go_wp2
      go_roundw
      case rel =>
        refine ⟨k + 1, css ++ [[.string xs[k]]], by omega, by go_num, hb.setCell (Nat.le_refl _) _, by simpa [World.setCell] using HS.out, ?_, ?_⟩
        · exact fill_set HG.out HE.out.len HL.out hlt
        · exact each_next (HE.out.same (fun b hb' => hb'.elim)) hlt ⟨rfl, hs⟩
      case measure => simp [intOf]; omega
    · have : k = xs.length := by omega
      subst this
      clear hc
      have HG := hid hg
      have HE := hid he
      have HS := hid hsz
      clear hg he hsz
      go_wp2
      go_ret
      refine ⟨_, rfl, ?_, hb⟩
      have he := HE.out
      rw [List.take_length] at he
      exact rd_of_block HG.out (he.mono (T := New w.heap.size wr) (fun b hb' => hb'.elim)) ⟨Nat.le_refl _, by rw [HS.out]; omega⟩ (Nat.le_refl _) (by omega)

set_option maxHeartbeats 400000 in
/-- The comparison of a slice with a copy of it. -/
theorem eqStringS_same {v u : Value} {xs : List ByteArray} (w : World) (h : Rd.rd (Old w) w [v] xs) (h' : Rd.rd (Old w) w [u] xs) :
    Calls Try.prog 21 #[v, u] w fun e w' => e = .returned (.bool true) ∧ Below w.heap.size w w' := by
  obtain ⟨a, cap, rfl, h1, h2, hc⟩ := rdStrs h
  obtain ⟨a', cap', rfl, h1', h2', hc'⟩ := rdStrs h'
  clear h h'
  go_enter Try.func21, Try.ntmps21
  go_wp2
  go_loopw [5] (fun i wr => ∃ k : Nat, k ≤ xs.length ∧ i = .int .i64 k ∧ Below w.heap.size w wr) (fun i _ => xs.length - (intOf i).toNat)
  case atStart => exact ⟨0, Nat.zero_le _, rfl, Below.refl _ _⟩
  case round =>
    obtain ⟨k, hk, rfl, hb⟩ := hrel
    by_cases hlt : k < xs.length
    · obtain ⟨b, off, rfl, hB, hcell⟩ := hc (by omega)
      obtain ⟨b', off', rfl, hB', hcell'⟩ := hc' (by omega)
      have hce : wr.cell? ⟨b, off + k, none⟩ = some (.string xs[k]) := (hb.cell (p := ⟨b, off + k, none⟩) hB).trans (hcell k hlt).1
      have hce' : wr.cell? ⟨b', off' + k, none⟩ = some (.string xs[k]) := (hb.cell (p := ⟨b', off' + k, none⟩) hB').trans (hcell' k hlt).1
      clear hcell hc hcell' hc'
      have hi1 : (0 : Int) ≤ k := by omega
      have hi2 : (k : Int) < xs.length := by omega
      go_wp2
      go_quiet (fail)
      go_wp2
      go_roundw
      case rel => exact ⟨k + 1, by omega, by go_num, by first | exact hb | exact hb.drew | (rename_i nq _; exact below_drewN hb _)⟩
      case measure => simp [intOf]; omega
    · have : k = xs.length := by omega
      subst this
      clear hc hc'
      go_wp2
      go_ret
      exact ⟨rfl, hb⟩

set_option maxHeartbeats 400000 in
theorem sIndexStr {v : Value} {xs : List ByteArray} {S : Nat → Prop} (s : ByteArray) (w : World) (h : Rd.rd S w [v] xs) :
    Calls Try.prog 27 #[v, .string s] w fun e w' => e = .returned (.int .i64 (nameAt xs s - 1)) ∧ w = w' := by
  obtain ⟨a, cap, rfl, h1, h2, hc⟩ := rdStrs h
  clear h
  go_enter Try.func27, Try.ntmps27
  go_wp2
  go_loop [8] (fun i => ∃ k : Nat, k ≤ xs.length ∧ i = .int .i64 k ∧ ∀ i (hi : i < k) (hi' : i < xs.length), xs[i] ≠ s) (fun i => xs.length - (intOf i).toNat)
  case atStart => exact ⟨0, Nat.zero_le _, rfl, fun i hi => absurd hi (by omega)⟩
  case round =>
    obtain ⟨k, hk, rfl, hr⟩ := hrel
    have HR := hid hr
    clear hr
    by_cases hlt : k < xs.length
    · obtain ⟨b, off, rfl, _, hcell⟩ := hc (by omega)
      obtain ⟨hce, hsz⟩ := hcell k hlt
      clear hcell hc
      by_cases he : xs[k] = s
      · have hb : (s.toList == xs[k].toList) = true := by rw [he]; simp
        have HE := hid he
        clear he
        go_wp2
        go_ret
        exact ⟨end_int (by have := nameAt_hit hlt (fun i hi => HR.out i hi (by omega)) HE.out; omega), rfl⟩
      · have hb : (s.toList == xs[k].toList) = false := ba_ne (fun e => he e.symm)
        have HE := hid he
        clear he
        go_wp2
        go_round
        case rel => exact ⟨k + 1, by omega, by go_num, fun i hi hi' => by
          by_cases hik : i = k
          · subst hik; exact HE.out
          · exact HR.out i (by omega) hi'⟩
        case measure => simp [intOf]; omega
    · have : k = xs.length := by omega
      subst this
      clear hc
      go_wp2
      go_ret
      exact ⟨end_int (by have := nameAt_miss (fun i hi => HR.out i hi hi); omega), rfl⟩

theorem nameAt_le (xs : List ByteArray) (s : ByteArray) : 0 ≤ nameAt xs s ∧ nameAt xs s ≤ xs.length := by
  unfold nameAt
  split
  · rename_i i hi
    have := (List.findIdx?_eq_some_iff_getElem.1 hi).1
    omega
  · omega

theorem implNameAt {v : Value} {xs : List ByteArray} {S : Nat → Prop} (s : ByteArray) (w : World) (h : Rd.rd S w [v] xs) :
    Calls Try.prog 20 #[v, .string s] w fun e w' => e = .returned (.int .i64 (nameAt xs s)) ∧ w = w' := by
  have hlen : xs.length ≤ 9223372036854775807 := by obtain ⟨a, cap, _, h1, h2, _⟩ := rdStrs h; omega
  have hn := nameAt_le xs s
  go_enter Try.func20, Try.ntmps20
  go_wp2_with fail
  refine (sIndexStr s _ h).mono ?_
  rintro e w' ⟨rfl, rfl⟩
  go_wp2
  go_ret
  exact ⟨end_int (by omega), rfl⟩


set_option maxHeartbeats 400000 in
theorem fnExactNameAt_walk (W : World) {v0 v1 : Value} {x0 : List ByteArray} {x1 : ByteArray} (h0 : Rd.rd (Old W) W [v0] x0) (h1 : Rd.rd (Old W) W [v1] x1) :
    Calls Try.prog 7 #[v0, v1] W fun e w' => e = .returned (.bool true) ∧ Below W.heap.size W w' := by
  obtain ⟨h, hs1⟩ := h1
  simp only [List.cons.injEq, and_true] at h
  subst h
  by_cases hs : x1.size ≤ 1048576
  · go_enter Try.func7, Try.ntmps7
    go_wp2_with fail
    refine (szStringS_any _ _ h0 (by omega) (by omega)).mono ?_
    rintro e w1 ⟨rfl, rfl⟩
    by_cases hn : szOut 1048576 (szStrs x0) < 0
    · go_wp2
      go_ret
      exact ⟨rfl, Below.refl _ _⟩
    · have hl := szOut_nonneg hn
      have hlen : x0.length ≤ 1048576 := by unfold szStrs at hl; omega
      go_wp2_with fail
      refine (toStringS_any _ h0 hlen).mono ?_
      rintro e w1 ⟨u1, rfl, hu1, hb1⟩
      go_wp2_with fail
      refine (specNameAt _ _ hu1).mono ?_
      rintro e w2 ⟨rfl, rfl⟩
      have h01 := Rd.later hb1 h0
      go_wp2_with fail
      refine (toStringS_any _ h01 hlen).mono ?_
      rintro e w2 ⟨u2, rfl, hu2, hb2⟩
      go_wp2_with fail
      refine (implNameAt _ _ hu2).mono ?_
      rintro e w3 ⟨rfl, rfl⟩
      have h02 := Rd.later hb2 h01
      go_wp2_with fail
      refine (toStringS_any _ h02 hlen).mono ?_
      rintro e w3 ⟨u3, rfl, hu3, hb3⟩
      go_wp2_with fail
      refine (eqStringS_same _ (Rd.later hb3 (Rd.old hu2)) (Rd.old hu3)).mono ?_
      rintro e w4 ⟨rfl, hb4⟩
      go_wp2
      go_ret
      have := hb1.size
      have := hb2.size
      have := hb3.size
      exact ⟨rfl, hb1.trans ((hb2.mono (by omega)).trans ((hb3.mono (by omega)).trans (hb4.mono (by omega))))⟩
  · go_enter Try.func7, Try.ntmps7
    go_wp2
    go_ret
    exact ⟨rfl, Below.refl _ _⟩
end Go.Proofs.Ytbogeelckgfaeaa
