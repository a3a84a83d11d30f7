/-
  What is proved here: the laws' sizes, copies and comparisons of the program's structs. No condition. Written by gensz.py.
-/
import Derived.Test.YthfmhenphnllfaaGreatDoorStr
import Derived.Deep.RegionHeld3
namespace Go.Proofs.YthfmhenphnllfaaGreatDoor
open Go.RowKit
set_option linter.unusedVariables false
set_option linter.unusedSimpArgs false
theorem rdDec {S : Nat → Prop} {w : World} {cs : List Value} {x : Dec} (h : Rd.rd S w cs x) : cs = [.bool x.neg, .string x.dig, .int .i64 x.exp] ∧ (x.dig.size ≤ 9223372036854775807) ∧ (-9223372036854775808 ≤ x.exp ∧ x.exp ≤ 9223372036854775807) := by
  obtain ⟨_, _, rfl, rfl, ⟨_, _, rfl, ⟨rfl, h1⟩, ⟨rfl, h2⟩⟩⟩ := h
  exact ⟨rfl, h1, h2⟩
theorem rdDec_mk {S : Nat → Prop} {w : World} {x : Dec} (h0 : x.dig.size ≤ 9223372036854775807) (h1 : -9223372036854775808 ≤ x.exp ∧ x.exp ≤ 9223372036854775807) : Rd.rd S w [.bool x.neg, .string x.dig, .int .i64 x.exp] x :=
  ⟨_, _, rfl, rfl, ⟨_, _, rfl, ⟨rfl, h0⟩, ⟨rfl, h1⟩⟩⟩
instance : Sz Dec := ⟨fun x => x.dig.size⟩
set_option maxHeartbeats 1000000 in
theorem szDec_any {cs : Array Value} {x : Dec} (left : Int) (w : World) (h : Rd.rd (Old w) w cs.toList x) (h3 : 0 ≤ left) (h4 : left ≤ 1048576) :
    Calls Tryz.prog 27 #[.agg cs, .int .i64 left] w fun e w' => e = .returned (.int .i64 (szOut left (Sz.sz x))) ∧ Below w.heap.size w w' := by
  obtain ⟨hcs, f1, f2⟩ := rdDec h
  obtain rfl := arr_of_list hcs
  clear hcs
  have hsz : Sz.sz x = x.dig.size := rfl
  rw [hsz]; clear hsz
  by_cases k0 : (x.dig.size : Int) ≤ left
  · skip
    go_enter Tryz.func27, Tryz.ntmps27
    go_wp2_with fail
    go_wp2
    go_ret
    exact ⟨end_int (by rw [szOut_val (by omega)] <;> omega), (ext_alloc _ _)⟩
  · skip
    go_enter Tryz.func27, Tryz.ntmps27
    go_wp2_with fail
    go_wp2
    go_ret
    exact ⟨end_int (by rw [szOut_bad (by omega)]), (ext_alloc _ _)⟩
set_option maxHeartbeats 2000000 in
theorem toDec_any {cs : Array Value} {x : Dec} (w : World) (h : Rd.rd (Old w) w cs.toList x) (hn : Sz.sz x ≤ 1048576) :
    Calls Tryz.prog 38 #[.agg cs] w fun e w' => ∃ cs' : Array Value, e = .returned (.agg cs') ∧ Rd.rd (New w.heap.size w') w' cs'.toList x ∧ Below w.heap.size w w' := by
  obtain ⟨hcs, f1, f2⟩ := rdDec h
  obtain rfl := arr_of_list hcs
  clear hcs h
  clear hn
  go_enter Tryz.func38, Tryz.ntmps38
  go_wp2
  refine bodyPost_ret (v := .agg #[.bool x.neg, .string x.dig, .int .i64 x.exp]) (by simp [results, Tryz.results38, go_sem]) rfl ⟨_, rfl, ?_, ?_⟩
  · exact rdDec_mk f1 f2
  · exact (by repeat' (first | (with_reducible exact Below.refl _ _) | (with_reducible refine Below.setCell ?_ ?_ _) | (with_reducible refine Below.alloc ?_ ?_ _) | (simp; done) | (simp; omega) | omega))
set_option maxHeartbeats 2000000 in
theorem eqDec_same {cs cs' : Array Value} {x : Dec} (w : World) (h : Rd.rd (Old w) w cs.toList x) (h' : Rd.rd (Old w) w cs'.toList x) :
    Calls Tryz.prog 43 #[.agg cs, .agg cs'] w fun e w' => e = .returned (.bool true) ∧ Below w.heap.size w w' := by
  obtain ⟨hcs, f1, f2⟩ := rdDec h
  obtain rfl := arr_of_list hcs
  obtain ⟨hcs', gf1, gf2⟩ := rdDec h'
  obtain rfl := arr_of_list hcs'
  clear hcs hcs' h h'
  go_enter Tryz.func43, Tryz.ntmps43
  go_wp2
  go_ret
  exact ⟨rfl, (by repeat' (first | (with_reducible exact Below.refl _ _) | (with_reducible refine Below.setCell ?_ ?_ _) | (with_reducible refine Below.alloc ?_ ?_ _) | (simp; done) | (simp; omega) | omega))⟩

theorem rdVal {S : Nat → Prop} {w : World} {cs : List Value} {x : Val} (h : Rd.rd S w cs x) : cs = [.int .i64 x.kind, .bool x.num.neg, .string x.num.dig, .int .i64 x.num.exp, .string x.text] ∧ (-9223372036854775808 ≤ x.kind ∧ x.kind ≤ 9223372036854775807) ∧ (x.num.dig.size ≤ 9223372036854775807) ∧ (-9223372036854775808 ≤ x.num.exp ∧ x.num.exp ≤ 9223372036854775807) ∧ (x.text.size ≤ 9223372036854775807) := by
  obtain ⟨_, _, rfl, ⟨rfl, h0⟩, ⟨_, _, rfl, ⟨_, _, rfl, rfl, ⟨_, _, rfl, ⟨rfl, h2⟩, ⟨rfl, h3⟩⟩⟩, ⟨rfl, h4⟩⟩⟩ := h
  exact ⟨rfl, h0, h2, h3, h4⟩
theorem rdVal_mk {S : Nat → Prop} {w : World} {x : Val} (h0 : -9223372036854775808 ≤ x.kind ∧ x.kind ≤ 9223372036854775807) (h1 : x.num.dig.size ≤ 9223372036854775807) (h2 : -9223372036854775808 ≤ x.num.exp ∧ x.num.exp ≤ 9223372036854775807) (h3 : x.text.size ≤ 9223372036854775807) : Rd.rd S w [.int .i64 x.kind, .bool x.num.neg, .string x.num.dig, .int .i64 x.num.exp, .string x.text] x :=
  ⟨_, _, rfl, ⟨rfl, h0⟩, ⟨_, _, rfl, ⟨_, _, rfl, rfl, ⟨_, _, rfl, ⟨rfl, h1⟩, ⟨rfl, h2⟩⟩⟩, ⟨rfl, h3⟩⟩⟩
instance : Sz Val := ⟨fun x => Sz.sz x.num + x.text.size⟩
set_option maxHeartbeats 1000000 in
theorem szVal_any {cs : Array Value} {x : Val} (left : Int) (w : World) (h : Rd.rd (Old w) w cs.toList x) (h3 : 0 ≤ left) (h4 : left ≤ 1048576) :
    Calls Tryz.prog 6 #[.agg cs, .int .i64 left] w fun e w' => e = .returned (.int .i64 (szOut left (Sz.sz x))) ∧ Below w.heap.size w w' := by
  obtain ⟨hcs, f0, f2, f3, f4⟩ := rdVal h
  obtain rfl := arr_of_list hcs
  clear hcs
  have hsz : Sz.sz x = Sz.sz x.num + x.text.size := rfl
  rw [hsz]; clear hsz
  generalize hg_num : Sz.sz x.num = n_num
  have Hg_num := hid hg_num; clear hg_num
  by_cases k0 : (n_num : Int) ≤ left
  · skip
    by_cases k1 : (n_num : Int) + (x.text.size : Int) ≤ left
    · skip
      go_enter Tryz.func6, Tryz.ntmps6
      go_wp2_with fail
      refine (szDec_any _ _ (by exact rdDec_mk f2 f3) (by omega) (by omega)).mono ?_
      rintro e w1 ⟨rfl, hb0⟩
      rw [Hg_num.out, szOut_val (by omega)]
      obtain ⟨hc0, hf0⟩ := bcell hb0
      have hl0 : w.heap.size < w1.heap.size := by have := hb0.size; (try simp at this); omega
      go_wp2
      go_ret
      exact ⟨end_int (by rw [szOut_val (by omega)] <;> omega), (ext_trans (ext_alloc _ _) hb0)⟩
    · skip
      go_enter Tryz.func6, Tryz.ntmps6
      go_wp2_with fail
      refine (szDec_any _ _ (by exact rdDec_mk f2 f3) (by omega) (by omega)).mono ?_
      rintro e w1 ⟨rfl, hb0⟩
      rw [Hg_num.out, szOut_val (by omega)]
      obtain ⟨hc0, hf0⟩ := bcell hb0
      have hl0 : w.heap.size < w1.heap.size := by have := hb0.size; (try simp at this); omega
      go_wp2
      go_ret
      exact ⟨end_int (by rw [szOut_bad (by omega)]), (ext_trans (ext_alloc _ _) hb0)⟩
  · skip
    go_enter Tryz.func6, Tryz.ntmps6
    go_wp2_with fail
    refine (szDec_any _ _ (by exact rdDec_mk f2 f3) (by omega) (by omega)).mono ?_
    rintro e w1 ⟨rfl, hb0⟩
    rw [Hg_num.out, szOut_bad (by omega)]
    obtain ⟨hc0, hf0⟩ := bcell hb0
    have hl0 : w.heap.size < w1.heap.size := by have := hb0.size; (try simp at this); omega
    go_wp2
    go_ret
    exact ⟨end_int (by rw [szOut_bad (by omega)]), (ext_trans (ext_alloc _ _) hb0)⟩
set_option maxHeartbeats 2000000 in
theorem toVal_any {cs : Array Value} {x : Val} (w : World) (h : Rd.rd (Old w) w cs.toList x) (hn : Sz.sz x ≤ 1048576) :
    Calls Tryz.prog 8 #[.agg cs] w fun e w' => ∃ cs' : Array Value, e = .returned (.agg cs') ∧ Rd.rd (New w.heap.size w') w' cs'.toList x ∧ Below w.heap.size w w' := by
  obtain ⟨hcs, f0, f2, f3, f4⟩ := rdVal h
  obtain rfl := arr_of_list hcs
  clear hcs h
  have hn_num : Sz.sz x.num ≤ 1048576 := Nat.le_trans (by show _ ≤ Sz.sz x.num + x.text.size; omega) hn
  have HN := hid hn
  clear hn
  go_enter Tryz.func8, Tryz.ntmps8
  go_wp2_with fail
  refine (toDec_any _ (by exact rdDec_mk f2 f3) hn_num).mono ?_
  rintro e w1 ⟨r0, rfl, hr0, hb0⟩
  obtain ⟨hcs0, r0_f1, r0_f2⟩ := rdDec hr0
  obtain rfl := arr_of_list hcs0
  clear hcs0
  have hB1 : Below w.heap.size w w1 := ext_trans (by repeat' (first | (with_reducible exact Below.refl _ _) | (with_reducible refine Below.setCell ?_ ?_ _) | (with_reducible refine Below.alloc ?_ ?_ _) | (simp; done) | (simp; omega) | omega)) hb0
  obtain ⟨hc0, hf0⟩ := bcell hb0
  have hl0 : w.heap.size + 1 + 1 < w1.heap.size := by have := hb0.size; (try simp at this); omega
  have hl0' : w.heap.size + 1 < w1.heap.size := by omega
  have hl0'' : w.heap.size < w1.heap.size := by omega
  go_wp2
  refine bodyPost_ret (v := .agg #[.int .i64 x.kind, .bool x.num.neg, .string x.num.dig, .int .i64 x.num.exp, .string x.text]) (by simp [results, Tryz.results8, go_sem, hc0, hl0']) rfl ⟨_, rfl, ?_, ?_⟩
  · exact rdVal_mk f0 f2 f3 f4
  · exact (by repeat' (first | (with_reducible exact hB1) | (with_reducible exact Below.refl _ _) | (with_reducible refine Below.setCell ?_ ?_ _) | (with_reducible refine Below.alloc ?_ ?_ _) | (simp; done) | (simp; omega) | omega))
set_option maxHeartbeats 2000000 in
theorem eqVal_same {cs cs' : Array Value} {x : Val} (w : World) (h : Rd.rd (Old w) w cs.toList x) (h' : Rd.rd (Old w) w cs'.toList x) :
    Calls Tryz.prog 10 #[.agg cs, .agg cs'] w fun e w' => e = .returned (.bool true) ∧ Below w.heap.size w w' := by
  obtain ⟨hcs, f0, f2, f3, f4⟩ := rdVal h
  obtain rfl := arr_of_list hcs
  obtain ⟨hcs', gf0, gf2, gf3, gf4⟩ := rdVal h'
  obtain rfl := arr_of_list hcs'
  clear hcs hcs' h h'
  go_enter Tryz.func10, Tryz.ntmps10
  go_wp2_with fail
  refine (eqDec_same _ (by exact rdDec_mk f2 f3) (by exact rdDec_mk gf2 gf3)).mono ?_
  rintro e w1 ⟨rfl, hb0⟩
  have hB1 : Below w.heap.size w w1 := ext_trans (by repeat' (first | (with_reducible exact Below.refl _ _) | (with_reducible refine Below.setCell ?_ ?_ _) | (with_reducible refine Below.alloc ?_ ?_ _) | (simp; done) | (simp; omega) | omega)) hb0
  obtain ⟨hc0, hf0⟩ := bcell hb0
  have hl0 : w.heap.size + 1 < w1.heap.size := by have := hb0.size; (try simp at this); omega
  have hl0' : w.heap.size < w1.heap.size := by omega
  go_wp2
  go_ret
  exact ⟨rfl, (by repeat' (first | (with_reducible exact hB1) | (with_reducible exact Below.refl _ _) | (with_reducible refine Below.setCell ?_ ?_ _) | (with_reducible refine Below.alloc ?_ ?_ _) | (simp; done) | (simp; omega) | omega))⟩

set_option maxHeartbeats 1000000 in
theorem szValS_any {v : Value} {xs : List Val} (left : Int) (w : World) (h : Rd.rd (Old w) w [v] xs) (h3 : 0 ≤ left) (h4 : left ≤ 1048576) :
    Calls Tryz.prog 45 #[v, .int .i64 left] w fun e w' => e = .returned (.int .i64 (szOut left (Sz.sz xs))) ∧ Below w.heap.size w w' := by
  obtain ⟨a, cap, hv, h1, h2, hc⟩ := h
  obtain rfl : v = .slice a xs.length cap := by simpa using hv
  clear hv
  have hss : Sz.sz xs = xs.length + sumTo Sz.sz xs xs.length := rfl
  rw [hss]; clear hss
  by_cases hl : (xs.length : Int) ≤ left
  · go_enter Tryz.func45, Tryz.ntmps45
    go_wp2
    go_loopw [1, 5] (fun l i wr => ∃ k : Nat, k ≤ xs.length ∧ i = .int .i64 k ∧ 0 ≤ left - xs.length - sumTo Sz.sz xs k ∧ l = .int .i64 (left - xs.length - sumTo Sz.sz xs k) ∧ Below w.heap.size w wr) (fun _ i _ => xs.length - (intOf i).toNat)
    case atStart => exact ⟨0, Nat.zero_le _, rfl, by rw [sumTo_zero]; omega, by rw [sumTo_zero]; simp, Below.refl _ _⟩
    case round =>
      obtain ⟨k, hk, rfl, hr, rfl, hb⟩ := hrel
      by_cases hlt : k < xs.length
      · have HS := hid (sumTo_succ Sz.sz xs k hlt)
        have HM := hid (sumTo_le Sz.sz xs (show k + 1 ≤ xs.length by omega))
        obtain ⟨b, off, rfl, hB, hrow⟩ := hc (by omega)
        obtain ⟨cs, hcell, hx⟩ := hrow k hlt
        obtain ⟨hcs, f0, f2, f3, f4⟩ := rdVal hx
        subst hcs
        have t0 : wr.cell? ⟨b, off + k * 5, none⟩ = some (.int .i64 xs[k].kind) := (hb.cell (p := ⟨b, off + k * 5, none⟩) hB).trans (hcell 0 (by decide))
        have t1 : wr.cell? ⟨b, off + k * 5 + 1, none⟩ = some (.bool xs[k].num.neg) := (hb.cell (p := ⟨b, off + k * 5 + 1, none⟩) hB).trans (hcell 1 (by decide))
        have t2 : wr.cell? ⟨b, off + k * 5 + 2, none⟩ = some (.string xs[k].num.dig) := (hb.cell (p := ⟨b, off + k * 5 + 2, none⟩) hB).trans (hcell 2 (by decide))
        have t3 : wr.cell? ⟨b, off + k * 5 + 3, none⟩ = some (.int .i64 xs[k].num.exp) := (hb.cell (p := ⟨b, off + k * 5 + 3, none⟩) hB).trans (hcell 3 (by decide))
        have t4 : wr.cell? ⟨b, off + k * 5 + 4, none⟩ = some (.string xs[k].text) := (hb.cell (p := ⟨b, off + k * 5 + 4, none⟩) hB).trans (hcell 4 (by decide))
        clear hrow hcell
        clear hc
        have hx' := Rd.later hb hx
        go_wp2_with fail
        refine (szVal_any _ _ (by exact hx') (by omega) (by omega)).mono ?_
        rintro e w1 ⟨rfl, hb1⟩
        have hB1 := ext_trans hb hb1
        by_cases hfit : ((Sz.sz xs[k] : Nat) : Int) ≤ left - xs.length - sumTo Sz.sz xs k
        · rw [szOut_val hfit]
          go_wp2
          go_roundw
          case rel => exact ⟨k + 1, by omega, by go_num, by rw [HS.out]; omega, by rw [HS.out]; go_num, hB1⟩
          case measure => simp [intOf]; omega
        · rw [szOut_bad (by omega)]
          go_wp2
          go_ret
          exact ⟨end_int (by have := HS.out; have := HM.out; rw [szOut_bad (by omega)]), hB1⟩
      · have : k = xs.length := by omega
        subst this
        clear hc
        go_wp2
        go_ret
        exact ⟨end_int (by rw [szOut_val (by omega)]; omega), hb⟩
  · clear hc
    go_enter Tryz.func45, Tryz.ntmps45
    go_wp2
    go_ret
    exact ⟨end_int (by rw [szOut_bad (by omega)]), Below.refl _ _⟩
theorem info_Val : (Tryz.prog.info? 29).map (fun i => (i.zero.isSome, i.size, i.bytes)) = some (true, 5, 56) := by kernel_rfl
set_option maxHeartbeats 2000000 in
theorem toValS_any {v : Value} {xs : List Val} (w : World) (h : Rd.rd (Old w) w [v] xs) (hsz : Sz.sz xs ≤ 1048576) :
    Calls Tryz.prog 48 #[v] w fun e w' => ∃ u, e = .returned u ∧ Rd.rd (New w.heap.size w') w' [u] xs ∧ Below w.heap.size w w' := by
  obtain ⟨a, cap, hv, h1, h2, hc⟩ := h
  obtain rfl : v = .slice a xs.length cap := by simpa using hv
  clear hv
  have hn : xs.length ≤ 1048576 := Nat.le_trans (sz_len xs) hsz
  have HZ := hid (sz_each hsz)
  clear hsz
  obtain ⟨zc, hzl, hmk⟩ := make_cells (P := Tryz.prog) (t := 41) (e := 29) (n := 5) (bytes := 56) Tryz.underlying41 info_Val xs.length (by omega) (by omega)
  go_enter Tryz.func48, Tryz.ntmps48
  go_wp2
  clear hmk
  go_loopw [4] (fun i wr => ∃ (k : Nat) (css : List (List Value)) (rest : List Value), k ≤ xs.length ∧ i = .int .i64 k ∧ Below w.heap.size w wr ∧ w.heap.size < wr.heap.size ∧ wr.heap[w.heap.size]? = some (.cells (css.flatten ++ rest).toArray 29 (0, 0)) ∧ rest.length = (xs.length - k) * 5 ∧ Each (New (w.heap.size + 1) wr) wr css (xs.take k)) (fun i _ => xs.length - (intOf i).toNat)
  case atStart => exact ⟨0, [], zc, Nat.zero_le _, rfl, ext_alloc _ _, by simp, by simpa using heap_alloc_new w _, by simpa using hzl, Each.nil⟩
  case round =>
    obtain ⟨k, css, rest, hk, rfl, hb, hsz, hg, hrl, he⟩ := hrel
    by_cases hlt : k < xs.length
    · have hcl := each_take he hk
      obtain ⟨b, off, rfl, hB, hrow⟩ := hc (by omega)
      obtain ⟨cs, hcell, hx⟩ := hrow k hlt
      obtain ⟨hcs, f0, f2, f3, f4⟩ := rdVal hx
      subst hcs
      have t0 : wr.cell? ⟨b, off + k * 5, none⟩ = some (.int .i64 xs[k].kind) := (hb.cell (p := ⟨b, off + k * 5, none⟩) hB).trans (hcell 0 (by decide))
      have t1 : wr.cell? ⟨b, off + k * 5 + 1, none⟩ = some (.bool xs[k].num.neg) := (hb.cell (p := ⟨b, off + k * 5 + 1, none⟩) hB).trans (hcell 1 (by decide))
      have t2 : wr.cell? ⟨b, off + k * 5 + 2, none⟩ = some (.string xs[k].num.dig) := (hb.cell (p := ⟨b, off + k * 5 + 2, none⟩) hB).trans (hcell 2 (by decide))
      have t3 : wr.cell? ⟨b, off + k * 5 + 3, none⟩ = some (.int .i64 xs[k].num.exp) := (hb.cell (p := ⟨b, off + k * 5 + 3, none⟩) hB).trans (hcell 3 (by decide))
      have t4 : wr.cell? ⟨b, off + k * 5 + 4, none⟩ = some (.string xs[k].text) := (hb.cell (p := ⟨b, off + k * 5 + 4, none⟩) hB).trans (hcell 4 (by decide))
      clear hrow hcell
      clear hc
      have hx' := Rd.later hb hx
      have HR := hid hrl
      have HG := hid hg
      have HE := hid he
      have HL := hid hcl
      have hrn : 5 ≤ rest.length := by rw [hrl]; have := Nat.mul_le_mul_right 5 (show 1 ≤ xs.length - k by omega); omega
      clear hrl hg he hcl
      go_wp2_with fail
      refine (toVal_any _ (by exact hx') (HZ.out k hlt)).mono ?_
      rintro e w1 ⟨cs1, rfl, hr1, hb1⟩
      obtain ⟨hcs1, rf0, rf2, rf3, rf4⟩ := rdVal hr1
      obtain rfl := arr_of_list hcs1
      have HX := hid hr1
      clear hcs1 hr1
      have hB1 := ext_trans hb hb1
      have HG1 := hid ((hb1.block _ hsz).trans HG.out)
      obtain ⟨o0, s0⟩ : ∃ v, w1.cell? ⟨w.heap.size, k * 5, none⟩ = some v := row_get (n := 5) HG1.out HE.out.len HL.out hrn (j := 0) (by decide)
      obtain ⟨o1, s1⟩ : ∃ v, w1.cell? ⟨w.heap.size, k * 5 + 1, none⟩ = some v := row_get (n := 5) HG1.out HE.out.len HL.out hrn (j := 1) (by decide)
      obtain ⟨o2, s2⟩ : ∃ v, w1.cell? ⟨w.heap.size, k * 5 + 2, none⟩ = some v := row_get (n := 5) HG1.out HE.out.len HL.out hrn (j := 2) (by decide)
      obtain ⟨o3, s3⟩ : ∃ v, w1.cell? ⟨w.heap.size, k * 5 + 3, none⟩ = some v := row_get (n := 5) HG1.out HE.out.len HL.out hrn (j := 3) (by decide)
      obtain ⟨o4, s4⟩ : ∃ v, w1.cell? ⟨w.heap.size, k * 5 + 4, none⟩ = some v := row_get (n := 5) HG1.out HE.out.len HL.out hrn (j := 4) (by decide)
      have z0 : w1.frozen? ⟨w.heap.size, k * 5, none⟩ = false := frozen_of_row w1 w.heap.size _ _ _ HG1.out
      have z1 : w1.frozen? ⟨w.heap.size, k * 5 + 1, none⟩ = false := frozen_of_row w1 w.heap.size _ _ _ HG1.out
      have z2 : w1.frozen? ⟨w.heap.size, k * 5 + 2, none⟩ = false := frozen_of_row w1 w.heap.size _ _ _ HG1.out
      have z3 : w1.frozen? ⟨w.heap.size, k * 5 + 3, none⟩ = false := frozen_of_row w1 w.heap.size _ _ _ HG1.out
      have z4 : w1.frozen? ⟨w.heap.size, k * 5 + 4, none⟩ = false := frozen_of_row w1 w.heap.size _ _ _ HG1.out
      have hl1 : w.heap.size < w1.heap.size := by have := hb1.size; omega
      go_wp2
      go_roundw
      case rel =>
        obtain ⟨rest', hg', hrl', hs', hB', he'⟩ := row_next (g := w.heap.size) (n := 5) rfl hlt HG1.out HE.out HL.out HR.out hsz hb1 hB1 HX.out
        exact ⟨k + 1, _, rest', by omega, by go_num, hB', hs', hg', hrl', he'⟩
      case measure => simp [intOf]; omega
    · have : k = xs.length := by omega
      subst this
      clear hc
      have HG := hid hg
      have HE := hid he
      clear hg he hrl
      go_wp2
      go_ret
      refine ⟨_, rfl, ?_, hb⟩
      have he := HE.out
      rw [List.take_length] at he
      exact rd_of_block HG.out (he.mono (T := New w.heap.size wr) (fun b (hb' : w.heap.size + 1 ≤ b ∧ b < wr.heap.size) => ⟨by omega, hb'.2⟩)) ⟨Nat.le_refl _, hsz⟩ (Nat.le_refl _) (by omega)
set_option maxHeartbeats 4000000 in
theorem eqValS_same {v u : Value} {xs : List Val} (w : World) (h : Rd.rd (Old w) w [v] xs) (h' : Rd.rd (Old w) w [u] xs) :
    Calls Tryz.prog 50 #[v, u] w fun e w' => e = .returned (.bool true) ∧ Below w.heap.size w w' := by
  obtain ⟨a, cap, hv, h1, h2, hc⟩ := h
  obtain rfl : v = .slice a xs.length cap := by simpa using hv
  obtain ⟨a', cap', hv', h1', h2', hc'⟩ := h'
  obtain rfl : u = .slice a' xs.length cap' := by simpa using hv'
  clear hv hv'
  go_enter Tryz.func50, Tryz.ntmps50
  go_wp2
  go_loopw [5] (fun i wr => ∃ k : Nat, k ≤ xs.length ∧ i = .int .i64 k ∧ Below w.heap.size w wr) (fun i _ => xs.length - (intOf i).toNat)
  case atStart => exact ⟨0, Nat.zero_le _, rfl, Below.refl _ _⟩
  case round =>
    obtain ⟨k, hk, rfl, hb⟩ := hrel
    by_cases hlt : k < xs.length
    · skip
      obtain ⟨b, off, rfl, hB, hrow⟩ := hc (by omega)
      obtain ⟨cs, hcell, hx⟩ := hrow k hlt
      obtain ⟨hcs, f0, f2, f3, f4⟩ := rdVal hx
      subst hcs
      have t0 : wr.cell? ⟨b, off + k * 5, none⟩ = some (.int .i64 xs[k].kind) := (hb.cell (p := ⟨b, off + k * 5, none⟩) hB).trans (hcell 0 (by decide))
      have t1 : wr.cell? ⟨b, off + k * 5 + 1, none⟩ = some (.bool xs[k].num.neg) := (hb.cell (p := ⟨b, off + k * 5 + 1, none⟩) hB).trans (hcell 1 (by decide))
      have t2 : wr.cell? ⟨b, off + k * 5 + 2, none⟩ = some (.string xs[k].num.dig) := (hb.cell (p := ⟨b, off + k * 5 + 2, none⟩) hB).trans (hcell 2 (by decide))
      have t3 : wr.cell? ⟨b, off + k * 5 + 3, none⟩ = some (.int .i64 xs[k].num.exp) := (hb.cell (p := ⟨b, off + k * 5 + 3, none⟩) hB).trans (hcell 3 (by decide))
      have t4 : wr.cell? ⟨b, off + k * 5 + 4, none⟩ = some (.string xs[k].text) := (hb.cell (p := ⟨b, off + k * 5 + 4, none⟩) hB).trans (hcell 4 (by decide))
      clear hrow hcell
      obtain ⟨b', off', rfl, hBq, hrowq⟩ := hc' (by omega)
      obtain ⟨csq, hcellq, hxq⟩ := hrowq k hlt
      obtain ⟨hcsq, qf0, qf2, qf3, qf4⟩ := rdVal hxq
      subst hcsq
      have tq0 : wr.cell? ⟨b', off' + k * 5, none⟩ = some (.int .i64 xs[k].kind) := (hb.cell (p := ⟨b', off' + k * 5, none⟩) hBq).trans (hcellq 0 (by decide))
      have tq1 : wr.cell? ⟨b', off' + k * 5 + 1, none⟩ = some (.bool xs[k].num.neg) := (hb.cell (p := ⟨b', off' + k * 5 + 1, none⟩) hBq).trans (hcellq 1 (by decide))
      have tq2 : wr.cell? ⟨b', off' + k * 5 + 2, none⟩ = some (.string xs[k].num.dig) := (hb.cell (p := ⟨b', off' + k * 5 + 2, none⟩) hBq).trans (hcellq 2 (by decide))
      have tq3 : wr.cell? ⟨b', off' + k * 5 + 3, none⟩ = some (.int .i64 xs[k].num.exp) := (hb.cell (p := ⟨b', off' + k * 5 + 3, none⟩) hBq).trans (hcellq 3 (by decide))
      have tq4 : wr.cell? ⟨b', off' + k * 5 + 4, none⟩ = some (.string xs[k].text) := (hb.cell (p := ⟨b', off' + k * 5 + 4, none⟩) hBq).trans (hcellq 4 (by decide))
      clear hrowq hcellq
      clear hc hc'
      have hx' := Rd.later hb hx
      have hqx' := Rd.later hb hxq
      have hi1 : (0 : Int) ≤ k := by omega
      have hi2 : (k : Int) < xs.length := by omega
      have hwr : wr.heap.size ≤ wr.heap.size := Nat.le_refl _
      go_wp2_with fail
      go_region_held3 (fun w' => w'.cell? ⟨b, off + k * 5, none⟩ = some (.int .i64 xs[k].kind) ∧ w'.cell? ⟨b, off + k * 5 + 1, none⟩ = some (.bool xs[k].num.neg) ∧ w'.cell? ⟨b, off + k * 5 + 2, none⟩ = some (.string xs[k].num.dig) ∧ w'.cell? ⟨b, off + k * 5 + 3, none⟩ = some (.int .i64 xs[k].num.exp) ∧ w'.cell? ⟨b, off + k * 5 + 4, none⟩ = some (.string xs[k].text) ∧ w'.cell? ⟨b', off' + k * 5, none⟩ = some (.int .i64 xs[k].kind) ∧ w'.cell? ⟨b', off' + k * 5 + 1, none⟩ = some (.bool xs[k].num.neg) ∧ w'.cell? ⟨b', off' + k * 5 + 2, none⟩ = some (.string xs[k].num.dig) ∧ w'.cell? ⟨b', off' + k * 5 + 3, none⟩ = some (.int .i64 xs[k].num.exp) ∧ w'.cell? ⟨b', off' + k * 5 + 4, none⟩ = some (.string xs[k].text)) (simp [*])
        ((go_at_call 10; refine (eqVal_same _ (by exact Rd.later (by repeat' (first | (with_reducible exact Below.refl _ _) | (with_reducible refine Below.drew ?_))) hx') (by exact Rd.later (by repeat' (first | (with_reducible exact Below.refl _ _) | (with_reducible refine Below.drew ?_))) hqx')).mono ?_; rintro e w1 ⟨rfl, hb1⟩; have hk1 := keeps_cells hb1; have hbx := ext_trans (by repeat' (first | (with_reducible exact hb) | (with_reducible refine Below.drew ?_)) : Below w.heap.size w _) hb1))
      go_wp2
      go_roundw
      case rel => exact ⟨k + 1, by omega, by go_num, by repeat' (first | (with_reducible exact hbx) | (with_reducible refine Below.drew ?_))⟩
      case measure => simp [intOf]; omega
    · have : k = xs.length := by omega
      subst this
      clear hc hc'
      go_wp2
      go_ret
      exact ⟨rfl, hb⟩

theorem rdArr {S : Nat → Prop} {w : World} {cs : List Value} {x : Arr} (h : Rd.rd S w cs x) : ∃ (a0 : Option Addr) (c0 : Nat), ∃ (a1 : Option Addr) (c1 : Nat), cs = [.slice a0 x.keys.length c0, .slice a1 x.vals.length c1] ∧ (Rd.rd S w [.slice a0 x.keys.length c0] x.keys) ∧ (Rd.rd S w [.slice a1 x.vals.length c1] x.vals) := by
  obtain ⟨_, _, rfl, h0, h1⟩ := h
  obtain ⟨a0, c0, e0⟩ := rdSlc h0
  subst e0
  obtain ⟨a1, c1, e1⟩ := rdSlc h1
  subst e1
  exact ⟨a0, c0, a1, c1, rfl, h0, h1⟩
theorem rdArr_mk {S : Nat → Prop} {w : World} {x : Arr} {a0 : Option Addr} {c0 : Nat} {a1 : Option Addr} {c1 : Nat} (h0 : Rd.rd S w [.slice a0 x.keys.length c0] x.keys) (h1 : Rd.rd S w [.slice a1 x.vals.length c1] x.vals) : Rd.rd S w [.slice a0 x.keys.length c0, .slice a1 x.vals.length c1] x :=
  ⟨_, _, rfl, h0, h1⟩
instance : Sz Arr := ⟨fun x => Sz.sz x.keys + Sz.sz x.vals⟩
set_option maxHeartbeats 1000000 in
theorem szArr_any {cs : Array Value} {x : Arr} (left : Int) (w : World) (h : Rd.rd (Old w) w cs.toList x) (h3 : 0 ≤ left) (h4 : left ≤ 1048576) :
    Calls Tryz.prog 11 #[.agg cs, .int .i64 left] w fun e w' => e = .returned (.int .i64 (szOut left (Sz.sz x))) ∧ Below w.heap.size w w' := by
  obtain ⟨a0, c0, a1, c1, hcs, f0, f1⟩ := rdArr h
  obtain rfl := arr_of_list hcs
  clear hcs
  have hsz : Sz.sz x = Sz.sz x.keys + Sz.sz x.vals := rfl
  rw [hsz]; clear hsz
  generalize hg_keys : Sz.sz x.keys = n_keys
  have Hg_keys := hid hg_keys; clear hg_keys
  generalize hg_vals : Sz.sz x.vals = n_vals
  have Hg_vals := hid hg_vals; clear hg_vals
  by_cases k0 : (n_keys : Int) ≤ left
  · skip
    by_cases k1 : (n_keys : Int) + (n_vals : Int) ≤ left
    · skip
      go_enter Tryz.func11, Tryz.ntmps11
      go_wp2_with fail
      refine (szStrs_any _ _ (by exact Rd.later (ext_alloc _ _) (f0)) (by omega) (by omega)).mono ?_
      rintro e w1 ⟨rfl, hb0⟩
      rw [Hg_keys.out, szOut_val (by omega)]
      obtain ⟨hc0, hf0⟩ := bcell hb0
      have hl0 : w.heap.size < w1.heap.size := by have := hb0.size; (try simp at this); omega
      go_wp2_with fail
      refine (szValS_any _ _ (by exact Rd.later (ext_trans (ext_alloc _ _) hb0) (f1)) (by omega) (by omega)).mono ?_
      rintro e w2 ⟨rfl, hb1⟩
      rw [Hg_vals.out, szOut_val (by omega)]
      obtain ⟨hc1, hf1⟩ := bcell hb1
      have hl1 : w.heap.size < w2.heap.size := by have := hb1.size; (try simp at this); omega
      go_wp2
      go_ret
      exact ⟨end_int (by rw [szOut_val (by omega)] <;> omega), (ext_trans (ext_trans (ext_alloc _ _) hb0) hb1)⟩
    · skip
      go_enter Tryz.func11, Tryz.ntmps11
      go_wp2_with fail
      refine (szStrs_any _ _ (by exact Rd.later (ext_alloc _ _) (f0)) (by omega) (by omega)).mono ?_
      rintro e w1 ⟨rfl, hb0⟩
      rw [Hg_keys.out, szOut_val (by omega)]
      obtain ⟨hc0, hf0⟩ := bcell hb0
      have hl0 : w.heap.size < w1.heap.size := by have := hb0.size; (try simp at this); omega
      go_wp2_with fail
      refine (szValS_any _ _ (by exact Rd.later (ext_trans (ext_alloc _ _) hb0) (f1)) (by omega) (by omega)).mono ?_
      rintro e w2 ⟨rfl, hb1⟩
      rw [Hg_vals.out, szOut_bad (by omega)]
      obtain ⟨hc1, hf1⟩ := bcell hb1
      have hl1 : w.heap.size < w2.heap.size := by have := hb1.size; (try simp at this); omega
      go_wp2
      go_ret
      exact ⟨end_int (by rw [szOut_bad (by omega)]), (ext_trans (ext_trans (ext_alloc _ _) hb0) hb1)⟩
  · skip
    go_enter Tryz.func11, Tryz.ntmps11
    go_wp2_with fail
    refine (szStrs_any _ _ (by exact Rd.later (ext_alloc _ _) (f0)) (by omega) (by omega)).mono ?_
    rintro e w1 ⟨rfl, hb0⟩
    rw [Hg_keys.out, szOut_bad (by omega)]
    obtain ⟨hc0, hf0⟩ := bcell hb0
    have hl0 : w.heap.size < w1.heap.size := by have := hb0.size; (try simp at this); omega
    go_wp2
    go_ret
    exact ⟨end_int (by rw [szOut_bad (by omega)]), (ext_trans (ext_alloc _ _) hb0)⟩
set_option maxHeartbeats 2000000 in
theorem toArr_any {cs : Array Value} {x : Arr} (w : World) (h : Rd.rd (Old w) w cs.toList x) (hn : Sz.sz x ≤ 1048576) :
    Calls Tryz.prog 13 #[.agg cs] w fun e w' => ∃ cs' : Array Value, e = .returned (.agg cs') ∧ Rd.rd (New w.heap.size w') w' cs'.toList x ∧ Below w.heap.size w w' := by
  obtain ⟨a0, c0, a1, c1, hcs, f0, f1⟩ := rdArr h
  obtain rfl := arr_of_list hcs
  clear hcs h
  have hn_keys : Sz.sz x.keys ≤ 1048576 := Nat.le_trans (by show _ ≤ Sz.sz x.keys + Sz.sz x.vals; omega) hn
  have hn_vals : Sz.sz x.vals ≤ 1048576 := Nat.le_trans (by show _ ≤ Sz.sz x.keys + Sz.sz x.vals; omega) hn
  have HN := hid hn
  clear hn
  go_enter Tryz.func13, Tryz.ntmps13
  go_wp2_with fail
  refine (toStrs_any _ (by exact Rd.later (by repeat' (first | (with_reducible exact Below.refl _ _) | (with_reducible refine Below.setCell ?_ ?_ _) | (with_reducible refine Below.alloc ?_ ?_ _) | (simp; done) | (simp; omega) | omega)) (f0)) hn_keys).mono ?_
  rintro e w1 ⟨r0, rfl, hr0, hb0⟩
  obtain ⟨r0_a, r0_c, e0⟩ := rdSlc hr0
  obtain rfl : r0 = .slice r0_a x.keys.length r0_c := by simpa using e0
  clear e0
  have hB1 : Below w.heap.size w w1 := ext_trans (by repeat' (first | (with_reducible exact Below.refl _ _) | (with_reducible refine Below.setCell ?_ ?_ _) | (with_reducible refine Below.alloc ?_ ?_ _) | (simp; done) | (simp; omega) | omega)) hb0
  obtain ⟨hc0, hf0⟩ := bcell hb0
  have hl0 : w.heap.size + 1 + 1 < w1.heap.size := by have := hb0.size; (try simp at this); omega
  have hl0' : w.heap.size + 1 < w1.heap.size := by omega
  have hl0'' : w.heap.size < w1.heap.size := by omega
  go_wp2_with fail
  refine (toValS_any _ (by exact Rd.later (by repeat' (first | (with_reducible exact hB1) | (with_reducible exact Below.refl _ _) | (with_reducible refine Below.setCell ?_ ?_ _) | (with_reducible refine Below.alloc ?_ ?_ _) | (simp; done) | (simp; omega) | omega)) (f1)) hn_vals).mono ?_
  rintro e w2 ⟨r1, rfl, hr1, hb1⟩
  obtain ⟨r1_a, r1_c, e1⟩ := rdSlc hr1
  obtain rfl : r1 = .slice r1_a x.vals.length r1_c := by simpa using e1
  clear e1
  have hB2 : Below w.heap.size w w2 := ext_trans (by repeat' (first | (with_reducible exact hB1) | (with_reducible exact Below.refl _ _) | (with_reducible refine Below.setCell ?_ ?_ _) | (with_reducible refine Below.alloc ?_ ?_ _) | (simp; done) | (simp; omega) | omega)) hb1
  obtain ⟨hc1, hf1⟩ := bcell hb1
  have hl1 : w.heap.size + 1 + 1 < w2.heap.size := by have := hb1.size; (try simp at this); omega
  have hl1' : w.heap.size + 1 < w2.heap.size := by omega
  have hl1'' : w.heap.size < w2.heap.size := by omega
  go_wp2
  refine bodyPost_ret (v := .agg #[.slice r0_a x.keys.length r0_c, .slice r1_a x.vals.length r1_c]) (by simp [results, Tryz.results13, go_sem, hc0, hl0', hc1, hl1']) rfl ⟨_, rfl, ?_, ?_⟩
  · exact rdArr_mk (Keeps.rd (by repeat' (first | (with_reducible exact Keeps.refl _ _) | (with_reducible refine Keeps.call ?_ hb1) | (with_reducible refine Keeps.set ?_ ?_ _) | (with_reducible refine Keeps.alloc ?_ _) | (simp; done) | (simp; omega) | omega)) (by first | (simp; done) | (simp; omega) | omega) hr0) (Keeps.rd (by repeat' (first | (with_reducible exact Keeps.refl _ _) | (with_reducible refine Keeps.set ?_ ?_ _) | (with_reducible refine Keeps.alloc ?_ _) | (simp; done) | (simp; omega) | omega)) (by first | (simp; done) | (simp; omega) | omega) hr1)
  · exact (by repeat' (first | (with_reducible exact hB2) | (with_reducible exact hB1) | (with_reducible exact Below.refl _ _) | (with_reducible refine Below.setCell ?_ ?_ _) | (with_reducible refine Below.alloc ?_ ?_ _) | (simp; done) | (simp; omega) | omega))
set_option maxHeartbeats 2000000 in
theorem eqArr_same {cs cs' : Array Value} {x : Arr} (w : World) (h : Rd.rd (Old w) w cs.toList x) (h' : Rd.rd (Old w) w cs'.toList x) :
    Calls Tryz.prog 16 #[.agg cs, .agg cs'] w fun e w' => e = .returned (.bool true) ∧ Below w.heap.size w w' := by
  obtain ⟨a0, c0, a1, c1, hcs, f0, f1⟩ := rdArr h
  obtain rfl := arr_of_list hcs
  obtain ⟨ga0, gc0, ga1, gc1, hcs', gf0, gf1⟩ := rdArr h'
  obtain rfl := arr_of_list hcs'
  clear hcs hcs' h h'
  go_enter Tryz.func16, Tryz.ntmps16
  go_wp2_with fail
  refine (eqStrs_same _ (by exact Rd.later (by repeat' (first | (with_reducible exact Below.refl _ _) | (with_reducible refine Below.setCell ?_ ?_ _) | (with_reducible refine Below.alloc ?_ ?_ _) | (simp; done) | (simp; omega) | omega)) f0) (by exact Rd.later (by repeat' (first | (with_reducible exact Below.refl _ _) | (with_reducible refine Below.setCell ?_ ?_ _) | (with_reducible refine Below.alloc ?_ ?_ _) | (simp; done) | (simp; omega) | omega)) gf0)).mono ?_
  rintro e w1 ⟨rfl, hb0⟩
  have hB1 : Below w.heap.size w w1 := ext_trans (by repeat' (first | (with_reducible exact Below.refl _ _) | (with_reducible refine Below.setCell ?_ ?_ _) | (with_reducible refine Below.alloc ?_ ?_ _) | (simp; done) | (simp; omega) | omega)) hb0
  obtain ⟨hc0, hf0⟩ := bcell hb0
  have hl0 : w.heap.size + 1 < w1.heap.size := by have := hb0.size; (try simp at this); omega
  have hl0' : w.heap.size < w1.heap.size := by omega
  go_wp2_with fail
  refine (eqValS_same _ (by exact Rd.later (by repeat' (first | (with_reducible exact hB1) | (with_reducible exact Below.refl _ _) | (with_reducible refine Below.setCell ?_ ?_ _) | (with_reducible refine Below.alloc ?_ ?_ _) | (simp; done) | (simp; omega) | omega)) f1) (by exact Rd.later (by repeat' (first | (with_reducible exact hB1) | (with_reducible exact Below.refl _ _) | (with_reducible refine Below.setCell ?_ ?_ _) | (with_reducible refine Below.alloc ?_ ?_ _) | (simp; done) | (simp; omega) | omega)) gf1)).mono ?_
  rintro e w2 ⟨rfl, hb1⟩
  have hB2 : Below w.heap.size w w2 := ext_trans (by repeat' (first | (with_reducible exact hB1) | (with_reducible exact Below.refl _ _) | (with_reducible refine Below.setCell ?_ ?_ _) | (with_reducible refine Below.alloc ?_ ?_ _) | (simp; done) | (simp; omega) | omega)) hb1
  obtain ⟨hc1, hf1⟩ := bcell hb1
  have hl1 : w.heap.size + 1 < w2.heap.size := by have := hb1.size; (try simp at this); omega
  have hl1' : w.heap.size < w2.heap.size := by omega
  go_wp2
  go_ret
  exact ⟨rfl, (by repeat' (first | (with_reducible exact hB2) | (with_reducible exact hB1) | (with_reducible exact Below.refl _ _) | (with_reducible refine Below.setCell ?_ ?_ _) | (with_reducible refine Below.alloc ?_ ?_ _) | (simp; done) | (simp; omega) | omega))⟩

theorem rdLeaf {S : Nat → Prop} {w : World} {cs : List Value} {x : Leaf} (h : Rd.rd S w cs x) : cs = [.string x.path, .int .i64 x.kind, .string x.text] ∧ (x.path.size ≤ 9223372036854775807) ∧ (-9223372036854775808 ≤ x.kind ∧ x.kind ≤ 9223372036854775807) ∧ (x.text.size ≤ 9223372036854775807) := by
  obtain ⟨_, _, rfl, ⟨rfl, h0⟩, ⟨_, _, rfl, ⟨rfl, h1⟩, ⟨rfl, h2⟩⟩⟩ := h
  exact ⟨rfl, h0, h1, h2⟩
theorem rdLeaf_mk {S : Nat → Prop} {w : World} {x : Leaf} (h0 : x.path.size ≤ 9223372036854775807) (h1 : -9223372036854775808 ≤ x.kind ∧ x.kind ≤ 9223372036854775807) (h2 : x.text.size ≤ 9223372036854775807) : Rd.rd S w [.string x.path, .int .i64 x.kind, .string x.text] x :=
  ⟨_, _, rfl, ⟨rfl, h0⟩, ⟨_, _, rfl, ⟨rfl, h1⟩, ⟨rfl, h2⟩⟩⟩
instance : Sz Leaf := ⟨fun x => x.path.size + x.text.size⟩


end Go.Proofs.YthfmhenphnllfaaGreatDoor
