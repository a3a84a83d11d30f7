/-
  What is proved here: the laws' sizes, copies and comparisons of the program's structs. No condition. Written by gensz.py.
-/
import Derived.Test.YtkmkencodcfloaaDoorStr
import Derived.Deep.RegionHeld3
namespace Go.Proofs.YtkmkencodcfloaaDoor
open Go.RowKit
set_option linter.unusedVariables false
set_option linter.unusedSimpArgs false

theorem blk_stay {W w1 : World} {g : Nat} {o : Obj} (h : W.heap[g]? = some o) (hb : Below W.heap.size W w1) : w1.heap[g]? = some o := (hb.block g (Array.getElem?_eq_some_iff.1 h).1).trans h
theorem blk_set {W : World} {g : Nat} {p : Addr} {o : Obj} (h : W.heap[g]? = some o) (hp : g ≠ p.block) (u : Value) : (W.setCell p u).heap[g]? = some o := (Below.heap_setCell W p u g hp).trans h
theorem blk_alloc {W : World} {g : Nat} {o : Obj} (h : W.heap[g]? = some o) (o' : Obj) : (W.alloc o').heap[g]? = some o := blk_stay h (ext_alloc W o')
theorem rdConf {S : Nat → Prop} {w : World} {cs : List Value} {x : Conf} (h : Rd.rd S w cs x) : cs = [.int .i64 x.tag, .string x.fs, .string x.rs, .string x.ofs, .string x.ors, .bool x.head] ∧ (-9223372036854775808 ≤ x.tag ∧ x.tag ≤ 9223372036854775807) ∧ (x.fs.size ≤ 9223372036854775807) ∧ (x.rs.size ≤ 9223372036854775807) ∧ (x.ofs.size ≤ 9223372036854775807) ∧ (x.ors.size ≤ 9223372036854775807) := by
  obtain ⟨_, _, rfl, ⟨rfl, h0⟩, ⟨_, _, rfl, ⟨rfl, h1⟩, ⟨_, _, rfl, ⟨rfl, h2⟩, ⟨_, _, rfl, ⟨rfl, h3⟩, ⟨_, _, rfl, ⟨rfl, h4⟩, rfl⟩⟩⟩⟩⟩ := h
  exact ⟨rfl, h0, h1, h2, h3, h4⟩
theorem rdConf_mk {S : Nat → Prop} {w : World} {x : Conf} (h0 : -9223372036854775808 ≤ x.tag ∧ x.tag ≤ 9223372036854775807) (h1 : x.fs.size ≤ 9223372036854775807) (h2 : x.rs.size ≤ 9223372036854775807) (h3 : x.ofs.size ≤ 9223372036854775807) (h4 : x.ors.size ≤ 9223372036854775807) : Rd.rd S w [.int .i64 x.tag, .string x.fs, .string x.rs, .string x.ofs, .string x.ors, .bool x.head] x :=
  ⟨_, _, rfl, ⟨rfl, h0⟩, ⟨_, _, rfl, ⟨rfl, h1⟩, ⟨_, _, rfl, ⟨rfl, h2⟩, ⟨_, _, rfl, ⟨rfl, h3⟩, ⟨_, _, rfl, ⟨rfl, h4⟩, rfl⟩⟩⟩⟩⟩
instance : Sz Conf := ⟨fun x => x.fs.size + x.rs.size + x.ofs.size + x.ors.size⟩
set_option maxHeartbeats 1000000 in
theorem szConf_any {cs : Array Value} {x : Conf} (left : Int) (w : World) (h : Rd.rd (Old w) w cs.toList x) (h3 : 0 ≤ left) (h4 : left ≤ 1048576) :
    Calls Tryd.prog 5 #[.agg cs, .int .i64 left] w fun e w' => e = .returned (.int .i64 (szOut left (Sz.sz x))) ∧ Below w.heap.size w w' := by
  obtain ⟨hcs, f0, f1, f2, f3, f4⟩ := rdConf h
  obtain rfl := arr_of_list hcs
  clear hcs
  have hsz : Sz.sz x = x.fs.size + x.rs.size + x.ofs.size + x.ors.size := rfl
  rw [hsz]; clear hsz
  by_cases k0 : (x.fs.size : Int) ≤ left
  · skip
    by_cases k1 : (x.fs.size : Int) + (x.rs.size : Int) ≤ left
    · skip
      by_cases k2 : (x.fs.size : Int) + (x.rs.size : Int) + (x.ofs.size : Int) ≤ left
      · skip
        by_cases k3 : (x.fs.size : Int) + (x.rs.size : Int) + (x.ofs.size : Int) + (x.ors.size : Int) ≤ left
        · skip
          go_enter Tryd.func5, Tryd.ntmps5
          go_wp2_with fail
          go_wp2
          go_ret
          exact ⟨end_int (by rw [szOut_val (by omega)] <;> omega), (ext_alloc _ _)⟩
        · skip
          go_enter Tryd.func5, Tryd.ntmps5
          go_wp2_with fail
          go_wp2
          go_ret
          exact ⟨end_int (by rw [szOut_bad (by omega)]), (ext_alloc _ _)⟩
      · skip
        go_enter Tryd.func5, Tryd.ntmps5
        go_wp2_with fail
        go_wp2
        go_ret
        exact ⟨end_int (by rw [szOut_bad (by omega)]), (ext_alloc _ _)⟩
    · skip
      go_enter Tryd.func5, Tryd.ntmps5
      go_wp2_with fail
      go_wp2
      go_ret
      exact ⟨end_int (by rw [szOut_bad (by omega)]), (ext_alloc _ _)⟩
  · skip
    go_enter Tryd.func5, Tryd.ntmps5
    go_wp2_with fail
    go_wp2
    go_ret
    exact ⟨end_int (by rw [szOut_bad (by omega)]), (ext_alloc _ _)⟩
set_option maxHeartbeats 2000000 in
theorem toConf_any {cs : Array Value} {x : Conf} (w : World) (h : Rd.rd (Old w) w cs.toList x) (hn : Sz.sz x ≤ 1048576) :
    Calls Tryd.prog 7 #[.agg cs] w fun e w' => ∃ cs' : Array Value, e = .returned (.agg cs') ∧ Rd.rd (New w.heap.size w') w' cs'.toList x ∧ Below w.heap.size w w' := by
  obtain ⟨hcs, f0, f1, f2, f3, f4⟩ := rdConf h
  obtain rfl := arr_of_list hcs
  clear hcs h
  clear hn
  go_enter Tryd.func7, Tryd.ntmps7
  go_wp2
  refine bodyPost_ret (v := .agg #[.int .i64 x.tag, .string x.fs, .string x.rs, .string x.ofs, .string x.ors, .bool x.head]) (by simp [results, Tryd.results7, go_sem]) rfl ⟨_, rfl, ?_, ?_⟩
  · exact rdConf_mk f0 f1 f2 f3 f4
  · exact (by repeat' (first | (with_reducible exact Below.refl _ _) | (with_reducible refine Below.setCell ?_ ?_ _) | (with_reducible refine Below.alloc ?_ ?_ _) | (simp; done) | (simp; omega) | omega))
set_option maxHeartbeats 2000000 in
theorem eqConf_same {cs cs' : Array Value} {x : Conf} (w : World) (h : Rd.rd (Old w) w cs.toList x) (h' : Rd.rd (Old w) w cs'.toList x) :
    Calls Tryd.prog 26 #[.agg cs, .agg cs'] w fun e w' => e = .returned (.bool true) ∧ Below w.heap.size w w' := by
  obtain ⟨hcs, f0, f1, f2, f3, f4⟩ := rdConf h
  obtain rfl := arr_of_list hcs
  obtain ⟨hcs', gf0, gf1, gf2, gf3, gf4⟩ := rdConf h'
  obtain rfl := arr_of_list hcs'
  clear hcs hcs' h h'
  go_enter Tryd.func26, Tryd.ntmps26
  go_wp2
  go_ret
  exact ⟨rfl, (by repeat' (first | (with_reducible exact Below.refl _ _) | (with_reducible refine Below.setCell ?_ ?_ _) | (with_reducible refine Below.alloc ?_ ?_ _) | (simp; done) | (simp; omega) | omega))⟩

theorem rdFile {S : Nat → Prop} {w : World} {cs : List Value} {x : File} (h : Rd.rd S w cs x) : cs = [.string x.name, .string x.text] ∧ (x.name.size ≤ 9223372036854775807) ∧ (x.text.size ≤ 9223372036854775807) := by
  obtain ⟨_, _, rfl, ⟨rfl, h0⟩, ⟨rfl, h1⟩⟩ := h
  exact ⟨rfl, h0, h1⟩
theorem rdFile_mk {S : Nat → Prop} {w : World} {x : File} (h0 : x.name.size ≤ 9223372036854775807) (h1 : x.text.size ≤ 9223372036854775807) : Rd.rd S w [.string x.name, .string x.text] x :=
  ⟨_, _, rfl, ⟨rfl, h0⟩, ⟨rfl, h1⟩⟩
instance : Sz File := ⟨fun x => x.name.size + x.text.size⟩
set_option maxHeartbeats 1000000 in
theorem szFile_any {cs : Array Value} {x : File} (left : Int) (w : World) (h : Rd.rd (Old w) w cs.toList x) (h3 : 0 ≤ left) (h4 : left ≤ 1048576) :
    Calls Tryd.prog 35 #[.agg cs, .int .i64 left] w fun e w' => e = .returned (.int .i64 (szOut left (Sz.sz x))) ∧ Below w.heap.size w w' := by
  obtain ⟨hcs, f0, f1⟩ := rdFile h
  obtain rfl := arr_of_list hcs
  clear hcs
  have hsz : Sz.sz x = x.name.size + x.text.size := rfl
  rw [hsz]; clear hsz
  by_cases k0 : (x.name.size : Int) ≤ left
  · skip
    by_cases k1 : (x.name.size : Int) + (x.text.size : Int) ≤ left
    · skip
      go_enter Tryd.func35, Tryd.ntmps35
      go_wp2_with fail
      go_wp2
      go_ret
      exact ⟨end_int (by rw [szOut_val (by omega)] <;> omega), (ext_alloc _ _)⟩
    · skip
      go_enter Tryd.func35, Tryd.ntmps35
      go_wp2_with fail
      go_wp2
      go_ret
      exact ⟨end_int (by rw [szOut_bad (by omega)]), (ext_alloc _ _)⟩
  · skip
    go_enter Tryd.func35, Tryd.ntmps35
    go_wp2_with fail
    go_wp2
    go_ret
    exact ⟨end_int (by rw [szOut_bad (by omega)]), (ext_alloc _ _)⟩
set_option maxHeartbeats 2000000 in
theorem toFile_any {cs : Array Value} {x : File} (w : World) (h : Rd.rd (Old w) w cs.toList x) (hn : Sz.sz x ≤ 1048576) :
    Calls Tryd.prog 37 #[.agg cs] w fun e w' => ∃ cs' : Array Value, e = .returned (.agg cs') ∧ Rd.rd (New w.heap.size w') w' cs'.toList x ∧ Below w.heap.size w w' := by
  obtain ⟨hcs, f0, f1⟩ := rdFile h
  obtain rfl := arr_of_list hcs
  clear hcs h
  clear hn
  go_enter Tryd.func37, Tryd.ntmps37
  go_wp2
  refine bodyPost_ret (v := .agg #[.string x.name, .string x.text]) (by simp [results, Tryd.results37, go_sem]) rfl ⟨_, rfl, ?_, ?_⟩
  · exact rdFile_mk f0 f1
  · exact (by repeat' (first | (with_reducible exact Below.refl _ _) | (with_reducible refine Below.setCell ?_ ?_ _) | (with_reducible refine Below.alloc ?_ ?_ _) | (simp; done) | (simp; omega) | omega))
set_option maxHeartbeats 2000000 in
theorem eqFile_same {cs cs' : Array Value} {x : File} (w : World) (h : Rd.rd (Old w) w cs.toList x) (h' : Rd.rd (Old w) w cs'.toList x) :
    Calls Tryd.prog 43 #[.agg cs, .agg cs'] w fun e w' => e = .returned (.bool true) ∧ Below w.heap.size w w' := by
  obtain ⟨hcs, f0, f1⟩ := rdFile h
  obtain rfl := arr_of_list hcs
  obtain ⟨hcs', gf0, gf1⟩ := rdFile h'
  obtain rfl := arr_of_list hcs'
  clear hcs hcs' h h'
  go_enter Tryd.func43, Tryd.ntmps43
  go_wp2
  go_ret
  exact ⟨rfl, (by repeat' (first | (with_reducible exact Below.refl _ _) | (with_reducible refine Below.setCell ?_ ?_ _) | (with_reducible refine Below.alloc ?_ ?_ _) | (simp; done) | (simp; omega) | omega))⟩

set_option maxHeartbeats 1000000 in
theorem szFileS_any {v : Value} {xs : List File} (left : Int) (w : World) (h : Rd.rd (Old w) w [v] xs) (h3 : 0 ≤ left) (h4 : left ≤ 1048576) :
    Calls Tryd.prog 19 #[v, .int .i64 left] w fun e w' => e = .returned (.int .i64 (szOut left (Sz.sz xs))) ∧ Below w.heap.size w w' := by
  obtain ⟨a, cap, hv, h1, h2, hc⟩ := h
  obtain rfl : v = .slice a xs.length cap := by simpa using hv
  clear hv
  have hss : Sz.sz xs = xs.length + sumTo Sz.sz xs xs.length := rfl
  rw [hss]; clear hss
  by_cases hl : (xs.length : Int) ≤ left
  · go_enter Tryd.func19, Tryd.ntmps19
    go_wp2
    go_loopw [1, 5] (fun l i wr => ∃ k : Nat, k ≤ xs.length ∧ i = .int .i64 k ∧ 0 ≤ left - xs.length - sumTo Sz.sz xs k ∧ l = .int .i64 (left - xs.length - sumTo Sz.sz xs k) ∧ Below w.heap.size w wr) (fun _ i _ => xs.length - (intOf i).toNat)
    case atStart => exact ⟨0, Nat.zero_le _, rfl, by rw [sumTo_zero]; omega, by rw [sumTo_zero]; simp, Below.refl _ _⟩
    case round =>
      obtain ⟨k, hk, rfl, hr, rfl, hb⟩ := hrel
      by_cases hlt : k < xs.length
      · have HS := hid (sumTo_succ Sz.sz xs k hlt)
        have HM := hid (sumTo_le Sz.sz xs (show k + 1 ≤ xs.length by omega))
        obtain ⟨b, off, rfl, hB, hrow⟩ := hc (by omega)
        obtain ⟨cs, hcell, hx⟩ := hrow k hlt
        obtain ⟨hcs, f0, f1⟩ := rdFile hx
        subst hcs
        have t0 : wr.cell? ⟨b, off + k * 2, none⟩ = some (.string xs[k].name) := (hb.cell (p := ⟨b, off + k * 2, none⟩) hB).trans (hcell 0 (by decide))
        have t1 : wr.cell? ⟨b, off + k * 2 + 1, none⟩ = some (.string xs[k].text) := (hb.cell (p := ⟨b, off + k * 2 + 1, none⟩) hB).trans (hcell 1 (by decide))
        clear hrow hcell
        clear hc
        have hx' := Rd.later hb hx
        go_wp2_with fail
        refine (szFile_any _ _ (by exact hx') (by omega) (by omega)).mono ?_
        rintro e w1 ⟨rfl, hb1⟩
        have hB1 := ext_trans hb hb1
        by_cases hfit : ((Sz.sz xs[k] : Nat) : Int) ≤ left - xs.length - sumTo Sz.sz xs k
        · rw [szOut_val hfit]
          go_wp2
          go_roundw
          case rel => exact ⟨k + 1, by omega, by go_num, by rw [HS.out]; omega, by rw [HS.out]; go_num, hB1⟩
          case measure => simp [intOf]; omega
        · rw [szOut_bad (by omega)]
          go_wp2
          go_ret
          exact ⟨end_int (by have := HS.out; have := HM.out; rw [szOut_bad (by omega)]), hB1⟩
      · have : k = xs.length := by omega
        subst this
        clear hc
        go_wp2
        go_ret
        exact ⟨end_int (by rw [szOut_val (by omega)]; omega), hb⟩
  · clear hc
    go_enter Tryd.func19, Tryd.ntmps19
    go_wp2
    go_ret
    exact ⟨end_int (by rw [szOut_bad (by omega)]), Below.refl _ _⟩
theorem info_File : (Tryd.prog.info? 52).map (fun i => (i.zero.isSome, i.size, i.bytes)) = some (true, 2, 32) := by kernel_rfl
set_option maxHeartbeats 2000000 in
theorem toFileS_any {v : Value} {xs : List File} (w : World) (h : Rd.rd (Old w) w [v] xs) (hsz : Sz.sz xs ≤ 1048576) :
    Calls Tryd.prog 23 #[v] w fun e w' => ∃ u, e = .returned u ∧ Rd.rd (New w.heap.size w') w' [u] xs ∧ Below w.heap.size w w' := by
  obtain ⟨a, cap, hv, h1, h2, hc⟩ := h
  obtain rfl : v = .slice a xs.length cap := by simpa using hv
  clear hv
  have hn : xs.length ≤ 1048576 := Nat.le_trans (sz_len xs) hsz
  have HZ := hid (sz_each hsz)
  clear hsz
  obtain ⟨zc, hzl, hmk⟩ := make_cells (P := Tryd.prog) (t := 35) (e := 52) (n := 2) (bytes := 32) Tryd.underlying35 info_File xs.length (by omega) (by omega)
  go_enter Tryd.func23, Tryd.ntmps23
  go_wp2
  clear hmk
  go_loopw [4] (fun i wr => ∃ (k : Nat) (css : List (List Value)) (rest : List Value), k ≤ xs.length ∧ i = .int .i64 k ∧ Below w.heap.size w wr ∧ w.heap.size < wr.heap.size ∧ wr.heap[w.heap.size]? = some (.cells (css.flatten ++ rest).toArray 52 (0, 0)) ∧ rest.length = (xs.length - k) * 2 ∧ Each (New (w.heap.size + 1) wr) wr css (xs.take k)) (fun i _ => xs.length - (intOf i).toNat)
  case atStart => exact ⟨0, [], zc, Nat.zero_le _, rfl, ext_alloc _ _, by simp, by simpa using heap_alloc_new w _, by simpa using hzl, Each.nil⟩
  case round =>
    obtain ⟨k, css, rest, hk, rfl, hb, hsz, hg, hrl, he⟩ := hrel
    by_cases hlt : k < xs.length
    · have hcl := each_take he hk
      obtain ⟨b, off, rfl, hB, hrow⟩ := hc (by omega)
      obtain ⟨cs, hcell, hx⟩ := hrow k hlt
      obtain ⟨hcs, f0, f1⟩ := rdFile hx
      subst hcs
      have t0 : wr.cell? ⟨b, off + k * 2, none⟩ = some (.string xs[k].name) := (hb.cell (p := ⟨b, off + k * 2, none⟩) hB).trans (hcell 0 (by decide))
      have t1 : wr.cell? ⟨b, off + k * 2 + 1, none⟩ = some (.string xs[k].text) := (hb.cell (p := ⟨b, off + k * 2 + 1, none⟩) hB).trans (hcell 1 (by decide))
      clear hrow hcell
      clear hc
      have hx' := Rd.later hb hx
      have HR := hid hrl
      have HG := hid hg
      have HE := hid he
      have HL := hid hcl
      have hrn : 2 ≤ rest.length := by rw [hrl]; have := Nat.mul_le_mul_right 2 (show 1 ≤ xs.length - k by omega); omega
      clear hrl hg he hcl
      go_wp2_with fail
      refine (toFile_any _ (by exact hx') (HZ.out k hlt)).mono ?_
      rintro e w1 ⟨cs1, rfl, hr1, hb1⟩
      obtain ⟨hcs1, rf0, rf1⟩ := rdFile hr1
      obtain rfl := arr_of_list hcs1
      have HX := hid hr1
      clear hcs1 hr1
      have hB1 := ext_trans hb hb1
      have HG1 := hid ((hb1.block _ hsz).trans HG.out)
      obtain ⟨o0, s0⟩ : ∃ v, w1.cell? ⟨w.heap.size, k * 2, none⟩ = some v := row_get (n := 2) HG1.out HE.out.len HL.out hrn (j := 0) (by decide)
      obtain ⟨o1, s1⟩ : ∃ v, w1.cell? ⟨w.heap.size, k * 2 + 1, none⟩ = some v := row_get (n := 2) HG1.out HE.out.len HL.out hrn (j := 1) (by decide)
      have z0 : w1.frozen? ⟨w.heap.size, k * 2, none⟩ = false := frozen_of_row w1 w.heap.size _ _ _ HG1.out
      have z1 : w1.frozen? ⟨w.heap.size, k * 2 + 1, none⟩ = false := frozen_of_row w1 w.heap.size _ _ _ HG1.out
      have hl1 : w.heap.size < w1.heap.size := by have := hb1.size; omega
      go_wp2
      go_roundw
      case rel =>
        obtain ⟨rest', hg', hrl', hs', hB', he'⟩ := row_next (g := w.heap.size) (n := 2) rfl hlt HG1.out HE.out HL.out HR.out hsz hb1 hB1 HX.out
        exact ⟨k + 1, _, rest', by omega, by go_num, hB', hs', hg', hrl', he'⟩
      case measure => simp [intOf]; omega
    · have : k = xs.length := by omega
      subst this
      clear hc
      have HG := hid hg
      have HE := hid he
      clear hg he hrl
      go_wp2
      go_ret
      refine ⟨_, rfl, ?_, hb⟩
      have he := HE.out
      rw [List.take_length] at he
      exact rd_of_block HG.out (he.mono (T := New w.heap.size wr) (fun b (hb' : w.heap.size + 1 ≤ b ∧ b < wr.heap.size) => ⟨by omega, hb'.2⟩)) ⟨Nat.le_refl _, hsz⟩ (Nat.le_refl _) (by omega)
set_option maxHeartbeats 4000000 in
theorem eqFileS_same {v u : Value} {xs : List File} (w : World) (h : Rd.rd (Old w) w [v] xs) (h' : Rd.rd (Old w) w [u] xs) :
    Calls Tryd.prog 27 #[v, u] w fun e w' => e = .returned (.bool true) ∧ Below w.heap.size w w' := by
  obtain ⟨a, cap, hv, h1, h2, hc⟩ := h
  obtain rfl : v = .slice a xs.length cap := by simpa using hv
  obtain ⟨a', cap', hv', h1', h2', hc'⟩ := h'
  obtain rfl : u = .slice a' xs.length cap' := by simpa using hv'
  clear hv hv'
  go_enter Tryd.func27, Tryd.ntmps27
  go_wp2
  go_loopw [5] (fun i wr => ∃ k : Nat, k ≤ xs.length ∧ i = .int .i64 k ∧ Below w.heap.size w wr) (fun i _ => xs.length - (intOf i).toNat)
  case atStart => exact ⟨0, Nat.zero_le _, rfl, Below.refl _ _⟩
  case round =>
    obtain ⟨k, hk, rfl, hb⟩ := hrel
    by_cases hlt : k < xs.length
    · skip
      obtain ⟨b, off, rfl, hB, hrow⟩ := hc (by omega)
      obtain ⟨cs, hcell, hx⟩ := hrow k hlt
      obtain ⟨hcs, f0, f1⟩ := rdFile hx
      subst hcs
      have t0 : wr.cell? ⟨b, off + k * 2, none⟩ = some (.string xs[k].name) := (hb.cell (p := ⟨b, off + k * 2, none⟩) hB).trans (hcell 0 (by decide))
      have t1 : wr.cell? ⟨b, off + k * 2 + 1, none⟩ = some (.string xs[k].text) := (hb.cell (p := ⟨b, off + k * 2 + 1, none⟩) hB).trans (hcell 1 (by decide))
      clear hrow hcell
      obtain ⟨b', off', rfl, hBq, hrowq⟩ := hc' (by omega)
      obtain ⟨csq, hcellq, hxq⟩ := hrowq k hlt
      obtain ⟨hcsq, qf0, qf1⟩ := rdFile hxq
      subst hcsq
      have tq0 : wr.cell? ⟨b', off' + k * 2, none⟩ = some (.string xs[k].name) := (hb.cell (p := ⟨b', off' + k * 2, none⟩) hBq).trans (hcellq 0 (by decide))
      have tq1 : wr.cell? ⟨b', off' + k * 2 + 1, none⟩ = some (.string xs[k].text) := (hb.cell (p := ⟨b', off' + k * 2 + 1, none⟩) hBq).trans (hcellq 1 (by decide))
      clear hrowq hcellq
      clear hc hc'
      have hx' := Rd.later hb hx
      have hqx' := Rd.later hb hxq
      have hi1 : (0 : Int) ≤ k := by omega
      have hi2 : (k : Int) < xs.length := by omega
      have hwr : wr.heap.size ≤ wr.heap.size := Nat.le_refl _
      go_wp2_with fail
      go_region_held3 (fun w' => w'.cell? ⟨b, off + k * 2, none⟩ = some (.string xs[k].name) ∧ w'.cell? ⟨b, off + k * 2 + 1, none⟩ = some (.string xs[k].text) ∧ w'.cell? ⟨b', off' + k * 2, none⟩ = some (.string xs[k].name) ∧ w'.cell? ⟨b', off' + k * 2 + 1, none⟩ = some (.string xs[k].text)) (simp [*])
        ((go_at_call 43; refine (eqFile_same _ (by exact Rd.later (by repeat' (first | (with_reducible exact Below.refl _ _) | (with_reducible refine Below.drew ?_))) hx') (by exact Rd.later (by repeat' (first | (with_reducible exact Below.refl _ _) | (with_reducible refine Below.drew ?_))) hqx')).mono ?_; rintro e w1 ⟨rfl, hb1⟩; have hk1 := keeps_cells hb1; have hbx := ext_trans (by repeat' (first | (with_reducible exact hb) | (with_reducible refine Below.drew ?_)) : Below w.heap.size w _) hb1))
      go_wp2
      go_roundw
      case rel => exact ⟨k + 1, by omega, by go_num, by repeat' (first | (with_reducible exact hbx) | (with_reducible refine Below.drew ?_))⟩
      case measure => simp [intOf]; omega
    · have : k = xs.length := by omega
      subst this
      clear hc hc'
      go_wp2
      go_ret
      exact ⟨rfl, hb⟩

end Go.Proofs.YtkmkencodcfloaaDoor
