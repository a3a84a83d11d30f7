/-
  What is proved here: the laws' sizes, copies and comparisons of the program's structs. No condition. Written by gensz.py.
  What is proved here: the laws' sizes, copies and comparisons of the program's structs. No condition. Written by gensz.py.
  What is proved here: the laws' sizes, copies and comparisons of the program's structs. No condition. Written by gensz.py.
  What is proved here: slices.IndexFunc and slices.ContainsFunc at File and at string, for whatever predicate that turns nothing; the first file of a name. No condition.
-/
import Derived.Test.YtkmkencodcfloaaDoorStr
import Derived.Deep.RegionHeld3
namespace Go.Proofs.YtkmkencodcfloaaDoor
open Go.RowKit
set_option linter.unusedVariables false
set_option linter.unusedSimpArgs false

theorem keeps_setAll {B : Nat} {w1 : World} {g : Nat} (o : Nat) : ∀ (i : Nat) (cs : List Value) {W : World}, Keeps B w1 W → g < B → Keeps B w1 (setAll W g o i cs)
  | _, [], _, h, _ => h
  | i, c :: r, _, h, hg => keeps_setAll o (i + 1) r (h.set hg c) hg
theorem below_setAll {B : Nat} {w1 : World} {g : Nat} (o : Nat) : ∀ (i : Nat) (cs : List Value) {W : World}, Below B w1 W → B ≤ g → Below B w1 (setAll W g o i cs)
  | _, [], _, h, _ => h
  | i, c :: r, _, h, hg => below_setAll o (i + 1) r (h.setCell hg c) hg
theorem blk_stay {W w1 : World} {g : Nat} {o : Obj} (h : W.heap[g]? = some o) (hb : Below W.heap.size W w1) : w1.heap[g]? = some o := (hb.block g (Array.getElem?_eq_some_iff.1 h).1).trans h
theorem blk_set {W : World} {g : Nat} {p : Addr} {o : Obj} (h : W.heap[g]? = some o) (hp : g ≠ p.block) (u : Value) : (W.setCell p u).heap[g]? = some o := (Below.heap_setCell W p u g hp).trans h
theorem blk_alloc {W : World} {g : Nat} {o : Obj} (h : W.heap[g]? = some o) (o' : Obj) : (W.alloc o').heap[g]? = some o := blk_stay h (ext_alloc W o')
theorem rdConf {S : Nat → Prop} {w : World} {cs : List Value} {x : Conf} (h : Rd.rd S w cs x) : cs = [.int .i64 x.tag, .string x.fs, .string x.rs, .string x.ofs, .string x.ors, .bool x.head] ∧ (-9223372036854775808 ≤ x.tag ∧ x.tag ≤ 9223372036854775807) ∧ (x.fs.size ≤ 9223372036854775807) ∧ (x.rs.size ≤ 9223372036854775807) ∧ (x.ofs.size ≤ 9223372036854775807) ∧ (x.ors.size ≤ 9223372036854775807) := by
  obtain ⟨_, _, rfl, ⟨rfl, h0⟩, ⟨_, _, rfl, ⟨rfl, h1⟩, ⟨_, _, rfl, ⟨rfl, h2⟩, ⟨_, _, rfl, ⟨rfl, h3⟩, ⟨_, _, rfl, ⟨rfl, h4⟩, rfl⟩⟩⟩⟩⟩ := h
  exact ⟨rfl, h0, h1, h2, h3, h4⟩
theorem rdConf_mk {S : Nat → Prop} {w : World} {x : Conf} (h0 : -9223372036854775808 ≤ x.tag ∧ x.tag ≤ 9223372036854775807) (h1 : x.fs.size ≤ 9223372036854775807) (h2 : x.rs.size ≤ 9223372036854775807) (h3 : x.ofs.size ≤ 9223372036854775807) (h4 : x.ors.size ≤ 9223372036854775807) : Rd.rd S w [.int .i64 x.tag, .string x.fs, .string x.rs, .string x.ofs, .string x.ors, .bool x.head] x :=
  ⟨_, _, rfl, ⟨rfl, h0⟩, ⟨_, _, rfl, ⟨rfl, h1⟩, ⟨_, _, rfl, ⟨rfl, h2⟩, ⟨_, _, rfl, ⟨rfl, h3⟩, ⟨_, _, rfl, ⟨rfl, h4⟩, rfl⟩⟩⟩⟩⟩
instance : Sz Conf := ⟨fun x => x.fs.size + x.rs.size + x.ofs.size + x.ors.size⟩
set_option maxHeartbeats 1000000 in
theorem szConf_any {cs : Array Value} {x : Conf} (left : Int) (w : World) (h : Rd.rd (Old w) w cs.toList x) (h3 : 0 ≤ left) (h4 : left ≤ 1048576) :
    Calls Tryd.prog 5 #[.agg cs, .int .i64 left] w fun e w' => e = .returned (.int .i64 (szOut left (Sz.sz x))) ∧ Below w.heap.size w w' := by
  obtain ⟨hcs, f0, f1, f2, f3, f4⟩ := rdConf h
  obtain rfl := arr_of_list hcs
  clear hcs
  have hsz : Sz.sz x = x.fs.size + x.rs.size + x.ofs.size + x.ors.size := rfl
  rw [hsz]; clear hsz
  by_cases k0 : (x.fs.size : Int) ≤ left
  · skip
    by_cases k1 : (x.fs.size : Int) + (x.rs.size : Int) ≤ left
    · skip
      by_cases k2 : (x.fs.size : Int) + (x.rs.size : Int) + (x.ofs.size : Int) ≤ left
      · skip
        by_cases k3 : (x.fs.size : Int) + (x.rs.size : Int) + (x.ofs.size : Int) + (x.ors.size : Int) ≤ left
        · skip
          go_enter Tryd.func5, Tryd.ntmps5
          go_wp2_with fail
          go_wp2
          go_ret
          exact ⟨end_int (by rw [szOut_val (by omega)] <;> omega), (ext_alloc _ _)⟩
        · skip
          go_enter Tryd.func5, Tryd.ntmps5
          go_wp2_with fail
          go_wp2
          go_ret
          exact ⟨end_int (by rw [szOut_bad (by omega)]), (ext_alloc _ _)⟩
      · skip
        go_enter Tryd.func5, Tryd.ntmps5
        go_wp2_with fail
        go_wp2
        go_ret
        exact ⟨end_int (by rw [szOut_bad (by omega)]), (ext_alloc _ _)⟩
    · skip
      go_enter Tryd.func5, Tryd.ntmps5
      go_wp2_with fail
      go_wp2
      go_ret
      exact ⟨end_int (by rw [szOut_bad (by omega)]), (ext_alloc _ _)⟩
  · skip
    go_enter Tryd.func5, Tryd.ntmps5
    go_wp2_with fail
    go_wp2
    go_ret
    exact ⟨end_int (by rw [szOut_bad (by omega)]), (ext_alloc _ _)⟩
set_option maxHeartbeats 2000000 in
theorem toConf_any {cs : Array Value} {x : Conf} (w : World) (h : Rd.rd (Old w) w cs.toList x) (hn : Sz.sz x ≤ 1048576) :
    Calls Tryd.prog 7 #[.agg cs] w fun e w' => ∃ cs' : Array Value, e = .returned (.agg cs') ∧ Rd.rd (New w.heap.size w') w' cs'.toList x ∧ Below w.heap.size w w' := by
  obtain ⟨hcs, f0, f1, f2, f3, f4⟩ := rdConf h
  obtain rfl := arr_of_list hcs
  clear hcs h
  clear hn
  go_enter Tryd.func7, Tryd.ntmps7
  go_wp2
  refine bodyPost_ret (v := .agg #[.int .i64 x.tag, .string x.fs, .string x.rs, .string x.ofs, .string x.ors, .bool x.head]) (by simp [results, Tryd.results7, go_sem]) rfl ⟨_, rfl, ?_, ?_⟩
  · exact rdConf_mk f0 f1 f2 f3 f4
  · exact (by repeat' (first | (with_reducible exact Below.refl _ _) | (with_reducible refine Below.setCell ?_ ?_ _) | (with_reducible refine Below.alloc ?_ ?_ _) | (simp; done) | (simp; omega) | omega))
set_option maxHeartbeats 2000000 in
theorem eqConf_same {cs cs' : Array Value} {x : Conf} (w : World) (h : Rd.rd (Old w) w cs.toList x) (h' : Rd.rd (Old w) w cs'.toList x) :
    Calls Tryd.prog 26 #[.agg cs, .agg cs'] w fun e w' => e = .returned (.bool true) ∧ Below w.heap.size w w' := by
  obtain ⟨hcs, f0, f1, f2, f3, f4⟩ := rdConf h
  obtain rfl := arr_of_list hcs
  obtain ⟨hcs', gf0, gf1, gf2, gf3, gf4⟩ := rdConf h'
  obtain rfl := arr_of_list hcs'
  clear hcs hcs' h h'
  go_enter Tryd.func26, Tryd.ntmps26
  go_wp2
  go_ret
  exact ⟨rfl, (by repeat' (first | (with_reducible exact Below.refl _ _) | (with_reducible refine Below.setCell ?_ ?_ _) | (with_reducible refine Below.alloc ?_ ?_ _) | (simp; done) | (simp; omega) | omega))⟩

theorem rdFile {S : Nat → Prop} {w : World} {cs : List Value} {x : File} (h : Rd.rd S w cs x) : cs = [.string x.name, .string x.text] ∧ (x.name.size ≤ 9223372036854775807) ∧ (x.text.size ≤ 9223372036854775807) := by
  obtain ⟨_, _, rfl, ⟨rfl, h0⟩, ⟨rfl, h1⟩⟩ := h
  exact ⟨rfl, h0, h1⟩
theorem rdFile_mk {S : Nat → Prop} {w : World} {x : File} (h0 : x.name.size ≤ 9223372036854775807) (h1 : x.text.size ≤ 9223372036854775807) : Rd.rd S w [.string x.name, .string x.text] x :=
  ⟨_, _, rfl, ⟨rfl, h0⟩, ⟨rfl, h1⟩⟩
instance : Sz File := ⟨fun x => x.name.size + x.text.size⟩
set_option maxHeartbeats 1000000 in
theorem szFile_any {cs : Array Value} {x : File} (left : Int) (w : World) (h : Rd.rd (Old w) w cs.toList x) (h3 : 0 ≤ left) (h4 : left ≤ 1048576) :
    Calls Tryd.prog 35 #[.agg cs, .int .i64 left] w fun e w' => e = .returned (.int .i64 (szOut left (Sz.sz x))) ∧ Below w.heap.size w w' := by
  obtain ⟨hcs, f0, f1⟩ := rdFile h
  obtain rfl := arr_of_list hcs
  clear hcs
  have hsz : Sz.sz x = x.name.size + x.text.size := rfl
  rw [hsz]; clear hsz
  by_cases k0 : (x.name.size : Int) ≤ left
  · skip
    by_cases k1 : (x.name.size : Int) + (x.text.size : Int) ≤ left
    · skip
      go_enter Tryd.func35, Tryd.ntmps35
      go_wp2_with fail
      go_wp2
      go_ret
      exact ⟨end_int (by rw [szOut_val (by omega)] <;> omega), (ext_alloc _ _)⟩
    · skip
      go_enter Tryd.func35, Tryd.ntmps35
      go_wp2_with fail
      go_wp2
      go_ret
      exact ⟨end_int (by rw [szOut_bad (by omega)]), (ext_alloc _ _)⟩
  · skip
    go_enter Tryd.func35, Tryd.ntmps35
    go_wp2_with fail
    go_wp2
    go_ret
    exact ⟨end_int (by rw [szOut_bad (by omega)]), (ext_alloc _ _)⟩
set_option maxHeartbeats 2000000 in
theorem toFile_any {cs : Array Value} {x : File} (w : World) (h : Rd.rd (Old w) w cs.toList x) (hn : Sz.sz x ≤ 1048576) :
    Calls Tryd.prog 37 #[.agg cs] w fun e w' => ∃ cs' : Array Value, e = .returned (.agg cs') ∧ Rd.rd (New w.heap.size w') w' cs'.toList x ∧ Below w.heap.size w w' := by
  obtain ⟨hcs, f0, f1⟩ := rdFile h
  obtain rfl := arr_of_list hcs
  clear hcs h
  clear hn
  go_enter Tryd.func37, Tryd.ntmps37
  go_wp2
  refine bodyPost_ret (v := .agg #[.string x.name, .string x.text]) (by simp [results, Tryd.results37, go_sem]) rfl ⟨_, rfl, ?_, ?_⟩
  · exact rdFile_mk f0 f1
  · exact (by repeat' (first | (with_reducible exact Below.refl _ _) | (with_reducible refine Below.setCell ?_ ?_ _) | (with_reducible refine Below.alloc ?_ ?_ _) | (simp; done) | (simp; omega) | omega))
set_option maxHeartbeats 2000000 in
theorem eqFile_same {cs cs' : Array Value} {x : File} (w : World) (h : Rd.rd (Old w) w cs.toList x) (h' : Rd.rd (Old w) w cs'.toList x) :
    Calls Tryd.prog 43 #[.agg cs, .agg cs'] w fun e w' => e = .returned (.bool true) ∧ Below w.heap.size w w' := by
  obtain ⟨hcs, f0, f1⟩ := rdFile h
  obtain rfl := arr_of_list hcs
  obtain ⟨hcs', gf0, gf1⟩ := rdFile h'
  obtain rfl := arr_of_list hcs'
  clear hcs hcs' h h'
  go_enter Tryd.func43, Tryd.ntmps43
  go_wp2
  go_ret
  exact ⟨rfl, (by repeat' (first | (with_reducible exact Below.refl _ _) | (with_reducible refine Below.setCell ?_ ?_ _) | (with_reducible refine Below.alloc ?_ ?_ _) | (simp; done) | (simp; omega) | omega))⟩

set_option maxHeartbeats 1000000 in
theorem szFileS_any {v : Value} {xs : List File} (left : Int) (w : World) (h : Rd.rd (Old w) w [v] xs) (h3 : 0 ≤ left) (h4 : left ≤ 1048576) :
    Calls Tryd.prog 19 #[v, .int .i64 left] w fun e w' => e = .returned (.int .i64 (szOut left (Sz.sz xs))) ∧ Below w.heap.size w w' := by
  obtain ⟨a, cap, hv, h1, h2, hc⟩ := h
  obtain rfl : v = .slice a xs.length cap := by simpa using hv
  clear hv
  have hss : Sz.sz xs = xs.length + sumTo Sz.sz xs xs.length := rfl
  rw [hss]; clear hss
  by_cases hl : (xs.length : Int) ≤ left
  · go_enter Tryd.func19, Tryd.ntmps19
    go_wp2
    go_loopw [1, 5] (fun l i wr => ∃ k : Nat, k ≤ xs.length ∧ i = .int .i64 k ∧ 0 ≤ left - xs.length - sumTo Sz.sz xs k ∧ l = .int .i64 (left - xs.length - sumTo Sz.sz xs k) ∧ Below w.heap.size w wr) (fun _ i _ => xs.length - (intOf i).toNat)
    case atStart => exact ⟨0, Nat.zero_le _, rfl, by rw [sumTo_zero]; omega, by rw [sumTo_zero]; simp, Below.refl _ _⟩
    case round =>
      obtain ⟨k, hk, rfl, hr, rfl, hb⟩ := hrel
      by_cases hlt : k < xs.length
      · have HS := hid (sumTo_succ Sz.sz xs k hlt)
        have HM := hid (sumTo_le Sz.sz xs (show k + 1 ≤ xs.length by omega))
        obtain ⟨b, off, rfl, hB, hrow⟩ := hc (by omega)
        obtain ⟨cs, hcell, hx⟩ := hrow k hlt
        obtain ⟨hcs, f0, f1⟩ := rdFile hx
        subst hcs
        have t0 : wr.cell? ⟨b, off + k * 2, none⟩ = some (.string xs[k].name) := (hb.cell (p := ⟨b, off + k * 2, none⟩) hB).trans (hcell 0 (by decide))
        have t1 : wr.cell? ⟨b, off + k * 2 + 1, none⟩ = some (.string xs[k].text) := (hb.cell (p := ⟨b, off + k * 2 + 1, none⟩) hB).trans (hcell 1 (by decide))
        clear hrow hcell
        clear hc
        have hx' := Rd.later hb hx
        go_wp2_with fail
        refine (szFile_any _ _ (by exact hx') (by omega) (by omega)).mono ?_
        rintro e w1 ⟨rfl, hb1⟩
        have hB1 := ext_trans hb hb1
        by_cases hfit : ((Sz.sz xs[k] : Nat) : Int) ≤ left - xs.length - sumTo Sz.sz xs k
        · rw [szOut_val hfit]
          go_wp2
          go_roundw
          case rel => exact ⟨k + 1, by omega, by go_num, by rw [HS.out]; omega, by rw [HS.out]; go_num, hB1⟩
          case measure => simp [intOf]; omega
        · rw [szOut_bad (by omega)]
          go_wp2
          go_ret
          exact ⟨end_int (by have := HS.out; have := HM.out; rw [szOut_bad (by omega)]), hB1⟩
      · have : k = xs.length := by omega
        subst this
        clear hc
        go_wp2
        go_ret
        exact ⟨end_int (by rw [szOut_val (by omega)]; omega), hb⟩
  · clear hc
    go_enter Tryd.func19, Tryd.ntmps19
    go_wp2
    go_ret
    exact ⟨end_int (by rw [szOut_bad (by omega)]), Below.refl _ _⟩
theorem info_File : (Tryd.prog.info? 52).map (fun i => (i.zero.isSome, i.size, i.bytes)) = some (true, 2, 32) := by kernel_rfl
set_option maxHeartbeats 2000000 in
theorem toFileS_any {v : Value} {xs : List File} (w : World) (h : Rd.rd (Old w) w [v] xs) (hsz : Sz.sz xs ≤ 1048576) :
    Calls Tryd.prog 23 #[v] w fun e w' => ∃ u, e = .returned u ∧ Rd.rd (New w.heap.size w') w' [u] xs ∧ Below w.heap.size w w' := by
  obtain ⟨a, cap, hv, h1, h2, hc⟩ := h
  obtain rfl : v = .slice a xs.length cap := by simpa using hv
  clear hv
  have hn : xs.length ≤ 1048576 := Nat.le_trans (sz_len xs) hsz
  have HZ := hid (sz_each hsz)
  clear hsz
  obtain ⟨zc, hzl, hmk⟩ := make_cells (P := Tryd.prog) (t := 35) (e := 52) (n := 2) (bytes := 32) Tryd.underlying35 info_File xs.length (by omega) (by omega)
  go_enter Tryd.func23, Tryd.ntmps23
  go_wp2
  clear hmk
  go_loopw [4] (fun i wr => ∃ (k : Nat) (css : List (List Value)) (rest : List Value), k ≤ xs.length ∧ i = .int .i64 k ∧ Below w.heap.size w wr ∧ w.heap.size < wr.heap.size ∧ wr.heap[w.heap.size]? = some (.cells (css.flatten ++ rest).toArray 52 (0, 0)) ∧ rest.length = (xs.length - k) * 2 ∧ Each (New (w.heap.size + 1) wr) wr css (xs.take k)) (fun i _ => xs.length - (intOf i).toNat)
  case atStart => exact ⟨0, [], zc, Nat.zero_le _, rfl, ext_alloc _ _, by simp, by simpa using heap_alloc_new w _, by simpa using hzl, Each.nil⟩
  case round =>
    obtain ⟨k, css, rest, hk, rfl, hb, hsz, hg, hrl, he⟩ := hrel
    by_cases hlt : k < xs.length
    · have hcl := each_take he hk
      obtain ⟨b, off, rfl, hB, hrow⟩ := hc (by omega)
      obtain ⟨cs, hcell, hx⟩ := hrow k hlt
      obtain ⟨hcs, f0, f1⟩ := rdFile hx
      subst hcs
      have t0 : wr.cell? ⟨b, off + k * 2, none⟩ = some (.string xs[k].name) := (hb.cell (p := ⟨b, off + k * 2, none⟩) hB).trans (hcell 0 (by decide))
      have t1 : wr.cell? ⟨b, off + k * 2 + 1, none⟩ = some (.string xs[k].text) := (hb.cell (p := ⟨b, off + k * 2 + 1, none⟩) hB).trans (hcell 1 (by decide))
      clear hrow hcell
      clear hc
      have hx' := Rd.later hb hx
      have HR := hid hrl
      have HG := hid hg
      have HE := hid he
      have HL := hid hcl
      have hrn : 2 ≤ rest.length := by rw [hrl]; have := Nat.mul_le_mul_right 2 (show 1 ≤ xs.length - k by omega); omega
      clear hrl hg he hcl
      go_wp2_with fail
      refine (toFile_any _ (by exact hx') (HZ.out k hlt)).mono ?_
      rintro e w1 ⟨cs1, rfl, hr1, hb1⟩
      obtain ⟨hcs1, rf0, rf1⟩ := rdFile hr1
      obtain rfl := arr_of_list hcs1
      have HX := hid hr1
      clear hcs1 hr1
      have hB1 := ext_trans hb hb1
      have HG1 := hid ((hb1.block _ hsz).trans HG.out)
      obtain ⟨o0, s0⟩ : ∃ v, w1.cell? ⟨w.heap.size, k * 2, none⟩ = some v := row_get (n := 2) HG1.out HE.out.len HL.out hrn (j := 0) (by decide)
      obtain ⟨o1, s1⟩ : ∃ v, w1.cell? ⟨w.heap.size, k * 2 + 1, none⟩ = some v := row_get (n := 2) HG1.out HE.out.len HL.out hrn (j := 1) (by decide)
      have z0 : w1.frozen? ⟨w.heap.size, k * 2, none⟩ = false := frozen_of_row w1 w.heap.size _ _ _ HG1.out
      have z1 : w1.frozen? ⟨w.heap.size, k * 2 + 1, none⟩ = false := frozen_of_row w1 w.heap.size _ _ _ HG1.out
      have hl1 : w.heap.size < w1.heap.size := by have := hb1.size; omega
      go_wp2
      go_roundw
      case rel =>
        obtain ⟨rest', hg', hrl', hs', hB', he'⟩ := row_next (g := w.heap.size) (n := 2) rfl hlt HG1.out HE.out HL.out HR.out hsz hb1 hB1 HX.out
        exact ⟨k + 1, _, rest', by omega, by go_num, hB', hs', hg', hrl', he'⟩
      case measure => simp [intOf]; omega
    · have : k = xs.length := by omega
      subst this
      clear hc
      have HG := hid hg
      have HE := hid he
      clear hg he hrl
      go_wp2
      go_ret
      refine ⟨_, rfl, ?_, hb⟩
      have he := HE.out
      rw [List.take_length] at he
      exact rd_of_block HG.out (he.mono (T := New w.heap.size wr) (fun b (hb' : w.heap.size + 1 ≤ b ∧ b < wr.heap.size) => ⟨by omega, hb'.2⟩)) ⟨Nat.le_refl _, hsz⟩ (Nat.le_refl _) (by omega)
set_option maxHeartbeats 4000000 in
theorem eqFileS_same {v u : Value} {xs : List File} (w : World) (h : Rd.rd (Old w) w [v] xs) (h' : Rd.rd (Old w) w [u] xs) :
    Calls Tryd.prog 27 #[v, u] w fun e w' => e = .returned (.bool true) ∧ Below w.heap.size w w' := by
  obtain ⟨a, cap, hv, h1, h2, hc⟩ := h
  obtain rfl : v = .slice a xs.length cap := by simpa using hv
  obtain ⟨a', cap', hv', h1', h2', hc'⟩ := h'
  obtain rfl : u = .slice a' xs.length cap' := by simpa using hv'
  clear hv hv'
  go_enter Tryd.func27, Tryd.ntmps27
  go_wp2
  go_loopw [5] (fun i wr => ∃ k : Nat, k ≤ xs.length ∧ i = .int .i64 k ∧ Below w.heap.size w wr) (fun i _ => xs.length - (intOf i).toNat)
  case atStart => exact ⟨0, Nat.zero_le _, rfl, Below.refl _ _⟩
  case round =>
    obtain ⟨k, hk, rfl, hb⟩ := hrel
    by_cases hlt : k < xs.length
    · skip
      obtain ⟨b, off, rfl, hB, hrow⟩ := hc (by omega)
      obtain ⟨cs, hcell, hx⟩ := hrow k hlt
      obtain ⟨hcs, f0, f1⟩ := rdFile hx
      subst hcs
      have t0 : wr.cell? ⟨b, off + k * 2, none⟩ = some (.string xs[k].name) := (hb.cell (p := ⟨b, off + k * 2, none⟩) hB).trans (hcell 0 (by decide))
      have t1 : wr.cell? ⟨b, off + k * 2 + 1, none⟩ = some (.string xs[k].text) := (hb.cell (p := ⟨b, off + k * 2 + 1, none⟩) hB).trans (hcell 1 (by decide))
      clear hrow hcell
      obtain ⟨b', off', rfl, hBq, hrowq⟩ := hc' (by omega)
      obtain ⟨csq, hcellq, hxq⟩ := hrowq k hlt
      obtain ⟨hcsq, qf0, qf1⟩ := rdFile hxq
      subst hcsq
      have tq0 : wr.cell? ⟨b', off' + k * 2, none⟩ = some (.string xs[k].name) := (hb.cell (p := ⟨b', off' + k * 2, none⟩) hBq).trans (hcellq 0 (by decide))
      have tq1 : wr.cell? ⟨b', off' + k * 2 + 1, none⟩ = some (.string xs[k].text) := (hb.cell (p := ⟨b', off' + k * 2 + 1, none⟩) hBq).trans (hcellq 1 (by decide))
      clear hrowq hcellq
      clear hc hc'
      have hx' := Rd.later hb hx
      have hqx' := Rd.later hb hxq
      have hi1 : (0 : Int) ≤ k := by omega
      have hi2 : (k : Int) < xs.length := by omega
      have hwr : wr.heap.size ≤ wr.heap.size := Nat.le_refl _
      go_wp2_with fail
      go_region_held3 (fun w' => w'.cell? ⟨b, off + k * 2, none⟩ = some (.string xs[k].name) ∧ w'.cell? ⟨b, off + k * 2 + 1, none⟩ = some (.string xs[k].text) ∧ w'.cell? ⟨b', off' + k * 2, none⟩ = some (.string xs[k].name) ∧ w'.cell? ⟨b', off' + k * 2 + 1, none⟩ = some (.string xs[k].text)) (simp [*])
        ((go_at_call 43; refine (eqFile_same _ (by exact Rd.later (by repeat' (first | (with_reducible exact Below.refl _ _) | (with_reducible refine Below.drew ?_))) hx') (by exact Rd.later (by repeat' (first | (with_reducible exact Below.refl _ _) | (with_reducible refine Below.drew ?_))) hqx')).mono ?_; rintro e w1 ⟨rfl, hb1⟩; have hk1 := keeps_cells hb1; have hbx := ext_trans (by repeat' (first | (with_reducible exact hb) | (with_reducible refine Below.drew ?_)) : Below w.heap.size w _) hb1))
      go_wp2
      go_roundw
      case rel => exact ⟨k + 1, by omega, by go_num, by repeat' (first | (with_reducible exact hbx) | (with_reducible refine Below.drew ?_))⟩
      case measure => simp [intOf]; omega
    · have : k = xs.length := by omega
      subst this
      clear hc hc'
      go_wp2
      go_ret
      exact ⟨rfl, hb⟩

end Go.Proofs.YtkmkencodcfloaaDoor

namespace Go.Proofs.YtkmkencodcfloaaDoor
open Go.RowKit
set_option linter.unusedVariables false
set_option linter.unusedSimpArgs false
theorem rdWorldT {S : Nat → Prop} {w : World} {cs : List Value} {x : WorldT} (h : Rd.rd S w cs x) : ∃ (a12 : Option Addr) (c12 : Nat), ∃ (a13 : Option Addr) (c13 : Nat), cs = [.int .i64 x.inp.tag, .string x.inp.fs, .string x.inp.rs, .string x.inp.ofs, .string x.inp.ors, .bool x.inp.head, .int .i64 x.out.tag, .string x.out.fs, .string x.out.rs, .string x.out.ofs, .string x.out.ors, .bool x.out.head, .slice a12 x.files.length c12, .slice a13 x.args.length c13] ∧ (-9223372036854775808 ≤ x.inp.tag ∧ x.inp.tag ≤ 9223372036854775807) ∧ (x.inp.fs.size ≤ 9223372036854775807) ∧ (x.inp.rs.size ≤ 9223372036854775807) ∧ (x.inp.ofs.size ≤ 9223372036854775807) ∧ (x.inp.ors.size ≤ 9223372036854775807) ∧ (-9223372036854775808 ≤ x.out.tag ∧ x.out.tag ≤ 9223372036854775807) ∧ (x.out.fs.size ≤ 9223372036854775807) ∧ (x.out.rs.size ≤ 9223372036854775807) ∧ (x.out.ofs.size ≤ 9223372036854775807) ∧ (x.out.ors.size ≤ 9223372036854775807) ∧ (Rd.rd S w [.slice a12 x.files.length c12] x.files) ∧ (Rd.rd S w [.slice a13 x.args.length c13] x.args) := by
  obtain ⟨_, _, rfl, ⟨_, _, rfl, ⟨rfl, h0⟩, ⟨_, _, rfl, ⟨rfl, h1⟩, ⟨_, _, rfl, ⟨rfl, h2⟩, ⟨_, _, rfl, ⟨rfl, h3⟩, ⟨_, _, rfl, ⟨rfl, h4⟩, rfl⟩⟩⟩⟩⟩, ⟨_, _, rfl, ⟨_, _, rfl, ⟨rfl, h6⟩, ⟨_, _, rfl, ⟨rfl, h7⟩, ⟨_, _, rfl, ⟨rfl, h8⟩, ⟨_, _, rfl, ⟨rfl, h9⟩, ⟨_, _, rfl, ⟨rfl, h10⟩, rfl⟩⟩⟩⟩⟩, ⟨_, _, rfl, h12, h13⟩⟩⟩ := h
  obtain ⟨a12, c12, e12⟩ := rdSlc h12
  subst e12
  obtain ⟨a13, c13, e13⟩ := rdSlc h13
  subst e13
  exact ⟨a12, c12, a13, c13, rfl, h0, h1, h2, h3, h4, h6, h7, h8, h9, h10, h12, h13⟩
theorem rdWorldT_mk {S : Nat → Prop} {w : World} {x : WorldT} {a12 : Option Addr} {c12 : Nat} {a13 : Option Addr} {c13 : Nat} (h0 : -9223372036854775808 ≤ x.inp.tag ∧ x.inp.tag ≤ 9223372036854775807) (h1 : x.inp.fs.size ≤ 9223372036854775807) (h2 : x.inp.rs.size ≤ 9223372036854775807) (h3 : x.inp.ofs.size ≤ 9223372036854775807) (h4 : x.inp.ors.size ≤ 9223372036854775807) (h5 : -9223372036854775808 ≤ x.out.tag ∧ x.out.tag ≤ 9223372036854775807) (h6 : x.out.fs.size ≤ 9223372036854775807) (h7 : x.out.rs.size ≤ 9223372036854775807) (h8 : x.out.ofs.size ≤ 9223372036854775807) (h9 : x.out.ors.size ≤ 9223372036854775807) (h10 : Rd.rd S w [.slice a12 x.files.length c12] x.files) (h11 : Rd.rd S w [.slice a13 x.args.length c13] x.args) : Rd.rd S w [.int .i64 x.inp.tag, .string x.inp.fs, .string x.inp.rs, .string x.inp.ofs, .string x.inp.ors, .bool x.inp.head, .int .i64 x.out.tag, .string x.out.fs, .string x.out.rs, .string x.out.ofs, .string x.out.ors, .bool x.out.head, .slice a12 x.files.length c12, .slice a13 x.args.length c13] x :=
  ⟨_, _, rfl, ⟨_, _, rfl, ⟨rfl, h0⟩, ⟨_, _, rfl, ⟨rfl, h1⟩, ⟨_, _, rfl, ⟨rfl, h2⟩, ⟨_, _, rfl, ⟨rfl, h3⟩, ⟨_, _, rfl, ⟨rfl, h4⟩, rfl⟩⟩⟩⟩⟩, ⟨_, _, rfl, ⟨_, _, rfl, ⟨rfl, h5⟩, ⟨_, _, rfl, ⟨rfl, h6⟩, ⟨_, _, rfl, ⟨rfl, h7⟩, ⟨_, _, rfl, ⟨rfl, h8⟩, ⟨_, _, rfl, ⟨rfl, h9⟩, rfl⟩⟩⟩⟩⟩, ⟨_, _, rfl, h10, h11⟩⟩⟩
instance : Sz WorldT := ⟨fun x => Sz.sz x.inp + Sz.sz x.out + Sz.sz x.files + Sz.sz x.args⟩
theorem rdJob {S : Nat → Prop} {w : World} {cs : List Value} {x : Job} (h : Rd.rd S w cs x) : ∃ (a12 : Option Addr) (c12 : Nat), ∃ (a13 : Option Addr) (c13 : Nat), cs = [.int .i64 x.world.inp.tag, .string x.world.inp.fs, .string x.world.inp.rs, .string x.world.inp.ofs, .string x.world.inp.ors, .bool x.world.inp.head, .int .i64 x.world.out.tag, .string x.world.out.fs, .string x.world.out.rs, .string x.world.out.ofs, .string x.world.out.ors, .bool x.world.out.head, .slice a12 x.world.files.length c12, .slice a13 x.world.args.length c13, .string x.source, .int .i64 x.fuel] ∧ (-9223372036854775808 ≤ x.world.inp.tag ∧ x.world.inp.tag ≤ 9223372036854775807) ∧ (x.world.inp.fs.size ≤ 9223372036854775807) ∧ (x.world.inp.rs.size ≤ 9223372036854775807) ∧ (x.world.inp.ofs.size ≤ 9223372036854775807) ∧ (x.world.inp.ors.size ≤ 9223372036854775807) ∧ (-9223372036854775808 ≤ x.world.out.tag ∧ x.world.out.tag ≤ 9223372036854775807) ∧ (x.world.out.fs.size ≤ 9223372036854775807) ∧ (x.world.out.rs.size ≤ 9223372036854775807) ∧ (x.world.out.ofs.size ≤ 9223372036854775807) ∧ (x.world.out.ors.size ≤ 9223372036854775807) ∧ (Rd.rd S w [.slice a12 x.world.files.length c12] x.world.files) ∧ (Rd.rd S w [.slice a13 x.world.args.length c13] x.world.args) ∧ (x.source.size ≤ 9223372036854775807) ∧ (-9223372036854775808 ≤ x.fuel ∧ x.fuel ≤ 9223372036854775807) := by
  obtain ⟨_, _, rfl, ⟨_, _, rfl, ⟨_, _, rfl, ⟨rfl, h0⟩, ⟨_, _, rfl, ⟨rfl, h1⟩, ⟨_, _, rfl, ⟨rfl, h2⟩, ⟨_, _, rfl, ⟨rfl, h3⟩, ⟨_, _, rfl, ⟨rfl, h4⟩, rfl⟩⟩⟩⟩⟩, ⟨_, _, rfl, ⟨_, _, rfl, ⟨rfl, h6⟩, ⟨_, _, rfl, ⟨rfl, h7⟩, ⟨_, _, rfl, ⟨rfl, h8⟩, ⟨_, _, rfl, ⟨rfl, h9⟩, ⟨_, _, rfl, ⟨rfl, h10⟩, rfl⟩⟩⟩⟩⟩, ⟨_, _, rfl, h12, h13⟩⟩⟩, ⟨_, _, rfl, ⟨rfl, h14⟩, ⟨rfl, h15⟩⟩⟩ := h
  obtain ⟨a12, c12, e12⟩ := rdSlc h12
  subst e12
  obtain ⟨a13, c13, e13⟩ := rdSlc h13
  subst e13
  exact ⟨a12, c12, a13, c13, rfl, h0, h1, h2, h3, h4, h6, h7, h8, h9, h10, h12, h13, h14, h15⟩
theorem rdJob_mk {S : Nat → Prop} {w : World} {x : Job} {a12 : Option Addr} {c12 : Nat} {a13 : Option Addr} {c13 : Nat} (h0 : -9223372036854775808 ≤ x.world.inp.tag ∧ x.world.inp.tag ≤ 9223372036854775807) (h1 : x.world.inp.fs.size ≤ 9223372036854775807) (h2 : x.world.inp.rs.size ≤ 9223372036854775807) (h3 : x.world.inp.ofs.size ≤ 9223372036854775807) (h4 : x.world.inp.ors.size ≤ 9223372036854775807) (h5 : -9223372036854775808 ≤ x.world.out.tag ∧ x.world.out.tag ≤ 9223372036854775807) (h6 : x.world.out.fs.size ≤ 9223372036854775807) (h7 : x.world.out.rs.size ≤ 9223372036854775807) (h8 : x.world.out.ofs.size ≤ 9223372036854775807) (h9 : x.world.out.ors.size ≤ 9223372036854775807) (h10 : Rd.rd S w [.slice a12 x.world.files.length c12] x.world.files) (h11 : Rd.rd S w [.slice a13 x.world.args.length c13] x.world.args) (h12 : x.source.size ≤ 9223372036854775807) (h13 : -9223372036854775808 ≤ x.fuel ∧ x.fuel ≤ 9223372036854775807) : Rd.rd S w [.int .i64 x.world.inp.tag, .string x.world.inp.fs, .string x.world.inp.rs, .string x.world.inp.ofs, .string x.world.inp.ors, .bool x.world.inp.head, .int .i64 x.world.out.tag, .string x.world.out.fs, .string x.world.out.rs, .string x.world.out.ofs, .string x.world.out.ors, .bool x.world.out.head, .slice a12 x.world.files.length c12, .slice a13 x.world.args.length c13, .string x.source, .int .i64 x.fuel] x :=
  ⟨_, _, rfl, ⟨_, _, rfl, ⟨_, _, rfl, ⟨rfl, h0⟩, ⟨_, _, rfl, ⟨rfl, h1⟩, ⟨_, _, rfl, ⟨rfl, h2⟩, ⟨_, _, rfl, ⟨rfl, h3⟩, ⟨_, _, rfl, ⟨rfl, h4⟩, rfl⟩⟩⟩⟩⟩, ⟨_, _, rfl, ⟨_, _, rfl, ⟨rfl, h5⟩, ⟨_, _, rfl, ⟨rfl, h6⟩, ⟨_, _, rfl, ⟨rfl, h7⟩, ⟨_, _, rfl, ⟨rfl, h8⟩, ⟨_, _, rfl, ⟨rfl, h9⟩, rfl⟩⟩⟩⟩⟩, ⟨_, _, rfl, h10, h11⟩⟩⟩, ⟨_, _, rfl, ⟨rfl, h12⟩, ⟨rfl, h13⟩⟩⟩
instance : Sz Job := ⟨fun x => Sz.sz x.world + x.source.size⟩
end Go.Proofs.YtkmkencodcfloaaDoor

namespace Go.Proofs.YtkmkencodcfloaaDoor
open Go.RowKit
set_option linter.unusedVariables false
set_option linter.unusedSimpArgs false
set_option maxHeartbeats 1000000 in
theorem szWorldT_any {cs : Array Value} {x : WorldT} (left : Int) (w : World) (h : Rd.rd (Old w) w cs.toList x) (h3 : 0 ≤ left) (h4 : left ≤ 1048576) :
    Calls Tryd.prog 9 #[.agg cs, .int .i64 left] w fun e w' => e = .returned (.int .i64 (szOut left (Sz.sz x))) ∧ Below w.heap.size w w' := by
  obtain ⟨a12, c12, a13, c13, hcs, f0, f1, f2, f3, f4, f6, f7, f8, f9, f10, f12, f13⟩ := rdWorldT h
  obtain rfl := arr_of_list hcs
  clear hcs
  have hsz : Sz.sz x = Sz.sz x.inp + Sz.sz x.out + Sz.sz x.files + Sz.sz x.args := rfl
  rw [hsz]; clear hsz
  generalize hg_inp : Sz.sz x.inp = n_inp
  have Hg_inp := hid hg_inp; clear hg_inp
  generalize hg_out : Sz.sz x.out = n_out
  have Hg_out := hid hg_out; clear hg_out
  generalize hg_files : Sz.sz x.files = n_files
  have Hg_files := hid hg_files; clear hg_files
  generalize hg_args : Sz.sz x.args = n_args
  have Hg_args := hid hg_args; clear hg_args
  by_cases k0 : (n_inp : Int) ≤ left
  · skip
    by_cases k1 : (n_inp : Int) + (n_out : Int) ≤ left
    · skip
      by_cases k2 : (n_inp : Int) + (n_out : Int) + (n_files : Int) ≤ left
      · skip
        by_cases k3 : (n_inp : Int) + (n_out : Int) + (n_files : Int) + (n_args : Int) ≤ left
        · skip
          go_enter Tryd.func9, Tryd.ntmps9
          go_wp2_with fail
          refine (szConf_any _ _ (by exact rdConf_mk f0 f1 f2 f3 f4) (by omega) (by omega)).mono ?_
          rintro e w1 ⟨rfl, hb0⟩
          rw [Hg_inp.out, szOut_val (by omega)]
          obtain ⟨hc0, hf0⟩ := bcell hb0
          have hl0 : w.heap.size < w1.heap.size := by have := hb0.size; (try simp at this); omega
          go_wp2_with fail
          refine (szConf_any _ _ (by exact rdConf_mk f6 f7 f8 f9 f10) (by omega) (by omega)).mono ?_
          rintro e w2 ⟨rfl, hb1⟩
          rw [Hg_out.out, szOut_val (by omega)]
          obtain ⟨hc1, hf1⟩ := bcell hb1
          have hl1 : w.heap.size < w2.heap.size := by have := hb1.size; (try simp at this); omega
          go_wp2_with fail
          refine (szFileS_any _ _ (by exact Rd.later (ext_trans (ext_trans (ext_alloc _ _) hb0) hb1) (f12)) (by omega) (by omega)).mono ?_
          rintro e w3 ⟨rfl, hb2⟩
          rw [Hg_files.out, szOut_val (by omega)]
          obtain ⟨hc2, hf2⟩ := bcell hb2
          have hl2 : w.heap.size < w3.heap.size := by have := hb2.size; (try simp at this); omega
          go_wp2_with fail
          refine (szStrs_any _ _ (by exact Rd.later (ext_trans (ext_trans (ext_trans (ext_alloc _ _) hb0) hb1) hb2) (f13)) (by omega) (by omega)).mono ?_
          rintro e w4 ⟨rfl, hb3⟩
          rw [Hg_args.out, szOut_val (by omega)]
          obtain ⟨hc3, hf3⟩ := bcell hb3
          have hl3 : w.heap.size < w4.heap.size := by have := hb3.size; (try simp at this); omega
          go_wp2
          go_ret
          exact ⟨end_int (by rw [szOut_val (by omega)] <;> omega), (ext_trans (ext_trans (ext_trans (ext_trans (ext_alloc _ _) hb0) hb1) hb2) hb3)⟩
        · skip
          go_enter Tryd.func9, Tryd.ntmps9
          go_wp2_with fail
          refine (szConf_any _ _ (by exact rdConf_mk f0 f1 f2 f3 f4) (by omega) (by omega)).mono ?_
          rintro e w1 ⟨rfl, hb0⟩
          rw [Hg_inp.out, szOut_val (by omega)]
          obtain ⟨hc0, hf0⟩ := bcell hb0
          have hl0 : w.heap.size < w1.heap.size := by have := hb0.size; (try simp at this); omega
          go_wp2_with fail
          refine (szConf_any _ _ (by exact rdConf_mk f6 f7 f8 f9 f10) (by omega) (by omega)).mono ?_
          rintro e w2 ⟨rfl, hb1⟩
          rw [Hg_out.out, szOut_val (by omega)]
          obtain ⟨hc1, hf1⟩ := bcell hb1
          have hl1 : w.heap.size < w2.heap.size := by have := hb1.size; (try simp at this); omega
          go_wp2_with fail
          refine (szFileS_any _ _ (by exact Rd.later (ext_trans (ext_trans (ext_alloc _ _) hb0) hb1) (f12)) (by omega) (by omega)).mono ?_
          rintro e w3 ⟨rfl, hb2⟩
          rw [Hg_files.out, szOut_val (by omega)]
          obtain ⟨hc2, hf2⟩ := bcell hb2
          have hl2 : w.heap.size < w3.heap.size := by have := hb2.size; (try simp at this); omega
          go_wp2_with fail
          refine (szStrs_any _ _ (by exact Rd.later (ext_trans (ext_trans (ext_trans (ext_alloc _ _) hb0) hb1) hb2) (f13)) (by omega) (by omega)).mono ?_
          rintro e w4 ⟨rfl, hb3⟩
          rw [Hg_args.out, szOut_bad (by omega)]
          obtain ⟨hc3, hf3⟩ := bcell hb3
          have hl3 : w.heap.size < w4.heap.size := by have := hb3.size; (try simp at this); omega
          go_wp2
          go_ret
          exact ⟨end_int (by rw [szOut_bad (by omega)]), (ext_trans (ext_trans (ext_trans (ext_trans (ext_alloc _ _) hb0) hb1) hb2) hb3)⟩
      · skip
        go_enter Tryd.func9, Tryd.ntmps9
        go_wp2_with fail
        refine (szConf_any _ _ (by exact rdConf_mk f0 f1 f2 f3 f4) (by omega) (by omega)).mono ?_
        rintro e w1 ⟨rfl, hb0⟩
        rw [Hg_inp.out, szOut_val (by omega)]
        obtain ⟨hc0, hf0⟩ := bcell hb0
        have hl0 : w.heap.size < w1.heap.size := by have := hb0.size; (try simp at this); omega
        go_wp2_with fail
        refine (szConf_any _ _ (by exact rdConf_mk f6 f7 f8 f9 f10) (by omega) (by omega)).mono ?_
        rintro e w2 ⟨rfl, hb1⟩
        rw [Hg_out.out, szOut_val (by omega)]
        obtain ⟨hc1, hf1⟩ := bcell hb1
        have hl1 : w.heap.size < w2.heap.size := by have := hb1.size; (try simp at this); omega
        go_wp2_with fail
        refine (szFileS_any _ _ (by exact Rd.later (ext_trans (ext_trans (ext_alloc _ _) hb0) hb1) (f12)) (by omega) (by omega)).mono ?_
        rintro e w3 ⟨rfl, hb2⟩
        rw [Hg_files.out, szOut_bad (by omega)]
        obtain ⟨hc2, hf2⟩ := bcell hb2
        have hl2 : w.heap.size < w3.heap.size := by have := hb2.size; (try simp at this); omega
        go_wp2
        go_ret
        exact ⟨end_int (by rw [szOut_bad (by omega)]), (ext_trans (ext_trans (ext_trans (ext_alloc _ _) hb0) hb1) hb2)⟩
    · skip
      go_enter Tryd.func9, Tryd.ntmps9
      go_wp2_with fail
      refine (szConf_any _ _ (by exact rdConf_mk f0 f1 f2 f3 f4) (by omega) (by omega)).mono ?_
      rintro e w1 ⟨rfl, hb0⟩
      rw [Hg_inp.out, szOut_val (by omega)]
      obtain ⟨hc0, hf0⟩ := bcell hb0
      have hl0 : w.heap.size < w1.heap.size := by have := hb0.size; (try simp at this); omega
      go_wp2_with fail
      refine (szConf_any _ _ (by exact rdConf_mk f6 f7 f8 f9 f10) (by omega) (by omega)).mono ?_
      rintro e w2 ⟨rfl, hb1⟩
      rw [Hg_out.out, szOut_bad (by omega)]
      obtain ⟨hc1, hf1⟩ := bcell hb1
      have hl1 : w.heap.size < w2.heap.size := by have := hb1.size; (try simp at this); omega
      go_wp2
      go_ret
      exact ⟨end_int (by rw [szOut_bad (by omega)]), (ext_trans (ext_trans (ext_alloc _ _) hb0) hb1)⟩
  · skip
    go_enter Tryd.func9, Tryd.ntmps9
    go_wp2_with fail
    refine (szConf_any _ _ (by exact rdConf_mk f0 f1 f2 f3 f4) (by omega) (by omega)).mono ?_
    rintro e w1 ⟨rfl, hb0⟩
    rw [Hg_inp.out, szOut_bad (by omega)]
    obtain ⟨hc0, hf0⟩ := bcell hb0
    have hl0 : w.heap.size < w1.heap.size := by have := hb0.size; (try simp at this); omega
    go_wp2
    go_ret
    exact ⟨end_int (by rw [szOut_bad (by omega)]), (ext_trans (ext_alloc _ _) hb0)⟩
set_option maxHeartbeats 16000000 in
theorem toWorldT_any {cs : Array Value} {x : WorldT} (w : World) (h : Rd.rd (Old w) w cs.toList x) (hn : Sz.sz x ≤ 1048576) :
    Calls Tryd.prog 11 #[.agg cs] w fun e w' => ∃ cs' : Array Value, e = .returned (.agg cs') ∧ Rd.rd (New w.heap.size w') w' cs'.toList x ∧ Below w.heap.size w w' := by
  obtain ⟨a12, c12, a13, c13, hcs, f0, f1, f2, f3, f4, f6, f7, f8, f9, f10, f12, f13⟩ := rdWorldT h
  obtain rfl := arr_of_list hcs
  clear hcs h
  have hn_inp : Sz.sz x.inp ≤ 1048576 := Nat.le_trans (by show _ ≤ Sz.sz x.inp + Sz.sz x.out + Sz.sz x.files + Sz.sz x.args; omega) hn
  have hn_out : Sz.sz x.out ≤ 1048576 := Nat.le_trans (by show _ ≤ Sz.sz x.inp + Sz.sz x.out + Sz.sz x.files + Sz.sz x.args; omega) hn
  have hn_files : Sz.sz x.files ≤ 1048576 := Nat.le_trans (by show _ ≤ Sz.sz x.inp + Sz.sz x.out + Sz.sz x.files + Sz.sz x.args; omega) hn
  have hn_args : Sz.sz x.args ≤ 1048576 := Nat.le_trans (by show _ ≤ Sz.sz x.inp + Sz.sz x.out + Sz.sz x.files + Sz.sz x.args; omega) hn
  have HN := hid hn
  clear hn
  go_enter Tryd.func11, Tryd.ntmps11
  go_wp2_with fail
  refine (toConf_any _ (by exact rdConf_mk f0 f1 f2 f3 f4) hn_inp).mono ?_
  rintro e w1 ⟨r0, rfl, hr0, hb0⟩
  obtain ⟨hcs0, r0_f0, r0_f1, r0_f2, r0_f3, r0_f4⟩ := rdConf hr0
  obtain rfl := arr_of_list hcs0
  clear hcs0
  have hB1 : Below w.heap.size w w1 := ext_trans (by repeat' (first | (with_reducible exact Below.refl _ _) | (with_reducible refine Below.setCell ?_ ?_ _) | (with_reducible refine Below.alloc ?_ ?_ _) | (simp; done) | (simp; omega) | omega)) hb0
  obtain ⟨hc0, hf0⟩ := bcell hb0
  have hl0 : w.heap.size + 1 + 1 < w1.heap.size := by have := hb0.size; (try simp at this); omega
  have hl0' : w.heap.size + 1 < w1.heap.size := by omega
  have hl0'' : w.heap.size < w1.heap.size := by omega
  go_wp2_with fail
  refine (toConf_any _ (by exact rdConf_mk f6 f7 f8 f9 f10) hn_out).mono ?_
  rintro e w2 ⟨r1, rfl, hr1, hb1⟩
  obtain ⟨hcs1, r1_f0, r1_f1, r1_f2, r1_f3, r1_f4⟩ := rdConf hr1
  obtain rfl := arr_of_list hcs1
  clear hcs1
  have hB2 : Below w.heap.size w w2 := ext_trans (by repeat' (first | (with_reducible exact hB1) | (with_reducible exact Below.refl _ _) | (with_reducible refine Below.setCell ?_ ?_ _) | (with_reducible refine Below.alloc ?_ ?_ _) | (simp; done) | (simp; omega) | omega)) hb1
  obtain ⟨hc1, hf1⟩ := bcell hb1
  have hl1 : w.heap.size + 1 + 1 < w2.heap.size := by have := hb1.size; (try simp at this); omega
  have hl1' : w.heap.size + 1 < w2.heap.size := by omega
  have hl1'' : w.heap.size < w2.heap.size := by omega
  go_wp2_with fail
  refine (toFileS_any _ (by exact Rd.later (by repeat' (first | (with_reducible exact hB2) | (with_reducible exact hB1) | (with_reducible exact Below.refl _ _) | (with_reducible refine Below.setCell ?_ ?_ _) | (with_reducible refine Below.alloc ?_ ?_ _) | (simp; done) | (simp; omega) | omega)) (f12)) hn_files).mono ?_
  rintro e w3 ⟨r2, rfl, hr2, hb2⟩
  obtain ⟨r2_a, r2_c, e2⟩ := rdSlc hr2
  obtain rfl : r2 = .slice r2_a x.files.length r2_c := by simpa using e2
  clear e2
  have hB3 : Below w.heap.size w w3 := ext_trans (by repeat' (first | (with_reducible exact hB2) | (with_reducible exact hB1) | (with_reducible exact Below.refl _ _) | (with_reducible refine Below.setCell ?_ ?_ _) | (with_reducible refine Below.alloc ?_ ?_ _) | (simp; done) | (simp; omega) | omega)) hb2
  obtain ⟨hc2, hf2⟩ := bcell hb2
  have hl2 : w.heap.size + 1 + 1 < w3.heap.size := by have := hb2.size; (try simp at this); omega
  have hl2' : w.heap.size + 1 < w3.heap.size := by omega
  have hl2'' : w.heap.size < w3.heap.size := by omega
  go_wp2_with fail
  refine (toStrs_any _ (by exact Rd.later (by repeat' (first | (with_reducible exact hB3) | (with_reducible exact hB2) | (with_reducible exact hB1) | (with_reducible exact Below.refl _ _) | (with_reducible refine Below.setCell ?_ ?_ _) | (with_reducible refine Below.alloc ?_ ?_ _) | (simp; done) | (simp; omega) | omega)) (f13)) hn_args).mono ?_
  rintro e w4 ⟨r3, rfl, hr3, hb3⟩
  obtain ⟨r3_a, r3_c, e3⟩ := rdSlc hr3
  obtain rfl : r3 = .slice r3_a x.args.length r3_c := by simpa using e3
  clear e3
  have hB4 : Below w.heap.size w w4 := ext_trans (by repeat' (first | (with_reducible exact hB3) | (with_reducible exact hB2) | (with_reducible exact hB1) | (with_reducible exact Below.refl _ _) | (with_reducible refine Below.setCell ?_ ?_ _) | (with_reducible refine Below.alloc ?_ ?_ _) | (simp; done) | (simp; omega) | omega)) hb3
  obtain ⟨hc3, hf3⟩ := bcell hb3
  have hl3 : w.heap.size + 1 + 1 < w4.heap.size := by have := hb3.size; (try simp at this); omega
  have hl3' : w.heap.size + 1 < w4.heap.size := by omega
  have hl3'' : w.heap.size < w4.heap.size := by omega
  have ez : (w.alloc (.cells #[.int .i64 x.inp.tag, .string x.inp.fs, .string x.inp.rs, .string x.inp.ofs, .string x.inp.ors, .bool x.inp.head, .int .i64 x.out.tag, .string x.out.fs, .string x.out.rs, .string x.out.ofs, .string x.out.ors, .bool x.out.head, .slice a12 x.files.length c12, .slice a13 x.args.length c13] 32)).heap.size = w.heap.size + 1 := by simp
  have Z0 : ((w.alloc (.cells #[.int .i64 x.inp.tag, .string x.inp.fs, .string x.inp.rs, .string x.inp.ofs, .string x.inp.ors, .bool x.inp.head, .int .i64 x.out.tag, .string x.out.fs, .string x.out.rs, .string x.out.ofs, .string x.out.ors, .bool x.out.head, .slice a12 x.files.length c12, .slice a13 x.args.length c13] 32)).alloc (.cells ([.int .i64 0, .string ⟨#[]⟩, .string ⟨#[]⟩, .string ⟨#[]⟩, .string ⟨#[]⟩, .bool false, .int .i64 0, .string ⟨#[]⟩, .string ⟨#[]⟩, .string ⟨#[]⟩, .string ⟨#[]⟩, .bool false, .slice none 0 0, .slice none 0 0] : List Value).toArray 37 (0, 0))).heap[w.heap.size + 1]? = some (.cells ([.int .i64 0, .string ⟨#[]⟩, .string ⟨#[]⟩, .string ⟨#[]⟩, .string ⟨#[]⟩, .bool false, .int .i64 0, .string ⟨#[]⟩, .string ⟨#[]⟩, .string ⟨#[]⟩, .string ⟨#[]⟩, .bool false, .slice none 0 0, .slice none 0 0] : List Value).toArray 37 (0, 0)) := by rw [← ez]; exact heap_alloc_new _ _
  have hne1 : w.heap.size + 1 ≠ w.heap.size + 1 + 1 := by omega
  have Z1 : w1.heap[w.heap.size + 1]? = some (.cells ([.int .i64 0, .string ⟨#[]⟩, .string ⟨#[]⟩, .string ⟨#[]⟩, .string ⟨#[]⟩, .bool false, .int .i64 0, .string ⟨#[]⟩, .string ⟨#[]⟩, .string ⟨#[]⟩, .string ⟨#[]⟩, .bool false, .slice none 0 0, .slice none 0 0] : List Value).toArray 37 (0, 0)) := blk_stay (by exact (blk_alloc Z0 _)) hb0
  have Z2 : w2.heap[w.heap.size + 1]? = some (.cells ([.int .i64 0, .string ⟨#[]⟩, .string ⟨#[]⟩, .string ⟨#[]⟩, .string ⟨#[]⟩, .bool false, .int .i64 0, .string ⟨#[]⟩, .string ⟨#[]⟩, .string ⟨#[]⟩, .string ⟨#[]⟩, .bool false, .slice none 0 0, .slice none 0 0] : List Value).toArray 37 (0, 0)) := blk_stay (by refine blk_set ?_ hne1 _; refine blk_set ?_ hne1 _; refine blk_set ?_ hne1 _; refine blk_set ?_ hne1 _; refine blk_set ?_ hne1 _; refine blk_set ?_ hne1 _; exact Z1) hb1
  have Z3 : w3.heap[w.heap.size + 1]? = some (.cells ([.int .i64 0, .string ⟨#[]⟩, .string ⟨#[]⟩, .string ⟨#[]⟩, .string ⟨#[]⟩, .bool false, .int .i64 0, .string ⟨#[]⟩, .string ⟨#[]⟩, .string ⟨#[]⟩, .string ⟨#[]⟩, .bool false, .slice none 0 0, .slice none 0 0] : List Value).toArray 37 (0, 0)) := blk_stay (by refine blk_set ?_ hne1 _; refine blk_set ?_ hne1 _; refine blk_set ?_ hne1 _; refine blk_set ?_ hne1 _; refine blk_set ?_ hne1 _; refine blk_set ?_ hne1 _; exact Z2) hb2
  have Z4 : w4.heap[w.heap.size + 1]? = some (.cells ([.int .i64 0, .string ⟨#[]⟩, .string ⟨#[]⟩, .string ⟨#[]⟩, .string ⟨#[]⟩, .bool false, .int .i64 0, .string ⟨#[]⟩, .string ⟨#[]⟩, .string ⟨#[]⟩, .string ⟨#[]⟩, .bool false, .slice none 0 0, .slice none 0 0] : List Value).toArray 37 (0, 0)) := blk_stay (by refine blk_set ?_ hne1 _; exact Z3) hb3
  have ZF : ((w4).setCell ⟨w.heap.size + 1 + 1, 13, none⟩ (.slice r3_a x.args.length r3_c)).heap[w.heap.size + 1]? = some (.cells ([.int .i64 0, .string ⟨#[]⟩, .string ⟨#[]⟩, .string ⟨#[]⟩, .string ⟨#[]⟩, .bool false, .int .i64 0, .string ⟨#[]⟩, .string ⟨#[]⟩, .string ⟨#[]⟩, .string ⟨#[]⟩, .bool false, .slice none 0 0, .slice none 0 0] : List Value).toArray 37 (0, 0)) := by refine blk_set ?_ hne1 _; exact Z4
  have FB := (setAll_block [.int .i64 x.inp.tag, .string x.inp.fs, .string x.inp.rs, .string x.inp.ofs, .string x.inp.ors, .bool x.inp.head, .int .i64 x.out.tag, .string x.out.fs, .string x.out.rs, .string x.out.ofs, .string x.out.ors, .bool x.out.head, .slice r2_a x.files.length r2_c, .slice r3_a x.args.length r3_c] ((w4).setCell ⟨w.heap.size + 1 + 1, 13, none⟩ (.slice r3_a x.args.length r3_c)) (w.heap.size + 1) 0 0 [] [.int .i64 0, .string ⟨#[]⟩, .string ⟨#[]⟩, .string ⟨#[]⟩, .string ⟨#[]⟩, .bool false, .int .i64 0, .string ⟨#[]⟩, .string ⟨#[]⟩, .string ⟨#[]⟩, .string ⟨#[]⟩, .bool false, .slice none 0 0, .slice none 0 0] [] 37 ZF rfl rfl).1
  obtain ⟨wF, hwF⟩ : ∃ W', setAll ((w4).setCell ⟨w.heap.size + 1 + 1, 13, none⟩ (.slice r3_a x.args.length r3_c)) (w.heap.size + 1) 0 0 [.int .i64 x.inp.tag, .string x.inp.fs, .string x.inp.rs, .string x.inp.ofs, .string x.inp.ors, .bool x.inp.head, .int .i64 x.out.tag, .string x.out.fs, .string x.out.rs, .string x.out.ofs, .string x.out.ors, .bool x.out.head, .slice r2_a x.files.length r2_c, .slice r3_a x.args.length r3_c] = W' := ⟨_, rfl⟩
  rw [hwF] at FB
  have F0 : wF.cell? ⟨w.heap.size + 1, 0, none⟩ = some (.int .i64 x.inp.tag) := cell_of_block FB
  have F1 : wF.cell? ⟨w.heap.size + 1, 1, none⟩ = some (.string x.inp.fs) := cell_of_block FB
  have F2 : wF.cell? ⟨w.heap.size + 1, 2, none⟩ = some (.string x.inp.rs) := cell_of_block FB
  have F3 : wF.cell? ⟨w.heap.size + 1, 3, none⟩ = some (.string x.inp.ofs) := cell_of_block FB
  have F4 : wF.cell? ⟨w.heap.size + 1, 4, none⟩ = some (.string x.inp.ors) := cell_of_block FB
  have F5 : wF.cell? ⟨w.heap.size + 1, 5, none⟩ = some (.bool x.inp.head) := cell_of_block FB
  have F6 : wF.cell? ⟨w.heap.size + 1, 6, none⟩ = some (.int .i64 x.out.tag) := cell_of_block FB
  have F7 : wF.cell? ⟨w.heap.size + 1, 7, none⟩ = some (.string x.out.fs) := cell_of_block FB
  have F8 : wF.cell? ⟨w.heap.size + 1, 8, none⟩ = some (.string x.out.rs) := cell_of_block FB
  have F9 : wF.cell? ⟨w.heap.size + 1, 9, none⟩ = some (.string x.out.ofs) := cell_of_block FB
  have F10 : wF.cell? ⟨w.heap.size + 1, 10, none⟩ = some (.string x.out.ors) := cell_of_block FB
  have F11 : wF.cell? ⟨w.heap.size + 1, 11, none⟩ = some (.bool x.out.head) := cell_of_block FB
  have F12 : wF.cell? ⟨w.heap.size + 1, 12, none⟩ = some (.slice r2_a x.files.length r2_c) := cell_of_block FB
  have F13 : wF.cell? ⟨w.heap.size + 1, 13, none⟩ = some (.slice r3_a x.args.length r3_c) := cell_of_block FB
  have HFB := hid FB
  have HWF := hid hwF
  clear FB ZF Z0 Z1 Z2 Z3 Z4 ez hwF
  go_wp2
  change bodyPost _ _ _ _ _ (setAll ((w4).setCell ⟨w.heap.size + 1 + 1, 13, none⟩ (.slice r3_a x.args.length r3_c)) (w.heap.size + 1) 0 0 [.int .i64 x.inp.tag, .string x.inp.fs, .string x.inp.rs, .string x.inp.ofs, .string x.inp.ors, .bool x.inp.head, .int .i64 x.out.tag, .string x.out.fs, .string x.out.rs, .string x.out.ofs, .string x.out.ors, .bool x.out.head, .slice r2_a x.files.length r2_c, .slice r3_a x.args.length r3_c])
  rw [HWF.out]
  refine bodyPost_ret (v := .agg #[.int .i64 x.inp.tag, .string x.inp.fs, .string x.inp.rs, .string x.inp.ofs, .string x.inp.ors, .bool x.inp.head, .int .i64 x.out.tag, .string x.out.fs, .string x.out.rs, .string x.out.ofs, .string x.out.ors, .bool x.out.head, .slice r2_a x.files.length r2_c, .slice r3_a x.args.length r3_c]) (by simp [results, Tryd.results11, go_sem, F0, F1, F2, F3, F4, F5, F6, F7, F8, F9, F10, F11, F12, F13]) rfl ⟨_, rfl, ?_, ?_⟩
  · exact rdWorldT_mk f0 f1 f2 f3 f4 f6 f7 f8 f9 f10 (Keeps.rd (by rw [← HWF.out]; refine keeps_setAll _ _ _ ?_ ?_; repeat' (first | (with_reducible exact Keeps.refl _ _) | (with_reducible refine Keeps.call ?_ hb3) | (with_reducible refine Keeps.set ?_ ?_ _) | (with_reducible refine Keeps.alloc ?_ _) | (simp; done) | (simp; omega) | omega)) (by first | (simp; done) | (simp; omega) | omega) hr2) (Keeps.rd (by rw [← HWF.out]; refine keeps_setAll _ _ _ ?_ ?_; repeat' (first | (with_reducible exact Keeps.refl _ _) | (with_reducible refine Keeps.set ?_ ?_ _) | (with_reducible refine Keeps.alloc ?_ _) | (simp; done) | (simp; omega) | omega)) (by first | (simp; done) | (simp; omega) | omega) hr3)
  · exact (by rw [← HWF.out]; refine below_setAll _ _ _ ?_ ?_; repeat' (first | (with_reducible exact hB4) | (with_reducible exact hB3) | (with_reducible exact hB2) | (with_reducible exact hB1) | (with_reducible exact Below.refl _ _) | (with_reducible refine Below.setCell ?_ ?_ _) | (with_reducible refine Below.alloc ?_ ?_ _) | (simp; done) | (simp; omega) | omega))
set_option maxHeartbeats 2000000 in
theorem eqWorldT_same {cs cs' : Array Value} {x : WorldT} (w : World) (h : Rd.rd (Old w) w cs.toList x) (h' : Rd.rd (Old w) w cs'.toList x) :
    Calls Tryd.prog 13 #[.agg cs, .agg cs'] w fun e w' => e = .returned (.bool true) ∧ Below w.heap.size w w' := by
  obtain ⟨a12, c12, a13, c13, hcs, f0, f1, f2, f3, f4, f6, f7, f8, f9, f10, f12, f13⟩ := rdWorldT h
  obtain rfl := arr_of_list hcs
  obtain ⟨ga12, gc12, ga13, gc13, hcs', gf0, gf1, gf2, gf3, gf4, gf6, gf7, gf8, gf9, gf10, gf12, gf13⟩ := rdWorldT h'
  obtain rfl := arr_of_list hcs'
  clear hcs hcs' h h'
  go_enter Tryd.func13, Tryd.ntmps13
  go_wp2_with fail
  refine (eqConf_same _ (by exact rdConf_mk f0 f1 f2 f3 f4) (by exact rdConf_mk gf0 gf1 gf2 gf3 gf4)).mono ?_
  rintro e w1 ⟨rfl, hb0⟩
  have hB1 : Below w.heap.size w w1 := ext_trans (by repeat' (first | (with_reducible exact Below.refl _ _) | (with_reducible refine Below.setCell ?_ ?_ _) | (with_reducible refine Below.alloc ?_ ?_ _) | (simp; done) | (simp; omega) | omega)) hb0
  obtain ⟨hc0, hf0⟩ := bcell hb0
  have hl0 : w.heap.size + 1 < w1.heap.size := by have := hb0.size; (try simp at this); omega
  have hl0' : w.heap.size < w1.heap.size := by omega
  go_wp2_with fail
  refine (eqConf_same _ (by exact rdConf_mk f6 f7 f8 f9 f10) (by exact rdConf_mk gf6 gf7 gf8 gf9 gf10)).mono ?_
  rintro e w2 ⟨rfl, hb1⟩
  have hB2 : Below w.heap.size w w2 := ext_trans (by repeat' (first | (with_reducible exact hB1) | (with_reducible exact Below.refl _ _) | (with_reducible refine Below.setCell ?_ ?_ _) | (with_reducible refine Below.alloc ?_ ?_ _) | (simp; done) | (simp; omega) | omega)) hb1
  obtain ⟨hc1, hf1⟩ := bcell hb1
  have hl1 : w.heap.size + 1 < w2.heap.size := by have := hb1.size; (try simp at this); omega
  have hl1' : w.heap.size < w2.heap.size := by omega
  go_wp2_with fail
  refine (eqFileS_same _ (by exact Rd.later (by repeat' (first | (with_reducible exact hB2) | (with_reducible exact hB1) | (with_reducible exact Below.refl _ _) | (with_reducible refine Below.setCell ?_ ?_ _) | (with_reducible refine Below.alloc ?_ ?_ _) | (simp; done) | (simp; omega) | omega)) f12) (by exact Rd.later (by repeat' (first | (with_reducible exact hB2) | (with_reducible exact hB1) | (with_reducible exact Below.refl _ _) | (with_reducible refine Below.setCell ?_ ?_ _) | (with_reducible refine Below.alloc ?_ ?_ _) | (simp; done) | (simp; omega) | omega)) gf12)).mono ?_
  rintro e w3 ⟨rfl, hb2⟩
  have hB3 : Below w.heap.size w w3 := ext_trans (by repeat' (first | (with_reducible exact hB2) | (with_reducible exact hB1) | (with_reducible exact Below.refl _ _) | (with_reducible refine Below.setCell ?_ ?_ _) | (with_reducible refine Below.alloc ?_ ?_ _) | (simp; done) | (simp; omega) | omega)) hb2
  obtain ⟨hc2, hf2⟩ := bcell hb2
  have hl2 : w.heap.size + 1 < w3.heap.size := by have := hb2.size; (try simp at this); omega
  have hl2' : w.heap.size < w3.heap.size := by omega
  go_wp2_with fail
  refine (eqStrs_same _ (by exact Rd.later (by repeat' (first | (with_reducible exact hB3) | (with_reducible exact hB2) | (with_reducible exact hB1) | (with_reducible exact Below.refl _ _) | (with_reducible refine Below.setCell ?_ ?_ _) | (with_reducible refine Below.alloc ?_ ?_ _) | (simp; done) | (simp; omega) | omega)) f13) (by exact Rd.later (by repeat' (first | (with_reducible exact hB3) | (with_reducible exact hB2) | (with_reducible exact hB1) | (with_reducible exact Below.refl _ _) | (with_reducible refine Below.setCell ?_ ?_ _) | (with_reducible refine Below.alloc ?_ ?_ _) | (simp; done) | (simp; omega) | omega)) gf13)).mono ?_
  rintro e w4 ⟨rfl, hb3⟩
  have hB4 : Below w.heap.size w w4 := ext_trans (by repeat' (first | (with_reducible exact hB3) | (with_reducible exact hB2) | (with_reducible exact hB1) | (with_reducible exact Below.refl _ _) | (with_reducible refine Below.setCell ?_ ?_ _) | (with_reducible refine Below.alloc ?_ ?_ _) | (simp; done) | (simp; omega) | omega)) hb3
  obtain ⟨hc3, hf3⟩ := bcell hb3
  have hl3 : w.heap.size + 1 < w4.heap.size := by have := hb3.size; (try simp at this); omega
  have hl3' : w.heap.size < w4.heap.size := by omega
  go_wp2
  go_ret
  exact ⟨rfl, (by repeat' (first | (with_reducible exact hB4) | (with_reducible exact hB3) | (with_reducible exact hB2) | (with_reducible exact hB1) | (with_reducible exact Below.refl _ _) | (with_reducible refine Below.setCell ?_ ?_ _) | (with_reducible refine Below.alloc ?_ ?_ _) | (simp; done) | (simp; omega) | omega))⟩


end Go.Proofs.YtkmkencodcfloaaDoor

namespace Go.Proofs.YtkmkencodcfloaaDoor
open Go.RowKit
set_option linter.unusedVariables false
set_option linter.unusedSimpArgs false

def idxGo {α : Type} (p : α → Bool) : List α → Nat → Int
  | [], _ => -1
  | x :: r, k => if p x = true then (k : Int) else idxGo p r (k + 1)
/-- the first place at which p holds; -1 of none -/
def idxP {α : Type} (p : α → Bool) (xs : List α) : Int := idxGo p xs 0
theorem idxGo_hit {α : Type} {p : α → Bool} : ∀ {xs : List α} {k b : Nat} (h : k < xs.length), p xs[k] = true → (∀ j (hj : j < xs.length), j < k → p xs[j] = false) → idxGo p xs b = ((b + k : Nat) : Int)
  | x :: r, 0, b, _, h1, _ => by rw [idxGo, if_pos (by simpa using h1), Nat.add_zero]
  | x :: r, k + 1, b, h, h1, h2 => by
    have h0 := h2 0 (by simp) (by omega)
    rw [idxGo, if_neg (by simpa using h0), idxGo_hit (k := k) (b := b + 1) (by simpa using h) (by simpa using h1) (fun j hj hjk => by
      have := h2 (j + 1) (by simp only [List.length_cons]; omega) (by omega)
      simpa using this)]
    congr 1
    omega
theorem idxP_hit {α : Type} {p : α → Bool} {xs : List α} {k : Nat} (h : k < xs.length) (h1 : p xs[k] = true) (h2 : ∀ j (hj : j < xs.length), j < k → p xs[j] = false) : idxP p xs = (k : Int) := by
  unfold idxP
  rw [idxGo_hit h h1 h2, Nat.zero_add]
theorem idxGo_miss {α : Type} {p : α → Bool} : ∀ {xs : List α} {b : Nat}, (∀ j (hj : j < xs.length), p xs[j] = false) → idxGo p xs b = -1
  | [], b, _ => rfl
  | x :: r, b, h => by
    have h0 := h 0 (by simp)
    rw [idxGo, if_neg (by simpa using h0)]
    exact idxGo_miss (fun j hj => by
      have := h (j + 1) (by simp only [List.length_cons]; omega)
      simpa using this)
theorem idxP_miss {α : Type} {p : α → Bool} {xs : List α} (h : ∀ j (hj : j < xs.length), p xs[j] = false) : idxP p xs = -1 := idxGo_miss h
theorem idxGo_nonneg {α : Type} {p : α → Bool} : ∀ {xs : List α} {b : Nat}, decide (0 ≤ idxGo p xs b) = xs.any p
  | [], b => by simp [idxGo]
  | x :: r, b => by
    rw [idxGo, List.any_cons]
    cases hx : p x with
    | true => simp
    | false => simp [idxGo_nonneg (xs := r) (b := b + 1)]
theorem idxP_nonneg {α : Type} {p : α → Bool} {xs : List α} : decide (0 ≤ idxP p xs) = xs.any p := idxGo_nonneg
theorem eq_dec (a b : ByteArray) : (a.toList == b.toList) = decide (a = b) := by
  by_cases h : a = b
  · subst h; simp
  · rw [ba_ne h, decide_eq_false h]
theorem rd_take {α : Type} [Rd α] {S : Nat → Prop} {w : World} {a : Option Addr} {cap : Nat} {xs : List α} (h : Rd.rd S w [.slice a xs.length cap] xs) {k : Nat} (hk : k ≤ xs.length) : Rd.rd S w [.slice a k cap] (xs.take k) := by
  obtain ⟨a', cap', hv, h1, h2, hF⟩ := h
  obtain ⟨rfl, rfl⟩ : a = a' ∧ cap = cap' := by simpa using hv
  refine ⟨a, cap, by rw [List.length_take, Nat.min_eq_left hk], by rw [List.length_take]; omega, h2, fun h0 => ?_⟩
  obtain ⟨b, off, rfl, hB, hrow⟩ := hF (by rw [List.length_take] at h0; omega)
  refine ⟨b, off, rfl, hB, fun i hi => ?_⟩
  have hi' : i < xs.length := by rw [List.length_take] at hi; omega
  obtain ⟨cs, hc, hx⟩ := hrow i hi'
  exact ⟨cs, hc, by rw [List.getElem_take]; exact hx⟩
set_option maxHeartbeats 2000000 in
theorem idxFile (p : File → Bool) (g : Nat) (lb : Array Value) (eg : ∀ args w, (callFunc g args).run Tryd.prog w = .ok (.enter g args) w) {v : Value} {xs : List File} (w : World) (h : Rd.rd (Old w) w [v] xs) (hn : xs.length ≤ 9223372036854775807)
    (hp : ∀ (x : File) (W : World), Below w.heap.size w W → Calls Tryd.prog g (#[.agg #[.string x.name, .string x.text]] ++ lb) W fun e W' => e = .returned (.bool (p x)) ∧ Below W.heap.size W W') :
    Calls Tryd.prog 54 #[v, .func (.func g) #[] lb] w fun e w' => e = .returned (.int .i64 (idxP p xs)) ∧ Below w.heap.size w w' := by
  obtain ⟨a, cap, hv, h1, h2, hF⟩ := h
  obtain rfl : v = .slice a xs.length cap := by simpa using hv
  have HP := hid hp
  clear hv hp
  go_enter Tryd.func54, Tryd.ntmps54
  go_wp2
  go_loopw [5, 8] (fun _ i wr => ∃ k : Nat, k ≤ xs.length ∧ i = .int .i64 (k : Int) ∧ Hid (∀ j (hj : j < xs.length), j < k → p xs[j] = false) ∧ Below w.heap.size w wr) (fun _ i _ => xs.length - (intOf i).toNat)
  case atStart => exact ⟨0, Nat.zero_le _, rfl, hid (fun j _ hj => absurd hj (Nat.not_lt_zero _)), Below.refl _ _⟩
  case round =>
    obtain ⟨k, hk, rfl, HA, hb⟩ := hrel
    by_cases hlt : k < xs.length
    · obtain ⟨b, off, rfl, hB, hrow⟩ := hF (by omega)
      obtain ⟨cs, hcell, hx⟩ := hrow k hlt
      obtain ⟨hcs, f0, f1⟩ := rdFile hx
      subst hcs
      have t0 : wr.cell? ⟨b, off + k * 2, none⟩ = some (.string xs[k].name) := (hb.cell (p := ⟨b, off + k * 2, none⟩) hB).trans (by have h9 := hcell 0 (by decide); exact h9)
      have t1 : wr.cell? ⟨b, off + k * 2 + 1, none⟩ = some (.string xs[k].text) := (hb.cell (p := ⟨b, off + k * 2 + 1, none⟩) hB).trans (by have h9 := hcell 1 (by decide); exact h9)
      obtain ⟨x, hxe⟩ : ∃ x, xs[k] = x := ⟨_, rfl⟩
      rw [hxe] at t0 t1
      have HX := hid hxe
      have CP := HP.out x wr hb
      obtain ⟨q, hq⟩ : ∃ q, p x = q := ⟨_, rfl⟩
      rw [hq] at CP
      have HQ := hid hq
      have hki : (k : Int) < (xs.length : Int) := by omega
      have hk0 : (0 : Int) ≤ (k : Int) := by omega
      clear hrow hcell hx hq hxe hF
      cases q with
      | true =>
        go_wp2_with fail
        refine CP.mono ?_
        rintro e w1 ⟨rfl, hb1⟩
        clear CP
        go_wp2
        go_ret
        exact ⟨end_int (idxP_hit hlt (by rw [HX.out]; exact HQ.out) (fun j hj hjk => HA.out j hj hjk)).symm, ext_trans hb hb1⟩
      | false =>
        go_wp2_with fail
        refine CP.mono ?_
        rintro e w1 ⟨rfl, hb1⟩
        clear CP
        go_wp2
        go_roundw
        case rel =>
          refine ⟨k + 1, by omega, by go_num, hid (fun j hj hjk => ?_), ext_trans hb hb1⟩
          by_cases e : j = k
          · subst e; rw [HX.out]; exact HQ.out
          · exact HA.out j hj (by omega)
        case measure => simp [intOf]; omega
    · have hki : ¬ (k : Int) < (xs.length : Int) := by omega
      clear hF
      go_wp2
      go_ret
      exact ⟨end_int (idxP_miss (fun j hj => HA.out j hj (by omega))).symm, hb⟩
set_option maxHeartbeats 1000000 in
theorem anyFile (p : File → Bool) (g : Nat) (lb : Array Value) (eg : ∀ args w, (callFunc g args).run Tryd.prog w = .ok (.enter g args) w) {v : Value} {xs : List File} (w : World) (h : Rd.rd (Old w) w [v] xs) (hn : xs.length ≤ 9223372036854775807)
    (hp : ∀ (x : File) (W : World), Below w.heap.size w W → Calls Tryd.prog g (#[.agg #[.string x.name, .string x.text]] ++ lb) W fun e W' => e = .returned (.bool (p x)) ∧ Below W.heap.size W W') :
    Calls Tryd.prog 39 #[v, .func (.func g) #[] lb] w fun e w' => e = .returned (.bool (xs.any p)) ∧ Below w.heap.size w w' := by
  have CI := idxFile p g lb eg w h hn hp
  obtain ⟨z, hz⟩ : ∃ z, idxP p xs = z := ⟨_, rfl⟩
  rw [← idxP_nonneg, hz]
  rw [hz] at CI
  clear hz hp h
  go_enter Tryd.func39, Tryd.ntmps39
  go_wp2_with fail
  refine CI.mono ?_
  rintro e w1 ⟨rfl, hb1⟩
  go_wp2
  go_ret
  exact ⟨rfl, hb1⟩
set_option maxHeartbeats 2000000 in
theorem idxText (p : ByteArray → Bool) (g : Nat) (lb : Array Value) (eg : ∀ args w, (callFunc g args).run Tryd.prog w = .ok (.enter g args) w) {v : Value} {xs : List ByteArray} (w : World) (h : Rd.rd (Old w) w [v] xs) (hn : xs.length ≤ 9223372036854775807)
    (hp : ∀ (x : ByteArray) (W : World), Below w.heap.size w W → Calls Tryd.prog g (#[.string x] ++ lb) W fun e W' => e = .returned (.bool (p x)) ∧ Below W.heap.size W W') :
    Calls Tryd.prog 55 #[v, .func (.func g) #[] lb] w fun e w' => e = .returned (.int .i64 (idxP p xs)) ∧ Below w.heap.size w w' := by
  obtain ⟨a, cap, hv, h1, h2, hF⟩ := h
  obtain rfl : v = .slice a xs.length cap := by simpa using hv
  have HP := hid hp
  clear hv hp
  go_enter Tryd.func55, Tryd.ntmps55
  go_wp2
  go_loopw [5, 8] (fun _ i wr => ∃ k : Nat, k ≤ xs.length ∧ i = .int .i64 (k : Int) ∧ Hid (∀ j (hj : j < xs.length), j < k → p xs[j] = false) ∧ Below w.heap.size w wr) (fun _ i _ => xs.length - (intOf i).toNat)
  case atStart => exact ⟨0, Nat.zero_le _, rfl, hid (fun j _ hj => absurd hj (Nat.not_lt_zero _)), Below.refl _ _⟩
  case round =>
    obtain ⟨k, hk, rfl, HA, hb⟩ := hrel
    by_cases hlt : k < xs.length
    · obtain ⟨b, off, rfl, hB, hrow⟩ := hF (by omega)
      obtain ⟨cs, hcell, hx⟩ := hrow k hlt
      have hx0 := hx; obtain ⟨hcs, f0⟩ := hx0
      subst hcs
      have t0 : wr.cell? ⟨b, off + k, none⟩ = some (.string xs[k]) := (hb.cell (p := ⟨b, off + k, none⟩) hB).trans (by have h9 := hcell 0 (by decide); rw [show off + k * Rd.n ByteArray + 0 = off + k from by show off + k * 1 + 0 = _; omega] at h9; exact h9)
      obtain ⟨x, hxe⟩ : ∃ x, xs[k] = x := ⟨_, rfl⟩
      rw [hxe] at t0
      have HX := hid hxe
      have CP := HP.out x wr hb
      obtain ⟨q, hq⟩ : ∃ q, p x = q := ⟨_, rfl⟩
      rw [hq] at CP
      have HQ := hid hq
      have hki : (k : Int) < (xs.length : Int) := by omega
      have hk0 : (0 : Int) ≤ (k : Int) := by omega
      clear hrow hcell hx hq hxe hF
      cases q with
      | true =>
        go_wp2_with fail
        refine CP.mono ?_
        rintro e w1 ⟨rfl, hb1⟩
        clear CP
        go_wp2
        go_ret
        exact ⟨end_int (idxP_hit hlt (by rw [HX.out]; exact HQ.out) (fun j hj hjk => HA.out j hj hjk)).symm, ext_trans hb hb1⟩
      | false =>
        go_wp2_with fail
        refine CP.mono ?_
        rintro e w1 ⟨rfl, hb1⟩
        clear CP
        go_wp2
        go_roundw
        case rel =>
          refine ⟨k + 1, by omega, by go_num, hid (fun j hj hjk => ?_), ext_trans hb hb1⟩
          by_cases e : j = k
          · subst e; rw [HX.out]; exact HQ.out
          · exact HA.out j hj (by omega)
        case measure => simp [intOf]; omega
    · have hki : ¬ (k : Int) < (xs.length : Int) := by omega
      clear hF
      go_wp2
      go_ret
      exact ⟨end_int (idxP_miss (fun j hj => HA.out j hj (by omega))).symm, hb⟩
set_option maxHeartbeats 1000000 in
theorem anyText (p : ByteArray → Bool) (g : Nat) (lb : Array Value) (eg : ∀ args w, (callFunc g args).run Tryd.prog w = .ok (.enter g args) w) {v : Value} {xs : List ByteArray} (w : World) (h : Rd.rd (Old w) w [v] xs) (hn : xs.length ≤ 9223372036854775807)
    (hp : ∀ (x : ByteArray) (W : World), Below w.heap.size w W → Calls Tryd.prog g (#[.string x] ++ lb) W fun e W' => e = .returned (.bool (p x)) ∧ Below W.heap.size W W') :
    Calls Tryd.prog 41 #[v, .func (.func g) #[] lb] w fun e w' => e = .returned (.bool (xs.any p)) ∧ Below w.heap.size w w' := by
  have CI := idxText p g lb eg w h hn hp
  obtain ⟨z, hz⟩ : ∃ z, idxP p xs = z := ⟨_, rfl⟩
  rw [← idxP_nonneg, hz]
  rw [hz] at CI
  clear hz hp h
  go_enter Tryd.func41, Tryd.ntmps41
  go_wp2_with fail
  refine CI.mono ?_
  rintro e w1 ⟨rfl, hb1⟩
  go_wp2
  go_ret
  exact ⟨rfl, hb1⟩
theorem isWorldName (nm : ByteArray) (fb : Nat) (g : File) (W : World) (hlt : fb < W.heap.size) (hc : W.cell? ⟨fb, 0, none⟩ = some (.string nm)) :
    Calls Tryd.prog 40 #[.agg #[.string g.name, .string g.text], .pointer (some ⟨fb, 0, none⟩)] W fun e W' => e = .returned (.bool (decide (g.name = nm))) ∧ Below W.heap.size W W' := by
  have hne : fb ≠ W.heap.size := by omega
  have hne' : W.heap.size ≠ fb := by omega
  have hc' : (W.alloc (.cells #[.string g.name, .string g.text] 52)).cell? ⟨fb, 0, none⟩ = some (.string nm) := (World.cell?_alloc_lt _ _ _ hlt).trans hc
  go_enter Tryd.func40, Tryd.ntmps40
  go_wp2
  go_ret
  exact ⟨end_bool (eq_dec _ _), ext_alloc _ _⟩
set_option maxHeartbeats 2000000 in
theorem specFirst {v : Value} {xs : List File} (nm : ByteArray) (w : World) (h : Rd.rd (Old w) w [v] xs) (hn : xs.length ≤ 9223372036854775807) :
    Calls Tryd.prog 22 #[v, .string nm] w fun e w' => e = .returned (.int .i64 (idxP (fun f => decide (f.name = nm)) xs)) ∧ Below w.heap.size w w' := by
  obtain ⟨a, cap, hv, h1, h2, hF⟩ := h
  obtain rfl : v = .slice a xs.length cap := by simpa using hv
  clear hv
  go_enter Tryd.func22, Tryd.ntmps22
  go_wp2
  go_loopw [5] (fun i wr => ∃ k : Nat, k ≤ xs.length ∧ i = .int .i64 (k : Int) ∧ Hid (∀ j (hj : j < xs.length), j < k → decide (xs[j].name = nm) = false) ∧ Below w.heap.size w wr) (fun i _ => xs.length - (intOf i).toNat)
  case atStart => exact ⟨0, Nat.zero_le _, rfl, hid (fun j _ hj => absurd hj (Nat.not_lt_zero _)), Below.refl _ _⟩
  case round =>
    obtain ⟨k, hk, rfl, HA, hb⟩ := hrel
    by_cases hlt : k < xs.length
    · obtain ⟨b, off, rfl, hB, hrow⟩ := hF (by omega)
      obtain ⟨cs, hcell, hx⟩ := hrow k hlt
      obtain ⟨hcs, f0, f1⟩ := rdFile hx
      subst hcs
      have t0 : wr.cell? ⟨b, off + k * 2, none⟩ = some (.string xs[k].name) := (hb.cell (p := ⟨b, off + k * 2, none⟩) hB).trans (hcell 0 (by decide))
      obtain ⟨x, hxe⟩ : ∃ x, xs[k].name = x := ⟨_, rfl⟩
      rw [hxe] at t0
      have HX := hid hxe
      have hki : (k : Int) < (xs.length : Int) := by omega
      have hk0 : (0 : Int) ≤ (k : Int) := by omega
      clear hrow hcell hx hxe hF
      by_cases hq : x = nm
      · subst hq
        go_wp2
        go_ret
        exact ⟨end_int (idxP_hit hlt (decide_eq_true HX.out) (fun j hj hjk => HA.out j hj hjk)).symm, by repeat' (first | (with_reducible exact hb) | (with_reducible refine Below.drew ?_))⟩
      · have e1 := ba_ne hq
        have HQ := hid hq
        clear hq
        go_wp2
        go_roundw
        case rel =>
          refine ⟨k + 1, by omega, by go_num, hid (fun j hj hjk => ?_), by repeat' (first | (with_reducible exact hb) | (with_reducible refine Below.drew ?_))⟩
          by_cases e : j = k
          · subst e; rw [HX.out]; exact decide_eq_false HQ.out
          · exact HA.out j hj (by omega)
        case measure => simp [intOf]; omega
    · have hki : ¬ (k : Int) < (xs.length : Int) := by omega
      clear hF
      go_wp2
      go_ret
      exact ⟨end_int (idxP_miss (fun j hj => HA.out j hj (by omega))).symm, hb⟩
end Go.Proofs.YtkmkencodcfloaaDoor
