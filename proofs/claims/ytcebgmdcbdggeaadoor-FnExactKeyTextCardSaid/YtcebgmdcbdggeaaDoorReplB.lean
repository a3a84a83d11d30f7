/-
  What is proved here: (*strings.Replacer).build where each old text is one byte (all different) and each new one a backslash and a byte: it makes the table. No condition besides.
-/
import Derived.Test.YtcebgmdcbdggeaaDoorRepl
import Derived.Test.YtcebgmdcbdggeaaDoorValOk
import Derived.Laws.AppendOwn
import Derived.Laws.Build
import Derived.Laws.Tables
import Derived.Lib.ConvBytes
import Derived.Laws.IdiomStrings
import Derived.Laws.Slices
namespace Go.Proofs.YtcebgmdcbdggeaaDoor
open Go.RowKit
set_option linter.unusedVariables false
set_option linter.unusedSimpArgs false
theorem info_strR : (Tryd.prog.info? 9).map (fun i => (i.zero, i.size, i.bytes)) = some (some (.string ⟨#[]⟩), 1, 16) := by kernel_rfl
set_option maxHeartbeats 8000000 in
set_option maxRecDepth 100000 in
theorem implBuild {ps : List (UInt8 × UInt8)} {b r n cap : Nat} (w : World) (hnd : (ps.map (·.1)).Nodup) (hL2 : 2 ≤ ps.length) (hL : ps.length ≤ 100) (hn : n = 2 * ps.length) (hr : r < w.heap.size)
    (h4 : w.cell? ⟨b, 4, none⟩ = some (.slice (some ⟨r, 0, none⟩) n cap))
    (hrow : ∀ k (hk : k < ps.length), w.cell? ⟨r, 2 * k, none⟩ = some (.string (mkB [ps[k].1])) ∧ w.cell? ⟨r, 2 * k + 1, none⟩ = some (.string (mkB [92, ps[k].2]))) :
    Calls Tryd.prog 45 #[.pointer (some ⟨b, 0, none⟩)] w fun e w' => ∃ br, e = .returned (.iface 98 (.pointer (some ⟨br, 0, none⟩))) ∧ w.heap.size ≤ br ∧ Bsr w.heap.size ps br w' ∧ Below w.heap.size w w' := by
  obtain ⟨i0, hi, hz0, hz1, hz2⟩ := info_parts info_strR
  have qT : ∀ (w : World) (a : Option Addr) (n c n' c' : Nat), (binOp .eql 24 (.slice a n c) (.slice none n' c')).run Tryd.prog w = .ok (.bool a.isNone) w := fun w a n c n' c' => Lib.run_eql_slice_nil w _ _ a n c n' c' Tryd.underlying24
  have HROW := hid hrow
  have HND := hid hnd
  have HN := hid hn
  have hn2 : ((n : Int) == 2) = false := by simp; omega
  have hnb : n ≤ 200 := by omega
  clear hrow hnd hn
  go_enter Tryd.func45, Tryd.ntmps45
  go_wp2
  go_loopw [4, 5] (fun ab i wr => ∃ k m : Nat, k ≤ ps.length ∧ Hid (m = 2 * k) ∧ i = .int .i64 (m : Int) ∧ ((k = 0 ∧ ab = .bool true) ∨ (0 < k ∧ ab = .bool false)) ∧ w = wr) (fun _ i _ => 2 * ps.length - (intOf i).toNat)
  case atStart => exact ⟨0, 0, Nat.zero_le _, hid rfl, rfl, Or.inl ⟨rfl, rfl⟩, rfl⟩
  case round =>
    obtain ⟨k, m, hk, HM, rfl, hab, rfl⟩ := hrel
    have hmk := HM.out
    by_cases hlt : k < ps.length
    · obtain ⟨e0, e1⟩ := HROW.out k hlt
      rw [← hmk] at e0 e1
      have z0 := mkB_size [ps[k].1]
      have z1 := mkB_size [92, ps[k].2]
      obtain ⟨o, ho⟩ : ∃ z, mkB [ps[k].1] = z := ⟨_, rfl⟩
      obtain ⟨nw, hnw⟩ : ∃ z, mkB [92, ps[k].2] = z := ⟨_, rfl⟩
      rw [ho] at e0 z0
      rw [hnw] at e1 z1
      simp only [List.length_cons, List.length_nil, Nat.zero_add] at z0 z1
      clear ho hnw
      have hi1 : (0 : Int) ≤ (m : Int) := by omega
      have hi2 : (m : Int) < (n : Int) := by have := HN.out; omega
      have hi3 : (0 : Int) ≤ (m : Int) + 1 := by omega
      have hi4 : (m : Int) + 1 < (n : Int) := by have := HN.out; omega
      have hti : ((m : Int) + 1).toNat = m + 1 := by omega
      clear hmk
      have HK := hid hk
      rcases hab with ⟨h00, rfl⟩ | ⟨h00, rfl⟩
      all_goals
        go_wp2
        go_roundw
        case rel => exact ⟨k + 1, m + 2, by omega, hid (by have := HM.out; omega), by go_num, by simp⟩
        case measure => have := HM.out; simp [intOf]; omega
    · have hi2 : ¬ (m : Int) < (n : Int) := by have := HN.out; omega
      obtain ⟨h00, rfl⟩ : 0 < k ∧ _ := by
        rcases hab with ⟨h, _⟩ | h
        · omega
        · exact h
      obtain ⟨L, hLe⟩ : ∃ L, ps.length = L := ⟨_, rfl⟩
      have hquo : (n : Int).tdiv 2 = (L : Int) := by
        rw [HN.out, hLe, show ((2 * L : Nat) : Int) = 2 * (L : Int) by omega]
        exact Int.mul_tdiv_cancel_left _ (by decide)
      have HQ := hid hquo
      clear hmk hlt hk HM
      have hmks : ∀ w, (Instr.makeSlice 30 (.int .i64 0) (.int .i64 (L : Int))).run Tryd.prog w = .ok (.slice (some ⟨w.heap.size, 0, none⟩) 0 L) (w.alloc (.cells (madeCells #[.string ⟨#[]⟩] L) 9)) := by
        intro w
        have h := run_make (P := Tryd.prog) w 30 9 i0 (.string ⟨#[]⟩) Tryd.underlying30 hi hz0 .i64 .i64 0 L (Int.le_refl _) (by omega) (by rw [hz2]; omega) (by omega)
        rw [hz1] at h
        have e0 : (0 : Int).toNat = 0 := rfl
        rw [e0, Int.toNat_natCast, Nat.mul_one] at h
        exact h
      obtain ⟨MC, hMC⟩ : ∃ z, (Obj.cells (madeCells #[.string ⟨#[]⟩] L) 9) = z := ⟨_, rfl⟩
      have hN1 : (w.alloc MC).heap.size = w.heap.size + 1 := by simp
      have hs1 : ∀ o, ((w.alloc MC).alloc o).heap[w.heap.size + 1]? = some o := fun o => by
        have := heap_alloc_new (w.alloc MC) o
        rw [hN1] at this
        exact this
      have HO0 : Hid ((w.alloc MC).ownsRow w.heap.size 9 1 (.slice (some ⟨w.heap.size, 0, none⟩) 0 L) 0 []) := by
        rw [← hMC]
        exact World.ownsRow_made w _ L (Nat.le_refl _) (by unfold maxLen; omega) (by rw [size_madeCells]; omega)
      simp only [hMC] at hmks
      have HMC := hid hMC
      clear hMC hN1
      go_wp2_with (refine wpList_store_rowTo rfl 97 _ _ rfl rfl (w.heap.size + 1) (bsrC (.slice (some ⟨w.heap.size, 0, none⟩) 0 L)) rfl rfl 97 Tryd.zeroCells97 (hs1 _) bsr_size (by rw [bsrC_size, bsr_cells]; exact Array.size_replicate) (bsrC_one _ rfl) ?_)
      have HB0 := hid (bsr_new (n0 := w.heap.size) (hs1 (.cells Tryd.zeroCells97 97)) (HO0.out.alloc (.cells Tryd.zeroCells97 97)))
      have HW0 : Hid (Below w.heap.size w (((w.alloc MC).alloc (.cells Tryd.zeroCells97 97)).setRow (w.heap.size + 1) (bsrC (.slice (some ⟨w.heap.size, 0, none⟩) 0 L)))) := by
        have h1 := ext_trans (ext_alloc w MC) (ext_alloc (w.alloc MC) (.cells Tryd.zeroCells97 97))
        exact ⟨h1.os, h1.tape, h1.output, by simpa using h1.size, fun k hk => (setRow_other _ _ k _ (by omega)).trans (h1.block k hk)⟩
      obtain ⟨br, hbr⟩ : ∃ z, w.heap.size + 1 = z := ⟨_, rfl⟩
      have hbr0 : w.heap.size ≤ br := by omega
      rw [hbr] at HB0 HW0 ⊢
      obtain ⟨W0, hW0⟩ : ∃ z, (((w.alloc MC).alloc (.cells Tryd.zeroCells97 97)).setRow br (bsrC (.slice (some ⟨w.heap.size, 0, none⟩) 0 L))) = z := ⟨_, rfl⟩
      rw [hW0] at HB0 HW0 ⊢
      have hHR := hid hr
      clear hW0 hbr hmks hs1 HO0 HMC hquo hi2 hr
      go_loopw [12, 13, 14] (fun i _ _ W => ∃ (k : Nat) (j : Int), k ≤ L ∧ Hid (j = 2 * (k : Int) - 2) ∧ i = .int .i64 j ∧ Hid (Bsr w.heap.size (ps.drop k) br W) ∧ Below w.heap.size w W) (fun i _ _ _ => (intOf i + 2).toNat)
      case atStart => exact ⟨L, (n : Int) - 2, Nat.le_refl _, hid (by have := HN.out; omega), rfl, hid (by rw [← hLe, List.drop_length]; exact HB0.out), HW0.out⟩
      case round =>
        obtain ⟨k, j, hk, HJ, rfl, HB, hbW⟩ := hrel
        cases k with
        | zero =>
          have hj : ¬ (0 : Int) ≤ j := by have := HJ.out; omega
          go_wp2
          go_ret
          exact ⟨br, rfl, hbr0, HB.out, hbW⟩
        | succ k =>
          have hj : (0 : Int) ≤ j := by have := HJ.out; omega
          obtain ⟨m, rfl⟩ := Int.eq_ofNat_of_zero_le hj
          have hm : m = 2 * k := by have := HJ.out; omega
          have hlt : k < ps.length := by omega
          obtain ⟨e0, e1⟩ := HROW.out k hlt
          rw [← hm] at e0 e1
          have z0 := mkB_size [ps[k].1]
          have z1 := mkB_size [92, ps[k].2]
          have HP0 := hid (rep_drop hlt)
          have HP1 := hid (rep_nodup HND.out hlt)
          have hps : (ps.drop (k + 1)).length ≤ 100 := by rw [List.length_drop]; omega
          obtain ⟨q, hq⟩ : ∃ z, ps.drop (k + 1) = z := ⟨_, rfl⟩
          rw [hq] at HP0 HP1 HB hps
          obtain ⟨x, hx⟩ : ∃ z, ps[k].1 = z := ⟨_, rfl⟩
          obtain ⟨c, hc⟩ : ∃ z, ps[k].2 = z := ⟨_, rfl⟩
          rw [hx] at e0 z0 HP0 HP1
          rw [hc] at e1 z1 HP0
          have q0 : wr.cell? ⟨r, m, none⟩ = some (.string (mkB [x])) := (hbW.cell (p := ⟨r, m, none⟩) hHR.out).trans e0
          have q1 : wr.cell? ⟨r, m + 1, none⟩ = some (.string (mkB [92, c])) := (hbW.cell (p := ⟨r, m + 1, none⟩) hHR.out).trans e1
          have q2 : wr.cell? ⟨br, x.toNat, none⟩ = some (.slice none 0 0) := (HB.out.tab x).1 HP1.out
          obtain ⟨v, q3, ho⟩ := HB.out.row
          obtain ⟨va, vc, rfl⟩ := own_slice ho
          have hi0 : (0 : Int) ≤ (m : Int) := by omega
          have hi2 : (m : Int) < (n : Int) := by have := HN.out; omega
          have hi3 : (0 : Int) ≤ (m : Int) + 1 := by omega
          have hi4 : (m : Int) + 1 < (n : Int) := by have := HN.out; omega
          have hti : ((m : Int) + 1).toNat = m + 1 := by omega
          have hx256 : (x.toNat : Int) < 256 := by have := x.toNat_lt; omega
          have hx0 : (0 : Int) ≤ (x.toNat : Int) := by omega
          have hix : ∀ h, ((mkB [x])[0]'h : UInt8) = x := fun _ => rfl
          obtain ⟨o, hoe⟩ : ∃ z, mkB [x] = z := ⟨_, rfl⟩
          have HOE := hid hoe
          rw [hoe] at q0 z0 hix
          obtain ⟨nw, hnw⟩ : ∃ z, mkB [92, c] = z := ⟨_, rfl⟩
          have HNW := hid hnw
          rw [hnw] at q1 z1
          simp only [List.length_cons, List.length_nil, Nat.zero_add] at z0 z1
          have hcv : (convert 24 9 (.slice (some ⟨wr.heap.size, 0, none⟩) 1 1)).run Tryd.prog (wr.alloc (.cells #[.int .u8 (x.toNat : Int)] 5)) = .ok (.string o) (wr.alloc (.cells #[.int .u8 (x.toNat : Int)] 5)) := by
            rw [← hoe]
            exact own_string (l := [x]) (World.ownsRow_lit wr #[.int .u8 (x.toNat : Int)] 1 (Nat.le_refl _) (by decide) rfl) Tryd.underlying24 Tryd.underlying5 Tryd.underlying9
          have hbA := ext_trans (ext_alloc wr (.cells #[.int .u8 (x.toNat : Int)] 5)) (ext_alloc (wr.alloc (.cells #[.int .u8 (x.toNat : Int)] 5)) (.cells #[.string o] 9))
          have hcn := cells_new (wr.alloc (.cells #[.int .u8 (x.toNat : Int)] 5)) #[.string o] 9
          rw [show (wr.alloc (.cells #[.int .u8 (x.toNat : Int)] 5)).heap.size = wr.heap.size + 1 by simp] at hcn
          have hoA := own_later ho hbA
          have HBA := hid (HB.out.later hbA)
          have HCN := hid hcn
          have HBB := hid (ext_trans hbW hbA)
          clear hq hx hc hm hlt e0 e1 hab hj hLe hoe hnw hcn hbA ho
          go_wp2_with ((at_builtin; refine wpList_append_own _ rfl _ _ 30 rfl w.heap.size 9 i0 (.string ⟨#[]⟩) 1 16 Tryd.underlying30 hi hz0 hz1 hz2 rfl (by decide) _ _ _ rfl hoA ⟨wr.heap.size + 1, 0, none⟩ 1 1 [.string o] rfl rfl ?c1 ?c2 ?c3 ?c4 ?c5 ?_))
          case c2 => rfl
          case c3 => unfold maxLen; omega
          case c4 => omega
          case c5 => have := HBB.out.size; simpa using this
          intro v1 w2 hown2 hgrow _
          obtain ⟨ja, jc, rfl⟩ := own_slice hown2
          have hbk2 : ∀ u, w2.heap[br]? = some u ↔ ((wr.alloc (.cells #[.int .u8 (x.toNat : Int)] 5)).alloc (.cells #[.string o] 9)).heap[br]? = some u := fun u => by rw [hgrow.block br HBA.out.lt (fun e => row_ne HBA.out.blk hoA e.symm)]
          have hblk2 : ∃ cur, w2.heap[br]? = some (.cells cur 97 (0, 0)) ∧ cur.size = 257 := by
            obtain ⟨cur, h1, h2⟩ := HBA.out.blk
            exact ⟨cur, (hbk2 _).2 h1, h2⟩
          have hce : ∀ i, w2.cell? ⟨br, i, none⟩ = wr.cell? ⟨br, i, none⟩ := fun i => by
            have h1 := World.cell?_of_block (a := ⟨br, i, none⟩) (hgrow.block br HBA.out.lt (fun e => row_ne HBA.out.blk hoA e.symm))
            exact h1.trans ((ext_trans (ext_alloc wr (.cells #[.int .u8 (x.toNat : Int)] 5)) (ext_alloc _ (.cells #[.string o] 9))).cell (p := ⟨br, i, none⟩) HB.out.lt)
          have p3 := (hce 256).trans q3
          have q3A := ((ext_trans (ext_alloc wr (.cells #[.int .u8 (x.toNat : Int)] 5)) (ext_alloc _ (.cells #[.string o] 9))).cell (p := ⟨br, 256, none⟩) HB.out.lt).trans q3
          have p2 := (hce x.toNat).trans q2
          have hfz : ∀ i, w2.frozen? ⟨br, i, none⟩ = false := fun i => by
            obtain ⟨cur, h1, _⟩ := hblk2
            exact frozen_of_row w2 br i cur _ h1
          have pz := hfz 256
          have hltB : br < w2.heap.size := by
            obtain ⟨cur, h1, _⟩ := hblk2
            exact (Array.getElem?_eq_some_iff.1 h1).1
          have hB2 : Below w.heap.size w w2 := HBB.out.grown hgrow HBB.out.size (fun g hg => (hoA.lt g hg).1)
          -- the new bytes
          have hcs := Lib.run_convert_string_bytes (P := Tryd.prog) (w2.setCell ⟨br, 256, none⟩ (.slice ja (q.length + 1) jc)) 9 24 5 nw Tryd.underlying9 Tryd.underlying24 Tryd.underlying5
          have hO3 := OwnC.conv (w2.setCell ⟨br, 256, none⟩ (.slice ja (q.length + 1) jc)) (br + 1) 5 nw (by simp [World.setCell]; omega) (by rw [z1]; decide)
          have hB3 := Lib.bytesWorld_below (w2.setCell ⟨br, 256, none⟩ (.slice ja (q.length + 1) jc)) 5 nw
          have hsz : (w2.setCell ⟨br, 256, none⟩ (.slice ja (q.length + 1) jc)).heap.size = w2.heap.size := by simp [World.setCell]
          rw [show nw.data.toList = [92, c] by rw [← HNW.out]; rfl] at hO3
          obtain ⟨W3, hW3⟩ : ∃ z, Lib.bytesWorld (w2.setCell ⟨br, 256, none⟩ (.slice ja (q.length + 1) jc)) 5 nw = z := ⟨_, rfl⟩
          obtain ⟨g3, hg3⟩ : ∃ z, grownCap (w2.setCell ⟨br, 256, none⟩ (.slice ja (q.length + 1) jc)) nw.size 0 5 = z := ⟨_, rfl⟩
          rw [hW3, hg3, hsz, z1] at hcs
          rw [hW3, hg3, z1] at hO3
          rw [hW3] at hB3
          rw [hsz] at hB3 hO3
          have hb4 := blk_set (i := 256) (u := (.slice ja (q.length + 1) jc)) hblk2
          have r2 : W3.cell? ⟨br, x.toNat, none⟩ = some (.slice none 0 0) := (hB3.cell (p := ⟨br, x.toNat, none⟩) hltB).trans ((cell_set_ne (by omega)).trans p2)
          have rz : W3.frozen? ⟨br, x.toNat, none⟩ = false := by
            obtain ⟨cur, h1, _⟩ := hb4
            exact frozen_of_row W3 br _ cur _ ((hB3.block br hltB).trans h1)
          have HPUT := hid (HBA.out.put HP1.out q3A hoA (by rw [HOE.out]; exact hown2) hgrow W3 hB3 hO3)
          have HBW := hid (show Below w.heap.size w (W3.setCell ⟨br, x.toNat, none⟩ (.slice (some ⟨w2.heap.size, 0, none⟩) 2 g3)) from ((hB2.setCell (p := ⟨br, 256, none⟩) hbr0 (.slice ja (q.length + 1) jc)).trans (hB3.mono hB2.size)).setCell (p := ⟨br, x.toNat, none⟩) hbr0 _)
          clear hO3 hB3 hb4 hW3 hg3 hB2 hfz hce hbk2 hblk2 hown2 hgrow hoA q3A hcv
          go_wp2
          go_roundw
          case rel => exact ⟨k, (m : Int) - 2, by omega, hid (by have := HJ.out; omega), by go_num, hid (by rw [HP0.out]; exact HPUT.out), HBW.out⟩
          case measure => have := HJ.out; simp [intOf]; omega
end Go.Proofs.YtcebgmdcbdggeaaDoor
