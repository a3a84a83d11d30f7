/-
  What is proved here: CsvText of spec. No condition.
-/
import Derived.Test.YtommldonooicjaaDoorCsvS1
import Derived.Test.YtommldonooicjaaDoorPartS
import Derived.Lib.AppendStr
namespace Go.Proofs.YtommldonooicjaaDoor
open Go.RowKit
set_option linter.unusedVariables false
set_option linter.unusedSimpArgs false

theorem info_u8C : (Tryd.prog.info? 5).map (fun i => (i.zero, i.size, i.bytes)) = some (some (.int .u8 0), 1, 1) := by kernel_rfl
theorem byteV_app (a b : List UInt8) : byteVals (a ++ b) = byteVals a ++ byteVals b := by simp [byteVals]
theorem strCells_bv (l : List UInt8) : Lib.strCells (mkB l) = byteVals l := by
  rw [strCells_mk]
  rfl
set_option maxHeartbeats 16000000 in
set_option maxRecDepth 100000 in
theorem specCsvText {v : Value} {xs : List CsvRow} (w : World) (h : Rd.rd (Old w) w [v] xs) (hn : xs.length ≤ 1000000) :
    Calls Tryd.prog 20 #[v] w fun e w' => TextRes (csvT (xs.map rowL)) e ∧ Below w.heap.size w w' := by
  obtain ⟨i0, hi, hz0, hz1, hz2⟩ := info_parts info_u8C
  obtain ⟨a, cap, hv, h1, h2, hF⟩ := h
  obtain rfl : v = .slice a xs.length cap := by simpa using hv
  have h : Rd.rd (Old w) w [.slice a xs.length cap] xs := ⟨a, cap, hv, h1, h2, hF⟩
  have CO := hid (specRowsOk w h hn)
  obtain ⟨L, hL⟩ : ∃ L, xs.map rowL = L := ⟨_, rfl⟩
  have hLn : L.length = xs.length := by rw [← hL, List.length_map]
  have HLK := hid (show ∀ (k : Nat) (hk : k < xs.length) (hk2 : k < L.length), L[k] = rowL xs[k] by subst hL; intro k hk hk2; rw [List.getElem_map])
  rw [hL] at CO ⊢
  have HF := hid hF
  have HLN := hid hLn
  clear hv h1 h2 h hL hF hLn
  cases hok : rowsOk L with
  | false =>
    have HR := hid (show csvT L = none by unfold csvT; rw [if_neg (by rw [hok]; simp)])
    rw [hok] at CO
    clear hok hi hz0 hz1 hz2
    go_enter Tryd.func20, Tryd.ntmps20
    go_wp2_with fail
    refine CO.out.mono ?_
    rintro e w1 ⟨rfl, hb⟩
    go_wp2
    go_ret2
    exact ⟨by rw [HR.out] <;> rfl, hb⟩
  | true =>
    have HR := hid (show csvT L = if (rowsT L).length ≤ 4000 then some (rowsT L) else none by unfold csvT; rw [hok]; simp)
    have HOK := hid hok
    rw [hok] at CO
    clear hok
    go_enter Tryd.func20, Tryd.ntmps20
    go_wp2_with fail
    refine CO.out.mono ?_
    rintro e w1 ⟨rfl, hb1⟩
    have HB := hid hb1
    clear hb1 CO
    go_wp2
    go_loopw [4, 5, 6] (fun out i _ wr => ∃ k : Nat, k ≤ xs.length ∧ i = .int .i64 (k : Int) ∧ wr.ownsRow w.heap.size 5 1 out (rowsT (L.take k)).length (byteVals (rowsT (L.take k))) ∧ Below w.heap.size w wr ∧ (rowsT (L.take k)).length ≤ 4000) (fun _ i _ _ => xs.length - (intOf i).toNat)
    case atStart => exact ⟨0, Nat.zero_le _, rfl, World.ownsRow_lit w1 #[] 0 HB.out.size (by decide) rfl, ext_trans HB.out (ext_alloc _ _), Nat.zero_le _⟩
    case round =>
      obtain ⟨k, hk, rfl, hown, hb, hle⟩ := hrel
      by_cases hlt : k < xs.length
      · obtain ⟨b, off, rfl, hB, hrow⟩ := HF.out (by omega)
        obtain ⟨cs, hcell, hx⟩ := hrow k hlt
        obtain ⟨ua, uc, hu, hu2⟩ := rdRow hx
        subst hu
        have t0w : w.cell? ⟨b, off + k, none⟩ = some (.slice ua xs[k].cells.length uc) := by have h9 := hcell 0 (by decide); rw [show off + k * Rd.n CsvRow + 0 = off + k from by show off + k * 1 + 0 = _; omega] at h9; exact h9
        have hkL : k < L.length := by rw [HLN.out]; exact hlt
        have hLk := HLK.out k hlt hkL
        have hro : rowOk (rowL xs[k]) = true := by
          have := HOK.out
          unfold rowsOk at this
          rw [List.all_eq_true] at this
          have h9 := this _ (List.getElem_mem hkL)
          rw [hLk] at h9
          exact h9
        have hrf := rowOk_facts hro
        have hTK := rowsT_take L k hkL
        rw [hLk, ← cellsT_all] at hTK
        obtain ⟨x, hxe⟩ : ∃ x, xs[k] = x := ⟨_, rfl⟩
        rw [hxe] at t0w hu2 hrf hTK
        have hc100 : x.cells.length ≤ 100 := by have := hrf.2.1; unfold rowL at this; rw [List.length_map] at this; exact this
        have HCS := hid (show ∀ s ∈ x.cells, s.size ≤ 1000 from fun s hs => by
          have := hrf.2.2.1 s.data.toList (List.mem_map.2 ⟨s, hs, rfl⟩)
          rw [← Lib.size_eq] at this
          exact this)
        have HCT := hid (fun j => cellsT_len x.cells j HCS.out hc100)
        have HU := hid hu2
        have HTK := hid hTK
        have HLE := hid (rowsT_le L (k + 1))
        obtain ⟨C, hC⟩ : ∃ C, x.cells = C := ⟨_, rfl⟩
        rw [hC] at t0w hc100 HCS HCT HU HTK
        obtain ⟨n, hnC⟩ : ∃ n, C.length = n := ⟨_, rfl⟩
        have HNC := hid hnC
        rw [hnC] at t0w hc100 HTK
        obtain ⟨H, hH⟩ : ∃ H, rowsT (L.take k) = H := ⟨_, rfl⟩
        rw [hH] at hown hle HTK
        have hki : (k : Int) < (xs.length : Int) := by omega
        have hk0 : (0 : Int) ≤ (k : Int) := by omega
        have HT0 := hid t0w
        have HB9 := hid hB
        have HOW := hid hown
        have HBB := hid hb
        clear hown hb hrow hcell hx hu2 hro hrf hTK hLk hkL hxe hC hnC hH hB t0w
        go_wp2
        go_loopw [4, 6] (fun out i wr => ∃ j : Nat, j ≤ n ∧ i = .int .i64 (j : Int) ∧ wr.ownsRow w.heap.size 5 1 out (H ++ cellsT C j).length (byteVals (H ++ cellsT C j)) ∧ Below w.heap.size w wr) (fun _ i _ => n - (intOf i).toNat)
        case atStart => exact ⟨0, Nat.zero_le _, rfl, by rw [cellsT_zero, List.append_nil]; exact HOW.out, HBB.out⟩
        case round =>
          obtain ⟨j, hj, rfl, hown, hb⟩ := hrel
          have hcl := HCT.out j
          have t0 : wr.cell? ⟨b, off + k, none⟩ = some (.slice ua n uc) := (hb.cell (p := ⟨b, off + k, none⟩) HB9.out).trans HT0.out
          by_cases hjn : j < n
          · obtain ⟨a2, cap2, hv2, g1, g2, hF2⟩ := HU.out
            obtain ⟨rfl, rfl⟩ : ua = a2 ∧ uc = cap2 := by simpa using hv2
            obtain ⟨b2, off2, rfl, hB2, hrow2⟩ := hF2 (by rw [HNC.out]; omega)
            have hjC : j < C.length := by rw [HNC.out]; exact hjn
            obtain ⟨cs2, hcell2, hx2⟩ := hrow2 j hjC
            obtain ⟨hcs2, f2⟩ := hx2
            subst hcs2
            have t2w : w.cell? ⟨b2, off2 + j, none⟩ = some (.string C[j]) := by have h9 := hcell2 0 (by decide); rw [show off2 + j * Rd.n ByteArray + 0 = off2 + j from by show off2 + j * 1 + 0 = _; omega] at h9; exact h9
            have t2 : wr.cell? ⟨b2, off2 + j, none⟩ = some (.string C[j]) := (hb.cell (p := ⟨b2, off2 + j, none⟩) hB2).trans t2w
            have hs1 := HCS.out C[j] (List.getElem_mem hjC)
            have hone := cellsT_one C
            have hsucc := cellsT_succ C j hjC
            obtain ⟨s, hse⟩ : ∃ s, C[j] = s := ⟨_, rfl⟩
            rw [hse] at t2 t2w hs1 hsucc
            have HT2 := hid t2w
            have HB2 := hid hB2
            have hct := cellT_len s.data.toList
            rw [← Lib.size_eq] at hct
            have hji : (j : Int) < (n : Int) := by omega
            have hj0' : (0 : Int) ≤ (j : Int) := by omega
            clear hv2 g1 g2 hF2 hrow2 hcell2 hB2 t2w
            by_cases hj0 : j = 0
            · subst hj0
              have HST := hid (show cellsT C 1 = cellT s.data.toList by rw [hone hjC, hse])
              have hjz : ¬ (0 : Int) < ((0 : Nat) : Int) := by omega
              clear hone hsucc hse
              rw [cellsT_zero, List.append_nil] at hown
              rw [Nat.add_zero] at t2
              go_wp2_with fail
              refine (specCellT s _ (by omega)).mono ?_
              rintro e w3 ⟨rfl, hb3⟩
              have hown3 := own_later hown hb3
              have hB3 := hb.trans (hb3.mono hb.size)
              clear hown t0 t2
              go_wp2_with ((at_builtin; refine Lib.wpList_append_own_string _ rfl _ _ 22 9 rfl w.heap.size 5 i0 Tryd.underlying22 Tryd.underlying9 hi hz0 hz1 hz2 _ _ _ rfl hown3 (mkB (cellT s.data.toList)) rfl ?c3 ?c4 ?c5 ?_))
              case c3 => rw [mkB_size]; (try simp only [List.length_append, List.length_cons, List.length_nil]); unfold maxLen; omega
              case c4 => rw [mkB_size]; (try simp only [List.length_append, List.length_cons, List.length_nil]); omega
              case c5 => exact hB3.size
              intro v'' w4 hown4 hgrow4 _
              have hlt4 := hown3.lt
              have hB4 : Below w.heap.size w w4 := hB3.grown hgrow4 hB3.size (fun q hq => (hlt4 q hq).1)
              rw [strCells_bv, ← byteV_app, mkB_size, ← List.length_append] at hown4
              clear hi hz0 hz1 hz2 hgrow4 hown3 hlt4 hb3 hB3
              go_wp2
              go_roundw
              case rel => exact ⟨1, by omega, by go_num, by rw [HST.out]; exact hown4, hB4⟩
              case measure => simp [intOf]; omega
            · have HST := hid (hsucc (by omega))
              have hjz : (0 : Int) < (j : Int) := by omega
              clear hone hsucc hse hj0
              have hBl : (H ++ cellsT C j).length ≤ 304000 := by rw [List.length_append]; omega
              obtain ⟨B0, hB0⟩ : ∃ x, H ++ cellsT C j = x := ⟨_, rfl⟩
              rw [hB0] at hown hBl
              have HB0 := hid hB0
              clear hB0
              go_wp2_with ((at_builtin; refine wpList_append_own _ rfl _ _ 22 rfl w.heap.size 5 i0 (.int .u8 0) 1 1 Tryd.underlying22 hi hz0 hz1 hz2 rfl (by decide) _ _ _ rfl (hown.alloc _) ⟨wr.heap.size, 0, none⟩ 1 1 [.int .u8 44] rfl rfl ?c1 ?c2 ?c3 ?c4 ?c5 ?_))
              try (case c1 => exact cells_new wr #[.int .u8 44] _)
              case c2 => first | rfl | (intro u hu; simp at hu; subst hu; rfl)
              case c3 => unfold maxLen; omega
              case c4 => omega
              case c5 => first | exact Nat.le_trans hb.size (by simp) | (have := hb.size; (try simp); omega)
              intro v' w2 hown2 hgrow _
              have hlt' := (hown.alloc (.cells #[.int .u8 44] 5)).lt
              have hB2 : Below w.heap.size w w2 := (hb.trans ((ext_alloc _ _).mono hb.size)).grown hgrow (hb.trans ((ext_alloc _ _).mono hb.size)).size (fun q hq => (hlt' q hq).1)
              have hB1l : (B0 ++ [44]).length ≤ 304001 := by rw [List.length_append]; show _ + 1 ≤ _; omega
              have hown2' : w2.ownsRow w.heap.size 5 1 v' (B0 ++ [44]).length (byteVals (B0 ++ [44])) := by rw [List.length_append, byteV_app]; exact hown2
              obtain ⟨B1, hB1⟩ : ∃ x, B0 ++ [44] = x := ⟨_, rfl⟩
              rw [hB1] at hown2' hB1l
              have HB1 := hid hB1
              clear hB1
              have t0' : w2.cell? ⟨b, off + k, none⟩ = some (.slice (some ⟨b2, off2, none⟩) n uc) := (hB2.cell (p := ⟨b, off + k, none⟩) HB9.out).trans HT0.out
              have t2' : w2.cell? ⟨b2, off2 + j, none⟩ = some (.string s) := (hB2.cell (p := ⟨b2, off2 + j, none⟩) HB2.out).trans HT2.out
              clear hown hown2 hgrow hlt' t0 t2
              go_wp2_with fail
              refine (specCellT s _ (by omega)).mono ?_
              rintro e w3 ⟨rfl, hb3⟩
              have hown3 := own_later hown2' hb3
              have hB3 := hB2.trans (hb3.mono hB2.size)
              clear hown2' t0' t2'
              go_wp2_with ((at_builtin; refine Lib.wpList_append_own_string _ rfl _ _ 22 9 rfl w.heap.size 5 i0 Tryd.underlying22 Tryd.underlying9 hi hz0 hz1 hz2 _ _ _ rfl hown3 (mkB (cellT s.data.toList)) rfl ?c3 ?c4 ?c5 ?_))
              case c3 => rw [mkB_size]; (try simp only [List.length_append, List.length_cons, List.length_nil]); unfold maxLen; omega
              case c4 => rw [mkB_size]; (try simp only [List.length_append, List.length_cons, List.length_nil]); omega
              case c5 => exact hB3.size
              intro v'' w4 hown4 hgrow4 _
              have hlt4 := hown3.lt
              have hB4 : Below w.heap.size w w4 := hB3.grown hgrow4 hB3.size (fun q hq => (hlt4 q hq).1)
              rw [strCells_bv, ← byteV_app, mkB_size, ← List.length_append] at hown4
              clear hi hz0 hz1 hz2 hgrow4 hown3 hlt4 hb3 hB3
              go_wp2
              go_roundw
              case rel => exact ⟨j + 1, by omega, by go_num, by rw [HST.out, ← List.append_assoc, ← List.append_assoc, HB0.out, HB1.out]; exact hown4, hB4⟩
              case measure => simp [intOf]; omega
          · obtain rfl : j = n := by omega
            have hji : ¬ (j : Int) < (j : Int) := by omega
            obtain ⟨H1, hH1⟩ : ∃ H1, rowsT (L.take (k + 1)) = H1 := ⟨_, rfl⟩
            have HH1 := hid hH1
            have HTK1 := hid (show H1 = H ++ (cellsT C j ++ [10]) by rw [← hH1]; exact HTK.out)
            clear hH1 hjn
            have hBl : (H ++ cellsT C j).length ≤ 304000 := by rw [List.length_append]; omega
            obtain ⟨B0, hB0⟩ : ∃ x, H ++ cellsT C j = x := ⟨_, rfl⟩
            rw [hB0] at hown hBl
            have HB0 := hid hB0
            clear hB0
            go_wp2_with ((at_builtin; refine wpList_append_own _ rfl _ _ 22 rfl w.heap.size 5 i0 (.int .u8 0) 1 1 Tryd.underlying22 hi hz0 hz1 hz2 rfl (by decide) _ _ _ rfl (hown.alloc _) ⟨wr.heap.size, 0, none⟩ 1 1 [.int .u8 10] rfl rfl ?c1 ?c2 ?c3 ?c4 ?c5 ?_))
            try (case c1 => exact cells_new wr #[.int .u8 10] _)
            case c2 => first | rfl | (intro u hu; simp at hu; subst hu; rfl)
            case c3 => unfold maxLen; omega
            case c4 => omega
            case c5 => first | exact Nat.le_trans hb.size (by simp) | (have := hb.size; (try simp); omega)
            intro v' w2 hown2 hgrow _
            have hlt' := (hown.alloc (.cells #[.int .u8 10] 5)).lt
            have hB2 : Below w.heap.size w w2 := (hb.trans ((ext_alloc _ _).mono hb.size)).grown hgrow (hb.trans ((ext_alloc _ _).mono hb.size)).size (fun q hq => (hlt' q hq).1)
            have hown2' : w2.ownsRow w.heap.size 5 1 v' H1.length (byteVals H1) := by rw [HTK1.out, ← List.append_assoc, HB0.out, List.length_append, byteV_app]; exact hown2
            obtain ⟨oa, oc, rfl⟩ := own_slice hown2'
            clear hown hown2 hgrow hlt' t0
            by_cases hbig : 4000 < H1.length
            · have hbi : (4000 : Int) < (H1.length : Int) := by omega
              have HRR := hid (show csvT L = none by rw [HR.out, if_neg]; have := HLE.out; rw [HH1.out] at this; omega)
              clear hbig hi hz0 hz1 hz2
              go_wp2
              go_ret2
              exact ⟨by rw [HRR.out] <;> rfl, hB2⟩
            · have hbi : ¬ (4000 : Int) < (H1.length : Int) := by omega
              clear hi hz0 hz1 hz2
              go_wp2
              go_roundw
              case rel => exact ⟨k + 1, by omega, by go_num, by rw [HH1.out]; exact hown2', hB2, by rw [HH1.out]; omega⟩
              case measure => simp [intOf]; omega
      · obtain rfl : k = xs.length := by omega
        have e1 : L.take xs.length = L := by rw [← HLN.out, List.take_length]
        rw [e1] at hown hle
        have HRR := hid (show csvT L = some (rowsT L) by rw [HR.out, if_pos hle])
        have hki : ¬ (xs.length : Int) < (xs.length : Int) := by omega
        have hcv := own_string (P := Tryd.prog) (src := 22) (dst := 9) hown Tryd.underlying22 Tryd.underlying5 Tryd.underlying9
        obtain ⟨oa, oc, rfl⟩ := own_slice hown
        clear hlt e1 hown hi hz0 hz1 hz2
        go_wp2
        go_ret2
        exact ⟨by rw [HRR.out] <;> rfl, hb⟩
end Go.Proofs.YtommldonooicjaaDoor
