/-
  What is proved here: the cell reader in impl: a cell with quotes. No condition but that the reader lies in memory.
-/
import Derived.Test.YtommldonooicjaaDoorCsvI1
namespace Go.Proofs.YtommldonooicjaaDoor
open Go.RowKit
set_option linter.unusedVariables false
set_option linter.unusedSimpArgs false

theorem ba_toL {a b : ByteArray} (h : a.data.toList = b.data.toList) : a = b := by
  cases a with | mk a => cases b with | mk b => cases a with | mk a => cases b with | mk b => simp at h; subst h; rfl
set_option maxHeartbeats 16000000 in
set_option maxRecDepth 100000 in
theorem implQuotedCell {g p : Nat} {s : ByteArray} (w : World) (hb : CRd w g s p) (hp : p < s.size) (hs : s.size ≤ 4000) (h34 : (s.data.toList.drop p).head? = some 34) :
    Calls Tryd.prog 96 #[.pointer (some ⟨g, 0, none⟩)] w fun e w' => CellRes w w' g s p (cellP (s.data.toList.drop p)) e := by
  obtain ⟨c0, c1, z0, z1, hg⟩ := hb.cells
  have HB0 := hid (hb.set (p + 1))
  have K0 := (Kp.refl g none w).set 1 (.int .i64 ((p + 1 : Nat) : Int))
  have hw1 : IntKind.i64.wrap ((p : Int) + 1) = ((p + 1 : Nat) : Int) := by rw [show (p : Int) + 1 = ((p + 1 : Nat) : Int) by omega]; exact IntWalk.i64_in _ (by omega)
  obtain ⟨L, hL⟩ : ∃ L, s.data.toList = L := ⟨_, rfl⟩
  have HSL := hid (show s.size = L.length by rw [Lib.size_eq, hL])
  have hex : ∀ q, (s.extract q s.size).data.toList = L.drop q := fun q => by rw [ext_drop, hL]
  have HEX := hid hex
  have HL := hid hL
  rw [hL] at h34 ⊢
  have htail : (L.drop p).tail = L.drop (p + 1) := by rw [List.tail_drop]
  have HOPEN := hid (fun (h : qP (L.drop (p + 1)) = none) => cellP_open (l := L.drop p) (by rw [htail]; exact h) h34)
  have HQT := hid (fun (t : List UInt8) (n : Nat) (h : qP (L.drop (p + 1)) = some (t, n)) => cellP_quoted (l := L.drop p) (t := t) (n := n) (by rw [htail]; exact h) h34)
  obtain ⟨R, hR⟩ : ∃ R, cellP (L.drop p) = R := ⟨_, rfl⟩
  rw [hR] at HOPEN HQT ⊢
  clear hb hex h34 htail hR
  go_enter Tryd.func96, Tryd.ntmps96
  go_wp2
  clear c0 c1 z0 z1
  go_loopw [4] (fun v wr => ∃ (C : ByteArray) (q : Nat), v = .string C ∧ p + 1 ≤ q ∧ q ≤ s.size ∧ C.size ≤ q ∧ CRd wr g s q ∧ Kp g none w wr ∧ Hid (qP (L.drop (p + 1)) = (qP (L.drop q)).map (fun r => (C.data.toList ++ r.1, q - (p + 1) + r.2)))) (fun _ wr => s.size - atOf wr g)
  case atStart =>
    refine ⟨⟨#[]⟩, p + 1, rfl, Nat.le_refl _, by omega, Nat.zero_le _, ?_, ?_, hid ?_⟩
    · first | exact HB0.out | (have := HB0.out; simpa using this)
    · first | exact K0 | (have := K0; simpa using this)
    · cases qP (L.drop (p + 1)) with
      | none => rfl
      | some r => simp
  case round =>
    obtain ⟨C, q, rfl, hq1, hq2, hCs, hc, hk, HQ⟩ := hrel
    obtain ⟨c0, c1, z0, z1, hg'⟩ := hc.cells
    have hq0 : (0 : Int) ≤ (q : Int) := by omega
    have hq3 : (q : Int) ≤ (s.size : Int) := by omega
    obtain ⟨T, hT⟩ : ∃ T, s.extract q s.size = T := ⟨_, rfl⟩
    have hTd : T.data.toList = L.drop q := by rw [← hT, HEX.out]
    have HT := hid hT
    have HC := hid hc
    have hix := Tryd.strings_IndexByte T 34
    have hval : (34 : Int).toNat.toUInt8 = 34 := rfl
    rw [hval, hTd] at hix
    clear hT
    rcases idx34 (L.drop q) with ⟨hi, hno⟩ | ⟨A, Y, hAY, hno, hi⟩
    · rw [hi] at hix
      have HIX := hid hix
      have HN := hid (HOPEN.out (by rw [HQ.out, qP_none hno]; rfl))
      have hlenp : p + (L.drop p).length = s.size := by rw [List.length_drop, ← HSL.out]; omega
      clear hix hno hi hTd
      go_wp2_with fail
      go_quiet (first | (rw [HT.out]; refine Calls.quiet_of_same (HIX.out _)) | (refine Calls.quiet_of_same (HIX.out _)))
      go_wp2
      go_ret2
      rw [HN.out]
      refine ⟨rfl, ?_, (hk.drewN nq).set 1 _⟩
      show CRd _ g s (p + (L.drop p).length)
      rw [hlenp]
      exact (HC.out.qt (Qt.one wr nq)).set s.size
    · have HIX := hid hix
      clear hix
      have hlenA : (L.drop q).length = A.length + 1 + Y.length := by rw [hAY]; simp; omega
      rw [List.length_drop, ← HSL.out] at hlenA
      rw [hi] at HIX
      have hqA : q + A.length + 1 ≤ s.size := by omega
      obtain ⟨q2, hq2e⟩ : ∃ x, q + A.length = x := ⟨_, rfl⟩
      obtain ⟨q3, hq3e⟩ : ∃ x, q + A.length + 1 = x := ⟨_, rfl⟩
      obtain ⟨na, hna⟩ : ∃ x, A.length = x := ⟨_, rfl⟩
      obtain ⟨n1, hn1⟩ : ∃ x, A.length + 1 = x := ⟨_, rfl⟩
      have hw2' : (q : Int) + (na : Int) = (q2 : Int) := by omega
      have hw2 : IntKind.i64.wrap (q2 : Int) = (q2 : Int) := IntWalk.i64_in _ (by omega)
      have hw3' : (na : Int) + 1 = (n1 : Int) := by omega
      have hw3 : IntKind.i64.wrap (n1 : Int) = (n1 : Int) := IntWalk.i64_in _ (by omega)
      have hw4' : (q : Int) + (n1 : Int) = (q3 : Int) := by omega
      have hw4 : IntKind.i64.wrap (q3 : Int) = (q3 : Int) := IntWalk.i64_in _ (by omega)
      have hneg : ¬ ((na : Int) < 0) := by omega
      have hA0 : (0 : Int) ≤ (q2 : Int) := by omega
      have hA1 : (q2 : Int) ≤ (s.size : Int) := by omega
      have hA2 : (q : Int) ≤ (q2 : Int) := by omega
      have hA3 : q ≤ q2 := by omega
      have hA4 : q2 ≤ s.size := by omega
      rw [hna] at HIX
      obtain ⟨PC, hPC⟩ : ∃ x, s.extract q q2 = x := ⟨_, rfl⟩
      have hpc : PC.data.toList = A := by
        have e : (s.extract q q2).data.toList = ((s.extract q s.size).data.toList).take A.length := by
          rw [← hq2e, ByteArray.data_extract, Array.toList_extract, List.extract_eq_take_drop, Nat.add_sub_cancel_left, ext_drop]
        rw [← hPC, e, HEX.out, hAY, List.take_left]
      have hpcs : PC.size = A.length := by rw [Lib.size_eq, hpc]
      have HMK := hid (show mkB (C.data.toList ++ A) = C ++ PC by
        apply ba_toL
        rw [mkB_data, ByteArray.data_append, Array.toList_append, hpc])
      have HPC := hid hPC
      have hsum : ¬ 9223372036854775807 < C.size + PC.size := by omega
      have hCq : C.size + PC.size ≤ q3 := by omega
      have HAY := hid hAY
      have HNO := hid hno
      have HDY := hid (show L.drop q3 = Y by rw [← hq3e, show q + A.length + 1 = q + (A.length + 1) by omega, ← List.drop_drop, hAY, show A ++ 34 :: Y = (A ++ [34]) ++ Y by simp, List.drop_left' (by simp)])
      have hq5 : q3 ≤ s.size := by omega
      have HQ3 := hid hq3e
      have HNA := hid hna
      clear hi hpc hTd hAY hno hPC hq2e hq3e hna hn1 hqA hlenA
      go_wp2_with fail
      go_quiet (first | (rw [HT.out]; refine Calls.quiet_of_same (HIX.out _)) | (refine Calls.quiet_of_same (HIX.out _)))
      obtain ⟨wA, hwA⟩ : ∃ x, wr.drewN nq = x := ⟨_, rfl⟩
      rw [hwA]
      have hqA : Qt wr wA := ⟨nq, hwA.symm⟩
      have HCA := hid (HC.out.qt hqA)
      have HKA := hid (hk.trans hqA.kp (RowOn.refl _ _))
      clear c0 c1 z0 z1 hwA hqA hg' hk HT
      obtain ⟨c0, c1, z0, z1, hg'⟩ := HCA.out.cells
      go_wp2_with fail
      go_quiet (fail)
      obtain ⟨wB, hwB⟩ : ∃ x, wA.drewN nq = x := ⟨_, rfl⟩
      rw [hwB]
      have hqB : Qt wA wB := ⟨nq, hwB.symm⟩
      have HCB := hid (HCA.out.qt hqB)
      have HKB := hid (HKA.out.trans hqB.kp (RowOn.refl _ _))
      clear c0 c1 z0 z1 hwB hqB hg' HCA HKA
      obtain ⟨c0, c1, z0, z1, hg'⟩ := HCB.out.cells
      try rw [HPC.out]
      go_upto_region 9 with fail
      obtain ⟨wC, hwC⟩ : ∃ x, wB.setCell ⟨g, 1, none⟩ (.int .i64 (q3 : Int)) = x := ⟨_, rfl⟩
      rw [hwC]
      have HB3 := hid (show CRd wC g s q3 by rw [← hwC]; exact HCB.out.set q3)
      have HK3 := hid (show Kp g none w wC by rw [← hwC]; exact HKB.out.set 1 _)
      clear c0 c1 z0 z1 hwC hg' HCB HKB
      obtain ⟨c0, c1, z0, z1, hg'⟩ := HB3.out.cells
      have hqp : q3 - p = q - (p + 1) + (A.length + 1) + 1 := by have := HQ3.out; omega
      have hpq : p + (q3 - p) = q3 := by have := HQ3.out; omega
      have hRr : Y.head? ≠ some 34 → R = if cellEnd Y = true then (0, q3 - p, C.data.toList ++ A) else (2, q3 - p, []) := fun hcont => by
        have h1 := HQ.out
        rw [HAY.out, qP_piece HNO.out, qP_stop hcont] at h1
        have h2 := HQT.out _ _ h1
        rw [h2, List.drop_drop, ← hqp, hpq, HDY.out]
        simp only [List.append_nil]
      have HRr := hid hRr
      have HDS := hid (show s.data.toList.drop q3 = Y by rw [HL.out, HDY.out])
      have CE := hid (fun (w' : World) (hq : Qt wC w') => implEndsRow w' (HB3.out.qt hq) hq5 hs)
      rw [HDS.out] at CE
      clear hRr
      cases Y with
      | nil =>
        have hlast : q3 = s.size := (drop_nil_iff hq5).1 HDS.out
        have hle : ((q3 : Int) == (s.size : Int)) = true := by rw [hlast]; simp
        have HRR := hid (show R = (0, q3 - p, C.data.toList ++ A) from HRr.out (by simp))
        clear hlast HRr HDS HDY HAY
        rw [endI_nil] at CE
        go_wp2_with fail
        go_quiet (fail)
        obtain ⟨wD, hwD⟩ : ∃ x, wC.drewN nq = x := ⟨_, rfl⟩
        rw [hwD]
        have HQD := hid (show Qt wC wD from ⟨nq, hwD.symm⟩)
        clear hwD c0 c1 z0 z1 hg'
        obtain ⟨c0, c1, z0, z1, hg'⟩ := (HB3.out.qt HQD.out).cells
        go_wp2_with fail
        go_quiet (refine Calls.quiet_of (CE.out _ (HQD.out.trans (Qt.one _ _))))
        go_wp2
        go_ret2
        rw [HRR.out]
        refine ⟨by rw [HMK.out]; rfl, ?_, ?_⟩
        · have hh := (HB3.out.qt HQD.out).qt (Qt.one wD nq)
          show CRd _ g s (p + (q3 - p))
          rw [show p + (q3 - p) = q3 by omega]
          exact hh
        · exact (HK3.out.trans HQD.out.kp (RowOn.refl _ _)).drewN _
      | cons d Z =>
        obtain ⟨hlt9, hby⟩ := byte_at HDS.out
        have hle : ((q3 : Int) == (s.size : Int)) = false := by rw [beq_eq_false_iff_ne]; omega
        have hlt9i : (q3 : Int) < (s.size : Int) := by omega
        have hlt90 : (0 : Int) ≤ (q3 : Int) := by omega
        by_cases h34 : d = 34
        · subst h34
          have hn9 : ((s[q3]'hlt9 : UInt8).toNat : Int) = 34 := by rw [hby]; rfl
          have hn9b : (((s[q3]'hlt9 : UInt8).toNat : Int) != 34) = false := by rw [hn9]; rfl
          obtain ⟨q4, hq4⟩ : ∃ x, q3 + 1 = x := ⟨_, rfl⟩
          have hw5' : (q3 : Int) + 1 = (q4 : Int) := by omega
          have hw5 : IntKind.i64.wrap (q4 : Int) = (q4 : Int) := IntWalk.i64_in _ (by omega)
          have hsum2 : ¬ 9223372036854775807 < C.size + PC.size + 1 := by omega
          have hsz34 : (⟨#[34]⟩ : ByteArray).size = 1 := rfl
          have HN4 := hid (show qP (L.drop (p + 1)) = (qP (L.drop q4)).map (fun r => (((C ++ PC) ++ ⟨#[34]⟩ : ByteArray).data.toList ++ r.1, q4 - (p + 1) + r.2)) by
            have h1 := HQ.out
            rw [HAY.out, qP_piece HNO.out, qP_two] at h1
            have h2 : L.drop q4 = Z := by rw [← hq4, ← List.drop_drop, HDY.out]; rfl
            have h3 : (C ++ PC).data.toList = C.data.toList ++ A := by rw [← HMK.out]; rfl
            rw [h1, h2, ByteArray.data_append, Array.toList_append, h3]
            cases qP Z with
            | none => rfl
            | some r =>
              have := HQ3.out
              simp only [Option.map_some, Option.some.injEq, Prod.mk.injEq, List.append_assoc]
              exact ⟨rfl, by omega⟩)
          have HQ4 := hid hq4
          clear hby HRr HDS HDY HAY hq4
          go_wp2_with fail
          go_quiet (fail)
          obtain ⟨wD, hwD⟩ : ∃ x, wC.drewN nq = x := ⟨_, rfl⟩
          rw [hwD]
          have HQD := hid (show Qt wC wD from ⟨nq, hwD.symm⟩)
          clear hwD c0 c1 z0 z1 hg'
          obtain ⟨c0, c1, z0, z1, hg'⟩ := (HB3.out.qt HQD.out).cells
          have HB4 := hid ((HB3.out.qt HQD.out).set q4)
          have HK4 := hid ((HK3.out.trans HQD.out.kp (RowOn.refl _ _)).set 1 (.int .i64 (q4 : Int)))
          go_wp2
          go_roundw
          case rel =>
            refine ⟨(C ++ PC) ++ ⟨#[34]⟩, q4, rfl, by omega, by have := HQ4.out; omega, ?_, HB4.out, HK4.out, HN4⟩
            rw [ByteArray.size_append, ByteArray.size_append, hsz34]
            have := HQ4.out
            omega
          case measure =>
            have e1 := HB4.out.atOf
            have e2 := HC.out.atOf
            have := HQ4.out
            rw [e1, e2]
            omega
        · have hd34 : ¬ (d.toNat : Int) = 34 := fun h => h34 (by rw [← UInt8.ofNat_toNat (x := d), show d.toNat = 34 by omega]; rfl)
          have hn9 : ¬ ((s[q3]'hlt9 : UInt8).toNat : Int) = 34 := by rw [hby]; exact hd34
          have hn9b : (((s[q3]'hlt9 : UInt8).toNat : Int) != 34) = true := bne_iff_ne.2 hn9
          have hRr2 := HRr.out (by simp [h34])
          rw [cellEnd_I] at hRr2
          obtain ⟨EV, hEV⟩ : ∃ v, endI (d :: Z) = v := ⟨_, rfl⟩
          rw [hEV] at CE hRr2
          by_cases hneg2 : EV < 0
          · by_cases h44 : d = 44
            · have hix : (((s[q3]'hlt9 : UInt8).toNat : Int) != 44) = false := by rw [hby, h44]; rfl
              have hix2 : ((s[q3]'hlt9 : UInt8).toNat : Int) = 44 := by rw [hby, h44]; rfl
              have HRR := hid (show R = (0, q3 - p, C.data.toList ++ A) by rw [hRr2, h44]; simp)
              clear hRr2 hEV hby HRr HDS HDY HAY h34 h44 hd34
              go_wp2_with fail
              go_quiet (fail)
              obtain ⟨wD, hwD⟩ : ∃ x, wC.drewN nq = x := ⟨_, rfl⟩
              rw [hwD]
              have HQD := hid (show Qt wC wD from ⟨nq, hwD.symm⟩)
              clear hwD c0 c1 z0 z1 hg'
              obtain ⟨c0, c1, z0, z1, hg'⟩ := (HB3.out.qt HQD.out).cells
              go_wp2_with fail
              go_quiet (refine Calls.quiet_of (CE.out _ (HQD.out.trans (Qt.one _ _))))
              go_wp2
              go_ret2
              rw [HRR.out]
              refine ⟨by rw [HMK.out]; rfl, ?_, ?_⟩
              · have hh := (HB3.out.qt HQD.out).qt (Qt.one wD nq)
                show CRd _ g s (p + (q3 - p))
                rw [show p + (q3 - p) = q3 by omega]
                exact hh
              · exact (HK3.out.trans HQD.out.kp (RowOn.refl _ _)).drewN _
            · have hdn : ¬ (d.toNat : Int) = 44 := fun h => h44 (by rw [← UInt8.ofNat_toNat (x := d), show d.toNat = 44 by omega]; rfl)
              have hix2 : ¬ ((s[q3]'hlt9 : UInt8).toNat : Int) = 44 := by rw [hby]; exact hdn
              have hix : (((s[q3]'hlt9 : UInt8).toNat : Int) != 44) = true := bne_iff_ne.2 hix2
              have HRR := hid (show R = (2, q3 - p, []) by rw [hRr2, decide_eq_true hneg2]; simp [h44])
              clear hRr2 hEV hby HRr HDS HDY HAY h34 h44 hd34 hdn
              go_wp2_with fail
              go_quiet (fail)
              obtain ⟨wD, hwD⟩ : ∃ x, wC.drewN nq = x := ⟨_, rfl⟩
              rw [hwD]
              have HQD := hid (show Qt wC wD from ⟨nq, hwD.symm⟩)
              clear hwD c0 c1 z0 z1 hg'
              obtain ⟨c0, c1, z0, z1, hg'⟩ := (HB3.out.qt HQD.out).cells
              go_wp2_with fail
              go_quiet (refine Calls.quiet_of (CE.out _ (HQD.out.trans (Qt.one _ _))))
              go_wp2
              go_ret2
              rw [HRR.out]
              refine ⟨rfl, ?_, ?_⟩
              · have hh := (HB3.out.qt HQD.out).qt (Qt.one wD nq)
                show CRd _ g s (p + (q3 - p))
                rw [show p + (q3 - p) = q3 by omega]
                exact hh
              · exact (HK3.out.trans HQD.out.kp (RowOn.refl _ _)).drewN _
          · have HRR := hid (show R = (0, q3 - p, C.data.toList ++ A) by rw [hRr2, decide_eq_false hneg2]; simp)
            have hdec : decide (EV < 0) = false := decide_eq_false hneg2
            clear hRr2 hEV hby HRr HDS HDY HAY h34 hd34
            go_wp2_with fail
            go_quiet (fail)
            obtain ⟨wD, hwD⟩ : ∃ x, wC.drewN nq = x := ⟨_, rfl⟩
            rw [hwD]
            have HQD := hid (show Qt wC wD from ⟨nq, hwD.symm⟩)
            clear hwD c0 c1 z0 z1 hg'
            obtain ⟨c0, c1, z0, z1, hg'⟩ := (HB3.out.qt HQD.out).cells
            go_wp2_with fail
            go_quiet (refine Calls.quiet_of (CE.out _ (HQD.out.trans (Qt.one _ _))))
            go_wp2
            go_ret2
            rw [HRR.out]
            refine ⟨by rw [HMK.out]; rfl, ?_, ?_⟩
            · have hh := (HB3.out.qt HQD.out).qt (Qt.one wD nq)
              show CRd _ g s (p + (q3 - p))
              rw [show p + (q3 - p) = q3 by omega]
              exact hh
            · exact (HK3.out.trans HQD.out.kp (RowOn.refl _ _)).drewN _
end Go.Proofs.YtommldonooicjaaDoor
