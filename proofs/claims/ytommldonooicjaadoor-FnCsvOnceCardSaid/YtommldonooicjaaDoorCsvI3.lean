/-
  What is proved here: the cell reader in impl: a cell. No condition but that the reader lies in memory.
-/
import Derived.Test.YtommldonooicjaaDoorCsvI2
namespace Go.Proofs.YtommldonooicjaaDoor
open Go.RowKit
set_option linter.unusedVariables false
set_option linter.unusedSimpArgs false

theorem unqN_cons (c : UInt8) (r : List UInt8) : unqN (c :: r) = if (endR (c :: r)).isSome = true ∨ c = 44 then (0, 0) else if c = 34 then (0, 2) else if c = 13 then (0, 4) else ((unqN r).1 + 1, (unqN r).2) := by rw [unqN]
theorem endI_neg {l : List UInt8} : endI l < 0 ↔ endR l = none := by
  unfold endI
  cases endR l with
  | none => simp
  | some e => simp
theorem cellP_unq {l : List UInt8} (h : ¬ l.head? = some 34) : cellP l = if (unqN l).2 = 0 then (0, (unqN l).1, l.take (unqN l).1) else ((unqN l).2, (unqN l).1, []) := by unfold cellP; rw [if_neg h]
set_option maxHeartbeats 16000000 in
set_option maxRecDepth 100000 in
theorem implReadCell {g p : Nat} {s : ByteArray} (w : World) (hb : CRd w g s p) (hp : p ≤ s.size) (hs : s.size ≤ 4000) :
    Calls Tryd.prog 80 #[.pointer (some ⟨g, 0, none⟩)] w fun e w' => CellRes w w' g s p (cellP (s.data.toList.drop p)) e := by
  obtain ⟨c0, c1, z0, z1, hg⟩ := hb.cells
  have HB := hid hb
  have hp0 : (0 : Int) ≤ (p : Int) := by omega
  by_cases h34 : (s.data.toList.drop p).head? = some 34
  · obtain ⟨c, r, hD, hc⟩ : ∃ c r, s.data.toList.drop p = c :: r ∧ c = 34 := by
      cases hD : s.data.toList.drop p with
      | nil => rw [hD] at h34; cases h34
      | cons c r => rw [hD] at h34; injection h34 with h; exact ⟨c, r, rfl, h⟩
    obtain ⟨hlt, hby⟩ := byte_at hD
    have hlt1 : (p : Int) < (s.size : Int) := by omega
    have hix : ((s[p]'hlt : UInt8).toNat : Int) = 34 := by rw [hby, hc]; rfl
    have hix2 : (((s[p]'hlt : UInt8).toNat : Int) == 34) = true := by rw [hix]; rfl
    have CQ := hid (fun (w' : World) (hq : Qt w w') => implQuotedCell w' (HB.out.qt hq) hlt hs h34)
    obtain ⟨R, hR⟩ : ∃ R, cellP (s.data.toList.drop p) = R := ⟨_, rfl⟩
    rw [hR] at CQ ⊢
    clear hb hD hby hc h34 hR
    go_enter Tryd.func80, Tryd.ntmps80
    go_wp2_with fail
    go_quiet (fail)
    go_wp2_with fail
    refine (CQ.out _ (Qt.one _ _)).mono ?_
    rintro e w1 ⟨rfl, hc1, hk1⟩
    go_wp2
    go_ret2
    exact ⟨rfl, hc1, ((Kp.refl g none w).drewN _).trans hk1 (RowOn.refl _ _)⟩
  · have HCP := hid (cellP_unq h34)
    have g26 : p < s.size → ∃ hlt : p < s.size, ¬ ((s[p]'hlt : UInt8).toNat : Int) = 34 ∧ (((s[p]'hlt : UInt8).toNat : Int) == 34) = false := fun hlt => by
      refine ⟨hlt, ?_⟩
      have hne : ¬ (s[p]'hlt) = 34 := fun e => h34 (by
        rw [List.drop_eq_getElem_cons (by rw [← Lib.size_eq]; exact hlt)]
        show some (s.data.toList[p]'(by rw [← Lib.size_eq]; exact hlt)) = some 34
        rw [← e]; rfl)
      have h1 : ¬ ((s[p]'hlt : UInt8).toNat : Int) = 34 := fun h => hne (by rw [← UInt8.ofNat_toNat (x := s[p]'hlt), show (s[p]'hlt : UInt8).toNat = 34 by omega]; rfl)
      exact ⟨h1, by rw [beq_eq_false_iff_ne]; exact h1⟩
    obtain ⟨L, hL⟩ : ∃ L, s.data.toList = L := ⟨_, rfl⟩
    have HL := hid hL
    have HSL := hid (show s.size = L.length by rw [Lib.size_eq, hL])
    rw [hL] at HCP ⊢
    obtain ⟨R, hR⟩ : ∃ R, cellP (L.drop p) = R := ⟨_, rfl⟩
    rw [hR] at HCP ⊢
    have HK0 := hid (Kp.refl g none w)
    have LOOP : ∀ wL : World, Qt w wL → True := fun _ _ => trivial
    clear hb h34 hR hL LOOP
    have hmain : ∀ (n : Nat), True := fun _ => trivial
    clear hmain
    go_enter Tryd.func80, Tryd.ntmps80
    go_upto_region 1 with fail
    go_cut [26] from 5 (fun v wx => v = .bool false ∧ CRd wx g s p ∧ Kp g none w wx)
    case first =>
      by_cases hlt : p < s.size
      · obtain ⟨hlt', hn1, hn2⟩ := g26 hlt
        have hlt1 : (p : Int) < (s.size : Int) := by omega
        go_wp2_with fail
        go_quiet (fail)
        go_wp2
        go_meet
        case rel => exact ⟨rfl, HB.out.qt (Qt.one _ _), HK0.out.drewN _⟩
      · have hlt1 : ¬ (p : Int) < (s.size : Int) := by omega
        clear g26
        go_wp2_with fail
        go_quiet (fail)
        go_wp2
        go_meet
        case rel => exact ⟨rfl, HB.out.qt (Qt.one _ _), HK0.out.drewN _⟩
    case rest =>
    obtain ⟨rfl, hcx, hkx⟩ := hcut
    clear c0 c1 z0 z1 g26 HK0
    obtain ⟨c0, c1, z0, z1, hgx⟩ := hcx.cells
    have HCX := hid hcx
    have HKX := hid hkx
    clear hcx hkx
    go_wp2
    clear c0 c1 z0 z1 hgx
    go_loopw [] (fun wr => ∃ q : Nat, p ≤ q ∧ q ≤ s.size ∧ CRd wr g s q ∧ Kp g none w wr ∧ Hid (unqN (L.drop p) = ((unqN (L.drop q)).1 + (q - p), (unqN (L.drop q)).2))) (fun wr => s.size - atOf wr g)
    case atStart => exact ⟨p, Nat.le_refl _, hp, HCX.out, HKX.out, hid (by simp)⟩
    case round =>
      obtain ⟨q, hq1, hq2, hc, hk, HUQ0⟩ := hrel
      obtain ⟨c0, c1, z0, z1, hg'⟩ := hc.cells
      have HC := hid hc
      have HK := hid hk
      have hq0 : (0 : Int) ≤ (q : Int) := by omega
      have hq3 : (q : Int) ≤ (s.size : Int) := by omega
      have hpq : (p : Int) ≤ (q : Int) := by omega
      have CE := hid (fun (w' : World) (hq : Qt wr w') => implEndsRow w' (HC.out.qt hq) hq2 hs)
      have HU := hid (show R = if (unqN (L.drop p)).2 = 0 then (0, (unqN (L.drop p)).1, (L.drop p).take (unqN (L.drop p)).1) else ((unqN (L.drop p)).2, (unqN (L.drop p)).1, []) from HCP.out)
      have HMK := hid (show mkB ((L.drop p).take (q - p)) = s.extract p q by
        apply ba_toL
        rw [mkB_data, ByteArray.data_extract, Array.toList_extract, List.extract_eq_take_drop, HL.out])
      clear hc hk
      cases hD : L.drop q with
      | nil =>
        rw [HL.out, hD, endI_nil] at CE
        have HUQ := hid (show unqN (L.drop p) = (q - p, 0) by rw [HUQ0.out, hD]; simp [unqN])
        clear HUQ0
        have HRR := hid (show R = (0, q - p, (L.drop p).take (q - p)) by
          rw [HU.out, HUQ.out]; simp)
        clear hD HU HUQ
        go_wp2_with fail
        go_quiet (refine Calls.quiet_of (CE.out _ (Qt.one _ _)))
        go_wp2_with fail
        obtain ⟨wD, hwD⟩ : ∃ x, wr.drewN nq = x := ⟨_, rfl⟩
        rw [hwD]
        have HQD := hid (show Qt wr wD from ⟨nq, hwD.symm⟩)
        clear hwD c0 c1 z0 z1 hg'
        obtain ⟨c0, c1, z0, z1, hg'⟩ := (HC.out.qt HQD.out).cells
        go_quiet (fail)
        go_wp2
        go_ret2
        rw [HRR.out]
        refine ⟨by rw [HMK.out]; rfl, ?_, ?_⟩
        · have hh := (HC.out.qt HQD.out).qt (Qt.one wD nq)
          show CRd _ g s (p + (q - p))
          rw [show p + (q - p) = q by omega]
          exact hh
        · exact (HK.out.trans HQD.out.kp (RowOn.refl _ _)).drewN _
      | cons d Z =>
        obtain ⟨hlt9, hby⟩ := byte_at (show s.data.toList.drop q = d :: Z by rw [HL.out, hD])
        have hlt9i : (q : Int) < (s.size : Int) := by omega
        obtain ⟨EV, hEV⟩ : ∃ v, endI (d :: Z) = v := ⟨_, rfl⟩
        rw [HL.out, hD, hEV] at CE
        by_cases hneg : EV < 0
        · have hnone : endR (d :: Z) = none := endI_neg.1 (by rw [hEV]; exact hneg)
          have hun := unqN_cons d Z
          rw [hnone] at hun
          by_cases h44 : d = 44
          · have hix2 : ((s[q]'hlt9 : UInt8).toNat : Int) = 44 := by rw [hby, h44]; rfl
            have hix : (((s[q]'hlt9 : UInt8).toNat : Int) != 44) = false := by rw [hix2]; rfl
            have HUQ := hid (show unqN (L.drop p) = (q - p, 0) by rw [HUQ0.out, hD, hun, if_pos (Or.inr h44)]; simp)
            clear HUQ0 hun hnone hEV
            have HRR := hid (show R = (0, q - p, (L.drop p).take (q - p)) by
              rw [HU.out, HUQ.out]; simp)
            clear hD HU HUQ hby h44
            go_wp2_with fail
            go_quiet (refine Calls.quiet_of (CE.out _ (Qt.one _ _)))
            go_wp2_with fail
            obtain ⟨wD, hwD⟩ : ∃ x, wr.drewN nq = x := ⟨_, rfl⟩
            rw [hwD]
            have HQD := hid (show Qt wr wD from ⟨nq, hwD.symm⟩)
            clear hwD c0 c1 z0 z1 hg'
            obtain ⟨c0, c1, z0, z1, hg'⟩ := (HC.out.qt HQD.out).cells
            go_quiet (fail)
            go_wp2
            go_ret2
            rw [HRR.out]
            refine ⟨by rw [HMK.out]; rfl, ?_, ?_⟩
            · have hh := (HC.out.qt HQD.out).qt (Qt.one wD nq)
              show CRd _ g s (p + (q - p))
              rw [show p + (q - p) = q by omega]
              exact hh
            · exact (HK.out.trans HQD.out.kp (RowOn.refl _ _)).drewN _
          · have hd44 : ¬ (d.toNat : Int) = 44 := fun h => h44 (by rw [← UInt8.ofNat_toNat (x := d), show d.toNat = 44 by omega]; rfl)
            have hix2 : ¬ ((s[q]'hlt9 : UInt8).toNat : Int) = 44 := by rw [hby]; exact hd44
            have hix : (((s[q]'hlt9 : UInt8).toNat : Int) != 44) = true := bne_iff_ne.2 hix2
            rw [if_neg (by simp [h44])] at hun
            by_cases h34 : d = 34
            · have hb1 : ((s[q]'hlt9 : UInt8).toNat : Int) = 34 := by rw [hby, h34]; rfl
              have hb2 : (((s[q]'hlt9 : UInt8).toNat : Int) == 34) = true := by rw [hb1]; rfl
              have HUQ := hid (show unqN (L.drop p) = (q - p, 2) by rw [HUQ0.out, hD, hun, if_pos h34]; simp)
              clear HUQ0 hun hnone hEV
              have HRR := hid (show R = (2, q - p, []) by
                rw [HU.out, HUQ.out]; simp)
              clear hD HU HUQ hby h44 hd44 h34
              go_wp2_with fail
              go_quiet (refine Calls.quiet_of (CE.out _ (Qt.one _ _)))
              obtain ⟨wD, hwD⟩ : ∃ x, wr.drewN nq = x := ⟨_, rfl⟩
              rw [hwD]
              have HQD := hid (show Qt wr wD from ⟨nq, hwD.symm⟩)
              clear hwD c0 c1 z0 z1 hg'
              obtain ⟨c0, c1, z0, z1, hg'⟩ := (HC.out.qt HQD.out).cells
              go_wp2_with fail
              go_quiet (fail)
              go_wp2
              go_ret2
              rw [HRR.out]
              refine ⟨rfl, ?_, ?_⟩
              · have hh := (HC.out.qt HQD.out).qt (Qt.one wD nq)
                show CRd _ g s (p + (q - p))
                rw [show p + (q - p) = q by omega]
                exact hh
              · exact (HK.out.trans HQD.out.kp (RowOn.refl _ _)).drewN _
            · rw [if_neg h34] at hun
              have hd34 : ¬ (d.toNat : Int) = 34 := fun h => h34 (by rw [← UInt8.ofNat_toNat (x := d), show d.toNat = 34 by omega]; rfl)
              have hb1 : (((s[q]'hlt9 : UInt8).toNat : Int) == 34) = false := by rw [hby, beq_eq_false_iff_ne]; exact hd34
              have hb1' : ¬ ((s[q]'hlt9 : UInt8).toNat : Int) = 34 := by rw [hby]; exact hd34
              by_cases h13 : d = 13
              · have hb2 : ((s[q]'hlt9 : UInt8).toNat : Int) = 13 := by rw [hby, h13]; rfl
                have hb3 : (((s[q]'hlt9 : UInt8).toNat : Int) == 13) = true := by rw [hb2]; rfl
                have HUQ := hid (show unqN (L.drop p) = (q - p, 4) by rw [HUQ0.out, hD, hun, if_pos h13]; simp)
                clear HUQ0 hun hnone hEV
                have HRR := hid (show R = (4, q - p, []) by
                  rw [HU.out, HUQ.out]; simp)
                clear hD HU HUQ hby h44 hd44 h34 h13 hd34
                go_wp2_with fail
                go_quiet (refine Calls.quiet_of (CE.out _ (Qt.one _ _)))
                obtain ⟨wD, hwD⟩ : ∃ x, wr.drewN nq = x := ⟨_, rfl⟩
                rw [hwD]
                have HQD := hid (show Qt wr wD from ⟨nq, hwD.symm⟩)
                clear hwD c0 c1 z0 z1 hg'
                obtain ⟨c0, c1, z0, z1, hg'⟩ := (HC.out.qt HQD.out).cells
                go_wp2_with fail
                go_quiet (fail)
                go_wp2
                go_ret2
                rw [HRR.out]
                refine ⟨rfl, ?_, ?_⟩
                · have hh := (HC.out.qt HQD.out).qt (Qt.one wD nq)
                  show CRd _ g s (p + (q - p))
                  rw [show p + (q - p) = q by omega]
                  exact hh
                · exact (HK.out.trans HQD.out.kp (RowOn.refl _ _)).drewN _
              · rw [if_neg h13] at hun
                have hd13 : ¬ (d.toNat : Int) = 13 := fun h => h13 (by rw [← UInt8.ofNat_toNat (x := d), show d.toNat = 13 by omega]; rfl)
                have hb3 : (((s[q]'hlt9 : UInt8).toNat : Int) == 13) = false := by rw [hby, beq_eq_false_iff_ne]; exact hd13
                have hb3' : ¬ ((s[q]'hlt9 : UInt8).toNat : Int) = 13 := by rw [hby]; exact hd13
                obtain ⟨q4, hq4⟩ : ∃ x, q + 1 = x := ⟨_, rfl⟩
                have hw5' : (q : Int) + 1 = (q4 : Int) := by omega
                have hw5 : IntKind.i64.wrap (q4 : Int) = (q4 : Int) := IntWalk.i64_in _ (by omega)
                have HUN := hid (show unqN (L.drop p) = ((unqN (L.drop q4)).1 + (q4 - p), (unqN (L.drop q4)).2) by
                  have h2 : L.drop q4 = Z := by rw [← hq4, ← List.drop_drop, hD]; rfl
                  rw [HUQ0.out, hD, hun, h2]
                  simp only [Prod.mk.injEq, and_true]
                  omega)
                have HQ4 := hid hq4
                clear HUQ0 hun hnone hEV hD HU hby h44 hd44 h34 h13 hd34 hd13 hq4
                go_wp2_with fail
                go_quiet (refine Calls.quiet_of (CE.out _ (Qt.one _ _)))
                obtain ⟨wD, hwD⟩ : ∃ x, wr.drewN nq = x := ⟨_, rfl⟩
                rw [hwD]
                have HQD := hid (show Qt wr wD from ⟨nq, hwD.symm⟩)
                clear hwD c0 c1 z0 z1 hg'
                obtain ⟨c0, c1, z0, z1, hg'⟩ := (HC.out.qt HQD.out).cells
                go_wp2_with fail
                go_quiet (fail)
                obtain ⟨wE, hwE⟩ : ∃ x, wD.drewN nq = x := ⟨_, rfl⟩
                rw [hwE]
                have HQE := hid (HQD.out.trans (show Qt wD wE from ⟨nq, hwE.symm⟩))
                clear hwE c0 c1 z0 z1 hg'
                obtain ⟨c0, c1, z0, z1, hg'⟩ := (HC.out.qt HQE.out).cells
                have HB4 := hid ((HC.out.qt HQE.out).set q4)
                have HK4 := hid ((HK.out.trans HQE.out.kp (RowOn.refl _ _)).set 1 (.int .i64 (q4 : Int)))
                go_wp2
                go_roundw
                case rel => exact ⟨q4, by have := HQ4.out; omega, by have := HQ4.out; omega, HB4.out, HK4.out, HUN⟩
                case measure =>
                  have e1 := HB4.out.atOf
                  have e2 := HC.out.atOf
                  have := HQ4.out
                  rw [e1, e2]
                  omega
        · have hdec : decide (EV < 0) = false := decide_eq_false hneg
          have HUQ := hid (show unqN (L.drop p) = (q - p, 0) by
            have hsome : (endR (d :: Z)).isSome = true := by
              cases h : endR (d :: Z) with
              | none => exact absurd (endI_neg.2 h) (by rw [hEV]; exact hneg)
              | some e => rfl
            rw [HUQ0.out, hD, unqN_cons, if_pos (Or.inl hsome)]; simp)
          clear HUQ0 hEV
          have HRR := hid (show R = (0, q - p, (L.drop p).take (q - p)) by
            rw [HU.out, HUQ.out]; simp)
          clear hD HU HUQ hby
          go_wp2_with fail
          go_quiet (refine Calls.quiet_of (CE.out _ (Qt.one _ _)))
          go_wp2_with fail
          obtain ⟨wD, hwD⟩ : ∃ x, wr.drewN nq = x := ⟨_, rfl⟩
          rw [hwD]
          have HQD := hid (show Qt wr wD from ⟨nq, hwD.symm⟩)
          clear hwD c0 c1 z0 z1 hg'
          obtain ⟨c0, c1, z0, z1, hg'⟩ := (HC.out.qt HQD.out).cells
          go_quiet (fail)
          go_wp2
          go_ret2
          rw [HRR.out]
          refine ⟨by rw [HMK.out]; rfl, ?_, ?_⟩
          · have hh := (HC.out.qt HQD.out).qt (Qt.one wD nq)
            show CRd _ g s (p + (q - p))
            rw [show p + (q - p) = q by omega]
            exact hh
          · exact (HK.out.trans HQD.out.kp (RowOn.refl _ _)).drewN _
end Go.Proofs.YtommldonooicjaaDoor
