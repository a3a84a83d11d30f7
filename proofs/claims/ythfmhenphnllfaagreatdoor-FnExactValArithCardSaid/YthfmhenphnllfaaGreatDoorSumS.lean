/-
  What is proved here: spec.l03Sum without its digits, and spec.DecCmp. The conditions are that the numbers are sound.
-/
import Derived.Test.YthfmhenphnllfaaGreatDoorSum
namespace Go.Proofs.YthfmhenphnllfaaGreatDoor
open Go.RowKit
set_option linter.unusedVariables false
set_option linter.unusedSimpArgs false

theorem addfact {p q : Prop} (h : p) (k : p → q) : q := k h
theorem trimB_zero {d : ByteArray} (h : digits d.data.toList) : ((trimB d).toList == [48]) = decide (vD d.data.toList = 0) := by
  rw [Bool.eq_iff_iff, beq_iff_eq, decide_eq_true_eq, Lib.toList_data]
  unfold trimB
  rw [mkB_data]
  exact trim_zero_iff h
theorem trimB_list (a : ByteArray) : (trimB a).data.toList = trimL a.data.toList := by unfold trimB; rw [mkB_data]
theorem trimB_size (a : ByteArray) : (trimB a).size ≤ a.size + 1 := by
  rw [Lib.size_eq, trimB_list, Lib.size_eq]
  exact (trimL_len _).1
theorem sgn3_ge (X Y : Nat) : 0 ≤ sgn3 X Y ↔ Y ≤ X := by
  unfold sgn3
  split
  · omega
  · split <;> omega
set_option maxHeartbeats 8000000 in
set_option maxRecDepth 100000 in
theorem specSum0 (na nb : Bool) (da db : ByteArray) (ea eb : Int) (w : World) (hda : da.size ≤ 20) (hdb : db.size ≤ 20) (hea : -200 ≤ ea ∧ ea ≤ 200) (heb : -200 ≤ eb ∧ eb ≤ 200) (ga : digits (dgB da).data.toList) (gb : digits (dgB db).data.toList) :
    Calls Tryz.prog 68 #[.agg #[.bool na, .string da, .int .i64 ea], .agg #[.bool nb, .string db, .int .i64 eb], .bool false] w fun e w' => e = .returned (formV (sumD na nb (vD (dgB da).data.toList * 10 ^ (ea - lowE ea eb).toNat) (vD (dgB db).data.toList * 10 ^ (eb - lowE ea eb).toNat), 0)) ∧ Below w.heap.size w w' := by
  have CL := hid (fun (w : World) => specLevel na nb da db ea eb w (by omega) (by omega) (by omega) (by omega))
  have hle := lowE_le ea eb
  obtain ⟨e, he⟩ : ∃ e, lowE ea eb = e := ⟨_, rfl⟩
  rw [he] at CL hle ⊢
  obtain ⟨n1, hn1⟩ : ∃ n, (ea - e).toNat = n := ⟨_, rfl⟩
  obtain ⟨n2, hn2⟩ : ∃ n, (eb - e).toNat = n := ⟨_, rfl⟩
  rw [hn1, hn2] at CL ⊢
  rw [← levB_val, ← levB_val]
  have hzs1 := zeroB_size n1
  have hzs2 := zeroB_size n2
  have hds1 := dgB_size da
  have hds2 := dgB_size db
  have hAs : (levB da n1).size ≤ 900 := by unfold levB; rw [ByteArray.size_append]; omega
  have hBs : (levB db n2).size ≤ 900 := by unfold levB; rw [ByteArray.size_append]; omega
  have hAd : digits (levB da n1).data.toList := by rw [levB_list]; exact digits_append_zeros ga _
  have hBd : digits (levB db n2).data.toList := by rw [levB_list]; exact digits_append_zeros gb _
  obtain ⟨A, hA⟩ : ∃ x, levB da n1 = x := ⟨_, rfl⟩
  obtain ⟨B, hB⟩ : ∃ x, levB db n2 = x := ⟨_, rfl⟩
  rw [hA] at CL hAs hAd ⊢
  rw [hB] at CL hBs hBd ⊢
  have hTAd : digits (trimB A).data.toList := by rw [trimB_list]; exact digits_trim hAd
  have hTBd : digits (trimB B).data.toList := by rw [trimB_list]; exact digits_trim hBd
  have hTA := trimB_size A
  have hTB := trimB_size B
  have CAdd := hid (fun (w : World) => specAdd A B w hAd hBd (by omega) (by omega))
  have CCmp := hid (fun (w : World) => specNatCmp A B w hAd hBd (by omega) (by omega))
  have CTA := hid (fun (w : World) => specTrim A w (by omega))
  have CTB := hid (fun (w : World) => specTrim B w (by omega))
  have CS1 := hid (fun (w : World) => specSub (trimB A) B w hTAd hBd (by omega) (by omega))
  have CS2 := hid (fun (w : World) => specSub (trimB B) A w hTBd hAd (by omega) (by omega))
  obtain ⟨X, hX⟩ : ∃ x, vD A.data.toList = x := ⟨_, rfl⟩
  obtain ⟨Y, hY⟩ : ∃ x, vD B.data.toList = x := ⟨_, rfl⟩
  have hvadd : vD (addL A.data.toList B.data.toList) = X + Y := by rw [vD_add hAd hBd, hX, hY]
  have hlad : (addL A.data.toList B.data.toList).length ≤ 2000 := by
    have := addL_len A.data.toList B.data.toList
    rw [Lib.size_eq] at hAs hBs
    omega
  have hgad := digits_add A.data.toList B.data.toList
  have hsubs : ∀ (a b : ByteArray), digits a.data.toList → digits b.data.toList → a.size ≤ 1000 → digits (subL a.data.toList b.data.toList) ∧ (subL a.data.toList b.data.toList).length ≤ 2000 := by
    intro a b h1 h2 h3
    unfold subL
    refine ⟨digits_trim (digits_outS h1 h2 _), ?_⟩
    have := (trimL_len (outS a.data.toList b.data.toList a.data.toList.length)).1
    rw [outS_len] at this
    rw [Lib.size_eq] at h3
    omega
  obtain ⟨hg1, hl1⟩ := hsubs (trimB A) B hTAd hBd (by omega)
  obtain ⟨hg2, hl2⟩ := hsubs (trimB B) A hTBd hAd (by omega)
  have hv1 : Y ≤ X → vD (subL (trimB A).data.toList B.data.toList) + Y = X := by
    intro h
    have := vD_sub hTAd hBd (by rw [trimB_list, vD_trim, hX, hY]; exact h)
    rw [trimB_list, vD_trim, hX, hY] at this
    rw [trimB_list]
    exact this
  have hv2 : X ≤ Y → vD (subL (trimB B).data.toList A.data.toList) + X = Y := by
    intro h
    have := vD_sub hTBd hAd (by rw [trimB_list, vD_trim, hX, hY]; exact h)
    rw [trimB_list, vD_trim, hX, hY] at this
    rw [trimB_list]
    exact this
  rw [hX, hY] at CCmp ⊢
  obtain ⟨SA, hSA⟩ : ∃ l, addL A.data.toList B.data.toList = l := ⟨_, rfl⟩
  obtain ⟨S1, hS1⟩ : ∃ l, subL (trimB A).data.toList B.data.toList = l := ⟨_, rfl⟩
  obtain ⟨S2, hS2⟩ : ∃ l, subL (trimB B).data.toList A.data.toList = l := ⟨_, rfl⟩
  rw [hSA] at CAdd hvadd hlad hgad
  rw [hS1] at CS1 hv1 hg1 hl1
  rw [hS2] at CS2 hv2 hg2 hl2
  obtain ⟨TA, hTAe⟩ : ∃ t, trimB A = t := ⟨_, rfl⟩
  obtain ⟨TB, hTBe⟩ : ∃ t, trimB B = t := ⟨_, rfl⟩
  rw [hTAe] at CTA CS1
  rw [hTBe] at CTB CS2
  obtain ⟨R, hR⟩ : ∃ r, sumD na nb X Y = r := ⟨_, rfl⟩
  rw [hR]
  obtain ⟨sg, hsg⟩ : ∃ b, sumN na nb X Y = b := ⟨_, rfl⟩
  obtain ⟨zr, hzr⟩ : ∃ b, sumZ na nb X Y = b := ⟨_, rfl⟩
  have hRR : R = if zr = true then dec0 else ⟨sg, ⟨#[49]⟩, 0⟩ := by rw [← hR]; unfold sumD; rw [hsg, hzr]
  have HR := hid hRR
  have HSG := hid hsg
  have HZR := hid hzr
  have HV1 := hid hv1
  have HV2 := hid hv2
  have HVA := hid hvadd
  have e0 : (((w.alloc (.cells #[.bool na, .string da, .int .i64 ea] 27)).alloc (.cells #[.bool nb, .string db, .int .i64 eb] 27)).alloc (.cells #[.bool false, .string ⟨#[]⟩, .int .i64 0] 27)).heap.size = w.heap.size + 1 + 1 + 1 := by simp
  clear hR hRR hsg hzr hv1 hv2 hvadd hsubs hTA hTB hTAd hTBd hAd hBd hAs hBs hzs1 hzs2 hds1 hds2 hle he hn1 hn2 hX hY hA hB hSA hS1 hS2 hTAe hTBe ga gb
  go_enter Tryz.func68, Tryz.ntmps68
  go_wp2_with fail
  refine (CL.out _).mono ?_
  rintro e' w1 ⟨rfl, hb1⟩
  obtain ⟨hc1, hf1⟩ := bcell hb1
  have hB1 : Below (w.heap.size + 1 + 1 + 1) (((w.alloc (.cells #[.bool na, .string da, .int .i64 ea] 27)).alloc (.cells #[.bool nb, .string db, .int .i64 eb] 27)).alloc (.cells #[.bool false, .string ⟨#[]⟩, .int .i64 0] 27)) w1 := by rw [← e0]; exact hb1
  have hlw : w.heap.size + 1 + 1 < w1.heap.size := by have := hB1.size; (try simp at this); omega
  have s0 : w1.cell? ⟨w.heap.size, 0, none⟩ = some (.bool na) := (hc1 _ _ (by first | (simp; done) | (simp; omega))).trans (by go_simp)
  have s1 : w1.cell? ⟨w.heap.size, 1, none⟩ = some (.string da) := (hc1 _ _ (by first | (simp; done) | (simp; omega))).trans (by go_simp)
  have s2 : w1.cell? ⟨w.heap.size, 2, none⟩ = some (.int .i64 ea) := (hc1 _ _ (by first | (simp; done) | (simp; omega))).trans (by go_simp)
  have s3 : w1.cell? ⟨w.heap.size + 1, 0, none⟩ = some (.bool nb) := (hc1 _ _ (by first | (simp; done) | (simp; omega))).trans (by go_simp)
  have s4 : w1.cell? ⟨w.heap.size + 1, 1, none⟩ = some (.string db) := (hc1 _ _ (by first | (simp; done) | (simp; omega))).trans (by go_simp)
  have s5 : w1.cell? ⟨w.heap.size + 1, 2, none⟩ = some (.int .i64 eb) := (hc1 _ _ (by first | (simp; done) | (simp; omega))).trans (by go_simp)
  have s6 : w1.cell? ⟨w.heap.size + 1 + 1, 0, none⟩ = some (.bool false) := (hc1 _ _ (by first | (simp; done) | (simp; omega))).trans (by go_simp)
  have s7 : w1.cell? ⟨w.heap.size + 1 + 1, 1, none⟩ = some (.string ⟨#[]⟩) := (hc1 _ _ (by first | (simp; done) | (simp; omega))).trans (by go_simp)
  have s8 : w1.cell? ⟨w.heap.size + 1 + 1, 2, none⟩ = some (.int .i64 0) := (hc1 _ _ (by first | (simp; done) | (simp; omega))).trans (by go_simp)
  have r0 : w1.frozen? ⟨w.heap.size + 1 + 1, 0, none⟩ = false := (hf1 _ _ (by first | (simp; done) | (simp; omega))).trans (by go_simp)
  have r1 : w1.frozen? ⟨w.heap.size + 1 + 1, 1, none⟩ = false := (hf1 _ _ (by first | (simp; done) | (simp; omega))).trans (by go_simp)
  have r2 : w1.frozen? ⟨w.heap.size + 1 + 1, 2, none⟩ = false := (hf1 _ _ (by first | (simp; done) | (simp; omega))).trans (by go_simp)
  clear hc1 hf1
  go_upto_region 3 with fail
  go_cut [12] from 13 (fun v wr => v = .string ⟨#[]⟩ ∧ w1 = wr)
  case first =>
    go_wp2
    go_meet
    case rel => exact ⟨rfl, rfl⟩
  case rest =>
  obtain ⟨rfl, rfl⟩ := hcut
  go_step
  go_step
  go_cut [11, 12] from 13 (fun v11 v12 wr => ∃ D : ByteArray, v11 = .bool sg ∧ v12 = .string D ∧ digits D.data.toList ∧ D.size ≤ 2000 ∧ Hid (vD D.data.toList = 0 ↔ zr = true) ∧ Below (w.heap.size + 1 + 1 + 1) (((w.alloc (.cells #[.bool na, .string da, .int .i64 ea] 27)).alloc (.cells #[.bool nb, .string db, .int .i64 eb] 27)).alloc (.cells #[.bool false, .string ⟨#[]⟩, .int .i64 0] 27)) wr)
  case first =>
    by_cases hs : na = nb
    · have HN := hid (show sg = na by rw [← HSG.out]; unfold sumN; rw [if_pos hs])
      have HZ := hid (show zr = decide (X + Y = 0) by rw [← HZR.out]; unfold sumZ; rw [if_pos hs])
      have g1 : (na == nb) = true := by rw [hs]; simp
      clear hs
      go_wp2_with fail
      refine (CAdd.out _).mono ?_
      rintro e' w2 ⟨rfl, hb2⟩
      go_wp2
      go_meet
      case rel => exact ⟨mkB SA, by rw [HN.out], rfl, hgad, by rw [mkB_size]; exact hlad, hid (by rw [HZ.out, decide_eq_true_eq, mkB_data, HVA.out]), hB1.trans (hb2.mono (by omega))⟩
    · have g1 : (na == nb) = false := by simpa using hs
      by_cases hle : Y ≤ X
      · have HN := hid (show sg = na by rw [← HSG.out]; unfold sumN; rw [if_neg hs, if_pos hle])
        have HZ := hid (show zr = decide (X = Y) by rw [← HZR.out]; unfold sumZ; rw [if_neg hs])
        have g2 : (0 : Int) ≤ sgn3 X Y := (sgn3_ge X Y).2 hle
        have hv := HV1.out hle
        have HIF := hid (show vD S1 = 0 ↔ zr = true by rw [HZ.out, decide_eq_true_eq]; omega)
        clear hs hv
        go_wp2_with fail
        refine (CCmp.out _).mono ?_
        rintro e' w2 ⟨rfl, rfl⟩
        go_wp2_with fail
        refine (CTA.out _).mono ?_
        rintro e' w2 ⟨rfl, rfl⟩
        go_wp2_with fail
        refine (CS1.out _).mono ?_
        rintro e' w2 ⟨rfl, hb2⟩
        go_wp2
        go_meet
        case rel => exact ⟨mkB S1, by rw [HN.out], rfl, hg1, by rw [mkB_size]; exact hl1, HIF, hB1.trans (hb2.mono (by omega))⟩
      · have HN := hid (show sg = nb by rw [← HSG.out]; unfold sumN; rw [if_neg hs, if_neg hle])
        have HZ := hid (show zr = decide (X = Y) by rw [← HZR.out]; unfold sumZ; rw [if_neg hs])
        have g2 : ¬ (0 : Int) ≤ sgn3 X Y := fun h => hle ((sgn3_ge X Y).1 h)
        have hv := HV2.out (by omega)
        have HIF := hid (show vD S2 = 0 ↔ zr = true by rw [HZ.out, decide_eq_true_eq]; omega)
        clear hs hv hle
        go_wp2_with fail
        refine (CCmp.out _).mono ?_
        rintro e' w2 ⟨rfl, rfl⟩
        go_wp2_with fail
        refine (CTB.out _).mono ?_
        rintro e' w2 ⟨rfl, rfl⟩
        go_wp2_with fail
        refine (CS2.out _).mono ?_
        rintro e' w2 ⟨rfl, hb2⟩
        have k0 := keeps_cells hb2 _ _ s0
        have k3 := keeps_cells hb2 _ _ s3
        go_wp2
        go_meet
        case rel => exact ⟨mkB S2, by rw [HN.out], rfl, hg2, by rw [mkB_size]; exact hl2, HIF, hB1.trans (hb2.mono (by omega))⟩
  case rest =>
  obtain ⟨D, rfl, rfl, hDg, hDs, HIF, hB2⟩ := hcut
  have CTD := hid (fun (w : World) => specTrim D w (by omega))
  have gz := trimB_zero hDg
  obtain ⟨T, hT⟩ : ∃ t, trimB D = t := ⟨_, rfl⟩
  rw [hT] at CTD gz
  clear hT hB1 s0 s1 s2 s3 s4 s5 s6 s7 s8 r0 r1 r2 CL CAdd CCmp CTA CTB CS1 CS2
  obtain ⟨hc2, hf2⟩ := bcell hB2
  have hl2 : w.heap.size + 1 + 1 < wc.heap.size := by have := hB2.size; (try simp at this); omega
  have s6 : wc.cell? ⟨w.heap.size + 1 + 1, 0, none⟩ = some (.bool false) := (hc2 _ _ (by omega)).trans (by go_simp)
  have s7 : wc.cell? ⟨w.heap.size + 1 + 1, 1, none⟩ = some (.string ⟨#[]⟩) := (hc2 _ _ (by omega)).trans (by go_simp)
  have s8 : wc.cell? ⟨w.heap.size + 1 + 1, 2, none⟩ = some (.int .i64 0) := (hc2 _ _ (by omega)).trans (by go_simp)
  have r0 : wc.frozen? ⟨w.heap.size + 1 + 1, 0, none⟩ = false := (hf2 _ _ (by omega)).trans (by go_simp)
  have r1 : wc.frozen? ⟨w.heap.size + 1 + 1, 1, none⟩ = false := (hf2 _ _ (by omega)).trans (by go_simp)
  have r2 : wc.frozen? ⟨w.heap.size + 1 + 1, 2, none⟩ = false := (hf2 _ _ (by omega)).trans (by go_simp)
  clear hc2 hf2
  have hbw : Below w.heap.size w wc := (ext_trans (ext_trans (ext_alloc _ _) (ext_alloc _ _)) (ext_alloc _ _)).trans (hB2.mono (by omega))
  cases zr
  · have hv : ¬ vD D.data.toList = 0 := fun h => by have := HIF.out.1 h; cases this
    rw [decide_eq_false hv] at gz
    have HRR := hid (show R = ⟨sg, ⟨#[49]⟩, 0⟩ by rw [HR.out, if_neg (by decide)])
    clear hv
    go_wp2_with fail
    refine (CTD.out _).mono ?_
    rintro e' w2 ⟨rfl, rfl⟩
    go_wp2
    refine bodyPost_ret (v := .tuple #[.agg #[.bool sg, .string ⟨#[49]⟩, .int .i64 0], .int .i64 0]) (by simp [results, Tryz.results68, go_sem, hl2, s6, s7, s8, r0, r1, r2]) rfl ⟨by rw [HRR.out]; rfl, ?_⟩
    repeat' (first | (with_reducible exact hbw) | (with_reducible refine Below.setCell ?_ ?_ _) | (simp; done) | (simp; omega) | omega)
  · have hv : vD D.data.toList = 0 := HIF.out.2 rfl
    rw [decide_eq_true hv] at gz
    have HRR := hid (show R = dec0 by rw [HR.out, if_pos rfl])
    clear hv
    go_wp2_with fail
    refine (CTD.out _).mono ?_
    rintro e' w2 ⟨rfl, rfl⟩
    go_wp2
    refine bodyPost_ret (v := .tuple #[.agg #[.bool false, .string ⟨#[]⟩, .int .i64 0], .int .i64 0]) (by simp [results, Tryz.results68, go_sem, hl2, s6, s7, s8, r0, r1, r2]) rfl ⟨by rw [HRR.out]; rfl, ?_⟩
    repeat' (first | (with_reducible exact hbw) | (with_reducible refine Below.setCell ?_ ?_ _) | (simp; done) | (simp; omega) | omega)
set_option maxHeartbeats 16000000 in
set_option maxRecDepth 100000 in
theorem specDecCmp (a b : Dec) (w : World) (ha : decOk a = true) (hb : decOk b = true) :
    Calls Tryz.prog 88 #[.agg #[.bool a.neg, .string a.dig, .int .i64 a.exp], .agg #[.bool b.neg, .string b.dig, .int .i64 b.exp]] w fun e w' => e = .returned (.int .i64 (cmpD a b)) ∧ Below w.heap.size w w' := by
  obtain ⟨a1, a2, a3, a4, a5⟩ := ok_facts ha
  obtain ⟨b1, b2, b3, b4, b5⟩ := ok_facts hb
  obtain ⟨n1, n2, n3⟩ := negD_same hb
  have hcm := spec_cmp ha hb
  have CO1 : Hid (∀ w, Calls Tryz.prog 67 #[.agg #[.bool a.neg, .string a.dig, .int .i64 a.exp]] w fun e w' => e = .returned (.bool true) ∧ Below w.heap.size w w') := hid (fun w => by
    have h := specDecOk (d := a) (cs := #[.bool a.neg, .string a.dig, .int .i64 a.exp]) w (by exact rdDec_mk (x := a) (by omega) (by omega))
    rw [ha] at h
    exact h)
  have CO2 : Hid (∀ w, Calls Tryz.prog 67 #[.agg #[.bool b.neg, .string b.dig, .int .i64 b.exp]] w fun e w' => e = .returned (.bool true) ∧ Below w.heap.size w w') := hid (fun w => by
    have h := specDecOk (d := b) (cs := #[.bool b.neg, .string b.dig, .int .i64 b.exp]) w (by exact rdDec_mk (x := b) (by omega) (by omega))
    rw [hb] at h
    exact h)
  have CN := hid (fun (w : World) => specNegD b w hb)
  obtain ⟨R, hR⟩ : ∃ r, sumD a.neg (negD b).neg (valX a (lowE a.exp b.exp)) (valX b (lowE a.exp b.exp)) = r := ⟨_, rfl⟩
  have CS : Hid (∀ w, Calls Tryz.prog 68 #[.agg #[.bool a.neg, .string a.dig, .int .i64 a.exp], .agg #[.bool (negD b).neg, .string (negD b).dig, .int .i64 (negD b).exp], .bool false] w fun e w' => e = .returned (.tuple #[.agg #[.bool R.neg, .string R.dig, .int .i64 R.exp], .int .i64 0]) ∧ Below w.heap.size w w') := hid (fun w => by
    have h := specSum0 a.neg (negD b).neg a.dig (negD b).dig a.exp (negD b).exp w a1 (by rw [n3]; exact b1) a2 (by rw [n1]; exact b2) a3 (by rw [n3]; exact b3)
    rw [n1, n3] at h
    rw [n1, n3]
    have e1 : sumD a.neg (negD b).neg (vD (dgB a.dig).data.toList * 10 ^ (a.exp - lowE a.exp b.exp).toNat) (vD (dgB b.dig).data.toList * 10 ^ (b.exp - lowE a.exp b.exp).toNat) = R := hR
    rw [e1] at h
    exact h)
  rw [hR] at hcm
  rw [← hcm]
  obtain ⟨nn, nd, ne⟩ : ∃ x y z, (negD b) = ⟨x, y, z⟩ := ⟨_, _, _, rfl⟩
  obtain ⟨C, hC⟩ : ∃ c, decCode R = c := ⟨_, rfl⟩
  rw [hC]
  have HC := hid (show C = if R.dig.size = 0 then 0 else if R.neg = true then -1 else 1 by rw [← hC]; rfl)
  obtain ⟨NB, hNB⟩ : ∃ d, negD b = d := ⟨_, rfl⟩
  rw [hNB] at CN CS
  obtain ⟨na, da, ea⟩ := a
  obtain ⟨nb, db, eb⟩ := b
  dsimp only at *
  clear a1 a2 a3 a4 a5 b1 b2 b3 b4 b5 n1 n2 n3 hcm hR hC hNB ha hb ne
  go_enter Tryz.func88, Tryz.ntmps88
  go_wp2_with fail
  refine (CO1.out _).mono ?_
  rintro e' w1 ⟨rfl, hb1⟩
  have s0 : w1.cell? ⟨w.heap.size, 0, none⟩ = some (.bool na) := keeps_cells hb1 _ _ (by go_simp)
  have s1 : w1.cell? ⟨w.heap.size, 1, none⟩ = some (.string da) := keeps_cells hb1 _ _ (by go_simp)
  have s2 : w1.cell? ⟨w.heap.size, 2, none⟩ = some (.int .i64 ea) := keeps_cells hb1 _ _ (by go_simp)
  have s3 : w1.cell? ⟨w.heap.size + 1, 0, none⟩ = some (.bool nb) := keeps_cells hb1 _ _ (by go_simp)
  have s4 : w1.cell? ⟨w.heap.size + 1, 1, none⟩ = some (.string db) := keeps_cells hb1 _ _ (by go_simp)
  have s5 : w1.cell? ⟨w.heap.size + 1, 2, none⟩ = some (.int .i64 eb) := keeps_cells hb1 _ _ (by go_simp)
  go_wp2_with fail
  refine (CO2.out _).mono ?_
  rintro e' w2 ⟨rfl, hb2⟩
  replace s0 := keeps_cells hb2 _ _ s0
  replace s1 := keeps_cells hb2 _ _ s1
  replace s2 := keeps_cells hb2 _ _ s2
  replace s3 := keeps_cells hb2 _ _ s3
  replace s4 := keeps_cells hb2 _ _ s4
  replace s5 := keeps_cells hb2 _ _ s5
  have hbw : Below w.heap.size w w2 := ext_trans (ext_trans (ext_trans (ext_alloc _ _) (ext_alloc _ _)) hb1) hb2
  have hl2 : w.heap.size + 1 < w2.heap.size := by have h1 := hb1.size; have h2 := hb2.size; (try simp at h1); omega
  clear hb1 hb2
  go_upto_region 3 with fail
  go_cut [5] from 7 (fun v5 wr => ∃ bk : Nat, v5 = .pointer (some ⟨bk, 0, none⟩) ∧ wr.cell? ⟨bk, 0, none⟩ = some (.bool R.neg) ∧ wr.cell? ⟨bk, 1, none⟩ = some (.string R.dig) ∧ Below w.heap.size w wr)
  case first =>
    have kl0 : w.heap.size < w2.heap.size := by omega
    have kl1 : w.heap.size + 1 < w2.heap.size := by omega
    refine wp_region_held_drew (S := fun w' => Below w2.heap.size w2 w') (by kernel_rfl) ?_ (fun hHeld => ?_)
    · exact Below.drew (Below.refl _ _)
    refine wpAnyH_take (i := 0) (v := ?_) rfl (by kernel_rfl) (by kernel_rfl) (by kernel_rfl) (fun _ _ _ h => h) (Or.inl ⟨by rfl, ?_⟩) (by assumption) ?_
    rotate_left
    · (intro w' hSw; (try dsimp only at hSw); (have q0 := (hSw.cell (p := ⟨w.heap.size, 0, none⟩) kl0).trans s0; have q1 := (hSw.cell (p := ⟨w.heap.size, 1, none⟩) kl0).trans s1; have q2 := (hSw.cell (p := ⟨w.heap.size, 2, none⟩) kl0).trans s2); go_simp; try (with_reducible rfl))
    change wpAnyH _ _ _ _ _ _ _ (Act.put _ (some 16) _) _
    try simp only [Act.put, List.setIfInBounds_toArray, List.set_cons_zero, List.set_cons_succ]
    refine wpAnyH_take (i := 1) (v := ?_) rfl (by kernel_rfl) (by kernel_rfl) (by kernel_rfl) (fun _ _ _ h => h) (Or.inl ⟨by rfl, ?_⟩) (by assumption) ?_
    rotate_left
    · (intro w' hSw; (try dsimp only at hSw); (have q0 := (hSw.cell (p := ⟨w.heap.size + 1, 0, none⟩) kl1).trans s3; have q1 := (hSw.cell (p := ⟨w.heap.size + 1, 1, none⟩) kl1).trans s4; have q2 := (hSw.cell (p := ⟨w.heap.size + 1, 2, none⟩) kl1).trans s5); go_simp; try (with_reducible rfl))
    change wpAnyH _ _ _ _ _ _ _ (Act.put _ (some 17) _) _
    try simp only [Act.put, List.setIfInBounds_toArray, List.set_cons_zero, List.set_cons_succ]
    refine wpAnyH_ready (rs := [2, 7]) (by kernel_rfl) (by simp) ?_
    refine AllReadyH.cons (i := 2) rfl (fun K hK => ?_) ?_
    · simp only [List.getElem_toArray, List.getElem_cons_succ, List.getElem_cons_zero]
      rw [if_pos (by rfl)]
      go_simp
      (go_at_call 69; refine (CN.out _).mono ?_; rintro e' tA ⟨rfl, hbA⟩; go_wp2_with fail)
      refine hK.out _ _ ?_ (fun hHeld => ?_)
      · ((try dsimp only); exact ext_trans hHeld hbA)
      clear hK K
      try simp only [Act.put, List.setIfInBounds_toArray, List.set_cons_zero, List.set_cons_succ]
      refine wpAnyH_ready (rs := [3, 7]) (by kernel_rfl) (by simp) ?_
      refine AllReadyH.cons (i := 3) rfl (fun K hK => ?_) ?_
      · simp only [List.getElem_toArray, List.getElem_cons_succ, List.getElem_cons_zero]
        rw [if_pos (by rfl)]
        go_simp
        (go_at_call 68; refine (CS.out _).mono ?_; rintro e' tB ⟨rfl, hbB⟩; go_wp2_with fail)
        refine hK.out _ _ ?_ (fun hHeld => ?_)
        · ((try dsimp only); exact ext_trans hHeld hbB)
        clear hK K
        try simp only [Act.put, List.setIfInBounds_toArray, List.set_cons_zero, List.set_cons_succ]
        refine wpAnyH_take (i := 4) (v := ?_) rfl (by kernel_rfl) (by kernel_rfl) (by kernel_rfl) (fun _ _ _ h => h) (Or.inl ⟨by rfl, ?_⟩) (by assumption) ?_
        rotate_left
        · (intro w' hSw; (try dsimp only at hSw); go_simp; try (with_reducible rfl))
        change wpAnyH _ _ _ _ _ _ _ (Act.put _ (some 15) _) _
        try simp only [Act.put, List.setIfInBounds_toArray, List.set_cons_zero, List.set_cons_succ]
        refine wpAnyH_take (i := 5) (v := ?_) rfl (by kernel_rfl) (by kernel_rfl) (by kernel_rfl) (fun _ _ _ h => h) (Or.inl ⟨by rfl, ?_⟩) (by assumption) ?_
        rotate_left
        · (intro w' hSw; (try dsimp only at hSw); go_simp; try (with_reducible rfl))
        change wpAnyH _ _ _ _ _ _ _ (Act.put _ (some 20) _) _
        try simp only [Act.put, List.setIfInBounds_toArray, List.set_cons_zero, List.set_cons_succ]
        refine wpAnyH_take (i := 6) (v := ?_) rfl (by kernel_rfl) (by kernel_rfl) (by kernel_rfl) (fun _ _ _ h => h) (Or.inl ⟨by rfl, ?_⟩) (by assumption) ?_
        rotate_left
        · (intro w' hSw; (try dsimp only at hSw); go_simp; try (with_reducible rfl))
        change wpAnyH _ _ _ _ _ _ _ (Act.put _ (some 21) _) _
        try simp only [Act.put, List.setIfInBounds_toArray, List.set_cons_zero, List.set_cons_succ]
        refine wpAnyH_ready (rs := [7]) (by kernel_rfl) (by simp) ?_
        refine AllReadyH.cons (i := 7) rfl (fun K hK => ?_) AllReadyH.nil
        simp only [List.getElem_toArray, List.getElem_cons_succ, List.getElem_cons_zero]
        rw [if_pos (by rfl)]
        go_simp
        have hHC := hHeld
        have gle : w2.heap.size ≤ tB.heap.size := hHeld.size
        have gl : tB.heap.size < (tB.alloc (.cells #[.bool false, .string ⟨#[]⟩, .int .i64 0] 27)).heap.size := by simp
        have g0 : (tB.alloc (.cells #[.bool false, .string ⟨#[]⟩, .int .i64 0] 27)).cell? ⟨tB.heap.size, 0, none⟩ = some (.bool false) := by go_simp
        have g1 : (tB.alloc (.cells #[.bool false, .string ⟨#[]⟩, .int .i64 0] 27)).cell? ⟨tB.heap.size, 1, none⟩ = some (.string ⟨#[]⟩) := by go_simp
        have g2 : (tB.alloc (.cells #[.bool false, .string ⟨#[]⟩, .int .i64 0] 27)).cell? ⟨tB.heap.size, 2, none⟩ = some (.int .i64 0) := by go_simp
        have gz0 : (tB.alloc (.cells #[.bool false, .string ⟨#[]⟩, .int .i64 0] 27)).frozen? ⟨tB.heap.size, 0, none⟩ = false := by go_simp
        have gz1 : (tB.alloc (.cells #[.bool false, .string ⟨#[]⟩, .int .i64 0] 27)).frozen? ⟨tB.heap.size, 1, none⟩ = false := by go_simp
        have gz2 : (tB.alloc (.cells #[.bool false, .string ⟨#[]⟩, .int .i64 0] 27)).frozen? ⟨tB.heap.size, 2, none⟩ = false := by go_simp
        refine hK.out _ _ ?_ (fun hHeld => ?_)
        · ((try dsimp only); exact ext_trans hHeld (ext_alloc _ _))
        clear hK K
        try simp only [Act.put, List.setIfInBounds_toArray, List.set_cons_zero, List.set_cons_succ]
        refine wpAnyH_ready (rs := [8]) (by kernel_rfl) (by simp) ?_
        refine AllReadyH.cons (i := 8) rfl (fun K hK => ?_) AllReadyH.nil
        simp only [List.getElem_toArray, List.getElem_cons_succ, List.getElem_cons_zero]
        rw [if_pos (by rfl)]
        go_simp
        refine hK.out _ _ ?_ (fun hHeld => ?_)
        · ((try dsimp only); first | (refine Below.setCell ?_ gle _; refine Below.setCell ?_ gle _; refine Below.setCell ?_ gle _; exact hHeld) | exact ext_trans hHC (ext_alloc _ _))
        clear hK K
        try simp only [Act.put, List.setIfInBounds_toArray, List.set_cons_zero, List.set_cons_succ]
        refine wpAnyH_take (i := 9) (v := ?_) rfl (by kernel_rfl) (by kernel_rfl) (by kernel_rfl) (fun _ _ _ h => h) (Or.inl ⟨by rfl, ?_⟩) (by assumption) ?_
        rotate_left
        · (intro w' hSw; (try dsimp only at hSw); go_simp; try (with_reducible rfl))
        change wpAnyH _ _ _ _ _ _ _ (Act.put _ (some 6) _) _
        try simp only [Act.put, List.setIfInBounds_toArray, List.set_cons_zero, List.set_cons_succ]
        refine wpAnyH_done (by kernel_rfl) ?_ _
        go_wp2_with fail
        go_meet
        case rel => exact ⟨_, rfl, by go_simp, by go_simp, ext_trans hbw hHeld⟩
      refine AllReadyH.cons (i := 7) rfl (fun K hK => ?_) ?_
      · simp only [List.getElem_toArray, List.getElem_cons_succ, List.getElem_cons_zero]
        rw [if_pos (by rfl)]
        go_simp
        have hHC := hHeld
        have gle : w2.heap.size ≤ tA.heap.size := hHeld.size
        have gl : tA.heap.size < (tA.alloc (.cells #[.bool false, .string ⟨#[]⟩, .int .i64 0] 27)).heap.size := by simp
        have g0 : (tA.alloc (.cells #[.bool false, .string ⟨#[]⟩, .int .i64 0] 27)).cell? ⟨tA.heap.size, 0, none⟩ = some (.bool false) := by go_simp
        have g1 : (tA.alloc (.cells #[.bool false, .string ⟨#[]⟩, .int .i64 0] 27)).cell? ⟨tA.heap.size, 1, none⟩ = some (.string ⟨#[]⟩) := by go_simp
        have g2 : (tA.alloc (.cells #[.bool false, .string ⟨#[]⟩, .int .i64 0] 27)).cell? ⟨tA.heap.size, 2, none⟩ = some (.int .i64 0) := by go_simp
        have gz0 : (tA.alloc (.cells #[.bool false, .string ⟨#[]⟩, .int .i64 0] 27)).frozen? ⟨tA.heap.size, 0, none⟩ = false := by go_simp
        have gz1 : (tA.alloc (.cells #[.bool false, .string ⟨#[]⟩, .int .i64 0] 27)).frozen? ⟨tA.heap.size, 1, none⟩ = false := by go_simp
        have gz2 : (tA.alloc (.cells #[.bool false, .string ⟨#[]⟩, .int .i64 0] 27)).frozen? ⟨tA.heap.size, 2, none⟩ = false := by go_simp
        refine hK.out _ _ ?_ (fun hHeld => ?_)
        · ((try dsimp only); exact ext_trans hHeld (ext_alloc _ _))
        clear hK K
        try simp only [Act.put, List.setIfInBounds_toArray, List.set_cons_zero, List.set_cons_succ]
        refine wpAnyH_ready (rs := [3]) (by kernel_rfl) (by simp) ?_
        refine AllReadyH.cons (i := 3) rfl (fun K hK => ?_) AllReadyH.nil
        simp only [List.getElem_toArray, List.getElem_cons_succ, List.getElem_cons_zero]
        rw [if_pos (by rfl)]
        go_simp
        (go_at_call 68; refine (CS.out _).mono ?_; rintro e' tB ⟨rfl, hbB⟩; go_wp2_with fail)
        replace g0 := (hbB.cell (p := ⟨tA.heap.size, 0, none⟩) gl).trans g0
        replace g1 := (hbB.cell (p := ⟨tA.heap.size, 1, none⟩) gl).trans g1
        replace g2 := (hbB.cell (p := ⟨tA.heap.size, 2, none⟩) gl).trans g2
        replace gz0 := (hbB.frozen (p := ⟨tA.heap.size, 0, none⟩) gl).trans gz0
        replace gz1 := (hbB.frozen (p := ⟨tA.heap.size, 1, none⟩) gl).trans gz1
        replace gz2 := (hbB.frozen (p := ⟨tA.heap.size, 2, none⟩) gl).trans gz2
        replace gl := Nat.lt_of_lt_of_le gl hbB.size
        refine hK.out _ _ ?_ (fun hHeld => ?_)
        · ((try dsimp only); exact ext_trans hHeld hbB)
        clear hK K
        try simp only [Act.put, List.setIfInBounds_toArray, List.set_cons_zero, List.set_cons_succ]
        refine wpAnyH_take (i := 4) (v := ?_) rfl (by kernel_rfl) (by kernel_rfl) (by kernel_rfl) (fun _ _ _ h => h) (Or.inl ⟨by rfl, ?_⟩) (by assumption) ?_
        rotate_left
        · (intro w' hSw; (try dsimp only at hSw); go_simp; try (with_reducible rfl))
        change wpAnyH _ _ _ _ _ _ _ (Act.put _ (some 15) _) _
        try simp only [Act.put, List.setIfInBounds_toArray, List.set_cons_zero, List.set_cons_succ]
        refine wpAnyH_take (i := 5) (v := ?_) rfl (by kernel_rfl) (by kernel_rfl) (by kernel_rfl) (fun _ _ _ h => h) (Or.inl ⟨by rfl, ?_⟩) (by assumption) ?_
        rotate_left
        · (intro w' hSw; (try dsimp only at hSw); go_simp; try (with_reducible rfl))
        change wpAnyH _ _ _ _ _ _ _ (Act.put _ (some 20) _) _
        try simp only [Act.put, List.setIfInBounds_toArray, List.set_cons_zero, List.set_cons_succ]
        refine wpAnyH_take (i := 6) (v := ?_) rfl (by kernel_rfl) (by kernel_rfl) (by kernel_rfl) (fun _ _ _ h => h) (Or.inl ⟨by rfl, ?_⟩) (by assumption) ?_
        rotate_left
        · (intro w' hSw; (try dsimp only at hSw); go_simp; try (with_reducible rfl))
        change wpAnyH _ _ _ _ _ _ _ (Act.put _ (some 21) _) _
        try simp only [Act.put, List.setIfInBounds_toArray, List.set_cons_zero, List.set_cons_succ]
        refine wpAnyH_ready (rs := [8]) (by kernel_rfl) (by simp) ?_
        refine AllReadyH.cons (i := 8) rfl (fun K hK => ?_) AllReadyH.nil
        simp only [List.getElem_toArray, List.getElem_cons_succ, List.getElem_cons_zero]
        rw [if_pos (by rfl)]
        go_simp
        refine hK.out _ _ ?_ (fun hHeld => ?_)
        · ((try dsimp only); first | (refine Below.setCell ?_ gle _; refine Below.setCell ?_ gle _; refine Below.setCell ?_ gle _; exact hHeld) | exact ext_trans hHC (ext_alloc _ _))
        clear hK K
        try simp only [Act.put, List.setIfInBounds_toArray, List.set_cons_zero, List.set_cons_succ]
        refine wpAnyH_take (i := 9) (v := ?_) rfl (by kernel_rfl) (by kernel_rfl) (by kernel_rfl) (fun _ _ _ h => h) (Or.inl ⟨by rfl, ?_⟩) (by assumption) ?_
        rotate_left
        · (intro w' hSw; (try dsimp only at hSw); go_simp; try (with_reducible rfl))
        change wpAnyH _ _ _ _ _ _ _ (Act.put _ (some 6) _) _
        try simp only [Act.put, List.setIfInBounds_toArray, List.set_cons_zero, List.set_cons_succ]
        refine wpAnyH_done (by kernel_rfl) ?_ _
        go_wp2_with fail
        go_meet
        case rel => exact ⟨_, rfl, by go_simp, by go_simp, ext_trans hbw hHeld⟩
      exact AllReadyH.nil
    refine AllReadyH.cons (i := 7) rfl (fun K hK => ?_) ?_
    · simp only [List.getElem_toArray, List.getElem_cons_succ, List.getElem_cons_zero]
      rw [if_pos (by rfl)]
      go_simp
      have hHC := hHeld
      have gle : w2.heap.size ≤ w2.heap.size := hHeld.size
      have gl : w2.heap.size < (w2.drew.alloc (.cells #[.bool false, .string ⟨#[]⟩, .int .i64 0] 27)).heap.size := by simp
      have g0 : (w2.drew.alloc (.cells #[.bool false, .string ⟨#[]⟩, .int .i64 0] 27)).cell? ⟨w2.heap.size, 0, none⟩ = some (.bool false) := by go_simp
      have g1 : (w2.drew.alloc (.cells #[.bool false, .string ⟨#[]⟩, .int .i64 0] 27)).cell? ⟨w2.heap.size, 1, none⟩ = some (.string ⟨#[]⟩) := by go_simp
      have g2 : (w2.drew.alloc (.cells #[.bool false, .string ⟨#[]⟩, .int .i64 0] 27)).cell? ⟨w2.heap.size, 2, none⟩ = some (.int .i64 0) := by go_simp
      have gz0 : (w2.drew.alloc (.cells #[.bool false, .string ⟨#[]⟩, .int .i64 0] 27)).frozen? ⟨w2.heap.size, 0, none⟩ = false := by go_simp
      have gz1 : (w2.drew.alloc (.cells #[.bool false, .string ⟨#[]⟩, .int .i64 0] 27)).frozen? ⟨w2.heap.size, 1, none⟩ = false := by go_simp
      have gz2 : (w2.drew.alloc (.cells #[.bool false, .string ⟨#[]⟩, .int .i64 0] 27)).frozen? ⟨w2.heap.size, 2, none⟩ = false := by go_simp
      refine hK.out _ _ ?_ (fun hHeld => ?_)
      · ((try dsimp only); exact ext_trans hHeld (ext_alloc _ _))
      clear hK K
      try simp only [Act.put, List.setIfInBounds_toArray, List.set_cons_zero, List.set_cons_succ]
      refine wpAnyH_ready (rs := [2]) (by kernel_rfl) (by simp) ?_
      refine AllReadyH.cons (i := 2) rfl (fun K hK => ?_) AllReadyH.nil
      simp only [List.getElem_toArray, List.getElem_cons_succ, List.getElem_cons_zero]
      rw [if_pos (by rfl)]
      go_simp
      (go_at_call 69; refine (CN.out _).mono ?_; rintro e' tA ⟨rfl, hbA⟩; go_wp2_with fail)
      replace g0 := (hbA.cell (p := ⟨w2.heap.size, 0, none⟩) gl).trans g0
      replace g1 := (hbA.cell (p := ⟨w2.heap.size, 1, none⟩) gl).trans g1
      replace g2 := (hbA.cell (p := ⟨w2.heap.size, 2, none⟩) gl).trans g2
      replace gz0 := (hbA.frozen (p := ⟨w2.heap.size, 0, none⟩) gl).trans gz0
      replace gz1 := (hbA.frozen (p := ⟨w2.heap.size, 1, none⟩) gl).trans gz1
      replace gz2 := (hbA.frozen (p := ⟨w2.heap.size, 2, none⟩) gl).trans gz2
      replace gl := Nat.lt_of_lt_of_le gl hbA.size
      refine hK.out _ _ ?_ (fun hHeld => ?_)
      · ((try dsimp only); exact ext_trans hHeld hbA)
      clear hK K
      try simp only [Act.put, List.setIfInBounds_toArray, List.set_cons_zero, List.set_cons_succ]
      refine wpAnyH_ready (rs := [3]) (by kernel_rfl) (by simp) ?_
      refine AllReadyH.cons (i := 3) rfl (fun K hK => ?_) AllReadyH.nil
      simp only [List.getElem_toArray, List.getElem_cons_succ, List.getElem_cons_zero]
      rw [if_pos (by rfl)]
      go_simp
      (go_at_call 68; refine (CS.out _).mono ?_; rintro e' tB ⟨rfl, hbB⟩; go_wp2_with fail)
      replace g0 := (hbB.cell (p := ⟨w2.heap.size, 0, none⟩) gl).trans g0
      replace g1 := (hbB.cell (p := ⟨w2.heap.size, 1, none⟩) gl).trans g1
      replace g2 := (hbB.cell (p := ⟨w2.heap.size, 2, none⟩) gl).trans g2
      replace gz0 := (hbB.frozen (p := ⟨w2.heap.size, 0, none⟩) gl).trans gz0
      replace gz1 := (hbB.frozen (p := ⟨w2.heap.size, 1, none⟩) gl).trans gz1
      replace gz2 := (hbB.frozen (p := ⟨w2.heap.size, 2, none⟩) gl).trans gz2
      replace gl := Nat.lt_of_lt_of_le gl hbB.size
      refine hK.out _ _ ?_ (fun hHeld => ?_)
      · ((try dsimp only); exact ext_trans hHeld hbB)
      clear hK K
      try simp only [Act.put, List.setIfInBounds_toArray, List.set_cons_zero, List.set_cons_succ]
      refine wpAnyH_take (i := 4) (v := ?_) rfl (by kernel_rfl) (by kernel_rfl) (by kernel_rfl) (fun _ _ _ h => h) (Or.inl ⟨by rfl, ?_⟩) (by assumption) ?_
      rotate_left
      · (intro w' hSw; (try dsimp only at hSw); go_simp; try (with_reducible rfl))
      change wpAnyH _ _ _ _ _ _ _ (Act.put _ (some 15) _) _
      try simp only [Act.put, List.setIfInBounds_toArray, List.set_cons_zero, List.set_cons_succ]
      refine wpAnyH_take (i := 5) (v := ?_) rfl (by kernel_rfl) (by kernel_rfl) (by kernel_rfl) (fun _ _ _ h => h) (Or.inl ⟨by rfl, ?_⟩) (by assumption) ?_
      rotate_left
      · (intro w' hSw; (try dsimp only at hSw); go_simp; try (with_reducible rfl))
      change wpAnyH _ _ _ _ _ _ _ (Act.put _ (some 20) _) _
      try simp only [Act.put, List.setIfInBounds_toArray, List.set_cons_zero, List.set_cons_succ]
      refine wpAnyH_take (i := 6) (v := ?_) rfl (by kernel_rfl) (by kernel_rfl) (by kernel_rfl) (fun _ _ _ h => h) (Or.inl ⟨by rfl, ?_⟩) (by assumption) ?_
      rotate_left
      · (intro w' hSw; (try dsimp only at hSw); go_simp; try (with_reducible rfl))
      change wpAnyH _ _ _ _ _ _ _ (Act.put _ (some 21) _) _
      try simp only [Act.put, List.setIfInBounds_toArray, List.set_cons_zero, List.set_cons_succ]
      refine wpAnyH_ready (rs := [8]) (by kernel_rfl) (by simp) ?_
      refine AllReadyH.cons (i := 8) rfl (fun K hK => ?_) AllReadyH.nil
      simp only [List.getElem_toArray, List.getElem_cons_succ, List.getElem_cons_zero]
      rw [if_pos (by rfl)]
      go_simp
      refine hK.out _ _ ?_ (fun hHeld => ?_)
      · ((try dsimp only); first | (refine Below.setCell ?_ gle _; refine Below.setCell ?_ gle _; refine Below.setCell ?_ gle _; exact hHeld) | exact ext_trans hHC (ext_alloc _ _))
      clear hK K
      try simp only [Act.put, List.setIfInBounds_toArray, List.set_cons_zero, List.set_cons_succ]
      refine wpAnyH_take (i := 9) (v := ?_) rfl (by kernel_rfl) (by kernel_rfl) (by kernel_rfl) (fun _ _ _ h => h) (Or.inl ⟨by rfl, ?_⟩) (by assumption) ?_
      rotate_left
      · (intro w' hSw; (try dsimp only at hSw); go_simp; try (with_reducible rfl))
      change wpAnyH _ _ _ _ _ _ _ (Act.put _ (some 6) _) _
      try simp only [Act.put, List.setIfInBounds_toArray, List.set_cons_zero, List.set_cons_succ]
      refine wpAnyH_done (by kernel_rfl) ?_ _
      go_wp2_with fail
      go_meet
      case rel => exact ⟨_, rfl, by go_simp, by go_simp, ext_trans hbw hHeld⟩
    exact AllReadyH.nil
  case rest =>
  obtain ⟨bk, rfl, m0, m1, hbw2⟩ := hcut
  by_cases hz : R.dig.size = 0
  · have g1 : (R.dig.toList == []) = true := by rw [ba_nil hz, Lib.toList_data]; rfl
    have g2 : R.dig.toList.isEmpty = true := by rw [empty_size, decide_eq_true hz]
    have HCC := hid (show C = 0 by rw [HC.out, if_pos hz])
    clear hz
    go_wp2
    go_ret
    rw [HCC.out]
    exact ⟨rfl, hbw2⟩
  · have g1 : (R.dig.toList == []) = false := ba_nil_beq hz
    have g2 : R.dig.toList.isEmpty = false := by rw [empty_size, decide_eq_false hz]
    have HCC := hid (show C = if R.neg = true then -1 else 1 by rw [HC.out, if_neg hz])
    clear hz
    obtain ⟨rn, hrn⟩ : ∃ b, R.neg = b := ⟨_, rfl⟩
    rw [hrn] at m0 HCC
    clear hrn
    cases rn
    · go_wp2
      go_ret
      rw [HCC.out]
      exact ⟨rfl, hbw2⟩
    · go_wp2
      go_ret
      rw [HCC.out]
      exact ⟨rfl, hbw2⟩
end Go.Proofs.YthfmhenphnllfaaGreatDoor
