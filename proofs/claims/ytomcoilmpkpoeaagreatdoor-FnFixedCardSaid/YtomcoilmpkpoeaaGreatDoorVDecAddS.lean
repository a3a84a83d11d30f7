/-
  What is proved here: spec.DecAdd, spec.DecSub return the sum and the difference. The conditions are that the numbers are in form.
-/
import Derived.Test.YtomcoilmpkpoeaaGreatDoorVFormM
namespace Go.Proofs.YtomcoilmpkpoeaaGreatDoor
open Go.RowKit
set_option linter.unusedVariables false
set_option linter.unusedSimpArgs false
set_option maxHeartbeats 16000000 in
set_option maxRecDepth 100000 in
theorem specSum1 (a b : Dec) (w : World) (ha : decOk a = true) (hb : decOk b = true) :
    Calls Tryz.prog 62 #[.agg #[.bool a.neg, .string a.dig, .int .i64 a.exp], .agg #[.bool b.neg, .string b.dig, .int .i64 b.exp], .bool true] w fun e w' => e = .returned (formV (addD a b)) ∧ Below w.heap.size w w' := by
  obtain ⟨a1, a2, a3, a4, a5⟩ := ok_facts ha
  obtain ⟨b1, b2, b3, b4, b5⟩ := ok_facts hb
  have hle := lowE_le a.exp b.exp
  have CA := hid (fun (w : World) => specLevel a.neg b.neg a.dig b.dig a.exp b.exp w (by omega) (by omega) (by omega) (by omega))
  have hv1 : vD (levB a.dig (a.exp - lowE a.exp b.exp).toNat).data.toList = valX a (lowE a.exp b.exp) := levB_val a.dig (a.exp - lowE a.exp b.exp).toNat
  have hv2 : vD (levB b.dig (b.exp - lowE a.exp b.exp).toNat).data.toList = valX b (lowE a.exp b.exp) := levB_val b.dig (b.exp - lowE a.exp b.exp).toNat
  have p1 : digits (levB a.dig (a.exp - lowE a.exp b.exp).toNat).data.toList := by rw [levB_list]; exact digits_append_zeros a3 _
  have p3 : digits (levB b.dig (b.exp - lowE a.exp b.exp).toNat).data.toList := by rw [levB_list]; exact digits_append_zeros b3 _
  have hsz : ∀ (d : ByteArray) (n : Nat), d.size ≤ 20 → n ≤ 400 → (levB d n).size ≤ 450 := fun d n h1 h2 => by
    unfold levB
    have h1 := dgB_size d
    rw [ByteArray.size_append, zeroB_size]
    omega
  have hs1 := hsz a.dig (a.exp - lowE a.exp b.exp).toNat a1 (by omega)
  have hs2 := hsz b.dig (b.exp - lowE a.exp b.exp).toNat b1 (by omega)
  have hXl : ∀ v : Nat, v ≤ valX a (lowE a.exp b.exp) → (natL v).length ≤ 450 := fun v h => by
    exact natL_len_le p1 (by rw [hv1]; exact h) (by rw [← Lib.size_eq]; exact hs1) (by decide)
  have hYl : ∀ v : Nat, v ≤ valX b (lowE a.exp b.exp) → (natL v).length ≤ 450 := fun v h => by
    exact natL_len_le p3 (by rw [hv2]; exact h) (by rw [← Lib.size_eq]; exact hs2) (by decide)
  have hXYl : (natL (valX a (lowE a.exp b.exp) + valX b (lowE a.exp b.exp))).length ≤ 452 := by
    have h1 := addL_len (levB a.dig (a.exp - lowE a.exp b.exp).toNat).data.toList (levB b.dig (b.exp - lowE a.exp b.exp).toNat).data.toList
    rw [addL_nat p1 p3, hv1, hv2, ← Lib.size_eq, ← Lib.size_eq] at h1
    omega
  have CAD := hid (fun (w : World) => specAdd (levB a.dig (a.exp - lowE a.exp b.exp).toNat) (levB b.dig (b.exp - lowE a.exp b.exp).toNat) w p1 p3 (by omega) (by omega))
  rw [addL_nat p1 p3, hv1, hv2] at CAD
  have CCM := hid (fun (w : World) => specNatCmp (levB a.dig (a.exp - lowE a.exp b.exp).toNat) (levB b.dig (b.exp - lowE a.exp b.exp).toNat) w p1 p3 (by omega) (by omega))
  rw [hv1, hv2] at CCM
  have CT1 := hid (fun (w : World) => specTrim (levB a.dig (a.exp - lowE a.exp b.exp).toNat) w (by omega))
  rw [trimB_nat rfl p1 hv1] at CT1
  have CT2 := hid (fun (w : World) => specTrim (levB b.dig (b.exp - lowE a.exp b.exp).toNat) w (by omega))
  rw [trimB_nat rfl p3 hv2] at CT2
  have CS1 : Hid (valX b (lowE a.exp b.exp) ≤ valX a (lowE a.exp b.exp) → ∀ w, Calls Tryz.prog 110 #[.string (mkB (natL (valX a (lowE a.exp b.exp)))), .string (levB b.dig (b.exp - lowE a.exp b.exp).toNat)] w fun e w' => e = .returned (.string (mkB (natL (valX a (lowE a.exp b.exp) - valX b (lowE a.exp b.exp))))) ∧ Below w.heap.size w w') := hid (fun hle w => by
    have h := specSub (mkB (natL (valX a (lowE a.exp b.exp)))) (levB b.dig (b.exp - lowE a.exp b.exp).toNat) w (natL_mkB_digits _) p3 (by rw [mkB_size]; exact Nat.le_trans (hXl _ (Nat.le_refl _)) (by decide)) (by omega)
    rw [mkB_data, subL_nat (natL_digits _) p3 (by rw [natL_val, hv2]; exact hle), natL_val, hv2] at h
    exact h)
  have CS2 : Hid (valX a (lowE a.exp b.exp) ≤ valX b (lowE a.exp b.exp) → ∀ w, Calls Tryz.prog 110 #[.string (mkB (natL (valX b (lowE a.exp b.exp)))), .string (levB a.dig (a.exp - lowE a.exp b.exp).toNat)] w fun e w' => e = .returned (.string (mkB (natL (valX b (lowE a.exp b.exp) - valX a (lowE a.exp b.exp))))) ∧ Below w.heap.size w w') := hid (fun hle w => by
    have h := specSub (mkB (natL (valX b (lowE a.exp b.exp)))) (levB a.dig (a.exp - lowE a.exp b.exp).toNat) w (natL_mkB_digits _) p1 (by rw [mkB_size]; exact Nat.le_trans (hYl _ (Nat.le_refl _)) (by decide)) (by omega)
    rw [mkB_data, subL_nat (natL_digits _) p1 (by rw [natL_val, hv1]; exact hle), natL_val, hv1] at h
    exact h)
  have CF := hid (fun (ng : Bool) (v : Nat) (hv : (natL v).length ≤ 452) (w : World) => specForm ng (mkB (natL v)) (lowE a.exp b.exp) w (natL_mkB_digits _) (by rw [mkB_size]; omega) (by omega))
  simp only [mkB_data] at CF
  obtain ⟨R, hR⟩ : ∃ r, addD a b = r := ⟨_, rfl⟩
  rw [hR]
  unfold addD sumF at hR
  unfold formV at CF ⊢
  obtain ⟨x, hx⟩ : ∃ x, levB a.dig (a.exp - lowE a.exp b.exp).toNat = x := ⟨_, rfl⟩
  obtain ⟨y, hy⟩ : ∃ y, levB b.dig (b.exp - lowE a.exp b.exp).toNat = y := ⟨_, rfl⟩
  obtain ⟨le, hlee⟩ : ∃ y, lowE a.exp b.exp = y := ⟨_, rfl⟩
  rw [hx, hy] at CA CAD CCM
  rw [hx] at CT1 CS2
  rw [hy] at CT2 CS1
  rw [hlee] at CA CAD CCM CS1 CS2 CT1 CT2 hR hXl hYl hXYl
  simp only [hlee] at CF
  obtain ⟨X, hX⟩ : ∃ v, valX a le = v := ⟨_, rfl⟩
  obtain ⟨Y, hY⟩ : ∃ v, valX b le = v := ⟨_, rfl⟩
  rw [hX, hY] at CAD CCM CS1 CS2 hR hXYl
  rw [hX] at hXl CT1
  rw [hY] at hYl CT2
  have hC := hid (sgn3_cases X Y)
  obtain ⟨sg, hsg⟩ : ∃ s, sgn3 X Y = s := ⟨_, rfl⟩
  rw [hsg] at CCM hC
  have HR := hid hR
  obtain ⟨na, da, ea⟩ := a
  obtain ⟨nb, db, eb⟩ := b
  dsimp only at *
  clear a1 a2 a3 a4 a5 b1 b2 b3 b4 b5 ha hb hle hv1 hv2 p1 p3 hsz hs1 hs2 hR hx hy hX hY hsg hlee
  by_cases hn : na = nb
  · have hn2 : (na == nb) = true := by rw [beq_iff_eq]; exact hn
    have hRR : formD na (natL (X + Y)) le = R := by rw [← HR.out, if_pos hn]
    have CFF := hid (CF.out na (X + Y) hXYl)
    rw [hRR] at CFF
    obtain ⟨M, hM⟩ : ∃ m, mkB (natL (X + Y)) = m := ⟨_, rfl⟩
    rw [hM] at CFF CAD
    clear hRR hM hXYl hXl hYl hn
    have X0 := hid (box3_start w na da ea nb db eb)
    obtain ⟨s0, s1, s2, s3, s4, s5, s6, s7, s8, r0, r1, r2, bw, lt⟩ := X0.out
    go_enter Tryz.func62, Tryz.ntmps62
    go_wp2_with fail
    refine (CA.out _).mono ?_
    rintro e' w1 ⟨rfl, hb1⟩
    have X1 := hid (X0.out.call hb1)
    clear s0 s1 s2 s3 s4 s5 s6 s7 s8 r0 r1 r2 bw lt
    obtain ⟨s0, s1, s2, s3, s4, s5, s6, s7, s8, r0, r1, r2, bw, lt⟩ := X1.out
    clear hb1
    go_wp2_with fail
    refine (CAD.out _).mono ?_
    rintro e' w2 ⟨rfl, hb2⟩
    have X2 := hid (X1.out.call hb2)
    clear s0 s1 s2 s3 s4 s5 s6 s7 s8 r0 r1 r2 bw lt
    obtain ⟨s0, s1, s2, s3, s4, s5, s6, s7, s8, r0, r1, r2, bw, lt⟩ := X2.out
    clear hb2
    go_wp2_with fail
    refine (CFF.out _).mono ?_
    rintro e' w3 ⟨rfl, hb3⟩
    have X3 := hid (X2.out.call hb3)
    clear s0 s1 s2 s3 s4 s5 s6 s7 s8 r0 r1 r2 bw lt
    obtain ⟨s0, s1, s2, s3, s4, s5, s6, s7, s8, r0, r1, r2, bw, lt⟩ := X3.out
    clear hb3
    go_wp2_with fail
    refine bodyPost_ret (v := .tuple #[.agg #[.bool R.1.neg, .string R.1.dig, .int .i64 R.1.exp], .int .i64 R.2]) (by simp [results, Tryz.results62, go_sem, s0, s1, s2, s3, s4, s5, s6, s7, s8, r0, r1, r2, lt]) rfl ⟨rfl, ?_⟩
    repeat' (first | (with_reducible exact bw) | (with_reducible refine Below.setCell ?_ ?_ _) | (simp; done) | (simp; omega) | omega)
  · have hn2 : (na == nb) = false := by rw [beq_eq_false_iff_ne]; exact hn
    rcases hC.out with ⟨h1, h2⟩ | ⟨h1, h2⟩
    · have hsg0 : (0 : Int) ≤ sg := h2
      have hRR : formD na (natL (X - Y)) le = R := by rw [← HR.out, if_neg hn, if_pos h1]
      have CFF := hid (CF.out na (X - Y) (Nat.le_trans (hXl (X - Y) (Nat.sub_le _ _)) (by decide)))
      rw [hRR] at CFF
      have CSS := hid (CS1.out h1)
      obtain ⟨M, hM⟩ : ∃ m, mkB (natL (X - Y)) = m := ⟨_, rfl⟩
      rw [hM] at CFF CSS
      obtain ⟨T1, hT1⟩ : ∃ m, mkB (natL X) = m := ⟨_, rfl⟩
      rw [hT1] at CT1 CSS
      clear hRR hM hT1 hXYl hXl hYl h1 h2 hn
      have X0 := hid (box3_start w na da ea nb db eb)
      obtain ⟨s0, s1, s2, s3, s4, s5, s6, s7, s8, r0, r1, r2, bw, lt⟩ := X0.out
      go_enter Tryz.func62, Tryz.ntmps62
      go_wp2_with fail
      refine (CA.out _).mono ?_
      rintro e' w1 ⟨rfl, hb1⟩
      have X1 := hid (X0.out.call hb1)
      clear s0 s1 s2 s3 s4 s5 s6 s7 s8 r0 r1 r2 bw lt
      obtain ⟨s0, s1, s2, s3, s4, s5, s6, s7, s8, r0, r1, r2, bw, lt⟩ := X1.out
      clear hb1
      go_wp2_with fail
      refine (CCM.out _).mono ?_
      rintro e' wT ⟨rfl, rfl⟩
      go_wp2_with fail
      refine (CT1.out _).mono ?_
      rintro e' wT ⟨rfl, rfl⟩
      go_wp2_with fail
      refine (CSS.out _).mono ?_
      rintro e' w2 ⟨rfl, hb2⟩
      have X2 := hid (X1.out.call hb2)
      clear s0 s1 s2 s3 s4 s5 s6 s7 s8 r0 r1 r2 bw lt
      obtain ⟨s0, s1, s2, s3, s4, s5, s6, s7, s8, r0, r1, r2, bw, lt⟩ := X2.out
      clear hb2
      go_wp2_with fail
      refine (CFF.out _).mono ?_
      rintro e' w3 ⟨rfl, hb3⟩
      have X3 := hid (X2.out.call hb3)
      clear s0 s1 s2 s3 s4 s5 s6 s7 s8 r0 r1 r2 bw lt
      obtain ⟨s0, s1, s2, s3, s4, s5, s6, s7, s8, r0, r1, r2, bw, lt⟩ := X3.out
      clear hb3
      go_wp2_with fail
      refine bodyPost_ret (v := .tuple #[.agg #[.bool R.1.neg, .string R.1.dig, .int .i64 R.1.exp], .int .i64 R.2]) (by simp [results, Tryz.results62, go_sem, s0, s1, s2, s3, s4, s5, s6, s7, s8, r0, r1, r2, lt]) rfl ⟨rfl, ?_⟩
      repeat' (first | (with_reducible exact bw) | (with_reducible refine Below.setCell ?_ ?_ _) | (simp; done) | (simp; omega) | omega)
    · have hsg0 : ¬ (0 : Int) ≤ sg := by omega
      have hRR : formD nb (natL (Y - X)) le = R := by rw [← HR.out, if_neg hn, if_neg (by omega)]
      have CFF := hid (CF.out nb (Y - X) (Nat.le_trans (hYl (Y - X) (Nat.sub_le _ _)) (by decide)))
      rw [hRR] at CFF
      have CSS := hid (CS2.out (by omega))
      obtain ⟨M, hM⟩ : ∃ m, mkB (natL (Y - X)) = m := ⟨_, rfl⟩
      rw [hM] at CFF CSS
      obtain ⟨T2, hT2⟩ : ∃ m, mkB (natL Y) = m := ⟨_, rfl⟩
      rw [hT2] at CT2 CSS
      clear hRR hM hT2 hXYl hXl hYl h1 h2 hn
      have X0 := hid (box3_start w na da ea nb db eb)
      obtain ⟨s0, s1, s2, s3, s4, s5, s6, s7, s8, r0, r1, r2, bw, lt⟩ := X0.out
      go_enter Tryz.func62, Tryz.ntmps62
      go_wp2_with fail
      refine (CA.out _).mono ?_
      rintro e' w1 ⟨rfl, hb1⟩
      have X1 := hid (X0.out.call hb1)
      clear s0 s1 s2 s3 s4 s5 s6 s7 s8 r0 r1 r2 bw lt
      obtain ⟨s0, s1, s2, s3, s4, s5, s6, s7, s8, r0, r1, r2, bw, lt⟩ := X1.out
      clear hb1
      go_wp2_with fail
      refine (CCM.out _).mono ?_
      rintro e' wT ⟨rfl, rfl⟩
      go_wp2_with fail
      refine (CT2.out _).mono ?_
      rintro e' wT ⟨rfl, rfl⟩
      go_wp2_with fail
      refine (CSS.out _).mono ?_
      rintro e' w2 ⟨rfl, hb2⟩
      have X2 := hid (X1.out.call hb2)
      clear s0 s1 s2 s3 s4 s5 s6 s7 s8 r0 r1 r2 bw lt
      obtain ⟨s0, s1, s2, s3, s4, s5, s6, s7, s8, r0, r1, r2, bw, lt⟩ := X2.out
      clear hb2
      go_wp2_with fail
      refine (CFF.out _).mono ?_
      rintro e' w3 ⟨rfl, hb3⟩
      have X3 := hid (X2.out.call hb3)
      clear s0 s1 s2 s3 s4 s5 s6 s7 s8 r0 r1 r2 bw lt
      obtain ⟨s0, s1, s2, s3, s4, s5, s6, s7, s8, r0, r1, r2, bw, lt⟩ := X3.out
      clear hb3
      go_wp2_with fail
      refine bodyPost_ret (v := .tuple #[.agg #[.bool R.1.neg, .string R.1.dig, .int .i64 R.1.exp], .int .i64 R.2]) (by simp [results, Tryz.results62, go_sem, s0, s1, s2, s3, s4, s5, s6, s7, s8, r0, r1, r2, lt]) rfl ⟨rfl, ?_⟩
      repeat' (first | (with_reducible exact bw) | (with_reducible refine Below.setCell ?_ ?_ _) | (simp; done) | (simp; omega) | omega)
set_option maxHeartbeats 16000000 in
set_option maxRecDepth 100000 in
theorem specDecSub (a b : Dec) (w : World) (ha : decOk a = true) (hb : decOk b = true) :
    Calls Tryz.prog 25 #[.agg #[.bool a.neg, .string a.dig, .int .i64 a.exp], .agg #[.bool b.neg, .string b.dig, .int .i64 b.exp]] w fun e w' => e = .returned (formV (subD a b)) ∧ Below w.heap.size w w' := by
  obtain ⟨a1, a2, a3, a4, a5⟩ := ok_facts ha
  obtain ⟨b1, b2, b3, b4, b5⟩ := ok_facts hb
  have CO1 : Hid (∀ w, Calls Tryz.prog 14 #[.agg #[.bool a.neg, .string a.dig, .int .i64 a.exp]] w fun e w' => e = .returned (.bool true) ∧ Below w.heap.size w w') := hid (fun w => by
    have h := specDecOk (d := a) (cs := #[.bool a.neg, .string a.dig, .int .i64 a.exp]) w (by exact rdDec_mk (x := a) (by omega) (by omega))
    rw [ha] at h
    exact h)
  have CO2 : Hid (∀ w, Calls Tryz.prog 14 #[.agg #[.bool b.neg, .string b.dig, .int .i64 b.exp]] w fun e w' => e = .returned (.bool true) ∧ Below w.heap.size w w') := hid (fun w => by
    have h := specDecOk (d := b) (cs := #[.bool b.neg, .string b.dig, .int .i64 b.exp]) w (by exact rdDec_mk (x := b) (by omega) (by omega))
    rw [hb] at h
    exact h)
  have CN := hid (fun (w : World) => specNegD b w hb)
  have CS := hid (fun (w : World) => specSum1 a (negD b) w ha (negD_ok hb))
  obtain ⟨R, hR⟩ : ∃ r, subD a b = r := ⟨_, rfl⟩
  have hR2 : addD a (negD b) = R := hR
  rw [hR2] at CS
  rw [hR]
  unfold formV at CS ⊢
  obtain ⟨NB, hNB⟩ : ∃ x, negD b = x := ⟨_, rfl⟩
  rw [hNB] at CN CS hR2
  obtain ⟨na, da, ea⟩ := a
  obtain ⟨nb, db, eb⟩ := b
  dsimp only at *
  clear a1 a3 a4 a5 b1 b3 b4 b5 ha hb hR hR2 hNB a2 b2
  have X0 := hid (box3_start w na da ea nb db eb)
  obtain ⟨s0, s1, s2, s3, s4, s5, s6, s7, s8, r0, r1, r2, bw, lt⟩ := X0.out
  go_enter Tryz.func25, Tryz.ntmps25
  go_wp2_with fail
  refine (CO1.out _).mono ?_
  rintro e' w1 ⟨rfl, hb1⟩
  have X1 := hid (X0.out.call hb1)
  clear s0 s1 s2 s3 s4 s5 s6 s7 s8 r0 r1 r2 bw lt
  obtain ⟨s0, s1, s2, s3, s4, s5, s6, s7, s8, r0, r1, r2, bw, lt⟩ := X1.out
  clear hb1
  go_wp2_with fail
  refine (CO2.out _).mono ?_
  rintro e' w2 ⟨rfl, hb2⟩
  have X2 := hid (X1.out.call hb2)
  clear s0 s1 s2 s3 s4 s5 s6 s7 s8 r0 r1 r2 bw lt
  obtain ⟨s0, s1, s2, s3, s4, s5, s6, s7, s8, r0, r1, r2, bw, lt⟩ := X2.out
  clear hb2
  go_wp2_with fail
  refine wp_region_held_drew (S := fun w' => w'.cell? ⟨w.heap.size, 0, none⟩ = some (.bool na) ∧ w'.cell? ⟨w.heap.size, 1, none⟩ = some (.string da) ∧ w'.cell? ⟨w.heap.size, 2, none⟩ = some (.int .i64 ea) ∧ w'.cell? ⟨w.heap.size + 1, 0, none⟩ = some (.bool nb) ∧ w'.cell? ⟨w.heap.size + 1, 1, none⟩ = some (.string db) ∧ w'.cell? ⟨w.heap.size + 1, 2, none⟩ = some (.int .i64 eb)) (by kernel_rfl) ?_ (fun hHeld => ?_)
  · simp [*]
  refine wpAnyH_take (i := 0) (v := ?_) rfl (by kernel_rfl) (by kernel_rfl) (by kernel_rfl) (fun _ _ _ h => h) (Or.inl ⟨by rfl, ?_⟩) (by assumption) ?_
  rotate_left
  · (intro w' hSw; (try dsimp only at hSw); go_simp; try (with_reducible rfl))
  change wpAnyH _ _ _ _ _ _ _ (Act.put _ (some 15) _) _
  try simp only [Act.put, List.setIfInBounds_toArray, List.set_cons_zero, List.set_cons_succ]
  refine wpAnyH_take (i := 1) (v := ?_) rfl (by kernel_rfl) (by kernel_rfl) (by kernel_rfl) (fun _ _ _ h => h) (Or.inl ⟨by rfl, ?_⟩) (by assumption) ?_
  rotate_left
  · (intro w' hSw; (try dsimp only at hSw); go_simp; try (with_reducible rfl))
  change wpAnyH _ _ _ _ _ _ _ (Act.put _ (some 16) _) _
  try simp only [Act.put, List.setIfInBounds_toArray, List.set_cons_zero, List.set_cons_succ]
  refine wpAnyH_ready (rs := [2]) (by kernel_rfl) (by simp) ?_
  refine AllReadyH.cons (i := 2) rfl (fun K hK => ?_) AllReadyH.nil
  simp only [List.getElem_toArray, List.getElem_cons_succ, List.getElem_cons_zero]
  rw [if_pos (by rfl)]
  go_simp
  (go_at_call 63; refine (CN.out _).mono ?_; rintro e' w3 ⟨rfl, hb3⟩; have X3 := hid (X2.out.drew.call hb3); clear s0 s1 s2 s3 s4 s5 s6 s7 s8 r0 r1 r2 bw lt; obtain ⟨s0, s1, s2, s3, s4, s5, s6, s7, s8, r0, r1, r2, bw, lt⟩ := X3.out; clear hb3; go_wp2_with fail)
  have hOld := hHeld
  clear hHeld
  refine hK.out _ _ ?_ (fun hHeld => ?_)
  · (try dsimp only); first | (simp [*]; done) | (refine ⟨?_, ?_, ?_, ?_, ?_, ?_⟩ <;> go_simp) | go_simp
  clear hK K hOld
  try simp only [Act.put, List.setIfInBounds_toArray, List.set_cons_zero, List.set_cons_succ]
  refine wpAnyH_ready (rs := [3]) (by kernel_rfl) (by simp) ?_
  refine AllReadyH.cons (i := 3) rfl (fun K hK => ?_) AllReadyH.nil
  simp only [List.getElem_toArray, List.getElem_cons_succ, List.getElem_cons_zero]
  rw [if_pos (by rfl)]
  go_simp
  (go_at_call 62; refine (CS.out _).mono ?_; rintro e' w4 ⟨rfl, hb4⟩; have X4 := hid (X3.out.call hb4); clear s0 s1 s2 s3 s4 s5 s6 s7 s8 r0 r1 r2 bw lt; obtain ⟨s0, s1, s2, s3, s4, s5, s6, s7, s8, r0, r1, r2, bw, lt⟩ := X4.out; clear hb4; go_wp2_with fail)
  have hOld := hHeld
  clear hHeld
  refine hK.out _ _ ?_ (fun hHeld => ?_)
  · (try dsimp only); first | (simp [*]; done) | (refine ⟨?_, ?_, ?_, ?_, ?_, ?_⟩ <;> go_simp) | go_simp
  clear hK K hOld
  try simp only [Act.put, List.setIfInBounds_toArray, List.set_cons_zero, List.set_cons_succ]
  refine wpAnyH_take (i := 4) (v := ?_) rfl (by kernel_rfl) (by kernel_rfl) (by kernel_rfl) (fun _ _ _ h => h) (Or.inl ⟨by rfl, ?_⟩) (by assumption) ?_
  rotate_left
  · (intro w' hSw; (try dsimp only at hSw); go_simp; try (with_reducible rfl))
  change wpAnyH _ _ _ _ _ _ _ (Act.put _ (some 19) _) _
  try simp only [Act.put, List.setIfInBounds_toArray, List.set_cons_zero, List.set_cons_succ]
  refine wpAnyH_take (i := 5) (v := ?_) rfl (by kernel_rfl) (by kernel_rfl) (by kernel_rfl) (fun _ _ _ h => h) (Or.inl ⟨by rfl, ?_⟩) (by assumption) ?_
  rotate_left
  · (intro w' hSw; (try dsimp only at hSw); go_simp; try (with_reducible rfl))
  change wpAnyH _ _ _ _ _ _ _ (Act.put _ (some 20) _) _
  try simp only [Act.put, List.setIfInBounds_toArray, List.set_cons_zero, List.set_cons_succ]
  refine wpAnyH_ready (rs := [6]) (by kernel_rfl) (by simp) ?_
  refine AllReadyH.cons (i := 6) rfl (fun K hK => ?_) AllReadyH.nil
  simp only [List.getElem_toArray, List.getElem_cons_succ, List.getElem_cons_zero]
  rw [if_pos (by rfl)]
  go_simp
  have hOld := hHeld
  clear hHeld
  refine hK.out _ _ ?_ (fun hHeld => ?_)
  · (try dsimp only); first | (simp [*]; done) | (refine ⟨?_, ?_, ?_, ?_, ?_, ?_⟩ <;> go_simp) | go_simp
  clear hK K hOld
  try simp only [Act.put, List.setIfInBounds_toArray, List.set_cons_zero, List.set_cons_succ]
  refine wpAnyH_take (i := 7) (v := ?_) rfl (by kernel_rfl) (by kernel_rfl) (by kernel_rfl) (fun _ _ _ h => h) (Or.inl ⟨by rfl, ?_⟩) (by assumption) ?_
  rotate_left
  · (intro w' hSw; (try dsimp only at hSw); go_simp; try (with_reducible rfl))
  change wpAnyH _ _ _ _ _ _ _ (Act.put _ (some 5) _) _
  try simp only [Act.put, List.setIfInBounds_toArray, List.set_cons_zero, List.set_cons_succ]
  refine wpAnyH_done (by kernel_rfl) ?_ _
  clear hHeld
  go_wp2_with fail
  refine bodyPost_ret (v := .tuple #[.agg #[.bool R.1.neg, .string R.1.dig, .int .i64 R.1.exp], .int .i64 R.2]) (by simp [results, Tryz.results25, go_sem, s0, s1, s2, s3, s4, s5, s6, s7, s8, r0, r1, r2, lt]) rfl ⟨rfl, ?_⟩
  repeat' (first | (with_reducible exact bw) | (with_reducible refine Below.setCell ?_ ?_ _) | (simp; done) | (simp; omega) | omega)
end Go.Proofs.YtomcoilmpkpoeaaGreatDoor
