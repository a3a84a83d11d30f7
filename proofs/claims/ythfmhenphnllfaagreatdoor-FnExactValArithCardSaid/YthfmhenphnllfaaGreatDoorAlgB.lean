/-
  What is proved here: impl.decAdd, impl.decNeg return the sum and the negated number. The conditions are that the numbers are in form.
  What is proved here: impl.decDiv returns the quotient. The conditions are that the numbers are in form.
  What is proved here: impl.decMul returns the product. The conditions are that the numbers are in form.
  What is proved here: impl.decPow and impl.DecPow return the power. The condition is that the number is in form.
  What is proved here: impl.decMod returns the remainder. The conditions are that the numbers are in form.
  What is proved here: spec.DecWhole and impl.DecWhole return the whole number that a number in form is, if it is one of at most 10^18. The condition is that the number is in form.
  What is proved here: impl.arith returns the result of an operation on two numbers. The condition is that the numbers are in form.
-/
import Derived.Test.YthfmhenphnllfaaGreatDoorAlgA
namespace Go.Proofs.YthfmhenphnllfaaGreatDoor
open Go.RowKit
set_option linter.unusedVariables false
set_option linter.unusedSimpArgs false
set_option maxHeartbeats 16000000 in
set_option maxRecDepth 100000 in
theorem implDecAdd (a b : Dec) (w : World) (ha : decOk a = true) (hb : decOk b = true) :
    Calls Tryz.prog 80 #[.agg #[.bool a.neg, .string a.dig, .int .i64 a.exp], .agg #[.bool b.neg, .string b.dig, .int .i64 b.exp]] w fun e w' => e = .returned (formV (addD a b)) ∧ Below w.heap.size w w' := by
  obtain ⟨a1, a2, a3, a4, a5⟩ := ok_facts ha
  obtain ⟨b1, b2, b3, b4, b5⟩ := ok_facts hb
  have hle := lowE_le a.exp b.exp
  have CA := hid (fun (w : World) => implAligned a.neg b.neg a.dig b.dig a.exp b.exp w (by omega) (by omega) (by omega) (by omega) a4 b4)
  have hv1 : vD (shfB a.dig (a.exp - lowE a.exp b.exp).toNat).data.toList = valX a (lowE a.exp b.exp) := shfB_val a.dig (a.exp - lowE a.exp b.exp).toNat
  have hv2 : vD (shfB b.dig (b.exp - lowE a.exp b.exp).toNat).data.toList = valX b (lowE a.exp b.exp) := shfB_val b.dig (b.exp - lowE a.exp b.exp).toNat
  obtain ⟨p1, p2⟩ := shfB_trim ha (a.exp - lowE a.exp b.exp).toNat
  obtain ⟨p3, p4⟩ := shfB_trim hb (b.exp - lowE a.exp b.exp).toNat
  have hsz : ∀ (d : ByteArray) (n : Nat), d.size ≤ 20 → n ≤ 400 → (shfB d n).size ≤ 450 := fun d n h1 h2 => by
    unfold shfB
    split
    · exact Nat.le_trans (show (⟨#[48]⟩ : ByteArray).size ≤ 1 by decide) (by decide)
    · have h1 := dgB_size d
      rw [ByteArray.size_append, zeroB_size]
      omega
  have hs1 := hsz a.dig (a.exp - lowE a.exp b.exp).toNat a1 (by omega)
  have hs2 := hsz b.dig (b.exp - lowE a.exp b.exp).toNat b1 (by omega)
  have hXl : ∀ v : Nat, v ≤ valX a (lowE a.exp b.exp) → (natL v).length ≤ 450 := fun v h => by
    have e := nat_of_trim p1 p2
    rw [hv1] at e
    refine Nat.le_trans (natL_len_mono h) ?_
    rw [← e, ← Lib.size_eq]
    exact hs1
  have hYl : ∀ v : Nat, v ≤ valX b (lowE a.exp b.exp) → (natL v).length ≤ 450 := fun v h => by
    have e := nat_of_trim p3 p4
    rw [hv2] at e
    refine Nat.le_trans (natL_len_mono h) ?_
    rw [← e, ← Lib.size_eq]
    exact hs2
  have hXYl : (natL (valX a (lowE a.exp b.exp) + valX b (lowE a.exp b.exp))).length ≤ 452 := by
    have h1 := addL_len (shfB a.dig (a.exp - lowE a.exp b.exp).toNat).data.toList (shfB b.dig (b.exp - lowE a.exp b.exp).toNat).data.toList
    rw [addL_nat p1 p3, hv1, hv2, ← Lib.size_eq, ← Lib.size_eq] at h1
    omega
  have CAD := hid (fun (w : World) => implAdd (shfB a.dig (a.exp - lowE a.exp b.exp).toNat) (shfB b.dig (b.exp - lowE a.exp b.exp).toNat) w p1 p3 (by omega) (by omega))
  rw [addL_nat p1 p3, hv1, hv2] at CAD
  have CCM := hid (fun (w : World) => implNatCmp (shfB a.dig (a.exp - lowE a.exp b.exp).toNat) (shfB b.dig (b.exp - lowE a.exp b.exp).toNat) w p1 p3 p2 p4)
  rw [hv1, hv2] at CCM
  have CS1 : Hid (valX b (lowE a.exp b.exp) ≤ valX a (lowE a.exp b.exp) → ∀ w, Calls Tryz.prog 131 #[.string (shfB a.dig (a.exp - lowE a.exp b.exp).toNat), .string (shfB b.dig (b.exp - lowE a.exp b.exp).toNat)] w fun e w' => e = .returned (.string (mkB (natL (valX a (lowE a.exp b.exp) - valX b (lowE a.exp b.exp))))) ∧ Below w.heap.size w w') := hid (fun hle w => by
    have h := implSub (shfB a.dig (a.exp - lowE a.exp b.exp).toNat) (shfB b.dig (b.exp - lowE a.exp b.exp).toNat) w p1 p3 (by omega) (by omega)
    rw [subL_nat p1 p3 (by rw [hv1, hv2]; exact hle), hv1, hv2] at h
    exact h)
  have CS2 : Hid (valX a (lowE a.exp b.exp) ≤ valX b (lowE a.exp b.exp) → ∀ w, Calls Tryz.prog 131 #[.string (shfB b.dig (b.exp - lowE a.exp b.exp).toNat), .string (shfB a.dig (a.exp - lowE a.exp b.exp).toNat)] w fun e w' => e = .returned (.string (mkB (natL (valX b (lowE a.exp b.exp) - valX a (lowE a.exp b.exp))))) ∧ Below w.heap.size w w') := hid (fun hle w => by
    have h := implSub (shfB b.dig (b.exp - lowE a.exp b.exp).toNat) (shfB a.dig (a.exp - lowE a.exp b.exp).toNat) w p3 p1 (by omega) (by omega)
    rw [subL_nat p3 p1 (by rw [hv1, hv2]; exact hle), hv1, hv2] at h
    exact h)
  have CF := hid (fun (ng : Bool) (v : Nat) (hv : (natL v).length ≤ 452) (w : World) => implNormal ng (mkB (natL v)) (lowE a.exp b.exp) w (natL_mkB_digits _) (by rw [mkB_size]; omega) (by omega))
  simp only [mkB_data] at CF
  obtain ⟨R, hR⟩ : ∃ r, addD a b = r := ⟨_, rfl⟩
  rw [hR]
  unfold addD sumF at hR
  unfold formV at CF ⊢
  obtain ⟨x, hx⟩ : ∃ x, shfB a.dig (a.exp - lowE a.exp b.exp).toNat = x := ⟨_, rfl⟩
  obtain ⟨y, hy⟩ : ∃ y, shfB b.dig (b.exp - lowE a.exp b.exp).toNat = y := ⟨_, rfl⟩
  obtain ⟨le, hlee⟩ : ∃ y, lowE a.exp b.exp = y := ⟨_, rfl⟩
  rw [hx, hy] at CA CAD CCM CS1 CS2
  rw [hlee] at CA CAD CCM CS1 CS2 hR hXl hYl hXYl
  simp only [hlee] at CF
  obtain ⟨X, hX⟩ : ∃ v, valX a le = v := ⟨_, rfl⟩
  obtain ⟨Y, hY⟩ : ∃ v, valX b le = v := ⟨_, rfl⟩
  rw [hX, hY] at CAD CCM CS1 CS2 hR hXYl
  rw [hX] at hXl
  rw [hY] at hYl
  have hC := hid (sgn3_cases X Y)
  obtain ⟨sg, hsg⟩ : ∃ s, sgn3 X Y = s := ⟨_, rfl⟩
  rw [hsg] at CCM hC
  have HR := hid hR
  obtain ⟨na, da, ea⟩ := a
  obtain ⟨nb, db, eb⟩ := b
  dsimp only at *
  clear a1 a2 a3 a4 a5 b1 b2 b3 b4 b5 ha hb hle hv1 hv2 p1 p2 p3 p4 hsz hs1 hs2 hR hx hy hX hY hsg hlee
  by_cases hn : na = nb
  · have hn2 : (na == nb) = true := by rw [beq_iff_eq]; exact hn
    have hRR : formD na (natL (X + Y)) le = R := by rw [← HR.out, if_pos hn]
    have CFF := hid (CF.out na _ hXYl)
    rw [hRR] at CFF
    obtain ⟨M, hM⟩ : ∃ m, mkB (natL (X + Y)) = m := ⟨_, rfl⟩
    rw [hM] at CFF CAD
    clear hRR hM hXYl hXl hYl hn
    have X0 := hid (box3_start w na da ea nb db eb)
    obtain ⟨s0, s1, s2, s3, s4, s5, s6, s7, s8, r0, r1, r2, bw, lt⟩ := X0.out
    go_enter Tryz.func80, Tryz.ntmps80
    go_wp2_with fail
    refine (CA.out _).mono ?_
    rintro e' w1 ⟨rfl, hb1⟩
    have X1 := hid (X0.out.call hb1)
    clear s0 s1 s2 s3 s4 s5 s6 s7 s8 r0 r1 r2 bw lt
    obtain ⟨s0, s1, s2, s3, s4, s5, s6, s7, s8, r0, r1, r2, bw, lt⟩ := X1.out
    clear hb1
    go_wp2_with fail
    refine wp_region_held_drew (S := fun w' => w'.cell? ⟨w.heap.size, 0, none⟩ = some (.bool na) ∧ w'.cell? ⟨w.heap.size, 1, none⟩ = some (.string da) ∧ w'.cell? ⟨w.heap.size, 2, none⟩ = some (.int .i64 ea) ∧ w'.cell? ⟨w.heap.size + 1, 0, none⟩ = some (.bool nb) ∧ w'.cell? ⟨w.heap.size + 1, 1, none⟩ = some (.string db) ∧ w'.cell? ⟨w.heap.size + 1, 2, none⟩ = some (.int .i64 eb)) (by kernel_rfl) ?_ (fun hHeld => ?_)
    · simp [*]
    refine wpAnyH_take (i := 0) (v := ?_) rfl (by kernel_rfl) (by kernel_rfl) (by kernel_rfl) (fun _ _ _ h => h) (Or.inl ⟨by rfl, ?_⟩) (by assumption) ?_
    rotate_left
    · (intro w' hSw; (try dsimp only at hSw); go_simp; try (with_reducible rfl))
    change wpAnyH _ _ _ _ _ _ _ (Act.put _ (some 22) _) _
    try simp only [Act.put, List.setIfInBounds_toArray, List.set_cons_zero, List.set_cons_succ]
    refine wpAnyH_take (i := 1) (v := ?_) rfl (by kernel_rfl) (by kernel_rfl) (by kernel_rfl) (fun _ _ _ h => h) (Or.inl ⟨by rfl, ?_⟩) (by assumption) ?_
    rotate_left
    · (intro w' hSw; (try dsimp only at hSw); go_simp; try (with_reducible rfl))
    change wpAnyH _ _ _ _ _ _ _ (Act.put _ (some 23) _) _
    try simp only [Act.put, List.setIfInBounds_toArray, List.set_cons_zero, List.set_cons_succ]
    refine wpAnyH_take (i := 2) (v := ?_) rfl (by kernel_rfl) (by kernel_rfl) (by kernel_rfl) (fun _ _ _ h => h) (Or.inl ⟨by rfl, ?_⟩) (by assumption) ?_
    rotate_left
    · (intro w' hSw; (try dsimp only at hSw); go_simp; try (with_reducible rfl))
    change wpAnyH _ _ _ _ _ _ _ (Act.put _ (some 24) _) _
    try simp only [Act.put, List.setIfInBounds_toArray, List.set_cons_zero, List.set_cons_succ]
    refine wpAnyH_take (i := 3) (v := ?_) rfl (by kernel_rfl) (by kernel_rfl) (by kernel_rfl) (fun _ _ _ h => h) (Or.inl ⟨by rfl, ?_⟩) (by assumption) ?_
    rotate_left
    · (intro w' hSw; (try dsimp only at hSw); go_simp; try (with_reducible rfl))
    change wpAnyH _ _ _ _ _ _ _ (Act.put _ (some 25) _) _
    try simp only [Act.put, List.setIfInBounds_toArray, List.set_cons_zero, List.set_cons_succ]
    refine wpAnyH_take (i := 5) (v := ?_) rfl (by kernel_rfl) (by kernel_rfl) (by kernel_rfl) (fun _ _ _ h => h) (Or.inl ⟨by rfl, ?_⟩) (by assumption) ?_
    rotate_left
    · (intro w' hSw; (try dsimp only at hSw); go_simp; try (with_reducible rfl))
    change wpAnyH _ _ _ _ _ _ _ (Act.put _ (some 27) _) _
    try simp only [Act.put, List.setIfInBounds_toArray, List.set_cons_zero, List.set_cons_succ]
    refine wpAnyH_ready (rs := [4]) (by kernel_rfl) (by simp) ?_
    refine AllReadyH.cons (i := 4) rfl (fun K hK => ?_) AllReadyH.nil
    simp only [List.getElem_toArray, List.getElem_cons_succ, List.getElem_cons_zero]
    rw [if_pos (by rfl)]
    go_simp
    (go_at_call 129; refine (CAD.out _).mono ?_; rintro e' w2 ⟨rfl, hb2⟩; have X2 := hid (X1.out.drew.call hb2); clear s0 s1 s2 s3 s4 s5 s6 s7 s8 r0 r1 r2 bw lt; obtain ⟨s0, s1, s2, s3, s4, s5, s6, s7, s8, r0, r1, r2, bw, lt⟩ := X2.out; clear hb2; go_wp2_with fail)
    have hOld := hHeld
    clear hHeld
    refine hK.out _ _ ?_ (fun hHeld => ?_)
    · (try dsimp only); first | (simp [*]; done) | (refine ⟨?_, ?_, ?_, ?_, ?_, ?_⟩ <;> go_simp) | go_simp
    clear hK K hOld
    try simp only [Act.put, List.setIfInBounds_toArray, List.set_cons_zero, List.set_cons_succ]
    refine wpAnyH_ready (rs := [6]) (by kernel_rfl) (by simp) ?_
    refine AllReadyH.cons (i := 6) rfl (fun K hK => ?_) AllReadyH.nil
    simp only [List.getElem_toArray, List.getElem_cons_succ, List.getElem_cons_zero]
    rw [if_pos (by rfl)]
    go_simp
    (go_at_call 128; refine (CFF.out _).mono ?_; rintro e' w3 ⟨rfl, hb3⟩; have X3 := hid (X2.out.call hb3); clear s0 s1 s2 s3 s4 s5 s6 s7 s8 r0 r1 r2 bw lt; obtain ⟨s0, s1, s2, s3, s4, s5, s6, s7, s8, r0, r1, r2, bw, lt⟩ := X3.out; clear hb3; go_wp2_with fail)
    have hOld := hHeld
    clear hHeld
    refine hK.out _ _ ?_ (fun hHeld => ?_)
    · (try dsimp only); first | (simp [*]; done) | (refine ⟨?_, ?_, ?_, ?_, ?_, ?_⟩ <;> go_simp) | go_simp
    clear hK K hOld
    try simp only [Act.put, List.setIfInBounds_toArray, List.set_cons_zero, List.set_cons_succ]
    refine wpAnyH_take (i := 7) (v := ?_) rfl (by kernel_rfl) (by kernel_rfl) (by kernel_rfl) (fun _ _ _ h => h) (Or.inl ⟨by rfl, ?_⟩) (by assumption) ?_
    rotate_left
    · (intro w' hSw; (try dsimp only at hSw); go_simp; try (with_reducible rfl))
    change wpAnyH _ _ _ _ _ _ _ (Act.put _ (some 29) _) _
    try simp only [Act.put, List.setIfInBounds_toArray, List.set_cons_zero, List.set_cons_succ]
    refine wpAnyH_take (i := 8) (v := ?_) rfl (by kernel_rfl) (by kernel_rfl) (by kernel_rfl) (fun _ _ _ h => h) (Or.inl ⟨by rfl, ?_⟩) (by assumption) ?_
    rotate_left
    · (intro w' hSw; (try dsimp only at hSw); go_simp; try (with_reducible rfl))
    change wpAnyH _ _ _ _ _ _ _ (Act.put _ (some 30) _) _
    try simp only [Act.put, List.setIfInBounds_toArray, List.set_cons_zero, List.set_cons_succ]
    refine wpAnyH_ready (rs := [9]) (by kernel_rfl) (by simp) ?_
    refine AllReadyH.cons (i := 9) rfl (fun K hK => ?_) AllReadyH.nil
    simp only [List.getElem_toArray, List.getElem_cons_succ, List.getElem_cons_zero]
    rw [if_pos (by rfl)]
    go_simp
    have hOld := hHeld
    clear hHeld
    refine hK.out _ _ ?_ (fun hHeld => ?_)
    · (try dsimp only); first | (simp [*]; done) | (refine ⟨?_, ?_, ?_, ?_, ?_, ?_⟩ <;> go_simp) | go_simp
    clear hK K hOld
    try simp only [Act.put, List.setIfInBounds_toArray, List.set_cons_zero, List.set_cons_succ]
    refine wpAnyH_take (i := 10) (v := ?_) rfl (by kernel_rfl) (by kernel_rfl) (by kernel_rfl) (fun _ _ _ h => h) (Or.inl ⟨by rfl, ?_⟩) (by assumption) ?_
    rotate_left
    · (intro w' hSw; (try dsimp only at hSw); go_simp; try (with_reducible rfl))
    change wpAnyH _ _ _ _ _ _ _ (Act.put _ (some 5) _) _
    try simp only [Act.put, List.setIfInBounds_toArray, List.set_cons_zero, List.set_cons_succ]
    refine wpAnyH_done (by kernel_rfl) ?_ _
    clear hHeld
    go_wp2_with fail
    refine bodyPost_ret (v := .tuple #[.agg #[.bool R.1.neg, .string R.1.dig, .int .i64 R.1.exp], .int .i64 R.2]) (by simp [results, Tryz.results80, go_sem, s0, s1, s2, s3, s4, s5, s6, s7, s8, r0, r1, r2, lt]) rfl ⟨rfl, ?_⟩
    repeat' (first | (with_reducible exact bw) | (with_reducible refine Below.setCell ?_ ?_ _) | (simp; done) | (simp; omega) | omega)
  · have hn2 : (na == nb) = false := by rw [beq_eq_false_iff_ne]; exact hn
    rcases hC.out with ⟨h1, h2⟩ | ⟨h1, h2⟩
    · have hsg0 : (0 : Int) ≤ sg := h2
      have hRR : formD na (natL (X - Y)) le = R := by rw [← HR.out, if_neg hn, if_pos h1]
      have CFF := hid (CF.out na (X - Y) (Nat.le_trans (hXl (X - Y) (Nat.sub_le _ _)) (by decide)))
      rw [hRR] at CFF
      have CSS := hid (CS1.out h1)
      obtain ⟨M, hM⟩ : ∃ m, mkB (natL (X - Y)) = m := ⟨_, rfl⟩
      rw [hM] at CFF CSS
      clear hRR hM hXYl hXl hYl h1 h2 hn
      have X0 := hid (box3_start w na da ea nb db eb)
      obtain ⟨s0, s1, s2, s3, s4, s5, s6, s7, s8, r0, r1, r2, bw, lt⟩ := X0.out
      go_enter Tryz.func80, Tryz.ntmps80
      go_wp2_with fail
      refine (CA.out _).mono ?_
      rintro e' w1 ⟨rfl, hb1⟩
      have X1 := hid (X0.out.call hb1)
      clear s0 s1 s2 s3 s4 s5 s6 s7 s8 r0 r1 r2 bw lt
      obtain ⟨s0, s1, s2, s3, s4, s5, s6, s7, s8, r0, r1, r2, bw, lt⟩ := X1.out
      clear hb1
      go_wp2_with fail
      refine (CCM.out _).mono ?_
      rintro e' w2 ⟨rfl, hb2⟩
      have X2 := hid (X1.out.call hb2)
      clear s0 s1 s2 s3 s4 s5 s6 s7 s8 r0 r1 r2 bw lt
      obtain ⟨s0, s1, s2, s3, s4, s5, s6, s7, s8, r0, r1, r2, bw, lt⟩ := X2.out
      clear hb2
      go_wp2_with fail
      refine wp_region_held_drew (S := fun w' => w'.cell? ⟨w.heap.size, 0, none⟩ = some (.bool na) ∧ w'.cell? ⟨w.heap.size, 1, none⟩ = some (.string da) ∧ w'.cell? ⟨w.heap.size, 2, none⟩ = some (.int .i64 ea) ∧ w'.cell? ⟨w.heap.size + 1, 0, none⟩ = some (.bool nb) ∧ w'.cell? ⟨w.heap.size + 1, 1, none⟩ = some (.string db) ∧ w'.cell? ⟨w.heap.size + 1, 2, none⟩ = some (.int .i64 eb)) (by kernel_rfl) ?_ (fun hHeld => ?_)
      · simp [*]
      refine wpAnyH_take (i := 0) (v := ?_) rfl (by kernel_rfl) (by kernel_rfl) (by kernel_rfl) (fun _ _ _ h => h) (Or.inl ⟨by rfl, ?_⟩) (by assumption) ?_
      rotate_left
      · (intro w' hSw; (try dsimp only at hSw); go_simp; try (with_reducible rfl))
      change wpAnyH _ _ _ _ _ _ _ (Act.put _ (some 36) _) _
      try simp only [Act.put, List.setIfInBounds_toArray, List.set_cons_zero, List.set_cons_succ]
      refine wpAnyH_take (i := 1) (v := ?_) rfl (by kernel_rfl) (by kernel_rfl) (by kernel_rfl) (fun _ _ _ h => h) (Or.inl ⟨by rfl, ?_⟩) (by assumption) ?_
      rotate_left
      · (intro w' hSw; (try dsimp only at hSw); go_simp; try (with_reducible rfl))
      change wpAnyH _ _ _ _ _ _ _ (Act.put _ (some 37) _) _
      try simp only [Act.put, List.setIfInBounds_toArray, List.set_cons_zero, List.set_cons_succ]
      refine wpAnyH_take (i := 2) (v := ?_) rfl (by kernel_rfl) (by kernel_rfl) (by kernel_rfl) (fun _ _ _ h => h) (Or.inl ⟨by rfl, ?_⟩) (by assumption) ?_
      rotate_left
      · (intro w' hSw; (try dsimp only at hSw); go_simp; try (with_reducible rfl))
      change wpAnyH _ _ _ _ _ _ _ (Act.put _ (some 38) _) _
      try simp only [Act.put, List.setIfInBounds_toArray, List.set_cons_zero, List.set_cons_succ]
      refine wpAnyH_take (i := 3) (v := ?_) rfl (by kernel_rfl) (by kernel_rfl) (by kernel_rfl) (fun _ _ _ h => h) (Or.inl ⟨by rfl, ?_⟩) (by assumption) ?_
      rotate_left
      · (intro w' hSw; (try dsimp only at hSw); go_simp; try (with_reducible rfl))
      change wpAnyH _ _ _ _ _ _ _ (Act.put _ (some 39) _) _
      try simp only [Act.put, List.setIfInBounds_toArray, List.set_cons_zero, List.set_cons_succ]
      refine wpAnyH_take (i := 5) (v := ?_) rfl (by kernel_rfl) (by kernel_rfl) (by kernel_rfl) (fun _ _ _ h => h) (Or.inl ⟨by rfl, ?_⟩) (by assumption) ?_
      rotate_left
      · (intro w' hSw; (try dsimp only at hSw); go_simp; try (with_reducible rfl))
      change wpAnyH _ _ _ _ _ _ _ (Act.put _ (some 41) _) _
      try simp only [Act.put, List.setIfInBounds_toArray, List.set_cons_zero, List.set_cons_succ]
      refine wpAnyH_ready (rs := [4]) (by kernel_rfl) (by simp) ?_
      refine AllReadyH.cons (i := 4) rfl (fun K hK => ?_) AllReadyH.nil
      simp only [List.getElem_toArray, List.getElem_cons_succ, List.getElem_cons_zero]
      rw [if_pos (by rfl)]
      go_simp
      (go_at_call 131; refine (CSS.out _).mono ?_; rintro e' w3 ⟨rfl, hb3⟩; have X3 := hid (X2.out.drew.call hb3); clear s0 s1 s2 s3 s4 s5 s6 s7 s8 r0 r1 r2 bw lt; obtain ⟨s0, s1, s2, s3, s4, s5, s6, s7, s8, r0, r1, r2, bw, lt⟩ := X3.out; clear hb3; go_wp2_with fail)
      have hOld := hHeld
      clear hHeld
      refine hK.out _ _ ?_ (fun hHeld => ?_)
      · (try dsimp only); first | (simp [*]; done) | (refine ⟨?_, ?_, ?_, ?_, ?_, ?_⟩ <;> go_simp) | go_simp
      clear hK K hOld
      try simp only [Act.put, List.setIfInBounds_toArray, List.set_cons_zero, List.set_cons_succ]
      refine wpAnyH_ready (rs := [6]) (by kernel_rfl) (by simp) ?_
      refine AllReadyH.cons (i := 6) rfl (fun K hK => ?_) AllReadyH.nil
      simp only [List.getElem_toArray, List.getElem_cons_succ, List.getElem_cons_zero]
      rw [if_pos (by rfl)]
      go_simp
      (go_at_call 128; refine (CFF.out _).mono ?_; rintro e' w4 ⟨rfl, hb4⟩; have X4 := hid (X3.out.call hb4); clear s0 s1 s2 s3 s4 s5 s6 s7 s8 r0 r1 r2 bw lt; obtain ⟨s0, s1, s2, s3, s4, s5, s6, s7, s8, r0, r1, r2, bw, lt⟩ := X4.out; clear hb4; go_wp2_with fail)
      have hOld := hHeld
      clear hHeld
      refine hK.out _ _ ?_ (fun hHeld => ?_)
      · (try dsimp only); first | (simp [*]; done) | (refine ⟨?_, ?_, ?_, ?_, ?_, ?_⟩ <;> go_simp) | go_simp
      clear hK K hOld
      try simp only [Act.put, List.setIfInBounds_toArray, List.set_cons_zero, List.set_cons_succ]
      refine wpAnyH_take (i := 7) (v := ?_) rfl (by kernel_rfl) (by kernel_rfl) (by kernel_rfl) (fun _ _ _ h => h) (Or.inl ⟨by rfl, ?_⟩) (by assumption) ?_
      rotate_left
      · (intro w' hSw; (try dsimp only at hSw); go_simp; try (with_reducible rfl))
      change wpAnyH _ _ _ _ _ _ _ (Act.put _ (some 43) _) _
      try simp only [Act.put, List.setIfInBounds_toArray, List.set_cons_zero, List.set_cons_succ]
      refine wpAnyH_take (i := 8) (v := ?_) rfl (by kernel_rfl) (by kernel_rfl) (by kernel_rfl) (fun _ _ _ h => h) (Or.inl ⟨by rfl, ?_⟩) (by assumption) ?_
      rotate_left
      · (intro w' hSw; (try dsimp only at hSw); go_simp; try (with_reducible rfl))
      change wpAnyH _ _ _ _ _ _ _ (Act.put _ (some 44) _) _
      try simp only [Act.put, List.setIfInBounds_toArray, List.set_cons_zero, List.set_cons_succ]
      refine wpAnyH_ready (rs := [9]) (by kernel_rfl) (by simp) ?_
      refine AllReadyH.cons (i := 9) rfl (fun K hK => ?_) AllReadyH.nil
      simp only [List.getElem_toArray, List.getElem_cons_succ, List.getElem_cons_zero]
      rw [if_pos (by rfl)]
      go_simp
      have hOld := hHeld
      clear hHeld
      refine hK.out _ _ ?_ (fun hHeld => ?_)
      · (try dsimp only); first | (simp [*]; done) | (refine ⟨?_, ?_, ?_, ?_, ?_, ?_⟩ <;> go_simp) | go_simp
      clear hK K hOld
      try simp only [Act.put, List.setIfInBounds_toArray, List.set_cons_zero, List.set_cons_succ]
      refine wpAnyH_take (i := 10) (v := ?_) rfl (by kernel_rfl) (by kernel_rfl) (by kernel_rfl) (fun _ _ _ h => h) (Or.inl ⟨by rfl, ?_⟩) (by assumption) ?_
      rotate_left
      · (intro w' hSw; (try dsimp only at hSw); go_simp; try (with_reducible rfl))
      change wpAnyH _ _ _ _ _ _ _ (Act.put _ (some 5) _) _
      try simp only [Act.put, List.setIfInBounds_toArray, List.set_cons_zero, List.set_cons_succ]
      refine wpAnyH_done (by kernel_rfl) ?_ _
      clear hHeld
      go_wp2_with fail
      refine bodyPost_ret (v := .tuple #[.agg #[.bool R.1.neg, .string R.1.dig, .int .i64 R.1.exp], .int .i64 R.2]) (by simp [results, Tryz.results80, go_sem, s0, s1, s2, s3, s4, s5, s6, s7, s8, r0, r1, r2, lt]) rfl ⟨rfl, ?_⟩
      repeat' (first | (with_reducible exact bw) | (with_reducible refine Below.setCell ?_ ?_ _) | (simp; done) | (simp; omega) | omega)
    · have hsg0 : ¬ (0 : Int) ≤ sg := by omega
      have hRR : formD nb (natL (Y - X)) le = R := by rw [← HR.out, if_neg hn, if_neg (by omega)]
      have CFF := hid (CF.out nb (Y - X) (Nat.le_trans (hYl (Y - X) (Nat.sub_le _ _)) (by decide)))
      rw [hRR] at CFF
      have CSS := hid (CS2.out (by omega))
      obtain ⟨M, hM⟩ : ∃ m, mkB (natL (Y - X)) = m := ⟨_, rfl⟩
      rw [hM] at CFF CSS
      clear hRR hM hXYl hXl hYl h1 h2 hn
      have X0 := hid (box3_start w na da ea nb db eb)
      obtain ⟨s0, s1, s2, s3, s4, s5, s6, s7, s8, r0, r1, r2, bw, lt⟩ := X0.out
      go_enter Tryz.func80, Tryz.ntmps80
      go_wp2_with fail
      refine (CA.out _).mono ?_
      rintro e' w1 ⟨rfl, hb1⟩
      have X1 := hid (X0.out.call hb1)
      clear s0 s1 s2 s3 s4 s5 s6 s7 s8 r0 r1 r2 bw lt
      obtain ⟨s0, s1, s2, s3, s4, s5, s6, s7, s8, r0, r1, r2, bw, lt⟩ := X1.out
      clear hb1
      go_wp2_with fail
      refine (CCM.out _).mono ?_
      rintro e' w2 ⟨rfl, hb2⟩
      have X2 := hid (X1.out.call hb2)
      clear s0 s1 s2 s3 s4 s5 s6 s7 s8 r0 r1 r2 bw lt
      obtain ⟨s0, s1, s2, s3, s4, s5, s6, s7, s8, r0, r1, r2, bw, lt⟩ := X2.out
      clear hb2
      go_wp2_with fail
      refine wp_region_held_drew (S := fun w' => w'.cell? ⟨w.heap.size, 0, none⟩ = some (.bool na) ∧ w'.cell? ⟨w.heap.size, 1, none⟩ = some (.string da) ∧ w'.cell? ⟨w.heap.size, 2, none⟩ = some (.int .i64 ea) ∧ w'.cell? ⟨w.heap.size + 1, 0, none⟩ = some (.bool nb) ∧ w'.cell? ⟨w.heap.size + 1, 1, none⟩ = some (.string db) ∧ w'.cell? ⟨w.heap.size + 1, 2, none⟩ = some (.int .i64 eb)) (by kernel_rfl) ?_ (fun hHeld => ?_)
      · simp [*]
      refine wpAnyH_take (i := 0) (v := ?_) rfl (by kernel_rfl) (by kernel_rfl) (by kernel_rfl) (fun _ _ _ h => h) (Or.inl ⟨by rfl, ?_⟩) (by assumption) ?_
      rotate_left
      · (intro w' hSw; (try dsimp only at hSw); go_simp; try (with_reducible rfl))
      change wpAnyH _ _ _ _ _ _ _ (Act.put _ (some 45) _) _
      try simp only [Act.put, List.setIfInBounds_toArray, List.set_cons_zero, List.set_cons_succ]
      refine wpAnyH_take (i := 1) (v := ?_) rfl (by kernel_rfl) (by kernel_rfl) (by kernel_rfl) (fun _ _ _ h => h) (Or.inl ⟨by rfl, ?_⟩) (by assumption) ?_
      rotate_left
      · (intro w' hSw; (try dsimp only at hSw); go_simp; try (with_reducible rfl))
      change wpAnyH _ _ _ _ _ _ _ (Act.put _ (some 46) _) _
      try simp only [Act.put, List.setIfInBounds_toArray, List.set_cons_zero, List.set_cons_succ]
      refine wpAnyH_take (i := 2) (v := ?_) rfl (by kernel_rfl) (by kernel_rfl) (by kernel_rfl) (fun _ _ _ h => h) (Or.inl ⟨by rfl, ?_⟩) (by assumption) ?_
      rotate_left
      · (intro w' hSw; (try dsimp only at hSw); go_simp; try (with_reducible rfl))
      change wpAnyH _ _ _ _ _ _ _ (Act.put _ (some 47) _) _
      try simp only [Act.put, List.setIfInBounds_toArray, List.set_cons_zero, List.set_cons_succ]
      refine wpAnyH_take (i := 3) (v := ?_) rfl (by kernel_rfl) (by kernel_rfl) (by kernel_rfl) (fun _ _ _ h => h) (Or.inl ⟨by rfl, ?_⟩) (by assumption) ?_
      rotate_left
      · (intro w' hSw; (try dsimp only at hSw); go_simp; try (with_reducible rfl))
      change wpAnyH _ _ _ _ _ _ _ (Act.put _ (some 48) _) _
      try simp only [Act.put, List.setIfInBounds_toArray, List.set_cons_zero, List.set_cons_succ]
      refine wpAnyH_take (i := 5) (v := ?_) rfl (by kernel_rfl) (by kernel_rfl) (by kernel_rfl) (fun _ _ _ h => h) (Or.inl ⟨by rfl, ?_⟩) (by assumption) ?_
      rotate_left
      · (intro w' hSw; (try dsimp only at hSw); go_simp; try (with_reducible rfl))
      change wpAnyH _ _ _ _ _ _ _ (Act.put _ (some 50) _) _
      try simp only [Act.put, List.setIfInBounds_toArray, List.set_cons_zero, List.set_cons_succ]
      refine wpAnyH_ready (rs := [4]) (by kernel_rfl) (by simp) ?_
      refine AllReadyH.cons (i := 4) rfl (fun K hK => ?_) AllReadyH.nil
      simp only [List.getElem_toArray, List.getElem_cons_succ, List.getElem_cons_zero]
      rw [if_pos (by rfl)]
      go_simp
      (go_at_call 131; refine (CSS.out _).mono ?_; rintro e' w3 ⟨rfl, hb3⟩; have X3 := hid (X2.out.drew.call hb3); clear s0 s1 s2 s3 s4 s5 s6 s7 s8 r0 r1 r2 bw lt; obtain ⟨s0, s1, s2, s3, s4, s5, s6, s7, s8, r0, r1, r2, bw, lt⟩ := X3.out; clear hb3; go_wp2_with fail)
      have hOld := hHeld
      clear hHeld
      refine hK.out _ _ ?_ (fun hHeld => ?_)
      · (try dsimp only); first | (simp [*]; done) | (refine ⟨?_, ?_, ?_, ?_, ?_, ?_⟩ <;> go_simp) | go_simp
      clear hK K hOld
      try simp only [Act.put, List.setIfInBounds_toArray, List.set_cons_zero, List.set_cons_succ]
      refine wpAnyH_ready (rs := [6]) (by kernel_rfl) (by simp) ?_
      refine AllReadyH.cons (i := 6) rfl (fun K hK => ?_) AllReadyH.nil
      simp only [List.getElem_toArray, List.getElem_cons_succ, List.getElem_cons_zero]
      rw [if_pos (by rfl)]
      go_simp
      (go_at_call 128; refine (CFF.out _).mono ?_; rintro e' w4 ⟨rfl, hb4⟩; have X4 := hid (X3.out.call hb4); clear s0 s1 s2 s3 s4 s5 s6 s7 s8 r0 r1 r2 bw lt; obtain ⟨s0, s1, s2, s3, s4, s5, s6, s7, s8, r0, r1, r2, bw, lt⟩ := X4.out; clear hb4; go_wp2_with fail)
      have hOld := hHeld
      clear hHeld
      refine hK.out _ _ ?_ (fun hHeld => ?_)
      · (try dsimp only); first | (simp [*]; done) | (refine ⟨?_, ?_, ?_, ?_, ?_, ?_⟩ <;> go_simp) | go_simp
      clear hK K hOld
      try simp only [Act.put, List.setIfInBounds_toArray, List.set_cons_zero, List.set_cons_succ]
      refine wpAnyH_take (i := 7) (v := ?_) rfl (by kernel_rfl) (by kernel_rfl) (by kernel_rfl) (fun _ _ _ h => h) (Or.inl ⟨by rfl, ?_⟩) (by assumption) ?_
      rotate_left
      · (intro w' hSw; (try dsimp only at hSw); go_simp; try (with_reducible rfl))
      change wpAnyH _ _ _ _ _ _ _ (Act.put _ (some 52) _) _
      try simp only [Act.put, List.setIfInBounds_toArray, List.set_cons_zero, List.set_cons_succ]
      refine wpAnyH_take (i := 8) (v := ?_) rfl (by kernel_rfl) (by kernel_rfl) (by kernel_rfl) (fun _ _ _ h => h) (Or.inl ⟨by rfl, ?_⟩) (by assumption) ?_
      rotate_left
      · (intro w' hSw; (try dsimp only at hSw); go_simp; try (with_reducible rfl))
      change wpAnyH _ _ _ _ _ _ _ (Act.put _ (some 53) _) _
      try simp only [Act.put, List.setIfInBounds_toArray, List.set_cons_zero, List.set_cons_succ]
      refine wpAnyH_ready (rs := [9]) (by kernel_rfl) (by simp) ?_
      refine AllReadyH.cons (i := 9) rfl (fun K hK => ?_) AllReadyH.nil
      simp only [List.getElem_toArray, List.getElem_cons_succ, List.getElem_cons_zero]
      rw [if_pos (by rfl)]
      go_simp
      have hOld := hHeld
      clear hHeld
      refine hK.out _ _ ?_ (fun hHeld => ?_)
      · (try dsimp only); first | (simp [*]; done) | (refine ⟨?_, ?_, ?_, ?_, ?_, ?_⟩ <;> go_simp) | go_simp
      clear hK K hOld
      try simp only [Act.put, List.setIfInBounds_toArray, List.set_cons_zero, List.set_cons_succ]
      refine wpAnyH_take (i := 10) (v := ?_) rfl (by kernel_rfl) (by kernel_rfl) (by kernel_rfl) (fun _ _ _ h => h) (Or.inl ⟨by rfl, ?_⟩) (by assumption) ?_
      rotate_left
      · (intro w' hSw; (try dsimp only at hSw); go_simp; try (with_reducible rfl))
      change wpAnyH _ _ _ _ _ _ _ (Act.put _ (some 5) _) _
      try simp only [Act.put, List.setIfInBounds_toArray, List.set_cons_zero, List.set_cons_succ]
      refine wpAnyH_done (by kernel_rfl) ?_ _
      clear hHeld
      go_wp2_with fail
      refine bodyPost_ret (v := .tuple #[.agg #[.bool R.1.neg, .string R.1.dig, .int .i64 R.1.exp], .int .i64 R.2]) (by simp [results, Tryz.results80, go_sem, s0, s1, s2, s3, s4, s5, s6, s7, s8, r0, r1, r2, lt]) rfl ⟨rfl, ?_⟩
      repeat' (first | (with_reducible exact bw) | (with_reducible refine Below.setCell ?_ ?_ _) | (simp; done) | (simp; omega) | omega)
set_option maxHeartbeats 4000000 in
theorem implDecNeg (b : Dec) (w : World) (hb : decOk b = true) :
    Calls Tryz.prog 81 #[.agg #[.bool b.neg, .string b.dig, .int .i64 b.exp]] w fun e w' => e = .returned (.agg #[.bool (negD b).neg, .string (negD b).dig, .int .i64 (negD b).exp]) ∧ Below w.heap.size w w' := by
  obtain ⟨b1, b2, b3, b4, b5⟩ := ok_facts hb
  obtain ⟨nb, db, eb⟩ := b
  by_cases hz : db.size = 0
  · obtain ⟨e1, e2⟩ := b5 hz
    dsimp only at e1 e2
    subst e1 e2
    obtain rfl := ba_nil hz
    have HR := hid (show negD ⟨false, ⟨#[]⟩, 0⟩ = dec0 by unfold negD; exact if_pos (by rfl))
    clear b1 b2 b3 b4 b5 hz hb
    go_enter Tryz.func81, Tryz.ntmps81
    go_wp2
    refine bodyPost_ret (v := .agg #[.bool false, .string ⟨#[]⟩, .int .i64 0]) (by simp [results, Tryz.results81, go_sem]) rfl ⟨by rw [HR.out]; rfl, ?_⟩
    repeat' (first | (with_reducible exact Below.refl _ _) | (with_reducible exact ext_trans (ext_alloc _ _) (ext_alloc _ _)) | (with_reducible refine Below.setCell ?_ ?_ _) | (simp; done) | (simp; omega) | omega)
  · have HR := hid (show negD ⟨nb, db, eb⟩ = ⟨!nb, db, eb⟩ by unfold negD; rw [if_neg hz])
    have g1 : (db.toList == []) = false := ba_nil_beq hz
    have g2 : db.toList.isEmpty = false := by rw [empty_size, decide_eq_false hz]
    clear b1 b2 b3 b4 b5 hz hb
    go_enter Tryz.func81, Tryz.ntmps81
    go_wp2
    refine bodyPost_ret (v := .agg #[.bool (!nb), .string db, .int .i64 eb]) (by simp [results, Tryz.results81, go_sem]) rfl ⟨by rw [HR.out], ?_⟩
    repeat' (first | (with_reducible exact Below.refl _ _) | (with_reducible exact ext_trans (ext_alloc _ _) (ext_alloc _ _)) | (with_reducible refine Below.setCell ?_ ?_ _) | (simp; done) | (simp; omega) | omega)
end Go.Proofs.YthfmhenphnllfaaGreatDoor

namespace Go.Proofs.YthfmhenphnllfaaGreatDoor
open Go.RowKit
set_option linter.unusedVariables false
set_option linter.unusedSimpArgs false
set_option maxHeartbeats 16000000 in
set_option maxRecDepth 100000 in
theorem implDecDiv (a b : Dec) (w : World) (ha : decOk a = true) (hb : decOk b = true) :
    Calls Tryz.prog 83 #[.agg #[.bool a.neg, .string a.dig, .int .i64 a.exp], .agg #[.bool b.neg, .string b.dig, .int .i64 b.exp]] w fun e w' => e = .returned (formV (divD a b)) ∧ Below w.heap.size w w' := by
  obtain ⟨a1, a2, a3, a4, a5⟩ := ok_facts ha
  obtain ⟨b1, b2, b3, b4, b5⟩ := ok_facts hb
  by_cases hz : b.dig.size = 0
  · have HR := hid (show divD a b = (dec0, 2) by unfold divD; rw [if_pos hz])
    have g1 : (b.dig.toList == []) = true := by rw [ba_nil hz, Lib.toList_data]; rfl
    have g2 : b.dig.toList.isEmpty = true := by rw [empty_size, decide_eq_true hz]
    clear hz
    obtain ⟨na, da, ea⟩ := a
    obtain ⟨nb, db, eb⟩ := b
    dsimp only at *
    clear a1 a2 a3 a4 a5 b1 b2 b3 b4 b5 ha hb
    have X0 := hid (box3_start w na da ea nb db eb)
    obtain ⟨s0, s1, s2, s3, s4, s5, s6, s7, s8, r0, r1, r2, bw, lt⟩ := X0.out
    go_enter Tryz.func83, Tryz.ntmps83
    go_wp2
    refine bodyPost_ret (v := .tuple #[.agg #[.bool false, .string ⟨#[]⟩, .int .i64 0], .int .i64 2]) (by simp [results, Tryz.results83, go_sem, s0, s1, s2, s3, s4, s5, s6, s7, s8, r0, r1, r2, lt]) rfl ⟨by rw [HR.out]; rfl, ?_⟩
    repeat' (first | (with_reducible exact bw) | (with_reducible refine Below.setCell ?_ ?_ _) | (simp; done) | (simp; omega) | omega)
  have hdb : dgB b.dig = b.dig := by unfold dgB; rw [if_neg hz]
  have g1 : (b.dig.toList == []) = false := ba_nil_beq hz
  have g2 : b.dig.toList.isEmpty = false := by rw [empty_size, decide_eq_false hz]
  have hB0 : 0 < valZ b := by
    have := mt (valZ_zero hb).1 hz
    omega
  have hVb : vD b.dig.data.toList = valZ b := by unfold valZ; rw [hdb]
  have hbd : digits b.dig.data.toList := by rw [← hdb]; exact b3
  have hbt : trimL b.dig.data.toList = b.dig.data.toList := by
    obtain ⟨c, r, h1, h2⟩ := ok_head hb hz
    rw [h1]
    exact trimL_head r h2
  obtain ⟨p1, p2⟩ := shfB_trim ha 45
  have hv1 : vD (shfB a.dig 45).data.toList = valZ a * 10 ^ 45 := shfB_val a.dig 45
  have hss : (shfB a.dig 45).size ≤ 100 := by
    unfold shfB
    split
    · decide
    · have h1 := dgB_size a.dig
      rw [ByteArray.size_append, zeroB_size]
      omega
  have CD1 := hid (fun (w : World) => implDig a.neg a.dig a.exp w)
  have CSH : Hid (∀ w, Calls Tryz.prog 135 #[.string (dgB a.dig), .int .i64 45] w fun e w' => e = .returned (.string (shfB a.dig 45)) ∧ Below w.heap.size w w') := hid (fun (w : World) => implShiftD a.dig 45 w (by decide) (by omega) a4)
  have CDV := hid (fun (w : World) => implDiv (shfB a.dig 45) b.dig w p1 hbd hbt (by rw [hVb]; exact hB0) (by omega) (by omega))
  rw [hv1, hVb] at CDV
  have hdi := div_impl ha hb hz
  have hql : (natL (valZ a * 10 ^ 45 / valZ b)).length ≤ 70 := by
    refine natL_len_pow ?_ (by decide)
    have h1 := valZ_lt ha
    have h2 : valZ a * 10 ^ 45 / valZ b ≤ valZ a * 10 ^ 45 := Nat.div_le_self _ _
    have h3 : valZ a * 10 ^ 45 ≤ 10 ^ 20 * 10 ^ 45 := Nat.mul_le_mul_right _ (Nat.le_of_lt h1)
    exact Nat.lt_of_le_of_lt (Nat.le_trans h2 h3) (by decide)
  have hrt : ∀ r : Nat, ((mkB (natL r)).toList != [48]) = decide (r ≠ 0) := fun r => by
    rw [mkB_toList, Bool.eq_iff_iff, bne_iff_ne, decide_eq_true_eq, ne_eq, natL_is0]
  obtain ⟨rr, hrr⟩ : ∃ r, valZ a * 10 ^ 45 % valZ b = r := ⟨_, rfl⟩
  obtain ⟨qq, hqq⟩ : ∃ r, valZ a * 10 ^ 45 / valZ b = r := ⟨_, rfl⟩
  rw [hrr, hqq] at hdi CDV
  rw [hqq] at hql
  have hrt1 := hrt rr
  have hrt2 : ((mkB (natL rr)).toList == [48]) = decide (rr = 0) := by
    rw [mkB_toList, Bool.eq_iff_iff, beq_iff_eq, decide_eq_true_eq, natL_is0]
  have CF1 := hid (fun (w : World) => implNormal (a.neg != b.neg) (mkB (natL qq) ++ ⟨#[49]⟩) (a.exp - b.exp - 46) w (by rw [ByteArray.data_append, Array.toList_append]; exact digits_append (natL_mkB_digits _) digits_one) (by rw [ByteArray.size_append, mkB_size]; show (natL qq).length + 1 ≤ _; omega) (by omega))
  have CF2 := hid (fun (w : World) => implNormal (a.neg != b.neg) (mkB (natL qq)) (a.exp - b.exp - 45) w (natL_mkB_digits _) (by rw [mkB_size]; omega) (by omega))
  have hq49 : (mkB (natL qq) ++ ⟨#[49]⟩ : ByteArray).data.toList = natL qq ++ [49] := by rw [ByteArray.data_append, Array.toList_append, mkB_data]
  rw [hq49] at CF1
  rw [mkB_data] at CF2
  obtain ⟨R, hR⟩ : ∃ r, divD a b = r := ⟨_, rfl⟩
  rw [hR] at hdi ⊢
  have hqs : ¬ 9223372036854775807 < (mkB (natL qq)).size + 1 := by rw [mkB_size]; omega
  obtain ⟨A, hA⟩ : ∃ x, dgB a.dig = x := ⟨_, rfl⟩
  obtain ⟨SA, hSA⟩ : ∃ x, shfB a.dig 45 = x := ⟨_, rfl⟩
  obtain ⟨QB, hQB⟩ : ∃ x, mkB (natL qq) = x := ⟨_, rfl⟩
  obtain ⟨RB, hRB⟩ : ∃ x, mkB (natL rr) = x := ⟨_, rfl⟩
  rw [hA] at CD1 CSH
  rw [hSA] at CSH CDV
  rw [hQB] at CDV CF1 CF2 hqs
  rw [hRB] at CDV hrt1 hrt2
  have hw1 : IntKind.i64.wrap (a.exp - b.exp) = a.exp - b.exp := IntWalk.i64_in _ (by omega)
  have hw2 : IntKind.i64.wrap (a.exp - b.exp - 46) = a.exp - b.exp - 46 := IntWalk.i64_in _ (by omega)
  have hw3 : IntKind.i64.wrap (a.exp - b.exp - 45) = a.exp - b.exp - 45 := IntWalk.i64_in _ (by omega)
  by_cases hr0 : rr ≠ 0
  · rw [if_pos hr0] at hdi
    rw [decide_eq_true hr0] at hrt1
    rw [decide_eq_false hr0] at hrt2
    rw [hdi] at CF1
    unfold formV at CF1 ⊢
    obtain ⟨na, da, ea⟩ := a
    obtain ⟨nb, db, eb⟩ := b
    dsimp only at *
    clear a1 a2 a3 a4 a5 b1 b2 b3 b4 b5 ha hb hz hdb hB0 hVb hbd hbt p1 p2 hv1 hss hdi hql hrt hrr hqq hR hA hSA hQB hRB hr0 hq49 CF2
    have X0 := hid (box3_start w na da ea nb db eb)
    obtain ⟨s0, s1, s2, s3, s4, s5, s6, s7, s8, r0, r1, r2, bw, lt⟩ := X0.out
    go_enter Tryz.func83, Tryz.ntmps83
    go_wp2_with fail
    refine wp_region_held_drew (S := fun w' => w'.cell? ⟨w.heap.size, 0, none⟩ = some (.bool na) ∧ w'.cell? ⟨w.heap.size, 1, none⟩ = some (.string da) ∧ w'.cell? ⟨w.heap.size, 2, none⟩ = some (.int .i64 ea) ∧ w'.cell? ⟨w.heap.size + 1, 0, none⟩ = some (.bool nb) ∧ w'.cell? ⟨w.heap.size + 1, 1, none⟩ = some (.string db) ∧ w'.cell? ⟨w.heap.size + 1, 2, none⟩ = some (.int .i64 eb)) (by kernel_rfl) ?_ (fun hHeld => ?_)
    · simp [*]
    refine wpAnyH_take (i := 0) (v := ?_) rfl (by kernel_rfl) (by kernel_rfl) (by kernel_rfl) (fun _ _ _ h => h) (Or.inl ⟨by rfl, ?_⟩) (by assumption) ?_
    rotate_left
    · (intro w' hSw; (try dsimp only at hSw); go_simp; try (with_reducible rfl))
    change wpAnyH _ _ _ _ _ _ _ (Act.put _ (some 13) _) _
    try simp only [Act.put, List.setIfInBounds_toArray, List.set_cons_zero, List.set_cons_succ]
    refine wpAnyH_take (i := 3) (v := ?_) rfl (by kernel_rfl) (by kernel_rfl) (by kernel_rfl) (fun _ _ _ h => h) (Or.inl ⟨by rfl, ?_⟩) (by assumption) ?_
    rotate_left
    · (intro w' hSw; (try dsimp only at hSw); go_simp; try (with_reducible rfl))
    change wpAnyH _ _ _ _ _ _ _ (Act.put _ (some 16) _) _
    try simp only [Act.put, List.setIfInBounds_toArray, List.set_cons_zero, List.set_cons_succ]
    refine wpAnyH_take (i := 4) (v := ?_) rfl (by kernel_rfl) (by kernel_rfl) (by kernel_rfl) (fun _ _ _ h => h) (Or.inl ⟨by rfl, ?_⟩) (by assumption) ?_
    rotate_left
    · (intro w' hSw; (try dsimp only at hSw); go_simp; try (with_reducible rfl))
    change wpAnyH _ _ _ _ _ _ _ (Act.put _ (some 17) _) _
    try simp only [Act.put, List.setIfInBounds_toArray, List.set_cons_zero, List.set_cons_succ]
    refine wpAnyH_ready (rs := [1]) (by kernel_rfl) (by simp) ?_
    refine AllReadyH.cons (i := 1) rfl (fun K hK => ?_) AllReadyH.nil
    simp only [List.getElem_toArray, List.getElem_cons_succ, List.getElem_cons_zero]
    rw [if_pos (by rfl)]
    go_simp
    (go_at_call 133; refine (CD1.out _).mono ?_; rintro e' w1 ⟨rfl, hb1⟩; have X1 := hid (X0.out.drew.call hb1); clear s0 s1 s2 s3 s4 s5 s6 s7 s8 r0 r1 r2 bw lt; obtain ⟨s0, s1, s2, s3, s4, s5, s6, s7, s8, r0, r1, r2, bw, lt⟩ := X1.out; clear hb1; go_wp2_with fail)
    have hOld := hHeld
    clear hHeld
    refine hK.out _ _ ?_ (fun hHeld => ?_)
    · (try dsimp only); first | (simp [*]; done) | (refine ⟨?_, ?_, ?_, ?_, ?_, ?_⟩ <;> go_simp) | go_simp
    clear hK K hOld
    try simp only [Act.put, List.setIfInBounds_toArray, List.set_cons_zero, List.set_cons_succ]
    refine wpAnyH_ready (rs := [2]) (by kernel_rfl) (by simp) ?_
    refine AllReadyH.cons (i := 2) rfl (fun K hK => ?_) AllReadyH.nil
    simp only [List.getElem_toArray, List.getElem_cons_succ, List.getElem_cons_zero]
    rw [if_pos (by rfl)]
    go_simp
    (go_at_call 135; refine (CSH.out _).mono ?_; rintro e' w2 ⟨rfl, hb2⟩; have X2 := hid (X1.out.call hb2); clear s0 s1 s2 s3 s4 s5 s6 s7 s8 r0 r1 r2 bw lt; obtain ⟨s0, s1, s2, s3, s4, s5, s6, s7, s8, r0, r1, r2, bw, lt⟩ := X2.out; clear hb2; go_wp2_with fail)
    have hOld := hHeld
    clear hHeld
    refine hK.out _ _ ?_ (fun hHeld => ?_)
    · (try dsimp only); first | (simp [*]; done) | (refine ⟨?_, ?_, ?_, ?_, ?_, ?_⟩ <;> go_simp) | go_simp
    clear hK K hOld
    try simp only [Act.put, List.setIfInBounds_toArray, List.set_cons_zero, List.set_cons_succ]
    refine wpAnyH_ready (rs := [5]) (by kernel_rfl) (by simp) ?_
    refine AllReadyH.cons (i := 5) rfl (fun K hK => ?_) AllReadyH.nil
    simp only [List.getElem_toArray, List.getElem_cons_succ, List.getElem_cons_zero]
    rw [if_pos (by rfl)]
    go_simp
    (go_at_call 134; refine (CDV.out _).mono ?_; rintro e' w3 ⟨rfl, hb3⟩; have X3 := hid (X2.out.call hb3); clear s0 s1 s2 s3 s4 s5 s6 s7 s8 r0 r1 r2 bw lt; obtain ⟨s0, s1, s2, s3, s4, s5, s6, s7, s8, r0, r1, r2, bw, lt⟩ := X3.out; clear hb3; go_wp2_with fail)
    have hOld := hHeld
    clear hHeld
    refine hK.out _ _ ?_ (fun hHeld => ?_)
    · (try dsimp only); first | (simp [*]; done) | (refine ⟨?_, ?_, ?_, ?_, ?_, ?_⟩ <;> go_simp) | go_simp
    clear hK K hOld
    try simp only [Act.put, List.setIfInBounds_toArray, List.set_cons_zero, List.set_cons_succ]
    refine wpAnyH_take (i := 6) (v := ?_) rfl (by kernel_rfl) (by kernel_rfl) (by kernel_rfl) (fun _ _ _ h => h) (Or.inl ⟨by rfl, ?_⟩) (by assumption) ?_
    rotate_left
    · (intro w' hSw; (try dsimp only at hSw); go_simp; try (with_reducible rfl))
    change wpAnyH _ _ _ _ _ _ _ (Act.put _ (some 12) _) _
    try simp only [Act.put, List.setIfInBounds_toArray, List.set_cons_zero, List.set_cons_succ]
    refine wpAnyH_take (i := 7) (v := ?_) rfl (by kernel_rfl) (by kernel_rfl) (by kernel_rfl) (fun _ _ _ h => h) (Or.inl ⟨by rfl, ?_⟩) (by assumption) ?_
    rotate_left
    · (intro w' hSw; (try dsimp only at hSw); go_simp; try (with_reducible rfl))
    change wpAnyH _ _ _ _ _ _ _ (Act.put _ (some 19) _) _
    try simp only [Act.put, List.setIfInBounds_toArray, List.set_cons_zero, List.set_cons_succ]
    refine wpAnyH_take (i := 8) (v := ?_) rfl (by kernel_rfl) (by kernel_rfl) (by kernel_rfl) (fun _ _ _ h => h) (Or.inl ⟨by rfl, ?_⟩) (by assumption) ?_
    rotate_left
    · (intro w' hSw; (try dsimp only at hSw); go_simp; try (with_reducible rfl))
    change wpAnyH _ _ _ _ _ _ _ (Act.put _ (some 20) _) _
    try simp only [Act.put, List.setIfInBounds_toArray, List.set_cons_zero, List.set_cons_succ]
    refine wpAnyH_take (i := 9) (v := ?_) rfl (by kernel_rfl) (by kernel_rfl) (by kernel_rfl) (fun _ _ _ h => h) (Or.inl ⟨by rfl, ?_⟩) (by assumption) ?_
    rotate_left
    · (intro w' hSw; (try dsimp only at hSw); go_simp; try (with_reducible rfl))
    change wpAnyH _ _ _ _ _ _ _ (Act.put _ (some 6) _) _
    try simp only [Act.put, List.setIfInBounds_toArray, List.set_cons_zero, List.set_cons_succ]
    refine wpAnyH_take (i := 10) (v := ?_) rfl (by kernel_rfl) (by kernel_rfl) (by kernel_rfl) (fun _ _ _ h => h) (Or.inl ⟨by rfl, ?_⟩) (by assumption) ?_
    rotate_left
    · (intro w' hSw; (try dsimp only at hSw); go_simp; try (with_reducible rfl))
    change wpAnyH _ _ _ _ _ _ _ (Act.put _ (some 7) _) _
    try simp only [Act.put, List.setIfInBounds_toArray, List.set_cons_zero, List.set_cons_succ]
    refine wpAnyH_done (by kernel_rfl) ?_ _
    clear hHeld
    go_wp2_with fail
    refine (CF1.out _).mono ?_
    rintro e' w4 ⟨rfl, hb4⟩
    have X4 := hid (X3.out.call hb4)
    clear s0 s1 s2 s3 s4 s5 s6 s7 s8 r0 r1 r2 bw lt
    obtain ⟨s0, s1, s2, s3, s4, s5, s6, s7, s8, r0, r1, r2, bw, lt⟩ := X4.out
    clear hb4
    go_wp2_with fail
    refine bodyPost_ret (v := .tuple #[.agg #[.bool R.1.neg, .string R.1.dig, .int .i64 R.1.exp], .int .i64 R.2]) (by simp [results, Tryz.results83, go_sem, s0, s1, s2, s3, s4, s5, s6, s7, s8, r0, r1, r2, lt]) rfl ⟨rfl, ?_⟩
    repeat' (first | (with_reducible exact bw) | (with_reducible refine Below.setCell ?_ ?_ _) | (simp; done) | (simp; omega) | omega)
  · rw [if_neg hr0] at hdi
    rw [decide_eq_false hr0] at hrt1
    rw [decide_eq_true (Decidable.not_not.1 hr0)] at hrt2
    rw [hdi] at CF2
    unfold formV at CF2 ⊢
    obtain ⟨na, da, ea⟩ := a
    obtain ⟨nb, db, eb⟩ := b
    dsimp only at *
    clear a1 a2 a3 a4 a5 b1 b2 b3 b4 b5 ha hb hz hdb hB0 hVb hbd hbt p1 p2 hv1 hss hdi hql hrt hrr hqq hR hA hSA hQB hRB hr0 hq49 CF1
    have X0 := hid (box3_start w na da ea nb db eb)
    obtain ⟨s0, s1, s2, s3, s4, s5, s6, s7, s8, r0, r1, r2, bw, lt⟩ := X0.out
    go_enter Tryz.func83, Tryz.ntmps83
    go_wp2_with fail
    refine wp_region_held_drew (S := fun w' => w'.cell? ⟨w.heap.size, 0, none⟩ = some (.bool na) ∧ w'.cell? ⟨w.heap.size, 1, none⟩ = some (.string da) ∧ w'.cell? ⟨w.heap.size, 2, none⟩ = some (.int .i64 ea) ∧ w'.cell? ⟨w.heap.size + 1, 0, none⟩ = some (.bool nb) ∧ w'.cell? ⟨w.heap.size + 1, 1, none⟩ = some (.string db) ∧ w'.cell? ⟨w.heap.size + 1, 2, none⟩ = some (.int .i64 eb)) (by kernel_rfl) ?_ (fun hHeld => ?_)
    · simp [*]
    refine wpAnyH_take (i := 0) (v := ?_) rfl (by kernel_rfl) (by kernel_rfl) (by kernel_rfl) (fun _ _ _ h => h) (Or.inl ⟨by rfl, ?_⟩) (by assumption) ?_
    rotate_left
    · (intro w' hSw; (try dsimp only at hSw); go_simp; try (with_reducible rfl))
    change wpAnyH _ _ _ _ _ _ _ (Act.put _ (some 13) _) _
    try simp only [Act.put, List.setIfInBounds_toArray, List.set_cons_zero, List.set_cons_succ]
    refine wpAnyH_take (i := 3) (v := ?_) rfl (by kernel_rfl) (by kernel_rfl) (by kernel_rfl) (fun _ _ _ h => h) (Or.inl ⟨by rfl, ?_⟩) (by assumption) ?_
    rotate_left
    · (intro w' hSw; (try dsimp only at hSw); go_simp; try (with_reducible rfl))
    change wpAnyH _ _ _ _ _ _ _ (Act.put _ (some 16) _) _
    try simp only [Act.put, List.setIfInBounds_toArray, List.set_cons_zero, List.set_cons_succ]
    refine wpAnyH_take (i := 4) (v := ?_) rfl (by kernel_rfl) (by kernel_rfl) (by kernel_rfl) (fun _ _ _ h => h) (Or.inl ⟨by rfl, ?_⟩) (by assumption) ?_
    rotate_left
    · (intro w' hSw; (try dsimp only at hSw); go_simp; try (with_reducible rfl))
    change wpAnyH _ _ _ _ _ _ _ (Act.put _ (some 17) _) _
    try simp only [Act.put, List.setIfInBounds_toArray, List.set_cons_zero, List.set_cons_succ]
    refine wpAnyH_ready (rs := [1]) (by kernel_rfl) (by simp) ?_
    refine AllReadyH.cons (i := 1) rfl (fun K hK => ?_) AllReadyH.nil
    simp only [List.getElem_toArray, List.getElem_cons_succ, List.getElem_cons_zero]
    rw [if_pos (by rfl)]
    go_simp
    (go_at_call 133; refine (CD1.out _).mono ?_; rintro e' w1 ⟨rfl, hb1⟩; have X1 := hid (X0.out.drew.call hb1); clear s0 s1 s2 s3 s4 s5 s6 s7 s8 r0 r1 r2 bw lt; obtain ⟨s0, s1, s2, s3, s4, s5, s6, s7, s8, r0, r1, r2, bw, lt⟩ := X1.out; clear hb1; go_wp2_with fail)
    have hOld := hHeld
    clear hHeld
    refine hK.out _ _ ?_ (fun hHeld => ?_)
    · (try dsimp only); first | (simp [*]; done) | (refine ⟨?_, ?_, ?_, ?_, ?_, ?_⟩ <;> go_simp) | go_simp
    clear hK K hOld
    try simp only [Act.put, List.setIfInBounds_toArray, List.set_cons_zero, List.set_cons_succ]
    refine wpAnyH_ready (rs := [2]) (by kernel_rfl) (by simp) ?_
    refine AllReadyH.cons (i := 2) rfl (fun K hK => ?_) AllReadyH.nil
    simp only [List.getElem_toArray, List.getElem_cons_succ, List.getElem_cons_zero]
    rw [if_pos (by rfl)]
    go_simp
    (go_at_call 135; refine (CSH.out _).mono ?_; rintro e' w2 ⟨rfl, hb2⟩; have X2 := hid (X1.out.call hb2); clear s0 s1 s2 s3 s4 s5 s6 s7 s8 r0 r1 r2 bw lt; obtain ⟨s0, s1, s2, s3, s4, s5, s6, s7, s8, r0, r1, r2, bw, lt⟩ := X2.out; clear hb2; go_wp2_with fail)
    have hOld := hHeld
    clear hHeld
    refine hK.out _ _ ?_ (fun hHeld => ?_)
    · (try dsimp only); first | (simp [*]; done) | (refine ⟨?_, ?_, ?_, ?_, ?_, ?_⟩ <;> go_simp) | go_simp
    clear hK K hOld
    try simp only [Act.put, List.setIfInBounds_toArray, List.set_cons_zero, List.set_cons_succ]
    refine wpAnyH_ready (rs := [5]) (by kernel_rfl) (by simp) ?_
    refine AllReadyH.cons (i := 5) rfl (fun K hK => ?_) AllReadyH.nil
    simp only [List.getElem_toArray, List.getElem_cons_succ, List.getElem_cons_zero]
    rw [if_pos (by rfl)]
    go_simp
    (go_at_call 134; refine (CDV.out _).mono ?_; rintro e' w3 ⟨rfl, hb3⟩; have X3 := hid (X2.out.call hb3); clear s0 s1 s2 s3 s4 s5 s6 s7 s8 r0 r1 r2 bw lt; obtain ⟨s0, s1, s2, s3, s4, s5, s6, s7, s8, r0, r1, r2, bw, lt⟩ := X3.out; clear hb3; go_wp2_with fail)
    have hOld := hHeld
    clear hHeld
    refine hK.out _ _ ?_ (fun hHeld => ?_)
    · (try dsimp only); first | (simp [*]; done) | (refine ⟨?_, ?_, ?_, ?_, ?_, ?_⟩ <;> go_simp) | go_simp
    clear hK K hOld
    try simp only [Act.put, List.setIfInBounds_toArray, List.set_cons_zero, List.set_cons_succ]
    refine wpAnyH_take (i := 6) (v := ?_) rfl (by kernel_rfl) (by kernel_rfl) (by kernel_rfl) (fun _ _ _ h => h) (Or.inl ⟨by rfl, ?_⟩) (by assumption) ?_
    rotate_left
    · (intro w' hSw; (try dsimp only at hSw); go_simp; try (with_reducible rfl))
    change wpAnyH _ _ _ _ _ _ _ (Act.put _ (some 12) _) _
    try simp only [Act.put, List.setIfInBounds_toArray, List.set_cons_zero, List.set_cons_succ]
    refine wpAnyH_take (i := 7) (v := ?_) rfl (by kernel_rfl) (by kernel_rfl) (by kernel_rfl) (fun _ _ _ h => h) (Or.inl ⟨by rfl, ?_⟩) (by assumption) ?_
    rotate_left
    · (intro w' hSw; (try dsimp only at hSw); go_simp; try (with_reducible rfl))
    change wpAnyH _ _ _ _ _ _ _ (Act.put _ (some 19) _) _
    try simp only [Act.put, List.setIfInBounds_toArray, List.set_cons_zero, List.set_cons_succ]
    refine wpAnyH_take (i := 8) (v := ?_) rfl (by kernel_rfl) (by kernel_rfl) (by kernel_rfl) (fun _ _ _ h => h) (Or.inl ⟨by rfl, ?_⟩) (by assumption) ?_
    rotate_left
    · (intro w' hSw; (try dsimp only at hSw); go_simp; try (with_reducible rfl))
    change wpAnyH _ _ _ _ _ _ _ (Act.put _ (some 20) _) _
    try simp only [Act.put, List.setIfInBounds_toArray, List.set_cons_zero, List.set_cons_succ]
    refine wpAnyH_take (i := 9) (v := ?_) rfl (by kernel_rfl) (by kernel_rfl) (by kernel_rfl) (fun _ _ _ h => h) (Or.inl ⟨by rfl, ?_⟩) (by assumption) ?_
    rotate_left
    · (intro w' hSw; (try dsimp only at hSw); go_simp; try (with_reducible rfl))
    change wpAnyH _ _ _ _ _ _ _ (Act.put _ (some 6) _) _
    try simp only [Act.put, List.setIfInBounds_toArray, List.set_cons_zero, List.set_cons_succ]
    refine wpAnyH_take (i := 10) (v := ?_) rfl (by kernel_rfl) (by kernel_rfl) (by kernel_rfl) (fun _ _ _ h => h) (Or.inl ⟨by rfl, ?_⟩) (by assumption) ?_
    rotate_left
    · (intro w' hSw; (try dsimp only at hSw); go_simp; try (with_reducible rfl))
    change wpAnyH _ _ _ _ _ _ _ (Act.put _ (some 7) _) _
    try simp only [Act.put, List.setIfInBounds_toArray, List.set_cons_zero, List.set_cons_succ]
    refine wpAnyH_done (by kernel_rfl) ?_ _
    clear hHeld
    go_wp2_with fail
    refine (CF2.out _).mono ?_
    rintro e' w4 ⟨rfl, hb4⟩
    have X4 := hid (X3.out.call hb4)
    clear s0 s1 s2 s3 s4 s5 s6 s7 s8 r0 r1 r2 bw lt
    obtain ⟨s0, s1, s2, s3, s4, s5, s6, s7, s8, r0, r1, r2, bw, lt⟩ := X4.out
    clear hb4
    go_wp2_with fail
    refine bodyPost_ret (v := .tuple #[.agg #[.bool R.1.neg, .string R.1.dig, .int .i64 R.1.exp], .int .i64 R.2]) (by simp [results, Tryz.results83, go_sem, s0, s1, s2, s3, s4, s5, s6, s7, s8, r0, r1, r2, lt]) rfl ⟨rfl, ?_⟩
    repeat' (first | (with_reducible exact bw) | (with_reducible refine Below.setCell ?_ ?_ _) | (simp; done) | (simp; omega) | omega)
end Go.Proofs.YthfmhenphnllfaaGreatDoor

namespace Go.Proofs.YthfmhenphnllfaaGreatDoor
open Go.RowKit
set_option linter.unusedVariables false
set_option linter.unusedSimpArgs false
set_option maxHeartbeats 16000000 in
set_option maxRecDepth 100000 in
theorem implDecMul (a b : Dec) (w : World) (ha : decOk a = true) (hb : decOk b = true) :
    Calls Tryz.prog 82 #[.agg #[.bool a.neg, .string a.dig, .int .i64 a.exp], .agg #[.bool b.neg, .string b.dig, .int .i64 b.exp]] w fun e w' => e = .returned (formV (mulD a b)) ∧ Below w.heap.size w w' := by
  obtain ⟨a1, a2, a3, a4, a5⟩ := ok_facts ha
  obtain ⟨b1, b2, b3, b4, b5⟩ := ok_facts hb
  have CD1 := hid (fun (w : World) => implDig a.neg a.dig a.exp w)
  have CD2 := hid (fun (w : World) => implDig b.neg b.dig b.exp w)
  have hs1 : (dgB a.dig).size ≤ 21 := Nat.le_trans (dgB_size _) (by omega)
  have hs2 : (dgB b.dig).size ≤ 21 := Nat.le_trans (dgB_size _) (by omega)
  have CM := hid (fun (w : World) => implMul (dgB a.dig) (dgB b.dig) w a3 b3 (by omega) (by omega))
  have hnl : (natL (valZ a * valZ b)).length ≤ 42 := by
    refine natL_len_pow ?_ (by decide)
    have h1 := valZ_lt ha
    have h2 := valZ_lt hb
    exact Nat.lt_of_lt_of_le (Nat.mul_lt_mul'' h1 h2) (by decide)
  have CF := hid (fun (w : World) => implNormal (a.neg != b.neg) (mkB (natL (valZ a * valZ b))) (a.exp + b.exp) w (natL_mkB_digits _) (by rw [mkB_size]; omega) (by omega))
  rw [mkB_data] at CF
  have hR0 : formD (a.neg != b.neg) (natL (valZ a * valZ b)) (a.exp + b.exp) = mulD a b := rfl
  rw [hR0] at CF
  have hV : vD (dgB a.dig).data.toList * vD (dgB b.dig).data.toList = valZ a * valZ b := rfl
  rw [hV] at CM
  obtain ⟨R, hR⟩ : ∃ r, mulD a b = r := ⟨_, rfl⟩
  rw [hR] at CF ⊢
  unfold formV at CF ⊢
  obtain ⟨A, hA⟩ : ∃ x, dgB a.dig = x := ⟨_, rfl⟩
  obtain ⟨B, hB⟩ : ∃ x, dgB b.dig = x := ⟨_, rfl⟩
  obtain ⟨M, hM⟩ : ∃ x, mkB (natL (valZ a * valZ b)) = x := ⟨_, rfl⟩
  rw [hA] at CD1 CM
  rw [hB] at CD2 CM
  rw [hM] at CM CF
  have hw : IntKind.i64.wrap (a.exp + b.exp) = a.exp + b.exp := IntWalk.i64_in _ (by omega)
  obtain ⟨na, da, ea⟩ := a
  obtain ⟨nb, db, eb⟩ := b
  dsimp only at *
  clear a1 a3 a4 a5 b1 b3 b4 b5 ha hb hs1 hs2 hnl hR0 hR hA hB hM hV a2 b2
  have X0 := hid (box3_start w na da ea nb db eb)
  obtain ⟨s0, s1, s2, s3, s4, s5, s6, s7, s8, r0, r1, r2, bw, lt⟩ := X0.out
  go_enter Tryz.func82, Tryz.ntmps82
  go_wp2_with fail
  refine wp_region_held_drew (S := fun w' => w'.cell? ⟨w.heap.size, 0, none⟩ = some (.bool na) ∧ w'.cell? ⟨w.heap.size, 1, none⟩ = some (.string da) ∧ w'.cell? ⟨w.heap.size, 2, none⟩ = some (.int .i64 ea) ∧ w'.cell? ⟨w.heap.size + 1, 0, none⟩ = some (.bool nb) ∧ w'.cell? ⟨w.heap.size + 1, 1, none⟩ = some (.string db) ∧ w'.cell? ⟨w.heap.size + 1, 2, none⟩ = some (.int .i64 eb)) (by kernel_rfl) ?_ (fun hHeld => ?_)
  · simp [*]
  refine wpAnyH_take (i := 0) (v := ?_) rfl (by kernel_rfl) (by kernel_rfl) (by kernel_rfl) (fun _ _ _ h => h) (Or.inl ⟨by rfl, ?_⟩) (by assumption) ?_
  rotate_left
  · (intro w' hSw; (try dsimp only at hSw); go_simp; try (with_reducible rfl))
  change wpAnyH _ _ _ _ _ _ _ (Act.put _ (some 6) _) _
  try simp only [Act.put, List.setIfInBounds_toArray, List.set_cons_zero, List.set_cons_succ]
  refine wpAnyH_take (i := 1) (v := ?_) rfl (by kernel_rfl) (by kernel_rfl) (by kernel_rfl) (fun _ _ _ h => h) (Or.inl ⟨by rfl, ?_⟩) (by assumption) ?_
  rotate_left
  · (intro w' hSw; (try dsimp only at hSw); go_simp; try (with_reducible rfl))
  change wpAnyH _ _ _ _ _ _ _ (Act.put _ (some 7) _) _
  try simp only [Act.put, List.setIfInBounds_toArray, List.set_cons_zero, List.set_cons_succ]
  refine wpAnyH_take (i := 2) (v := ?_) rfl (by kernel_rfl) (by kernel_rfl) (by kernel_rfl) (fun _ _ _ h => h) (Or.inl ⟨by rfl, ?_⟩) (by assumption) ?_
  rotate_left
  · (intro w' hSw; (try dsimp only at hSw); go_simp; try (with_reducible rfl))
  change wpAnyH _ _ _ _ _ _ _ (Act.put _ (some 8) _) _
  try simp only [Act.put, List.setIfInBounds_toArray, List.set_cons_zero, List.set_cons_succ]
  refine wpAnyH_take (i := 3) (v := ?_) rfl (by kernel_rfl) (by kernel_rfl) (by kernel_rfl) (fun _ _ _ h => h) (Or.inl ⟨by rfl, ?_⟩) (by assumption) ?_
  rotate_left
  · (intro w' hSw; (try dsimp only at hSw); go_simp; try (with_reducible rfl))
  change wpAnyH _ _ _ _ _ _ _ (Act.put _ (some 9) _) _
  try simp only [Act.put, List.setIfInBounds_toArray, List.set_cons_zero, List.set_cons_succ]
  refine wpAnyH_take (i := 4) (v := ?_) rfl (by kernel_rfl) (by kernel_rfl) (by kernel_rfl) (fun _ _ _ h => h) (Or.inl ⟨by rfl, ?_⟩) (by assumption) ?_
  rotate_left
  · (intro w' hSw; (try dsimp only at hSw); go_simp; try (with_reducible rfl))
  change wpAnyH _ _ _ _ _ _ _ (Act.put _ (some 10) _) _
  try simp only [Act.put, List.setIfInBounds_toArray, List.set_cons_zero, List.set_cons_succ]
  refine wpAnyH_take (i := 5) (v := ?_) rfl (by kernel_rfl) (by kernel_rfl) (by kernel_rfl) (fun _ _ _ h => h) (Or.inl ⟨by rfl, ?_⟩) (by assumption) ?_
  rotate_left
  · (intro w' hSw; (try dsimp only at hSw); go_simp; try (with_reducible rfl))
  change wpAnyH _ _ _ _ _ _ _ (Act.put _ (some 11) _) _
  try simp only [Act.put, List.setIfInBounds_toArray, List.set_cons_zero, List.set_cons_succ]
  refine wpAnyH_take (i := 7) (v := ?_) rfl (by kernel_rfl) (by kernel_rfl) (by kernel_rfl) (fun _ _ _ h => h) (Or.inl ⟨by rfl, ?_⟩) (by assumption) ?_
  rotate_left
  · (intro w' hSw; (try dsimp only at hSw); go_simp; try (with_reducible rfl))
  change wpAnyH _ _ _ _ _ _ _ (Act.put _ (some 13) _) _
  try simp only [Act.put, List.setIfInBounds_toArray, List.set_cons_zero, List.set_cons_succ]
  refine wpAnyH_take (i := 10) (v := ?_) rfl (by kernel_rfl) (by kernel_rfl) (by kernel_rfl) (fun _ _ _ h => h) (Or.inl ⟨by rfl, ?_⟩) (by assumption) ?_
  rotate_left
  · (intro w' hSw; (try dsimp only at hSw); go_simp; try (with_reducible rfl))
  change wpAnyH _ _ _ _ _ _ _ (Act.put _ (some 16) _) _
  try simp only [Act.put, List.setIfInBounds_toArray, List.set_cons_zero, List.set_cons_succ]
  refine wpAnyH_take (i := 11) (v := ?_) rfl (by kernel_rfl) (by kernel_rfl) (by kernel_rfl) (fun _ _ _ h => h) (Or.inl ⟨by rfl, ?_⟩) (by assumption) ?_
  rotate_left
  · (intro w' hSw; (try dsimp only at hSw); go_simp; try (with_reducible rfl))
  change wpAnyH _ _ _ _ _ _ _ (Act.put _ (some 17) _) _
  try simp only [Act.put, List.setIfInBounds_toArray, List.set_cons_zero, List.set_cons_succ]
  refine wpAnyH_take (i := 12) (v := ?_) rfl (by kernel_rfl) (by kernel_rfl) (by kernel_rfl) (fun _ _ _ h => h) (Or.inl ⟨by rfl, ?_⟩) (by assumption) ?_
  rotate_left
  · (intro w' hSw; (try dsimp only at hSw); go_simp; try (with_reducible rfl))
  change wpAnyH _ _ _ _ _ _ _ (Act.put _ (some 18) _) _
  try simp only [Act.put, List.setIfInBounds_toArray, List.set_cons_zero, List.set_cons_succ]
  refine wpAnyH_take (i := 13) (v := ?_) rfl (by kernel_rfl) (by kernel_rfl) (by kernel_rfl) (fun _ _ _ h => h) (Or.inl ⟨by rfl, ?_⟩) (by assumption) ?_
  rotate_left
  · (intro w' hSw; (try dsimp only at hSw); go_simp; try (with_reducible rfl))
  change wpAnyH _ _ _ _ _ _ _ (Act.put _ (some 19) _) _
  try simp only [Act.put, List.setIfInBounds_toArray, List.set_cons_zero, List.set_cons_succ]
  refine wpAnyH_take (i := 14) (v := ?_) rfl (by kernel_rfl) (by kernel_rfl) (by kernel_rfl) (fun _ _ _ h => h) (Or.inl ⟨by rfl, ?_⟩) (by assumption) ?_
  rotate_left
  · (intro w' hSw; (try dsimp only at hSw); go_simp; try (with_reducible rfl))
  change wpAnyH _ _ _ _ _ _ _ (Act.put _ (some 20) _) _
  try simp only [Act.put, List.setIfInBounds_toArray, List.set_cons_zero, List.set_cons_succ]
  refine wpAnyH_ready (rs := [6]) (by kernel_rfl) (by simp) ?_
  refine AllReadyH.cons (i := 6) rfl (fun K hK => ?_) AllReadyH.nil
  simp only [List.getElem_toArray, List.getElem_cons_succ, List.getElem_cons_zero]
  rw [if_pos (by rfl)]
  go_simp
  (go_at_call 133; refine (CD1.out _).mono ?_; rintro e' w1 ⟨rfl, hb1⟩; have X1 := hid (X0.out.drew.call hb1); clear s0 s1 s2 s3 s4 s5 s6 s7 s8 r0 r1 r2 bw lt; obtain ⟨s0, s1, s2, s3, s4, s5, s6, s7, s8, r0, r1, r2, bw, lt⟩ := X1.out; clear hb1; go_wp2_with fail)
  have hOld := hHeld
  clear hHeld
  refine hK.out _ _ ?_ (fun hHeld => ?_)
  · (try dsimp only); first | (simp [*]; done) | (refine ⟨?_, ?_, ?_, ?_, ?_, ?_⟩ <;> go_simp) | go_simp
  clear hK K hOld
  try simp only [Act.put, List.setIfInBounds_toArray, List.set_cons_zero, List.set_cons_succ]
  refine wpAnyH_ready (rs := [8]) (by kernel_rfl) (by simp) ?_
  refine AllReadyH.cons (i := 8) rfl (fun K hK => ?_) AllReadyH.nil
  simp only [List.getElem_toArray, List.getElem_cons_succ, List.getElem_cons_zero]
  rw [if_pos (by rfl)]
  go_simp
  (go_at_call 133; refine (CD2.out _).mono ?_; rintro e' w2 ⟨rfl, hb2⟩; have X2 := hid (X1.out.call hb2); clear s0 s1 s2 s3 s4 s5 s6 s7 s8 r0 r1 r2 bw lt; obtain ⟨s0, s1, s2, s3, s4, s5, s6, s7, s8, r0, r1, r2, bw, lt⟩ := X2.out; clear hb2; go_wp2_with fail)
  have hOld := hHeld
  clear hHeld
  refine hK.out _ _ ?_ (fun hHeld => ?_)
  · (try dsimp only); first | (simp [*]; done) | (refine ⟨?_, ?_, ?_, ?_, ?_, ?_⟩ <;> go_simp) | go_simp
  clear hK K hOld
  try simp only [Act.put, List.setIfInBounds_toArray, List.set_cons_zero, List.set_cons_succ]
  refine wpAnyH_ready (rs := [9]) (by kernel_rfl) (by simp) ?_
  refine AllReadyH.cons (i := 9) rfl (fun K hK => ?_) AllReadyH.nil
  simp only [List.getElem_toArray, List.getElem_cons_succ, List.getElem_cons_zero]
  rw [if_pos (by rfl)]
  go_simp
  (go_at_call 132; refine (CM.out _).mono ?_; rintro e' w3 ⟨rfl, hb3⟩; have X3 := hid (X2.out.call hb3); clear s0 s1 s2 s3 s4 s5 s6 s7 s8 r0 r1 r2 bw lt; obtain ⟨s0, s1, s2, s3, s4, s5, s6, s7, s8, r0, r1, r2, bw, lt⟩ := X3.out; clear hb3; go_wp2_with fail)
  have hOld := hHeld
  clear hHeld
  refine hK.out _ _ ?_ (fun hHeld => ?_)
  · (try dsimp only); first | (simp [*]; done) | (refine ⟨?_, ?_, ?_, ?_, ?_, ?_⟩ <;> go_simp) | go_simp
  clear hK K hOld
  try simp only [Act.put, List.setIfInBounds_toArray, List.set_cons_zero, List.set_cons_succ]
  refine wpAnyH_ready (rs := [15]) (by kernel_rfl) (by simp) ?_
  refine AllReadyH.cons (i := 15) rfl (fun K hK => ?_) AllReadyH.nil
  simp only [List.getElem_toArray, List.getElem_cons_succ, List.getElem_cons_zero]
  rw [if_pos (by rfl)]
  go_simp
  (go_at_call 128; refine (CF.out _).mono ?_; rintro e' w4 ⟨rfl, hb4⟩; have X4 := hid (X3.out.call hb4); clear s0 s1 s2 s3 s4 s5 s6 s7 s8 r0 r1 r2 bw lt; obtain ⟨s0, s1, s2, s3, s4, s5, s6, s7, s8, r0, r1, r2, bw, lt⟩ := X4.out; clear hb4; go_wp2_with fail)
  have hOld := hHeld
  clear hHeld
  refine hK.out _ _ ?_ (fun hHeld => ?_)
  · (try dsimp only); first | (simp [*]; done) | (refine ⟨?_, ?_, ?_, ?_, ?_, ?_⟩ <;> go_simp) | go_simp
  clear hK K hOld
  try simp only [Act.put, List.setIfInBounds_toArray, List.set_cons_zero, List.set_cons_succ]
  refine wpAnyH_take (i := 16) (v := ?_) rfl (by kernel_rfl) (by kernel_rfl) (by kernel_rfl) (fun _ _ _ h => h) (Or.inl ⟨by rfl, ?_⟩) (by assumption) ?_
  rotate_left
  · (intro w' hSw; (try dsimp only at hSw); go_simp; try (with_reducible rfl))
  change wpAnyH _ _ _ _ _ _ _ (Act.put _ (some 22) _) _
  try simp only [Act.put, List.setIfInBounds_toArray, List.set_cons_zero, List.set_cons_succ]
  refine wpAnyH_take (i := 17) (v := ?_) rfl (by kernel_rfl) (by kernel_rfl) (by kernel_rfl) (fun _ _ _ h => h) (Or.inl ⟨by rfl, ?_⟩) (by assumption) ?_
  rotate_left
  · (intro w' hSw; (try dsimp only at hSw); go_simp; try (with_reducible rfl))
  change wpAnyH _ _ _ _ _ _ _ (Act.put _ (some 23) _) _
  try simp only [Act.put, List.setIfInBounds_toArray, List.set_cons_zero, List.set_cons_succ]
  refine wpAnyH_ready (rs := [18]) (by kernel_rfl) (by simp) ?_
  refine AllReadyH.cons (i := 18) rfl (fun K hK => ?_) AllReadyH.nil
  simp only [List.getElem_toArray, List.getElem_cons_succ, List.getElem_cons_zero]
  rw [if_pos (by rfl)]
  go_simp
  have hOld := hHeld
  clear hHeld
  refine hK.out _ _ ?_ (fun hHeld => ?_)
  · (try dsimp only); first | (simp [*]; done) | (refine ⟨?_, ?_, ?_, ?_, ?_, ?_⟩ <;> go_simp) | go_simp
  clear hK K hOld
  try simp only [Act.put, List.setIfInBounds_toArray, List.set_cons_zero, List.set_cons_succ]
  refine wpAnyH_take (i := 19) (v := ?_) rfl (by kernel_rfl) (by kernel_rfl) (by kernel_rfl) (fun _ _ _ h => h) (Or.inl ⟨by rfl, ?_⟩) (by assumption) ?_
  rotate_left
  · (intro w' hSw; (try dsimp only at hSw); go_simp; try (with_reducible rfl))
  change wpAnyH _ _ _ _ _ _ _ (Act.put _ (some 5) _) _
  try simp only [Act.put, List.setIfInBounds_toArray, List.set_cons_zero, List.set_cons_succ]
  refine wpAnyH_done (by kernel_rfl) ?_ _
  clear hHeld
  go_wp2_with fail
  refine bodyPost_ret (v := .tuple #[.agg #[.bool R.1.neg, .string R.1.dig, .int .i64 R.1.exp], .int .i64 R.2]) (by simp [results, Tryz.results82, go_sem, s0, s1, s2, s3, s4, s5, s6, s7, s8, r0, r1, r2, lt]) rfl ⟨rfl, ?_⟩
  repeat' (first | (with_reducible exact bw) | (with_reducible refine Below.setCell ?_ ?_ _) | (simp; done) | (simp; omega) | omega)
end Go.Proofs.YthfmhenphnllfaaGreatDoor

namespace Go.Proofs.YthfmhenphnllfaaGreatDoor
open Go.RowKit
set_option linter.unusedVariables false
set_option linter.unusedSimpArgs false

theorem powG_stuck {a : Dec} {k : Nat} (h : (powG a k).2 ≠ 0) : ∀ j, powG a (k + j) = powG a k
  | 0 => rfl
  | j + 1 => by
    have ih := powG_stuck h j
    rw [← Nat.add_assoc, powG, ih, if_neg h]
theorem powG_next {a : Dec} {k : Nat} (h : (powG a k).2 = 0) : powG a (k + 1) = mulD (powG a k).1 a := by rw [powG, if_pos h]
/-- what lies in four blocks from w's end on -/
structure Box4 (w wr : World) (na : Bool) (da : ByteArray) (ea : Int) (p : Dec) : Prop where
  c0 : wr.cell? ⟨w.heap.size, 0, none⟩ = some (.bool na)
  c1 : wr.cell? ⟨w.heap.size, 1, none⟩ = some (.string da)
  c2 : wr.cell? ⟨w.heap.size, 2, none⟩ = some (.int .i64 ea)
  c3 : wr.cell? ⟨w.heap.size + 1, 0, none⟩ = some (.bool false)
  c4 : wr.cell? ⟨w.heap.size + 1, 1, none⟩ = some (.string ⟨#[]⟩)
  c5 : wr.cell? ⟨w.heap.size + 1, 2, none⟩ = some (.int .i64 0)
  c6 : wr.cell? ⟨w.heap.size + 1 + 1, 0, none⟩ = some (.bool false)
  c7 : wr.cell? ⟨w.heap.size + 1 + 1, 1, none⟩ = some (.string ⟨#[49]⟩)
  c8 : wr.cell? ⟨w.heap.size + 1 + 1, 2, none⟩ = some (.int .i64 0)
  c9 : wr.cell? ⟨w.heap.size + 1 + 1 + 1, 0, none⟩ = some (.bool p.neg)
  c10 : wr.cell? ⟨w.heap.size + 1 + 1 + 1, 1, none⟩ = some (.string p.dig)
  c11 : wr.cell? ⟨w.heap.size + 1 + 1 + 1, 2, none⟩ = some (.int .i64 p.exp)
  y0 : wr.frozen? ⟨w.heap.size + 1, 0, none⟩ = false
  y1 : wr.frozen? ⟨w.heap.size + 1, 1, none⟩ = false
  y2 : wr.frozen? ⟨w.heap.size + 1, 2, none⟩ = false
  y3 : wr.frozen? ⟨w.heap.size + 1 + 1 + 1, 0, none⟩ = false
  y4 : wr.frozen? ⟨w.heap.size + 1 + 1 + 1, 1, none⟩ = false
  y5 : wr.frozen? ⟨w.heap.size + 1 + 1 + 1, 2, none⟩ = false
  bw : Below w.heap.size w wr
  lt : w.heap.size + 1 + 1 + 1 < wr.heap.size
theorem Box4.call {w wr w2 : World} {na : Bool} {da : ByteArray} {ea : Int} {p : Dec} (h : Box4 w wr na da ea p) (hb : Below wr.heap.size wr w2) : Box4 w w2 na da ea p :=
  have l1 : w.heap.size + 1 < wr.heap.size := by have := h.lt; omega
  ⟨keeps_cells hb _ _ h.c0, keeps_cells hb _ _ h.c1, keeps_cells hb _ _ h.c2, keeps_cells hb _ _ h.c3, keeps_cells hb _ _ h.c4, keeps_cells hb _ _ h.c5, keeps_cells hb _ _ h.c6, keeps_cells hb _ _ h.c7, keeps_cells hb _ _ h.c8, keeps_cells hb _ _ h.c9, keeps_cells hb _ _ h.c10, keeps_cells hb _ _ h.c11, (hb.frozen (p := ⟨w.heap.size + 1, 0, none⟩) l1).trans h.y0, (hb.frozen (p := ⟨w.heap.size + 1, 1, none⟩) l1).trans h.y1, (hb.frozen (p := ⟨w.heap.size + 1, 2, none⟩) l1).trans h.y2, (hb.frozen (p := ⟨w.heap.size + 1 + 1 + 1, 0, none⟩) h.lt).trans h.y3, (hb.frozen (p := ⟨w.heap.size + 1 + 1 + 1, 1, none⟩) h.lt).trans h.y4, (hb.frozen (p := ⟨w.heap.size + 1 + 1 + 1, 2, none⟩) h.lt).trans h.y5, ext_trans h.bw hb, Nat.lt_of_lt_of_le h.lt hb.size⟩
theorem box4_start (w : World) (na : Bool) (da : ByteArray) (ea : Int) : Box4 w ((((w.alloc (.cells #[.bool na, .string da, .int .i64 ea] 27)).alloc (.cells #[.bool false, .string ⟨#[]⟩, .int .i64 0] 27)).alloc (.cells #[.bool false, .string ⟨#[49]⟩, .int .i64 0] 27)).alloc (.cells #[.bool na, .string da, .int .i64 ea] 27)) na da ea ⟨na, da, ea⟩ := by
  refine ⟨?_, ?_, ?_, ?_, ?_, ?_, ?_, ?_, ?_, ?_, ?_, ?_, ?_, ?_, ?_, ?_, ?_, ?_, ext_trans (ext_trans (ext_trans (ext_alloc _ _) (ext_alloc _ _)) (ext_alloc _ _)) (ext_alloc _ _), by simp⟩
  all_goals go_simp
theorem Box4.put {w wr : World} {na : Bool} {da : ByteArray} {ea : Int} {p : Dec} (h : Box4 w wr na da ea p) (q : Dec) : Box4 w (((wr.setCell ⟨w.heap.size + 1 + 1 + 1, 0, none⟩ (.bool q.neg)).setCell ⟨w.heap.size + 1 + 1 + 1, 1, none⟩ (.string q.dig)).setCell ⟨w.heap.size + 1 + 1 + 1, 2, none⟩ (.int .i64 q.exp)) na da ea q := by
  obtain ⟨c0, c1, c2, c3, c4, c5, c6, c7, c8, c9, c10, c11, y0, y1, y2, y3, y4, y5, bw, lt⟩ := h
  refine ⟨?_, ?_, ?_, ?_, ?_, ?_, ?_, ?_, ?_, ?_, ?_, ?_, ?_, ?_, ?_, ?_, ?_, ?_, ((bw.setCell (by show w.heap.size ≤ w.heap.size + 1 + 1 + 1; omega) _).setCell (by show w.heap.size ≤ w.heap.size + 1 + 1 + 1; omega) _).setCell (by show w.heap.size ≤ w.heap.size + 1 + 1 + 1; omega) _, by simpa [World.setCell] using lt⟩
  all_goals go_simp
set_option maxHeartbeats 16000000 in
set_option maxRecDepth 100000 in
theorem implPow (a : Dec) (n : Int) (w : World) (ha : decOk a = true) (hn : -99 ≤ n ∧ n ≤ 99) :
    Calls Tryz.prog 138 #[.agg #[.bool a.neg, .string a.dig, .int .i64 a.exp], .int .i64 n] w fun e w' => e = .returned (formV (powD a n)) ∧ Below w.heap.size w w' := by
  by_cases h0 : n = 0
  · subst h0
    have HR := hid (show powD a 0 = (one1, 0) by unfold powD; rw [if_pos rfl])
    obtain ⟨na, da, ea⟩ := a
    dsimp only at *
    clear ha hn
    go_enter Tryz.func138, Tryz.ntmps138
    go_wp2
    refine bodyPost_ret (v := .tuple #[.agg #[.bool false, .string ⟨#[49]⟩, .int .i64 0], .int .i64 0]) (by simp [results, Tryz.results138, go_sem]) rfl ⟨by rw [HR.out]; rfl, ?_⟩
    repeat' (first | (with_reducible exact ext_trans (ext_trans (ext_alloc _ _) (ext_alloc _ _)) (ext_alloc _ _)) | (with_reducible refine Below.setCell ?_ ?_ _) | (simp; done) | (simp; omega) | omega)
  obtain ⟨m, hm⟩ : ∃ m : Nat, n.natAbs - 1 = m := ⟨_, rfl⟩
  have hmi : max n (-n) - 1 = (m : Int) := by omega
  have hmx : IntKind.i64.wrap (max n (-n) - 1) = (m : Int) := by rw [hmi]; exact IntWalk.i64_in _ (by omega)
  have hm99 : m ≤ 99 := by omega
  have hg0 : (n == 0) = false := by rw [beq_eq_false_iff_ne]; exact h0
  have hng : IntKind.i64.wrap (-n) = -n := IntWalk.i64_in _ (by omega)
  obtain ⟨R, hR⟩ : ∃ r, powD a n = r := ⟨_, rfl⟩
  rw [hR]
  unfold powD at hR
  rw [if_neg h0, hm] at hR
  have HR := hid hR
  have CM := hid (fun (k : Nat) (w : World) => implDecMul (powG a k).1 a w (powG_ok ha k) ha)
  have CD := hid (fun (w : World) => implDecDiv one1 (powG a m).1 w one1_ok (powG_ok ha m))
  have HM := hid hm
  obtain ⟨na, da, ea⟩ := a
  dsimp only at *
  obtain ⟨A, hA⟩ : ∃ A, (⟨na, da, ea⟩ : Dec) = A := ⟨_, rfl⟩
  have HA := hid hA
  rw [hA] at CM CD HR
  clear h0 hm hR ha hA
  have Y0 := hid (box4_start w na da ea)
  obtain ⟨c0, c1, c2, c3, c4, c5, c6, c7, c8, c9, c10, c11, y0, y1, y2, y3, y4, y5, bw, lt⟩ := Y0.out
  have l1 : w.heap.size + 1 < ((((w.alloc (.cells #[.bool na, .string da, .int .i64 ea] 27)).alloc (.cells #[.bool false, .string ⟨#[]⟩, .int .i64 0] 27)).alloc (.cells #[.bool false, .string ⟨#[49]⟩, .int .i64 0] 27)).alloc (.cells #[.bool na, .string da, .int .i64 ea] 27)).heap.size := Nat.lt_of_le_of_lt (by omega) lt
  go_enter Tryz.func138, Tryz.ntmps138
  go_wp2
  clear l1 c0 c1 c2 c3 c4 c5 c6 c7 c8 c9 c10 c11 y0 y1 y2 y3 y4 y5 bw lt
  go_loopw [20] (fun iv wr => ∃ k : Nat, k ≤ m ∧ iv = .int .i64 (k : Int) ∧ Hid ((powG A k).2 = 0) ∧ Box4 w wr na da ea (powG A k).1) (fun iv _ => m - (intOf iv).toNat)
  case atStart => exact ⟨0, Nat.zero_le _, rfl, hid rfl, by rw [← HA.out]; exact Y0.out⟩
  case round =>
    obtain ⟨k, hk, rfl, HC0, hbox⟩ := hrel
    have Y1 := hid hbox
    clear hbox
    by_cases hlt : k < m
    · have hlti : (k : Int) < (m : Int) := by omega
      have CMk := hid (CM.out k)
      have HN := hid (powG_next HC0.out)
      rw [← HN.out] at CMk
      have HST := hid (fun (h : (powG A (k + 1)).2 ≠ 0) => powG_stuck h (m - (k + 1)))
      obtain ⟨P, hP⟩ : ∃ P, (powG A k).1 = P := ⟨_, rfl⟩
      rw [hP] at CMk Y1
      obtain ⟨Q, hQ⟩ : ∃ Q, powG A (k + 1) = Q := ⟨_, rfl⟩
      rw [hQ] at CMk HST
      unfold formV at CMk
      have HQ := hid hQ
      clear hP hQ HN
      obtain ⟨c0, c1, c2, c3, c4, c5, c6, c7, c8, c9, c10, c11, y0, y1, y2, y3, y4, y5, bw, lt⟩ := Y1.out
      have l1 : w.heap.size + 1 < wr.heap.size := Nat.lt_of_le_of_lt (by omega) lt
      go_wp2_with fail
      refine (CMk.out _).mono ?_
      rintro e w1 ⟨rfl, hb1⟩
      have Y2 := hid (Y1.out.call hb1)
      clear l1 c0 c1 c2 c3 c4 c5 c6 c7 c8 c9 c10 c11 y0 y1 y2 y3 y4 y5 bw lt
      obtain ⟨c0, c1, c2, c3, c4, c5, c6, c7, c8, c9, c10, c11, y0, y1, y2, y3, y4, y5, bw, lt⟩ := Y2.out
      have l1 : w.heap.size + 1 < w1.heap.size := Nat.lt_of_le_of_lt (by omega) lt
      clear hb1
      by_cases hc : Q.2 = 0
      · have hc1 : (Q.2 == 0) = true := by rw [beq_iff_eq]; exact hc
        have hc2 : (Q.2 != 0) = false := by rw [bne, hc1]; rfl
        have HQ2 := hid hc
        clear hc
        go_wp2
        go_roundw
        case rel =>
          refine ⟨k + 1, by omega, by go_num, hid (by rw [HQ.out]; exact HQ2.out), ?_⟩
          rw [HQ.out]
          exact (Y2.out.put Q.1).call (ext_alloc _ _)
        case measure => simp [intOf]; omega
      · have hc1 : (Q.2 == 0) = false := by rw [beq_eq_false_iff_ne]; exact hc
        have hc2 : (Q.2 != 0) = true := by rw [bne, hc1]; rfl
        have HE := hid (show R = (dec0, Q.2) by
          have h1 := HST.out hc
          rw [show k + 1 + (m - (k + 1)) = m by omega] at h1
          rw [← HR.out, h1, if_pos hc])
        clear hc
        go_wp2
        refine bodyPost_ret (v := .tuple #[.agg #[.bool false, .string ⟨#[]⟩, .int .i64 0], .int .i64 Q.2]) (by simp [results, Tryz.results138, go_sem, c0, c1, c2, c3, c4, c5, c6, c7, c8, c9, c10, c11, y0, y1, y2, y3, y4, y5, lt, l1]) rfl ⟨by rw [HE.out]; rfl, ?_⟩
        repeat' (first | (with_reducible exact bw) | (with_reducible exact ext_trans bw (ext_alloc _ _)) | (with_reducible refine Below.setCell ?_ ?_ _) | (with_reducible refine Below.alloc ?_ ?_ _) | (simp; done) | (simp; omega) | omega)
    · obtain rfl : k = m := by omega
      have hlti : ¬ (k : Int) < (k : Int) := by omega
      obtain ⟨P, hP⟩ : ∃ P, powG A k = P := ⟨_, rfl⟩
      rw [hP] at Y1 CD HR HC0
      have HC1 := hid (show ¬ P.2 ≠ 0 from fun h => h HC0.out)
      clear hP
      obtain ⟨c0, c1, c2, c3, c4, c5, c6, c7, c8, c9, c10, c11, y0, y1, y2, y3, y4, y5, bw, lt⟩ := Y1.out
      have l1 : w.heap.size + 1 < wr.heap.size := Nat.lt_of_le_of_lt (by omega) lt
      by_cases hneg : n < 0
      · have HRR := hid (show divD one1 P.1 = R by rw [← HR.out, if_neg HC1.out, if_pos hneg])
        rw [HRR.out] at CD
        unfold formV at CD
        have CDX : Hid (∀ w, Calls Tryz.prog 83 #[.agg #[.bool false, .string ⟨#[49]⟩, .int .i64 0], .agg #[.bool P.1.neg, .string P.1.dig, .int .i64 P.1.exp]] w fun e w' => e = .returned (.tuple #[.agg #[.bool R.1.neg, .string R.1.dig, .int .i64 R.1.exp], .int .i64 R.2]) ∧ Below w.heap.size w w') := CD
        go_wp2_with fail
        refine (CDX.out _).mono ?_
        rintro e w1 ⟨rfl, hb1⟩
        have Y2 := hid (Y1.out.call hb1)
        clear l1 c0 c1 c2 c3 c4 c5 c6 c7 c8 c9 c10 c11 y0 y1 y2 y3 y4 y5 bw lt
        obtain ⟨c0, c1, c2, c3, c4, c5, c6, c7, c8, c9, c10, c11, y0, y1, y2, y3, y4, y5, bw, lt⟩ := Y2.out
        have l1 : w.heap.size + 1 < w1.heap.size := Nat.lt_of_le_of_lt (by omega) lt
        clear hb1
        go_wp2
        refine bodyPost_ret (v := .tuple #[.agg #[.bool R.1.neg, .string R.1.dig, .int .i64 R.1.exp], .int .i64 R.2]) (by simp [results, Tryz.results138, go_sem, c0, c1, c2, c3, c4, c5, c6, c7, c8, c9, c10, c11, y0, y1, y2, y3, y4, y5, lt, l1]) rfl ⟨rfl, ?_⟩
        repeat' (first | (with_reducible exact bw) | (with_reducible refine Below.setCell ?_ ?_ _) | (with_reducible refine Below.alloc ?_ ?_ _) | (simp; done) | (simp; omega) | omega)
      · have HRR := hid (show R = (P.1, 0) by
          rw [← HR.out, if_neg HC1.out, if_neg hneg, ← HC0.out])
        go_wp2
        refine bodyPost_ret (v := .tuple #[.agg #[.bool P.1.neg, .string P.1.dig, .int .i64 P.1.exp], .int .i64 0]) (by simp [results, Tryz.results138, go_sem, c0, c1, c2, c3, c4, c5, c6, c7, c8, c9, c10, c11, y0, y1, y2, y3, y4, y5, lt, l1]) rfl ⟨by rw [HRR.out]; rfl, ?_⟩
        repeat' (first | (with_reducible exact bw) | (with_reducible refine Below.setCell ?_ ?_ _) | (with_reducible refine Below.alloc ?_ ?_ _) | (simp; done) | (simp; omega) | omega)
set_option maxHeartbeats 8000000 in
theorem implDecPow (a : Dec) (n : Int) (w : World) (ha : decOk a = true) (hn : -9223372036854775808 ≤ n ∧ n ≤ 9223372036854775807) :
    Calls Tryz.prog 86 #[.agg #[.bool a.neg, .string a.dig, .int .i64 a.exp], .int .i64 n] w fun e w' => e = .returned (formV (if -99 ≤ n ∧ n ≤ 99 then powD a n else (dec0, 3))) ∧ Below w.heap.size w w' := by
  obtain ⟨a1, a2, a3, a4, a5⟩ := ok_facts ha
  have CO : Hid (∀ w, Calls Tryz.prog 136 #[.agg #[.bool a.neg, .string a.dig, .int .i64 a.exp]] w fun e w' => e = .returned (.bool true) ∧ Below w.heap.size w w') := hid (fun w => by
    have h := implIsDec (d := a) (cs := #[.bool a.neg, .string a.dig, .int .i64 a.exp]) w (by exact rdDec_mk (x := a) (by omega) (by omega))
    rw [ha] at h
    exact h)
  by_cases hin : -99 ≤ n ∧ n ≤ 99
  · have CP := hid (fun (w : World) => implPow a n w ha hin)
    have hb : inB (-99) n 99 = true := inB_true (by omega)
    rw [if_pos hin]
    obtain ⟨R, hR⟩ : ∃ r, powD a n = r := ⟨_, rfl⟩
    rw [hR] at CP ⊢
    unfold formV at CP ⊢
    obtain ⟨na, da, ea⟩ := a
    dsimp only at *
    clear hR hin a1 a2 a3 a4 a5 ha
    go_enter Tryz.func86, Tryz.ntmps86
    go_wp2_with fail
    refine (CO.out _).mono ?_
    rintro e w1 ⟨rfl, hb1⟩
    obtain ⟨hc1, hf1⟩ := bcell hb1
    have hl : w.heap.size + 1 < w1.heap.size := by have := hb1.size; (try simp at this); omega
    have hbw : Below w.heap.size w w1 := ext_trans (ext_trans (ext_alloc _ _) (ext_alloc _ _)) hb1
    have s0 := hc1 w.heap.size 0 (by simp; omega)
    have s1 := hc1 w.heap.size 1 (by simp; omega)
    have s2 := hc1 w.heap.size 2 (by simp; omega)
    have s3 := hc1 (w.heap.size + 1) 0 (by simp)
    have s4 := hc1 (w.heap.size + 1) 1 (by simp)
    have s5 := hc1 (w.heap.size + 1) 2 (by simp)
    have z3 := hf1 (w.heap.size + 1) 0 (by simp)
    have z4 := hf1 (w.heap.size + 1) 1 (by simp)
    have z5 := hf1 (w.heap.size + 1) 2 (by simp)
    simp at s0 s1 s2 s3 s4 s5 z3 z4 z5
    clear hc1 hf1 hb1
    go_wp2_with (go_at_call 39; refine (within_any _ _ _ _).mono ?_; rintro e wi ⟨rfl, rfl⟩)
    refine (CP.out _).mono ?_
    rintro e w2 ⟨rfl, hb2⟩
    obtain ⟨hc2, hf2⟩ := bcell hb2
    have hl2 : w.heap.size + 1 < w2.heap.size := Nat.lt_of_lt_of_le hl hb2.size
    have q0 := (hc2 (w.heap.size + 1) 0 hl).trans s3
    have q1 := (hc2 (w.heap.size + 1) 1 hl).trans s4
    have q2 := (hc2 (w.heap.size + 1) 2 hl).trans s5
    have f0 := (hf2 (w.heap.size + 1) 0 hl).trans z3
    have f1 := (hf2 (w.heap.size + 1) 1 hl).trans z4
    have f2 := (hf2 (w.heap.size + 1) 2 hl).trans z5
    have bw := ext_trans hbw hb2
    clear hc2 hf2 s0 s1 s2 s3 s4 s5 z3 z4 z5 hbw hb2
    go_wp2
    refine bodyPost_ret (v := .tuple #[.agg #[.bool R.1.neg, .string R.1.dig, .int .i64 R.1.exp], .int .i64 R.2]) (by simp [results, Tryz.results86, go_sem, q0, q1, q2, f0, f1, f2, hl2]) rfl ⟨rfl, ?_⟩
    repeat' (first | (with_reducible exact bw) | (with_reducible refine Below.setCell ?_ ?_ _) | (simp; done) | (simp; omega) | omega)
  · have hb : inB (-99) n 99 = false := inB_false (by omega)
    rw [if_neg hin]
    obtain ⟨na, da, ea⟩ := a
    dsimp only at *
    clear hin a1 a2 a3 a4 a5 ha
    go_enter Tryz.func86, Tryz.ntmps86
    go_wp2_with fail
    refine (CO.out _).mono ?_
    rintro e w1 ⟨rfl, hb1⟩
    obtain ⟨hc1, hf1⟩ := bcell hb1
    have hl : w.heap.size + 1 < w1.heap.size := by have := hb1.size; (try simp at this); omega
    have hbw : Below w.heap.size w w1 := ext_trans (ext_trans (ext_alloc _ _) (ext_alloc _ _)) hb1
    have s0 := hc1 w.heap.size 0 (by simp; omega)
    have s1 := hc1 w.heap.size 1 (by simp; omega)
    have s2 := hc1 w.heap.size 2 (by simp; omega)
    have s3 := hc1 (w.heap.size + 1) 0 (by simp)
    have s4 := hc1 (w.heap.size + 1) 1 (by simp)
    have s5 := hc1 (w.heap.size + 1) 2 (by simp)
    have z3 := hf1 (w.heap.size + 1) 0 (by simp)
    have z4 := hf1 (w.heap.size + 1) 1 (by simp)
    have z5 := hf1 (w.heap.size + 1) 2 (by simp)
    simp at s0 s1 s2 s3 s4 s5 z3 z4 z5
    clear hc1 hf1 hb1
    go_wp2_with (go_at_call 39; refine (within_any _ _ _ _).mono ?_; rintro e wi ⟨rfl, rfl⟩)
    refine bodyPost_ret (v := .tuple #[.agg #[.bool false, .string ⟨#[]⟩, .int .i64 0], .int .i64 3]) (by simp [results, Tryz.results86, go_sem, s3, s4, s5, z3, z4, z5, hl]) rfl ⟨rfl, ?_⟩
    repeat' (first | (with_reducible exact hbw) | (with_reducible refine Below.setCell ?_ ?_ _) | (simp; done) | (simp; omega) | omega)
end Go.Proofs.YthfmhenphnllfaaGreatDoor

namespace Go.Proofs.YthfmhenphnllfaaGreatDoor
open Go.RowKit
set_option linter.unusedVariables false
set_option linter.unusedSimpArgs false
set_option maxHeartbeats 16000000 in
set_option maxRecDepth 100000 in
theorem implDecMod (a b : Dec) (w : World) (ha : decOk a = true) (hb : decOk b = true) :
    Calls Tryz.prog 84 #[.agg #[.bool a.neg, .string a.dig, .int .i64 a.exp], .agg #[.bool b.neg, .string b.dig, .int .i64 b.exp]] w fun e w' => e = .returned (formV (modD a b)) ∧ Below w.heap.size w w' := by
  obtain ⟨a1, a2, a3, a4, a5⟩ := ok_facts ha
  obtain ⟨b1, b2, b3, b4, b5⟩ := ok_facts hb
  by_cases hz : b.dig.size = 0
  · have HR := hid (show modD a b = (dec0, 2) by unfold modD; rw [if_pos hz])
    have g1 : (b.dig.toList == []) = true := by rw [ba_nil hz, Lib.toList_data]; rfl
    have g2 : b.dig.toList.isEmpty = true := by rw [empty_size, decide_eq_true hz]
    clear hz
    obtain ⟨na, da, ea⟩ := a
    obtain ⟨nb, db, eb⟩ := b
    dsimp only at *
    clear a1 a2 a3 a4 a5 b1 b2 b3 b4 b5 ha hb
    have X0 := hid (box3_start w na da ea nb db eb)
    obtain ⟨s0, s1, s2, s3, s4, s5, s6, s7, s8, r0, r1, r2, bw, lt⟩ := X0.out
    go_enter Tryz.func84, Tryz.ntmps84
    go_wp2
    refine bodyPost_ret (v := .tuple #[.agg #[.bool false, .string ⟨#[]⟩, .int .i64 0], .int .i64 2]) (by simp [results, Tryz.results84, go_sem, s0, s1, s2, s3, s4, s5, s6, s7, s8, r0, r1, r2, lt]) rfl ⟨by rw [HR.out]; rfl, ?_⟩
    repeat' (first | (with_reducible exact bw) | (with_reducible refine Below.setCell ?_ ?_ _) | (simp; done) | (simp; omega) | omega)
  have hle := lowE_le a.exp b.exp
  have CA := hid (fun (w : World) => implAligned a.neg b.neg a.dig b.dig a.exp b.exp w (by omega) (by omega) (by omega) (by omega) a4 b4)
  have hv1 : vD (shfB a.dig (a.exp - lowE a.exp b.exp).toNat).data.toList = valX a (lowE a.exp b.exp) := shfB_val a.dig (a.exp - lowE a.exp b.exp).toNat
  have hv2 : vD (shfB b.dig (b.exp - lowE a.exp b.exp).toNat).data.toList = valX b (lowE a.exp b.exp) := shfB_val b.dig (b.exp - lowE a.exp b.exp).toNat
  obtain ⟨p1, p2⟩ := shfB_trim ha (a.exp - lowE a.exp b.exp).toNat
  obtain ⟨p3, p4⟩ := shfB_trim hb (b.exp - lowE a.exp b.exp).toNat
  have hsz : ∀ (d : ByteArray) (n : Nat), d.size ≤ 20 → n ≤ 400 → (shfB d n).size ≤ 450 := fun d n h1 h2 => by
    unfold shfB
    split
    · exact Nat.le_trans (show (⟨#[48]⟩ : ByteArray).size ≤ 1 by decide) (by decide)
    · have h1 := dgB_size d
      rw [ByteArray.size_append, zeroB_size]
      omega
  have hs1 := hsz a.dig (a.exp - lowE a.exp b.exp).toNat a1 (by omega)
  have hs2 := hsz b.dig (b.exp - lowE a.exp b.exp).toNat b1 (by omega)
  have hXl : ∀ v : Nat, v ≤ valX a (lowE a.exp b.exp) → (natL v).length ≤ 450 := fun v h => by
    have e := nat_of_trim p1 p2
    rw [hv1] at e
    refine Nat.le_trans (natL_len_mono h) ?_
    rw [← e, ← Lib.size_eq]
    exact hs1
  have hYl : ∀ v : Nat, v ≤ valX b (lowE a.exp b.exp) → (natL v).length ≤ 450 := fun v h => by
    have e := nat_of_trim p3 p4
    rw [hv2] at e
    refine Nat.le_trans (natL_len_mono h) ?_
    rw [← e, ← Lib.size_eq]
    exact hs2
  have hY0 : 0 < valX b (lowE a.exp b.exp) := by
    have := mt (valX_zero hb (lowE a.exp b.exp)).1 hz
    omega
  have g1 : (b.dig.toList == []) = false := ba_nil_beq hz
  have g2 : b.dig.toList.isEmpty = false := by rw [empty_size, decide_eq_false hz]
  have CDV := hid (fun (w : World) => implDiv (shfB a.dig (a.exp - lowE a.exp b.exp).toNat) (shfB b.dig (b.exp - lowE a.exp b.exp).toNat) w p1 p3 p4 (by rw [hv2]; exact hY0) (by omega) (by omega))
  rw [hv1, hv2] at CDV
  have CF := hid (fun (w : World) => implNormal a.neg (mkB (natL (valX a (lowE a.exp b.exp) % valX b (lowE a.exp b.exp)))) (lowE a.exp b.exp) w (natL_mkB_digits _) (by rw [mkB_size]; exact Nat.le_trans (hXl _ (Nat.mod_le _ _)) (by decide)) (by omega))
  rw [mkB_data] at CF
  have hR0 : formD a.neg (natL (valX a (lowE a.exp b.exp) % valX b (lowE a.exp b.exp))) (lowE a.exp b.exp) = modD a b := by unfold modD; rw [if_neg hz]
  rw [hR0] at CF
  obtain ⟨R, hR⟩ : ∃ r, modD a b = r := ⟨_, rfl⟩
  rw [hR] at CF ⊢
  unfold formV at CF ⊢
  obtain ⟨x, hx⟩ : ∃ x, shfB a.dig (a.exp - lowE a.exp b.exp).toNat = x := ⟨_, rfl⟩
  obtain ⟨y, hy⟩ : ∃ y, shfB b.dig (b.exp - lowE a.exp b.exp).toNat = y := ⟨_, rfl⟩
  obtain ⟨le, hlee⟩ : ∃ y, lowE a.exp b.exp = y := ⟨_, rfl⟩
  rw [hx, hy] at CA CDV
  rw [hlee] at CA CDV CF
  obtain ⟨QB, hQB⟩ : ∃ x, mkB (natL (valX a le / valX b le)) = x := ⟨_, rfl⟩
  obtain ⟨RB, hRB⟩ : ∃ x, mkB (natL (valX a le % valX b le)) = x := ⟨_, rfl⟩
  rw [hQB, hRB] at CDV
  rw [hRB] at CF
  obtain ⟨na, da, ea⟩ := a
  obtain ⟨nb, db, eb⟩ := b
  dsimp only at *
  clear a1 a3 a4 a5 b1 b3 b4 b5 ha hb hle hv1 hv2 p1 p2 p3 p4 hsz hs1 hs2 hXl hYl hY0 hR0 hR hx hy hQB hRB hz hlee a2 b2
  have X0 := hid (box3_start w na da ea nb db eb)
  obtain ⟨s0, s1, s2, s3, s4, s5, s6, s7, s8, r0, r1, r2, bw, lt⟩ := X0.out
  go_enter Tryz.func84, Tryz.ntmps84
  go_wp2_with fail
  refine (CA.out _).mono ?_
  rintro e' w1 ⟨rfl, hb1⟩
  have X1 := hid (X0.out.call hb1)
  clear s0 s1 s2 s3 s4 s5 s6 s7 s8 r0 r1 r2 bw lt
  obtain ⟨s0, s1, s2, s3, s4, s5, s6, s7, s8, r0, r1, r2, bw, lt⟩ := X1.out
  clear hb1
  go_wp2_with fail
  refine (CDV.out _).mono ?_
  rintro e' w2 ⟨rfl, hb2⟩
  have X2 := hid (X1.out.call hb2)
  clear s0 s1 s2 s3 s4 s5 s6 s7 s8 r0 r1 r2 bw lt
  obtain ⟨s0, s1, s2, s3, s4, s5, s6, s7, s8, r0, r1, r2, bw, lt⟩ := X2.out
  clear hb2
  go_wp2_with fail
  refine (CF.out _).mono ?_
  rintro e' w3 ⟨rfl, hb3⟩
  have X3 := hid (X2.out.call hb3)
  clear s0 s1 s2 s3 s4 s5 s6 s7 s8 r0 r1 r2 bw lt
  obtain ⟨s0, s1, s2, s3, s4, s5, s6, s7, s8, r0, r1, r2, bw, lt⟩ := X3.out
  clear hb3
  go_wp2_with fail
  refine bodyPost_ret (v := .tuple #[.agg #[.bool R.1.neg, .string R.1.dig, .int .i64 R.1.exp], .int .i64 R.2]) (by simp [results, Tryz.results84, go_sem, s0, s1, s2, s3, s4, s5, s6, s7, s8, r0, r1, r2, lt]) rfl ⟨rfl, ?_⟩
  repeat' (first | (with_reducible exact bw) | (with_reducible refine Below.setCell ?_ ?_ _) | (simp; done) | (simp; omega) | omega)
end Go.Proofs.YthfmhenphnllfaaGreatDoor

namespace Go.Proofs.YthfmhenphnllfaaGreatDoor
open Go.RowKit
set_option linter.unusedVariables false
set_option linter.unusedSimpArgs false

def k18 : ByteArray := ⟨#[49, 48, 48, 48, 48, 48, 48, 48, 48, 48, 48, 48, 48, 48, 48, 48, 48, 48, 48]⟩
theorem k18_val : vD k18.data.toList = 1000000000000000000 ∧ k18.size = 19 := ⟨by decide, by decide⟩
theorem k18_digits : digits k18.data.toList := by
  intro c hc
  have : ∀ c ∈ k18.data.toList, 48 ≤ c.toNat ∧ c.toNat ≤ 57 := by decide
  exact this c hc
/-- a number's digits and the noughts behind them -/
theorem whole_facts {d : Dec} (h : decOk d = true) (hz : ¬ d.dig.size = 0) {m : Nat} (hm : d.exp = (m : Int)) :
    digits (d.dig ++ zeroB m).data.toList ∧ trimL (d.dig ++ zeroB m).data.toList = (d.dig ++ zeroB m).data.toList ∧ vD (d.dig ++ zeroB m).data.toList = wholeN d ∧ 10 ^ (d.dig.size + m - 1) ≤ wholeN d ∧ wholeN d < 10 ^ (d.dig.size + m) ∧ (d.dig ++ zeroB m).size = d.dig.size + m ∧ (d.dig.toList == [48]) = false := by
  obtain ⟨a1, a2, a3, a4, a5⟩ := ok_facts h
  obtain ⟨c, r, h1, h2⟩ := ok_head h hz
  have hd : dgB d.dig = d.dig := by unfold dgB; rw [if_neg hz]
  rw [hd] at a3
  have e : (d.dig ++ zeroB m).data.toList = d.dig.data.toList ++ zeroL m := by rw [ByteArray.data_append, Array.toList_append]; rfl
  have hv : vD (d.dig.data.toList ++ zeroL m) = wholeN d := by
    rw [vD_append, vD_zeros, zeroL_len, Nat.add_zero]
    unfold wholeN
    rw [hm]
    rfl
  have hl : (d.dig.data.toList ++ zeroL m).length = d.dig.size + m := by rw [List.length_append, zeroL_len, Lib.size_eq]
  rw [e]
  refine ⟨digits_append_zeros a3 m, by rw [h1, List.cons_append]; exact trimL_head _ h2, hv, ?_, ?_, by rw [Lib.size_eq, e, hl], trimL_beq a4⟩
  · rw [← hv, ← hl, h1, List.cons_append]
    have := vD_pos (c := c) (r := r ++ zeroL m) (by rw [← List.cons_append, ← h1]; exact digits_append_zeros a3 m) h2
    rw [List.length_cons, Nat.add_sub_cancel]
    exact this
  · rw [← hv, ← hl]
    exact vD_lt (digits_append_zeros a3 m)
theorem whole_small {L v : Nat} (h1 : 10 ^ (L - 1) ≤ v) (h2 : v < 10 ^ L) (hL : 1 ≤ L) : (v ≤ 1000000000000000000 ↔ (L ≤ 18 ∨ (L = 19 ∧ v = 1000000000000000000))) := by
  have e18 : (10 : Nat) ^ 18 = 1000000000000000000 := by decide
  have e19 : (10 : Nat) ^ 19 = 10000000000000000000 := by decide
  rcases Nat.lt_trichotomy L 19 with h | h | h
  · have : (10 : Nat) ^ L ≤ 10 ^ 18 := Nat.pow_le_pow_right (by decide) (by omega)
    omega
  · subst h
    rw [show 19 - 1 = 18 from rfl] at h1
    omega
  · have : (10 : Nat) ^ 19 ≤ 10 ^ (L - 1) := Nat.pow_le_pow_right (by decide) (by omega)
    omega
theorem whole_k18 {d : Dec} (h : decOk d = true) (hz : ¬ d.dig.size = 0) {m : Nat} (hm : d.exp = (m : Int)) (hL : d.dig.size + m = 19) : wholeN d = 1000000000000000000 ↔ d.dig ++ zeroB m = k18 := by
  obtain ⟨w1, w2, w3, w4, w5, w6, w7⟩ := whole_facts h hz hm
  constructor
  · intro he
    apply ba_list
    refine dig_eq _ _ w1 k18_digits ?_ (by rw [w3, he, k18_val.1])
    rw [← Lib.size_eq, ← Lib.size_eq, w6, hL, k18_val.2]
  · intro he
    rw [← w3, he, k18_val.1]
set_option maxHeartbeats 8000000 in
set_option maxRecDepth 100000 in
theorem implWhole (a : Dec) (w : World) (ha : decOk a = true) :
    Calls Tryz.prog 85 #[.agg #[.bool a.neg, .string a.dig, .int .i64 a.exp]] w fun e w' => e = .returned (.tuple #[.int .i64 (wholeD a).1, .bool (wholeD a).2]) ∧ Below w.heap.size w w' := by
  obtain ⟨a1, a2, a3, a4, a5⟩ := ok_facts ha
  have CO : Hid (∀ w, Calls Tryz.prog 136 #[.agg #[.bool a.neg, .string a.dig, .int .i64 a.exp]] w fun e w' => e = .returned (.bool true) ∧ Below w.heap.size w w') := hid (fun w => by
    have h := implIsDec (d := a) (cs := #[.bool a.neg, .string a.dig, .int .i64 a.exp]) w (by exact rdDec_mk (x := a) (by omega) (by omega))
    rw [ha] at h
    exact h)
  by_cases hz : a.dig.size = 0
  · obtain ⟨e1, e2⟩ := a5 hz
    obtain ⟨neg, dig, exp⟩ := a
    dsimp only at *
    subst e1 e2
    obtain rfl := ba_nil hz
    have HR := hid (show wholeD ⟨false, ⟨#[]⟩, 0⟩ = (0, true) by decide)
    clear a1 a2 a3 a4 a5 hz ha
    go_enter Tryz.func85, Tryz.ntmps85
    go_wp2_with fail
    refine (CO.out _).mono ?_
    rintro e w1 ⟨rfl, hb1⟩
    obtain ⟨hc1, hf1⟩ := bcell hb1
    have hl : w.heap.size < w1.heap.size := by have := hb1.size; (try simp at this); omega
    have hbw : Below w.heap.size w w1 := ext_trans (ext_alloc _ _) hb1
    have s0 := hc1 w.heap.size 0 (by simp)
    have s1 := hc1 w.heap.size 1 (by simp)
    have s2 := hc1 w.heap.size 2 (by simp)
    simp at s0 s1 s2
    clear hc1 hf1 hb1
    go_wp2
    go_ret2
    rw [HR.out]
    exact ⟨rfl, hbw⟩
  by_cases hneg : a.exp < 0
  · have HR := hid (show wholeD a = (0, false) by unfold wholeD; rw [if_neg (by omega)])
    obtain ⟨neg, dig, exp⟩ := a
    dsimp only at *
    clear a1 a2 a3 a4 a5 hz ha
    go_enter Tryz.func85, Tryz.ntmps85
    go_wp2_with fail
    refine (CO.out _).mono ?_
    rintro e w1 ⟨rfl, hb1⟩
    obtain ⟨hc1, hf1⟩ := bcell hb1
    have hl : w.heap.size < w1.heap.size := by have := hb1.size; (try simp at this); omega
    have hbw : Below w.heap.size w w1 := ext_trans (ext_alloc _ _) hb1
    have s0 := hc1 w.heap.size 0 (by simp)
    have s1 := hc1 w.heap.size 1 (by simp)
    have s2 := hc1 w.heap.size 2 (by simp)
    simp at s0 s1 s2
    clear hc1 hf1 hb1
    go_wp2
    go_ret2
    rw [HR.out]
    exact ⟨rfl, hbw⟩
  obtain ⟨m, hm⟩ : ∃ m : Nat, a.exp = (m : Int) := ⟨a.exp.toNat, by omega⟩
  obtain ⟨w1, w2, w3, w4, w5, w6, w7⟩ := whole_facts ha hz hm
  have hsm := whole_small w4 w5 (by omega)
  by_cases hbig : 18 < m
  · have HR := hid (show wholeD a = (0, false) by unfold wholeD; rw [if_neg (by omega)])
    have g1 : ¬ (m : Int) < 0 := by omega
    have g2 : (18 : Int) < (m : Int) := by omega
    obtain ⟨neg, dig, exp⟩ := a
    dsimp only at *
    subst hm
    clear a1 a2 a3 a4 a5 hz ha w1 w2 w3 w4 w5 w6 w7 hsm hneg hbig
    go_enter Tryz.func85, Tryz.ntmps85
    go_wp2_with fail
    refine (CO.out _).mono ?_
    rintro e w1 ⟨rfl, hb1⟩
    obtain ⟨hc1, hf1⟩ := bcell hb1
    have hl : w.heap.size < w1.heap.size := by have := hb1.size; (try simp at this); omega
    have hbw : Below w.heap.size w w1 := ext_trans (ext_alloc _ _) hb1
    have s0 := hc1 w.heap.size 0 (by simp)
    have s1 := hc1 w.heap.size 1 (by simp)
    have s2 := hc1 w.heap.size 2 (by simp)
    simp at s0 s1 s2
    clear hc1 hf1 hb1
    go_wp2
    go_ret2
    rw [HR.out]
    exact ⟨rfl, hbw⟩
  have g1 : ¬ (m : Int) < 0 := by omega
  have g2 : ¬ (18 : Int) < (m : Int) := by omega
  have CS := hid (fun (w : World) => implShift a.dig m w (by omega) (by omega) w7)
  have CC := hid (fun (w : World) => implNatCmp (a.dig ++ zeroB m) k18 w w1 k18_digits w2 (by decide))
  rw [w3, k18_val.1] at CC
  have g3 : (a.dig.toList == []) = false := ba_nil_beq hz
  have g4 : a.dig.toList.isEmpty = false := by rw [empty_size, decide_eq_false hz]
  by_cases hv : wholeN a ≤ 1000000000000000000
  · have hsg : sgn3 (wholeN a) 1000000000000000000 = -1 ∨ sgn3 (wholeN a) 1000000000000000000 = 0 := by
      unfold sgn3
      split
      · left; rfl
      · right; rw [if_pos (by omega)]
    have CT : Hid (∀ w, Calls Tryz.prog 137 #[.string (a.dig ++ zeroB m)] w fun e w' => e = .returned (.tuple #[.int .i64 (wholeN a : Int), .nilIface]) ∧ Below w.heap.size w w') := hid (fun w => by
      rcases hsm.1 hv with h | ⟨h, h'⟩
      · refine (Tryz.strconv_Atoi (a.dig ++ zeroB m) (wholeN a : Int) (by omega) (by rw [atoi_digits w1 (by intro h0; rw [← List.length_eq_zero_iff, ← Lib.size_eq] at h0; omega), ← w3]; rfl) w).mono ?_
        rintro e w' ⟨rfl, tt, rfl⟩
        exact ⟨rfl, Lib.bytesWorld_below _ _ _⟩
      · have hk := (whole_k18 ha hz hm h).1 h'
        rw [hk, h']
        refine (Tryz.strconv_Atoi_ok k18 (by rw [k18_val.2]; decide) 1000000000000000000 (by decide) w).mono ?_
        rintro e w' ⟨rfl, rfl | ⟨tt, rfl⟩⟩
        · exact ⟨rfl, Below.refl _ _⟩
        · exact ⟨rfl, Lib.bytesWorld_below _ _ _⟩)
    have HR := hid (show wholeD a = (if a.neg = true then -(wholeN a : Int) else (wholeN a : Int), true) by unfold wholeD; rw [if_pos ⟨by omega, hv⟩])
    obtain ⟨sg, hsge⟩ : ∃ s, sgn3 (wholeN a) 1000000000000000000 = s := ⟨_, rfl⟩
    rw [hsge] at CC hsg
    obtain ⟨W, hW⟩ : ∃ v, wholeN a = v := ⟨_, rfl⟩
    obtain ⟨S, hS⟩ : ∃ v, a.dig ++ zeroB m = v := ⟨_, rfl⟩
    rw [hW] at CT HR hv
    rw [hS] at CS CC CT
    have g5 : ¬ (0 : Int) < sg := by omega
    have g6 : IntKind.i64.wrap (-(W : Int)) = -(W : Int) := IntWalk.i64_in _ (by omega)
    unfold k18 at CC
    obtain ⟨neg, dig, exp⟩ := a
    dsimp only at *
    subst hm
    clear a1 a2 a3 a4 a5 hz ha w1 w2 w3 w4 w5 w6 w7 hsm hneg hbig hW hS hsge hsg
    cases neg
    · go_enter Tryz.func85, Tryz.ntmps85
      go_wp2_with fail
      refine (CO.out _).mono ?_
      rintro e w1 ⟨rfl, hb1⟩
      obtain ⟨hc1, hf1⟩ := bcell hb1
      have hl : w.heap.size < w1.heap.size := by have := hb1.size; (try simp at this); omega
      have hbw : Below w.heap.size w w1 := ext_trans (ext_alloc _ _) hb1
      have s0 := hc1 w.heap.size 0 (by simp)
      have s1 := hc1 w.heap.size 1 (by simp)
      have s2 := hc1 w.heap.size 2 (by simp)
      simp at s0 s1 s2
      clear hc1 hf1 hb1
      go_wp2_with fail
      refine (CS.out _).mono ?_
      rintro e w2 ⟨rfl, hb2⟩
      replace s0 := keeps_cells hb2 _ _ s0
      replace s1 := keeps_cells hb2 _ _ s1
      replace s2 := keeps_cells hb2 _ _ s2
      replace hbw := ext_trans hbw hb2
      replace hl := Nat.lt_of_lt_of_le hl hb2.size
      clear hb2
      go_wp2_with fail
      refine (CC.out _).mono ?_
      rintro e w3 ⟨rfl, hb3⟩
      replace s0 := keeps_cells hb3 _ _ s0
      replace s1 := keeps_cells hb3 _ _ s1
      replace s2 := keeps_cells hb3 _ _ s2
      replace hbw := ext_trans hbw hb3
      replace hl := Nat.lt_of_lt_of_le hl hb3.size
      clear hb3
      go_wp2_with fail
      refine (CT.out _).mono ?_
      rintro e w4 ⟨rfl, hb4⟩
      replace s0 := keeps_cells hb4 _ _ s0
      replace s1 := keeps_cells hb4 _ _ s1
      replace s2 := keeps_cells hb4 _ _ s2
      replace hbw := ext_trans hbw hb4
      replace hl := Nat.lt_of_lt_of_le hl hb4.size
      clear hb4
      go_wp2
      go_ret2
      rw [HR.out]
      exact ⟨rfl, hbw⟩
    · go_enter Tryz.func85, Tryz.ntmps85
      go_wp2_with fail
      refine (CO.out _).mono ?_
      rintro e w1 ⟨rfl, hb1⟩
      obtain ⟨hc1, hf1⟩ := bcell hb1
      have hl : w.heap.size < w1.heap.size := by have := hb1.size; (try simp at this); omega
      have hbw : Below w.heap.size w w1 := ext_trans (ext_alloc _ _) hb1
      have s0 := hc1 w.heap.size 0 (by simp)
      have s1 := hc1 w.heap.size 1 (by simp)
      have s2 := hc1 w.heap.size 2 (by simp)
      simp at s0 s1 s2
      clear hc1 hf1 hb1
      go_wp2_with fail
      refine (CS.out _).mono ?_
      rintro e w2 ⟨rfl, hb2⟩
      replace s0 := keeps_cells hb2 _ _ s0
      replace s1 := keeps_cells hb2 _ _ s1
      replace s2 := keeps_cells hb2 _ _ s2
      replace hbw := ext_trans hbw hb2
      replace hl := Nat.lt_of_lt_of_le hl hb2.size
      clear hb2
      go_wp2_with fail
      refine (CC.out _).mono ?_
      rintro e w3 ⟨rfl, hb3⟩
      replace s0 := keeps_cells hb3 _ _ s0
      replace s1 := keeps_cells hb3 _ _ s1
      replace s2 := keeps_cells hb3 _ _ s2
      replace hbw := ext_trans hbw hb3
      replace hl := Nat.lt_of_lt_of_le hl hb3.size
      clear hb3
      go_wp2_with fail
      refine (CT.out _).mono ?_
      rintro e w4 ⟨rfl, hb4⟩
      replace s0 := keeps_cells hb4 _ _ s0
      replace s1 := keeps_cells hb4 _ _ s1
      replace s2 := keeps_cells hb4 _ _ s2
      replace hbw := ext_trans hbw hb4
      replace hl := Nat.lt_of_lt_of_le hl hb4.size
      clear hb4
      go_wp2
      go_ret2
      rw [HR.out]
      exact ⟨rfl, hbw⟩
  · have hsg : sgn3 (wholeN a) 1000000000000000000 = 1 := by
      unfold sgn3
      rw [if_neg (by omega), if_neg (by omega)]
    have HR := hid (show wholeD a = (0, false) by unfold wholeD; rw [if_neg (fun h => hv h.2)])
    rw [hsg] at CC
    obtain ⟨S, hS⟩ : ∃ v, a.dig ++ zeroB m = v := ⟨_, rfl⟩
    rw [hS] at CS CC
    unfold k18 at CC
    obtain ⟨neg, dig, exp⟩ := a
    dsimp only at *
    subst hm
    clear a1 a2 a3 a4 a5 hz ha w1 w2 w3 w4 w5 w6 w7 hsm hneg hbig hS hsg hv
    go_enter Tryz.func85, Tryz.ntmps85
    go_wp2_with fail
    refine (CO.out _).mono ?_
    rintro e w1 ⟨rfl, hb1⟩
    obtain ⟨hc1, hf1⟩ := bcell hb1
    have hl : w.heap.size < w1.heap.size := by have := hb1.size; (try simp at this); omega
    have hbw : Below w.heap.size w w1 := ext_trans (ext_alloc _ _) hb1
    have s0 := hc1 w.heap.size 0 (by simp)
    have s1 := hc1 w.heap.size 1 (by simp)
    have s2 := hc1 w.heap.size 2 (by simp)
    simp at s0 s1 s2
    clear hc1 hf1 hb1
    go_wp2_with fail
    refine (CS.out _).mono ?_
    rintro e w2 ⟨rfl, hb2⟩
    replace s0 := keeps_cells hb2 _ _ s0
    replace s1 := keeps_cells hb2 _ _ s1
    replace s2 := keeps_cells hb2 _ _ s2
    replace hbw := ext_trans hbw hb2
    replace hl := Nat.lt_of_lt_of_le hl hb2.size
    clear hb2
    go_wp2_with fail
    refine (CC.out _).mono ?_
    rintro e w3 ⟨rfl, hb3⟩
    replace s0 := keeps_cells hb3 _ _ s0
    replace s1 := keeps_cells hb3 _ _ s1
    replace s2 := keeps_cells hb3 _ _ s2
    replace hbw := ext_trans hbw hb3
    replace hl := Nat.lt_of_lt_of_le hl hb3.size
    clear hb3
    go_wp2
    go_ret2
    rw [HR.out]
    exact ⟨rfl, hbw⟩
theorem wholeV_take {s : ByteArray} (hd : digits s.data.toList) {k : Nat} (h : k < s.size) : vD (s.data.toList.take (k + 1)) = 10 * vD (s.data.toList.take k) + (s[k].toNat - 48) ∧ 48 ≤ s[k].toNat ∧ s[k].toNat ≤ 57 := by
  have hl : k < s.data.toList.length := by rw [← size_list]; exact h
  have e := take_val (a := s.data.toList) k hl
  have hg : s.data.toList.getD k 0 = s[k] := by
    rw [List.getD_eq_getElem?_getD, List.getElem?_eq_getElem hl]
    rfl
  rw [hg] at e
  exact ⟨e, hd _ (by rw [← get_list s k h]; exact List.getElem_mem _)⟩
theorem take_mono {l : List UInt8} (k : Nat) : vD (l.take k) ≤ vD l := by
  have h := vD_append (l.take k) (l.drop k)
  rw [List.take_append_drop] at h
  rw [h]
  have : vD (l.take k) * 1 ≤ vD (l.take k) * 10 ^ (l.drop k).length := Nat.mul_le_mul_left _ (Nat.pow_pos (by decide))
  omega
set_option maxHeartbeats 8000000 in
set_option maxRecDepth 100000 in
theorem specWhole (a : Dec) (w : World) (ha : decOk a = true) :
    Calls Tryz.prog 35 #[.agg #[.bool a.neg, .string a.dig, .int .i64 a.exp]] w fun e w' => e = .returned (.tuple #[.int .i64 (wholeD a).1, .bool (wholeD a).2]) ∧ Below w.heap.size w w' := by
  obtain ⟨a1, a2, a3, a4, a5⟩ := ok_facts ha
  have CO : Hid (∀ w, Calls Tryz.prog 67 #[.agg #[.bool a.neg, .string a.dig, .int .i64 a.exp]] w fun e w' => e = .returned (.bool true) ∧ Below w.heap.size w w') := hid (fun w => by
    have h := specDecOk (d := a) (cs := #[.bool a.neg, .string a.dig, .int .i64 a.exp]) w (by exact rdDec_mk (x := a) (by omega) (by omega))
    rw [ha] at h
    exact h)
  by_cases hneg : a.exp < 0
  · have HR := hid (show wholeD a = (0, false) by unfold wholeD; rw [if_neg (by omega)])
    obtain ⟨neg, dig, exp⟩ := a
    dsimp only at *
    clear a1 a2 a3 a4 a5 ha
    go_enter Tryz.func35, Tryz.ntmps35
    go_wp2_with fail
    refine (CO.out _).mono ?_
    rintro e w1 ⟨rfl, hb1⟩
    obtain ⟨hc1, hf1⟩ := bcell hb1
    have hl : w.heap.size < w1.heap.size := by have := hb1.size; (try simp at this); omega
    have hbw : Below w.heap.size w w1 := ext_trans (ext_alloc _ _) hb1
    have s0 := hc1 w.heap.size 0 (by simp)
    have s1 := hc1 w.heap.size 1 (by simp)
    have s2 := hc1 w.heap.size 2 (by simp)
    simp at s0 s1 s2
    clear hc1 hf1 hb1
    go_wp2
    go_ret2
    rw [HR.out]
    exact ⟨rfl, hbw⟩
  obtain ⟨m, hm⟩ : ∃ m : Nat, a.exp = (m : Int) := ⟨a.exp.toNat, by omega⟩
  have g1 : ¬ (m : Int) < 0 := by omega
  obtain ⟨dz, hdz⟩ : ∃ n, a.dig.size = n := ⟨_, rfl⟩
  have hws : IntKind.i64.wrap ((m : Int) + (dz : Int)) = (m : Int) + (dz : Int) := IntWalk.i64_in _ (by omega)
  -- what the digits and the noughts are
  have hkey : (19 < dz + m ∧ wholeD a = (0, false)) ∨ (dz + m ≤ 19 ∧ ∃ v : Nat, vD (a.dig ++ zeroB m).data.toList = v ∧ digits (a.dig ++ zeroB m).data.toList ∧ (a.dig ++ zeroB m).size = dz + m ∧
      ((dz + m = 19 ∧ ¬ a.dig ++ zeroB m = k18 ∧ wholeD a = (0, false)) ∨ ((dz + m = 19 → a.dig ++ zeroB m = k18) ∧ v ≤ 1000000000000000000 ∧ wholeD a = (if a.neg = true then -(v : Int) else (v : Int), true)))) := by
    by_cases hz : a.dig.size = 0
    · obtain ⟨e1, e2⟩ := a5 hz
      have hm0 : m = 0 := by omega
      have hn := ba_nil hz
      right
      refine ⟨by omega, 0, ?_, ?_, ?_, Or.inr ⟨by omega, by decide, ?_⟩⟩
      · rw [hn, hm0]; rfl
      · rw [hn, hm0]; exact digits_nil
      · rw [hn, hm0, ← hdz, hn]; rfl
      · unfold wholeD wholeN
        rw [hn, e2]
        rfl
    · obtain ⟨w1, w2, w3, w4, w5, w6, w7⟩ := whole_facts ha hz hm
      have hsm := whole_small w4 w5 (by omega)
      by_cases hL : 19 < dz + m
      · left
        exact ⟨hL, by unfold wholeD; rw [if_neg (by omega)]⟩
      · right
        refine ⟨by omega, wholeN a, w3, w1, by omega, ?_⟩
        by_cases h19 : dz + m = 19
        · have hk := whole_k18 ha hz hm (by omega)
          by_cases hk2 : a.dig ++ zeroB m = k18
          · right
            exact ⟨fun _ => hk2, by rw [hk.2 hk2]; exact Nat.le_refl _, by unfold wholeD; rw [if_pos ⟨by omega, by rw [hk.2 hk2]; exact Nat.le_refl _⟩]⟩
          · left
            refine ⟨h19, hk2, ?_⟩
            unfold wholeD
            rw [if_neg]
            rintro ⟨_, h⟩
            rcases hsm.1 h with h' | ⟨_, h'⟩
            · omega
            · exact hk2 (hk.1 h')
        · right
          have hle : wholeN a ≤ 1000000000000000000 := hsm.2 (Or.inl (by omega))
          exact ⟨fun h => absurd h h19, hle, by unfold wholeD; rw [if_pos ⟨by omega, hle⟩]⟩
  rcases hkey with ⟨hL, hR⟩ | ⟨hL, v, hv, hdg, hss, hcase⟩
  · have HR := hid hR
    have g2 : (19 : Int) < (m : Int) + (dz : Int) := by omega
    obtain ⟨neg, dig, exp⟩ := a
    dsimp only at *
    subst hm
    clear a1 a2 a3 a4 a5 ha hR hneg
    go_enter Tryz.func35, Tryz.ntmps35
    go_wp2_with fail
    refine (CO.out _).mono ?_
    rintro e w1 ⟨rfl, hb1⟩
    obtain ⟨hc1, hf1⟩ := bcell hb1
    have hl : w.heap.size < w1.heap.size := by have := hb1.size; (try simp at this); omega
    have hbw : Below w.heap.size w w1 := ext_trans (ext_alloc _ _) hb1
    have s0 := hc1 w.heap.size 0 (by simp)
    have s1 := hc1 w.heap.size 1 (by simp)
    have s2 := hc1 w.heap.size 2 (by simp)
    simp at s0 s1 s2
    clear hc1 hf1 hb1
    go_wp2
    go_ret2
    rw [HR.out]
    exact ⟨rfl, hbw⟩
  have g2 : ¬ (19 : Int) < (m : Int) + (dz : Int) := by omega
  have CZ := hid (fun (w : World) => specZeros m w (by omega))
  have hzs := zeroB_size m
  obtain ⟨ZB, hZB⟩ : ∃ z, zeroB m = z := ⟨_, rfl⟩
  rw [hZB] at CZ hzs hv hdg hss hcase
  have hsum : ¬ 9223372036854775807 < dz + ZB.size := by omega
  obtain ⟨S, hS⟩ : ∃ s, a.dig ++ ZB = s := ⟨_, rfl⟩
  rw [hS] at hv hdg hss hcase
  have HS := hid hS
  have HZS := hid hzs
  have HDZ := hid hdz
  obtain ⟨neg, dig, exp⟩ := a
  dsimp only at *
  subst hm
  rcases hcase with ⟨h19, hk, hR⟩ | ⟨hk, hle, hR⟩
  · have HR := hid hR
    have g5 : (S.toList == k18.toList) = false := by rw [beq_eq_false_iff_ne]; exact fun h => hk (ba_toList_inj h)
    rw [show k18.toList = k18.data.toList from Lib.toList_data _] at g5
    have g5b : (S.toList != k18.data.toList) = true := by rw [bne, g5]; rfl
    unfold k18 at g5 g5b
    have g4 : ((S.size : Int) == 19) = true := by rw [beq_iff_eq]; omega
    clear a1 a2 a3 a4 a5 ha hR hneg hk hv hdg hZB hL h19 hS hzs hss
    go_enter Tryz.func35, Tryz.ntmps35
    go_wp2_with fail
    refine (CO.out _).mono ?_
    rintro e w1 ⟨rfl, hb1⟩
    obtain ⟨hc1, hf1⟩ := bcell hb1
    have hl : w.heap.size < w1.heap.size := by have := hb1.size; (try simp at this); omega
    have hbw : Below w.heap.size w w1 := ext_trans (ext_alloc _ _) hb1
    have s0 := hc1 w.heap.size 0 (by simp)
    have s1 := hc1 w.heap.size 1 (by simp)
    have s2 := hc1 w.heap.size 2 (by simp)
    simp at s0 s1 s2
    clear hc1 hf1 hb1
    go_wp2_with fail
    refine wp_region_held_drew (S := fun w' => w'.cell? ⟨w.heap.size, 0, none⟩ = some (.bool neg) ∧ w'.cell? ⟨w.heap.size, 1, none⟩ = some (.string dig) ∧ w'.cell? ⟨w.heap.size, 2, none⟩ = some (.int .i64 (m : Int))) (by kernel_rfl) ?_ (fun hHeld => ?_)
    · simp [*]
    refine wpAnyH_take (i := 0) (v := ?_) rfl (by kernel_rfl) (by kernel_rfl) (by kernel_rfl) (fun _ _ _ h => h) (Or.inl ⟨by rfl, ?_⟩) (by assumption) ?_
    rotate_left
    · (intro w' hSw; (try dsimp only at hSw); go_simp; try (with_reducible rfl))
    change wpAnyH _ _ _ _ _ _ _ (Act.put _ (some 24) _) _
    try simp only [Act.put, List.setIfInBounds_toArray, List.set_cons_zero, List.set_cons_succ]
    refine wpAnyH_take (i := 1) (v := ?_) rfl (by kernel_rfl) (by kernel_rfl) (by kernel_rfl) (fun _ _ _ h => h) (Or.inl ⟨by rfl, ?_⟩) (by assumption) ?_
    rotate_left
    · (intro w' hSw; (try dsimp only at hSw); go_simp; try (with_reducible rfl))
    change wpAnyH _ _ _ _ _ _ _ (Act.put _ (some 25) _) _
    try simp only [Act.put, List.setIfInBounds_toArray, List.set_cons_zero, List.set_cons_succ]
    refine wpAnyH_take (i := 2) (v := ?_) rfl (by kernel_rfl) (by kernel_rfl) (by kernel_rfl) (fun _ _ _ h => h) (Or.inl ⟨by rfl, ?_⟩) (by assumption) ?_
    rotate_left
    · (intro w' hSw; (try dsimp only at hSw); go_simp; try (with_reducible rfl))
    change wpAnyH _ _ _ _ _ _ _ (Act.put _ (some 26) _) _
    try simp only [Act.put, List.setIfInBounds_toArray, List.set_cons_zero, List.set_cons_succ]
    refine wpAnyH_take (i := 3) (v := ?_) rfl (by kernel_rfl) (by kernel_rfl) (by kernel_rfl) (fun _ _ _ h => h) (Or.inl ⟨by rfl, ?_⟩) (by assumption) ?_
    rotate_left
    · (intro w' hSw; (try dsimp only at hSw); go_simp; try (with_reducible rfl))
    change wpAnyH _ _ _ _ _ _ _ (Act.put _ (some 27) _) _
    try simp only [Act.put, List.setIfInBounds_toArray, List.set_cons_zero, List.set_cons_succ]
    refine wpAnyH_ready (rs := [4]) (by kernel_rfl) (by simp) ?_
    refine AllReadyH.cons (i := 4) rfl (fun K hK => ?_) AllReadyH.nil
    simp only [List.getElem_toArray, List.getElem_cons_succ, List.getElem_cons_zero]
    rw [if_pos (by rfl)]
    go_simp
    (go_at_call 74; refine (CZ.out _).mono ?_; rintro e w2 ⟨rfl, hb2⟩; replace hbw := ext_trans hbw.drew hb2; replace s0 := keeps_cells hb2 _ _ s0; replace s1 := keeps_cells hb2 _ _ s1; replace s2 := keeps_cells hb2 _ _ s2; replace hl := Nat.lt_of_lt_of_le hl hb2.size; clear hb2; go_wp2_with fail)
    have hOld := hHeld
    clear hHeld
    refine hK.out _ _ ?_ (fun hHeld => ?_)
    · (try dsimp only); simp [*]
    clear hK K hOld
    try simp only [Act.put, List.setIfInBounds_toArray, List.set_cons_zero, List.set_cons_succ]
    refine wpAnyH_take (i := 5) (v := ?_) rfl (by kernel_rfl) (by kernel_rfl) (by kernel_rfl) (fun _ _ _ h => h) (Or.inl ⟨by rfl, ?_⟩) (by assumption) ?_
    rotate_left
    · (intro w' hSw; (try dsimp only at hSw); go_simp; try (with_reducible rfl))
    change wpAnyH _ _ _ _ _ _ _ (Act.put _ (some 29) _) _
    try simp only [Act.put, List.setIfInBounds_toArray, List.set_cons_zero, List.set_cons_succ]
    refine wpAnyH_take (i := 6) (v := ?_) rfl (by kernel_rfl) (by kernel_rfl) (by kernel_rfl) (fun _ _ _ h => h) (Or.inl ⟨by rfl, ?_⟩) (by assumption) ?_
    rotate_left
    · (intro w' hSw; (try dsimp only at hSw); go_simp; try (with_reducible rfl))
    change wpAnyH _ _ _ _ _ _ _ (Act.put _ (some 4) _) _
    try simp only [Act.put, List.setIfInBounds_toArray, List.set_cons_zero, List.set_cons_succ]
    refine wpAnyH_done (by kernel_rfl) ?_ _
    clear hHeld
    rw [HS.out]
    go_wp2
    go_ret2
    rw [HR.out]
    exact ⟨rfl, hbw⟩
  · have HR := hid hR
    have HV := hid hv
    have HDG := hid hdg
    have hmono := fun k => take_mono (l := S.data.toList) k
    rw [hv] at hmono
    have HMO := hid hmono
    have hw6 : IntKind.i64.wrap (-(v : Int)) = -(v : Int) := IntWalk.i64_in _ (by omega)
    have g5 : S.size = 19 → (S.toList == k18.data.toList) = true ∧ (S.toList != k18.data.toList) = false := fun h => by
      have := hk (by omega)
      rw [this, Lib.toList_data]
      exact ⟨by simp, by simp⟩
    have HG5 := hid g5
    have hS19 : S.size ≤ 19 := by omega
    clear a1 a2 a3 a4 a5 ha hR hneg hk hv hdg hZB hL hS hzs g5 hmono hss
    cases neg
    · go_enter Tryz.func35, Tryz.ntmps35
      go_wp2_with fail
      refine (CO.out _).mono ?_
      rintro e w1 ⟨rfl, hb1⟩
      obtain ⟨hc1, hf1⟩ := bcell hb1
      have hl : w.heap.size < w1.heap.size := by have := hb1.size; (try simp at this); omega
      have hbw : Below w.heap.size w w1 := ext_trans (ext_alloc _ _) hb1
      have s0 := hc1 w.heap.size 0 (by simp)
      have s1 := hc1 w.heap.size 1 (by simp)
      have s2 := hc1 w.heap.size 2 (by simp)
      simp at s0 s1 s2
      clear hc1 hf1 hb1
      go_wp2_with fail
      refine wp_region_held_drew (S := fun w' => w'.cell? ⟨w.heap.size, 0, none⟩ = some (.bool false) ∧ w'.cell? ⟨w.heap.size, 1, none⟩ = some (.string dig) ∧ w'.cell? ⟨w.heap.size, 2, none⟩ = some (.int .i64 (m : Int))) (by kernel_rfl) ?_ (fun hHeld => ?_)
      · simp [*]
      refine wpAnyH_take (i := 0) (v := ?_) rfl (by kernel_rfl) (by kernel_rfl) (by kernel_rfl) (fun _ _ _ h => h) (Or.inl ⟨by rfl, ?_⟩) (by assumption) ?_
      rotate_left
      · (intro w' hSw; (try dsimp only at hSw); go_simp; try (with_reducible rfl))
      change wpAnyH _ _ _ _ _ _ _ (Act.put _ (some 24) _) _
      try simp only [Act.put, List.setIfInBounds_toArray, List.set_cons_zero, List.set_cons_succ]
      refine wpAnyH_take (i := 1) (v := ?_) rfl (by kernel_rfl) (by kernel_rfl) (by kernel_rfl) (fun _ _ _ h => h) (Or.inl ⟨by rfl, ?_⟩) (by assumption) ?_
      rotate_left
      · (intro w' hSw; (try dsimp only at hSw); go_simp; try (with_reducible rfl))
      change wpAnyH _ _ _ _ _ _ _ (Act.put _ (some 25) _) _
      try simp only [Act.put, List.setIfInBounds_toArray, List.set_cons_zero, List.set_cons_succ]
      refine wpAnyH_take (i := 2) (v := ?_) rfl (by kernel_rfl) (by kernel_rfl) (by kernel_rfl) (fun _ _ _ h => h) (Or.inl ⟨by rfl, ?_⟩) (by assumption) ?_
      rotate_left
      · (intro w' hSw; (try dsimp only at hSw); go_simp; try (with_reducible rfl))
      change wpAnyH _ _ _ _ _ _ _ (Act.put _ (some 26) _) _
      try simp only [Act.put, List.setIfInBounds_toArray, List.set_cons_zero, List.set_cons_succ]
      refine wpAnyH_take (i := 3) (v := ?_) rfl (by kernel_rfl) (by kernel_rfl) (by kernel_rfl) (fun _ _ _ h => h) (Or.inl ⟨by rfl, ?_⟩) (by assumption) ?_
      rotate_left
      · (intro w' hSw; (try dsimp only at hSw); go_simp; try (with_reducible rfl))
      change wpAnyH _ _ _ _ _ _ _ (Act.put _ (some 27) _) _
      try simp only [Act.put, List.setIfInBounds_toArray, List.set_cons_zero, List.set_cons_succ]
      refine wpAnyH_ready (rs := [4]) (by kernel_rfl) (by simp) ?_
      refine AllReadyH.cons (i := 4) rfl (fun K hK => ?_) AllReadyH.nil
      simp only [List.getElem_toArray, List.getElem_cons_succ, List.getElem_cons_zero]
      rw [if_pos (by rfl)]
      go_simp
      (go_at_call 74; refine (CZ.out _).mono ?_; rintro e w2 ⟨rfl, hb2⟩; replace hbw := ext_trans hbw.drew hb2; replace s0 := keeps_cells hb2 _ _ s0; replace s1 := keeps_cells hb2 _ _ s1; replace s2 := keeps_cells hb2 _ _ s2; replace hl := Nat.lt_of_lt_of_le hl hb2.size; clear hb2; go_wp2_with fail)
      have hOld := hHeld
      clear hHeld
      refine hK.out _ _ ?_ (fun hHeld => ?_)
      · (try dsimp only); simp [*]
      clear hK K hOld
      try simp only [Act.put, List.setIfInBounds_toArray, List.set_cons_zero, List.set_cons_succ]
      refine wpAnyH_take (i := 5) (v := ?_) rfl (by kernel_rfl) (by kernel_rfl) (by kernel_rfl) (fun _ _ _ h => h) (Or.inl ⟨by rfl, ?_⟩) (by assumption) ?_
      rotate_left
      · (intro w' hSw; (try dsimp only at hSw); go_simp; try (with_reducible rfl))
      change wpAnyH _ _ _ _ _ _ _ (Act.put _ (some 29) _) _
      try simp only [Act.put, List.setIfInBounds_toArray, List.set_cons_zero, List.set_cons_succ]
      refine wpAnyH_take (i := 6) (v := ?_) rfl (by kernel_rfl) (by kernel_rfl) (by kernel_rfl) (fun _ _ _ h => h) (Or.inl ⟨by rfl, ?_⟩) (by assumption) ?_
      rotate_left
      · (intro w' hSw; (try dsimp only at hSw); go_simp; try (with_reducible rfl))
      change wpAnyH _ _ _ _ _ _ _ (Act.put _ (some 4) _) _
      try simp only [Act.put, List.setIfInBounds_toArray, List.set_cons_zero, List.set_cons_succ]
      refine wpAnyH_done (by kernel_rfl) ?_ _
      clear hHeld
      rw [HS.out]
      have hdec : (((S.size : Int) == 19) = false) ∨ (((S.size : Int) == 19) = true ∧ (S.toList == k18.data.toList) = true ∧ (S.toList != k18.data.toList) = false) := by
        by_cases h : S.size = 19
        · right; exact ⟨by rw [beq_iff_eq]; omega, HG5.out h⟩
        · left; rw [beq_eq_false_iff_ne]; omega
      unfold k18 at hdec
      rcases hdec with g4 | ⟨g4, g6, g7⟩
      all_goals
        go_wp2
        go_loopw [5, 6] (fun nv ki wr => ∃ k : Nat, k ≤ S.size ∧ ki = .int .i64 (k : Int) ∧ nv = .int .i64 (vD (S.data.toList.take k) : Int) ∧ Below w.heap.size w wr ∧ wr.cell? ⟨w.heap.size, 0, none⟩ = some (.bool false)) (fun _ ki _ => S.size - (intOf ki).toNat)
        case atStart => exact ⟨0, Nat.zero_le _, rfl, rfl, hbw, s0⟩
        case round =>
          obtain ⟨k, hk, rfl, rfl, hbr, t0⟩ := hrel
          by_cases hlt : k < S.size
          · obtain ⟨hT, hc1, hc2⟩ := wholeV_take HDG.out hlt
            have hm1 := HMO.out (k + 1)
            have hm0 := HMO.out k
            have HT := hid hT
            obtain ⟨tk, htk⟩ : ∃ t, vD (S.data.toList.take k) = t := ⟨_, rfl⟩
            rw [htk] at HT hm0 hT ⊢
            rw [hT] at hm1
            obtain ⟨c, hc⟩ : ∃ c : UInt8, S[k] = c := ⟨_, rfl⟩
            rw [hc] at hc1 hc2 HT hm1
            have hix : (S[k] : UInt8).toNat = c.toNat := by rw [hc]
            have hu1 : IntKind.u8.wrap ((c.toNat : Int) - 48) = (c.toNat : Int) - 48 := by simp [IntKind.wrap, IntKind.bits, IntKind.signed]; omega
            have hu2 : ((c.toNat : Int) - 48) % 256 = (c.toNat : Int) - 48 := by omega
            have hw8 : IntKind.i64.wrap ((c.toNat : Int) - 48) = (c.toNat : Int) - 48 := IntWalk.i64_in _ (by omega)
            have hw7 : IntKind.i64.wrap (10 * (tk : Int)) = 10 * (tk : Int) := IntWalk.i64_in _ (by omega)
            have hw9 : IntKind.i64.wrap (10 * (tk : Int) + ((c.toNat : Int) - 48)) = 10 * (tk : Int) + ((c.toNat : Int) - 48) := IntWalk.i64_in _ (by omega)
            clear hT hc htk
            go_wp2
            go_roundw
            case rel => exact ⟨k + 1, by omega, by go_num, by rw [HT.out]; congr 1; omega, hbr, t0⟩
            case measure => simp [intOf]; omega
          · obtain rfl : k = S.size := by omega
            have HF := hid (show vD (S.data.toList.take S.size) = v by rw [Lib.size_eq, List.take_length, HV.out])
            rw [HF.out]
            go_wp2
            go_ret2
            rw [HR.out]
            exact ⟨rfl, hbr⟩
    · go_enter Tryz.func35, Tryz.ntmps35
      go_wp2_with fail
      refine (CO.out _).mono ?_
      rintro e w1 ⟨rfl, hb1⟩
      obtain ⟨hc1, hf1⟩ := bcell hb1
      have hl : w.heap.size < w1.heap.size := by have := hb1.size; (try simp at this); omega
      have hbw : Below w.heap.size w w1 := ext_trans (ext_alloc _ _) hb1
      have s0 := hc1 w.heap.size 0 (by simp)
      have s1 := hc1 w.heap.size 1 (by simp)
      have s2 := hc1 w.heap.size 2 (by simp)
      simp at s0 s1 s2
      clear hc1 hf1 hb1
      go_wp2_with fail
      refine wp_region_held_drew (S := fun w' => w'.cell? ⟨w.heap.size, 0, none⟩ = some (.bool true) ∧ w'.cell? ⟨w.heap.size, 1, none⟩ = some (.string dig) ∧ w'.cell? ⟨w.heap.size, 2, none⟩ = some (.int .i64 (m : Int))) (by kernel_rfl) ?_ (fun hHeld => ?_)
      · simp [*]
      refine wpAnyH_take (i := 0) (v := ?_) rfl (by kernel_rfl) (by kernel_rfl) (by kernel_rfl) (fun _ _ _ h => h) (Or.inl ⟨by rfl, ?_⟩) (by assumption) ?_
      rotate_left
      · (intro w' hSw; (try dsimp only at hSw); go_simp; try (with_reducible rfl))
      change wpAnyH _ _ _ _ _ _ _ (Act.put _ (some 24) _) _
      try simp only [Act.put, List.setIfInBounds_toArray, List.set_cons_zero, List.set_cons_succ]
      refine wpAnyH_take (i := 1) (v := ?_) rfl (by kernel_rfl) (by kernel_rfl) (by kernel_rfl) (fun _ _ _ h => h) (Or.inl ⟨by rfl, ?_⟩) (by assumption) ?_
      rotate_left
      · (intro w' hSw; (try dsimp only at hSw); go_simp; try (with_reducible rfl))
      change wpAnyH _ _ _ _ _ _ _ (Act.put _ (some 25) _) _
      try simp only [Act.put, List.setIfInBounds_toArray, List.set_cons_zero, List.set_cons_succ]
      refine wpAnyH_take (i := 2) (v := ?_) rfl (by kernel_rfl) (by kernel_rfl) (by kernel_rfl) (fun _ _ _ h => h) (Or.inl ⟨by rfl, ?_⟩) (by assumption) ?_
      rotate_left
      · (intro w' hSw; (try dsimp only at hSw); go_simp; try (with_reducible rfl))
      change wpAnyH _ _ _ _ _ _ _ (Act.put _ (some 26) _) _
      try simp only [Act.put, List.setIfInBounds_toArray, List.set_cons_zero, List.set_cons_succ]
      refine wpAnyH_take (i := 3) (v := ?_) rfl (by kernel_rfl) (by kernel_rfl) (by kernel_rfl) (fun _ _ _ h => h) (Or.inl ⟨by rfl, ?_⟩) (by assumption) ?_
      rotate_left
      · (intro w' hSw; (try dsimp only at hSw); go_simp; try (with_reducible rfl))
      change wpAnyH _ _ _ _ _ _ _ (Act.put _ (some 27) _) _
      try simp only [Act.put, List.setIfInBounds_toArray, List.set_cons_zero, List.set_cons_succ]
      refine wpAnyH_ready (rs := [4]) (by kernel_rfl) (by simp) ?_
      refine AllReadyH.cons (i := 4) rfl (fun K hK => ?_) AllReadyH.nil
      simp only [List.getElem_toArray, List.getElem_cons_succ, List.getElem_cons_zero]
      rw [if_pos (by rfl)]
      go_simp
      (go_at_call 74; refine (CZ.out _).mono ?_; rintro e w2 ⟨rfl, hb2⟩; replace hbw := ext_trans hbw.drew hb2; replace s0 := keeps_cells hb2 _ _ s0; replace s1 := keeps_cells hb2 _ _ s1; replace s2 := keeps_cells hb2 _ _ s2; replace hl := Nat.lt_of_lt_of_le hl hb2.size; clear hb2; go_wp2_with fail)
      have hOld := hHeld
      clear hHeld
      refine hK.out _ _ ?_ (fun hHeld => ?_)
      · (try dsimp only); simp [*]
      clear hK K hOld
      try simp only [Act.put, List.setIfInBounds_toArray, List.set_cons_zero, List.set_cons_succ]
      refine wpAnyH_take (i := 5) (v := ?_) rfl (by kernel_rfl) (by kernel_rfl) (by kernel_rfl) (fun _ _ _ h => h) (Or.inl ⟨by rfl, ?_⟩) (by assumption) ?_
      rotate_left
      · (intro w' hSw; (try dsimp only at hSw); go_simp; try (with_reducible rfl))
      change wpAnyH _ _ _ _ _ _ _ (Act.put _ (some 29) _) _
      try simp only [Act.put, List.setIfInBounds_toArray, List.set_cons_zero, List.set_cons_succ]
      refine wpAnyH_take (i := 6) (v := ?_) rfl (by kernel_rfl) (by kernel_rfl) (by kernel_rfl) (fun _ _ _ h => h) (Or.inl ⟨by rfl, ?_⟩) (by assumption) ?_
      rotate_left
      · (intro w' hSw; (try dsimp only at hSw); go_simp; try (with_reducible rfl))
      change wpAnyH _ _ _ _ _ _ _ (Act.put _ (some 4) _) _
      try simp only [Act.put, List.setIfInBounds_toArray, List.set_cons_zero, List.set_cons_succ]
      refine wpAnyH_done (by kernel_rfl) ?_ _
      clear hHeld
      rw [HS.out]
      have hdec : (((S.size : Int) == 19) = false) ∨ (((S.size : Int) == 19) = true ∧ (S.toList == k18.data.toList) = true ∧ (S.toList != k18.data.toList) = false) := by
        by_cases h : S.size = 19
        · right; exact ⟨by rw [beq_iff_eq]; omega, HG5.out h⟩
        · left; rw [beq_eq_false_iff_ne]; omega
      unfold k18 at hdec
      rcases hdec with g4 | ⟨g4, g6, g7⟩
      all_goals
        go_wp2
        go_loopw [5, 6] (fun nv ki wr => ∃ k : Nat, k ≤ S.size ∧ ki = .int .i64 (k : Int) ∧ nv = .int .i64 (vD (S.data.toList.take k) : Int) ∧ Below w.heap.size w wr ∧ wr.cell? ⟨w.heap.size, 0, none⟩ = some (.bool true)) (fun _ ki _ => S.size - (intOf ki).toNat)
        case atStart => exact ⟨0, Nat.zero_le _, rfl, rfl, hbw, s0⟩
        case round =>
          obtain ⟨k, hk, rfl, rfl, hbr, t0⟩ := hrel
          by_cases hlt : k < S.size
          · obtain ⟨hT, hc1, hc2⟩ := wholeV_take HDG.out hlt
            have hm1 := HMO.out (k + 1)
            have hm0 := HMO.out k
            have HT := hid hT
            obtain ⟨tk, htk⟩ : ∃ t, vD (S.data.toList.take k) = t := ⟨_, rfl⟩
            rw [htk] at HT hm0 hT ⊢
            rw [hT] at hm1
            obtain ⟨c, hc⟩ : ∃ c : UInt8, S[k] = c := ⟨_, rfl⟩
            rw [hc] at hc1 hc2 HT hm1
            have hix : (S[k] : UInt8).toNat = c.toNat := by rw [hc]
            have hu1 : IntKind.u8.wrap ((c.toNat : Int) - 48) = (c.toNat : Int) - 48 := by simp [IntKind.wrap, IntKind.bits, IntKind.signed]; omega
            have hu2 : ((c.toNat : Int) - 48) % 256 = (c.toNat : Int) - 48 := by omega
            have hw8 : IntKind.i64.wrap ((c.toNat : Int) - 48) = (c.toNat : Int) - 48 := IntWalk.i64_in _ (by omega)
            have hw7 : IntKind.i64.wrap (10 * (tk : Int)) = 10 * (tk : Int) := IntWalk.i64_in _ (by omega)
            have hw9 : IntKind.i64.wrap (10 * (tk : Int) + ((c.toNat : Int) - 48)) = 10 * (tk : Int) + ((c.toNat : Int) - 48) := IntWalk.i64_in _ (by omega)
            clear hT hc htk
            go_wp2
            go_roundw
            case rel => exact ⟨k + 1, by omega, by go_num, by rw [HT.out]; congr 1; omega, hbr, t0⟩
            case measure => simp [intOf]; omega
          · obtain rfl : k = S.size := by omega
            have HF := hid (show vD (S.data.toList.take S.size) = v by rw [Lib.size_eq, List.take_length, HV.out])
            rw [HF.out]
            go_wp2
            go_ret2
            rw [HR.out]
            exact ⟨rfl, hbr⟩
end Go.Proofs.YthfmhenphnllfaaGreatDoor

namespace Go.Proofs.YthfmhenphnllfaaGreatDoor
open Go.RowKit
set_option linter.unusedVariables false
set_option linter.unusedSimpArgs false

theorem wholeD_in (d : Dec) : -1000000000000000000 ≤ (wholeD d).1 ∧ (wholeD d).1 ≤ 1000000000000000000 := by
  unfold wholeD
  split
  · rename_i h
    have := h.2
    simp only
    split <;> omega
  · exact ⟨by decide, by decide⟩
set_option maxHeartbeats 16000000 in
set_option maxRecDepth 100000 in
theorem implArith (op : Int) (a b : Dec) (w : World) (ha : decOk a = true) (hb : decOk b = true) (hop : 1 ≤ op ∧ op ≤ 6) :
    Calls Tryz.prog 42 #[.int .i64 op, .agg #[.bool a.neg, .string a.dig, .int .i64 a.exp], .agg #[.bool b.neg, .string b.dig, .int .i64 b.exp]] w fun e w' => e = .returned (formV (arithD op a b)) ∧ Below w.heap.size w w' := by
  have hcase : op = 1 ∨ op = 2 ∨ op = 3 ∨ op = 4 ∨ op = 5 ∨ op = 6 := by omega
  clear hop
  rcases hcase with rfl | rfl | rfl | rfl | rfl | rfl
  · have hR0 : arithD 1 a b = addD a b := by unfold arithD; simp
    rw [hR0]
    have CC := hid (fun (w : World) => implDecAdd a b w ha hb)
    obtain ⟨R, hR⟩ : ∃ r, addD a b = r := ⟨_, rfl⟩
    rw [hR] at CC ⊢
    unfold formV at CC ⊢
    obtain ⟨na, da, ea⟩ := a
    obtain ⟨nb, db, eb⟩ := b
    dsimp only at *
    clear ha hb hR0 hR
    have X0 := hid (box3_start w na da ea nb db eb)
    obtain ⟨s0, s1, s2, s3, s4, s5, s6, s7, s8, r0, r1, r2, bw, lt⟩ := X0.out
    go_enter Tryz.func42, Tryz.ntmps42
    go_wp2_with fail
    refine (CC.out _).mono ?_
    rintro e' w1 ⟨rfl, hb1⟩
    have X1 := hid (X0.out.call hb1)
    clear s0 s1 s2 s3 s4 s5 s6 s7 s8 r0 r1 r2 bw lt
    obtain ⟨s0, s1, s2, s3, s4, s5, s6, s7, s8, r0, r1, r2, bw, lt⟩ := X1.out
    clear hb1
    go_wp2_with fail
    refine bodyPost_ret (v := .tuple #[.agg #[.bool R.1.neg, .string R.1.dig, .int .i64 R.1.exp], .int .i64 R.2]) (by simp [results, Tryz.results42, go_sem, s0, s1, s2, s3, s4, s5, s6, s7, s8, r0, r1, r2, lt]) rfl ⟨rfl, ?_⟩
    repeat' (first | (with_reducible exact bw) | (with_reducible refine Below.setCell ?_ ?_ _) | (simp; done) | (simp; omega) | omega)
  · have hR0 : arithD 2 a b = subD a b := by unfold arithD; simp
    rw [hR0]
    have CN := hid (fun (w : World) => implDecNeg b w hb)
    have CC := hid (fun (w : World) => implDecAdd a (negD b) w ha (negD_ok hb))
    have hsub : addD a (negD b) = subD a b := rfl
    rw [hsub] at CC
    obtain ⟨R, hR⟩ : ∃ r, subD a b = r := ⟨_, rfl⟩
    rw [hR] at CC ⊢
    unfold formV at CC ⊢
    obtain ⟨NB, hNB⟩ : ∃ x, negD b = x := ⟨_, rfl⟩
    rw [hNB] at CN CC
    obtain ⟨na, da, ea⟩ := a
    obtain ⟨nb, db, eb⟩ := b
    dsimp only at *
    clear ha hb hR0 hR hNB hsub
    have X0 := hid (box3_start w na da ea nb db eb)
    obtain ⟨s0, s1, s2, s3, s4, s5, s6, s7, s8, r0, r1, r2, bw, lt⟩ := X0.out
    go_enter Tryz.func42, Tryz.ntmps42
    go_wp2_with fail
    refine wp_region_held_drew (S := fun w' => w'.cell? ⟨w.heap.size, 0, none⟩ = some (.bool na) ∧ w'.cell? ⟨w.heap.size, 1, none⟩ = some (.string da) ∧ w'.cell? ⟨w.heap.size, 2, none⟩ = some (.int .i64 ea) ∧ w'.cell? ⟨w.heap.size + 1, 0, none⟩ = some (.bool nb) ∧ w'.cell? ⟨w.heap.size + 1, 1, none⟩ = some (.string db) ∧ w'.cell? ⟨w.heap.size + 1, 2, none⟩ = some (.int .i64 eb)) (by kernel_rfl) ?_ (fun hHeld => ?_)
    · simp [*]
    refine wpAnyH_take (i := 0) (v := ?_) rfl (by kernel_rfl) (by kernel_rfl) (by kernel_rfl) (fun _ _ _ h => h) (Or.inl ⟨by rfl, ?_⟩) (by assumption) ?_
    rotate_left
    · (intro w' hSw; (try dsimp only at hSw); go_simp; try (with_reducible rfl))
    change wpAnyH _ _ _ _ _ _ _ (Act.put _ (some 20) _) _
    try simp only [Act.put, List.setIfInBounds_toArray, List.set_cons_zero, List.set_cons_succ]
    refine wpAnyH_take (i := 1) (v := ?_) rfl (by kernel_rfl) (by kernel_rfl) (by kernel_rfl) (fun _ _ _ h => h) (Or.inl ⟨by rfl, ?_⟩) (by assumption) ?_
    rotate_left
    · (intro w' hSw; (try dsimp only at hSw); go_simp; try (with_reducible rfl))
    change wpAnyH _ _ _ _ _ _ _ (Act.put _ (some 21) _) _
    try simp only [Act.put, List.setIfInBounds_toArray, List.set_cons_zero, List.set_cons_succ]
    refine wpAnyH_ready (rs := [2]) (by kernel_rfl) (by simp) ?_
    refine AllReadyH.cons (i := 2) rfl (fun K hK => ?_) AllReadyH.nil
    simp only [List.getElem_toArray, List.getElem_cons_succ, List.getElem_cons_zero]
    rw [if_pos (by rfl)]
    go_simp
    (go_at_call 81; refine (CN.out _).mono ?_; rintro e' w1 ⟨rfl, hb1⟩; have X1 := hid (X0.out.drew.call hb1); clear s0 s1 s2 s3 s4 s5 s6 s7 s8 r0 r1 r2 bw lt; obtain ⟨s0, s1, s2, s3, s4, s5, s6, s7, s8, r0, r1, r2, bw, lt⟩ := X1.out; clear hb1; go_wp2_with fail)
    have hOld := hHeld
    clear hHeld
    refine hK.out _ _ ?_ (fun hHeld => ?_)
    · (try dsimp only); first | (simp [*]; done) | (refine ⟨?_, ?_, ?_, ?_, ?_, ?_⟩ <;> go_simp) | go_simp
    clear hK K hOld
    try simp only [Act.put, List.setIfInBounds_toArray, List.set_cons_zero, List.set_cons_succ]
    refine wpAnyH_ready (rs := [3]) (by kernel_rfl) (by simp) ?_
    refine AllReadyH.cons (i := 3) rfl (fun K hK => ?_) AllReadyH.nil
    simp only [List.getElem_toArray, List.getElem_cons_succ, List.getElem_cons_zero]
    rw [if_pos (by rfl)]
    go_simp
    (go_at_call 80; refine (CC.out _).mono ?_; rintro e' w2 ⟨rfl, hb2⟩; have X2 := hid (X1.out.call hb2); clear s0 s1 s2 s3 s4 s5 s6 s7 s8 r0 r1 r2 bw lt; obtain ⟨s0, s1, s2, s3, s4, s5, s6, s7, s8, r0, r1, r2, bw, lt⟩ := X2.out; clear hb2; go_wp2_with fail)
    have hOld := hHeld
    clear hHeld
    refine hK.out _ _ ?_ (fun hHeld => ?_)
    · (try dsimp only); first | (simp [*]; done) | (refine ⟨?_, ?_, ?_, ?_, ?_, ?_⟩ <;> go_simp) | go_simp
    clear hK K hOld
    try simp only [Act.put, List.setIfInBounds_toArray, List.set_cons_zero, List.set_cons_succ]
    refine wpAnyH_take (i := 4) (v := ?_) rfl (by kernel_rfl) (by kernel_rfl) (by kernel_rfl) (fun _ _ _ h => h) (Or.inl ⟨by rfl, ?_⟩) (by assumption) ?_
    rotate_left
    · (intro w' hSw; (try dsimp only at hSw); go_simp; try (with_reducible rfl))
    change wpAnyH _ _ _ _ _ _ _ (Act.put _ (some 24) _) _
    try simp only [Act.put, List.setIfInBounds_toArray, List.set_cons_zero, List.set_cons_succ]
    refine wpAnyH_take (i := 5) (v := ?_) rfl (by kernel_rfl) (by kernel_rfl) (by kernel_rfl) (fun _ _ _ h => h) (Or.inl ⟨by rfl, ?_⟩) (by assumption) ?_
    rotate_left
    · (intro w' hSw; (try dsimp only at hSw); go_simp; try (with_reducible rfl))
    change wpAnyH _ _ _ _ _ _ _ (Act.put _ (some 25) _) _
    try simp only [Act.put, List.setIfInBounds_toArray, List.set_cons_zero, List.set_cons_succ]
    refine wpAnyH_ready (rs := [6]) (by kernel_rfl) (by simp) ?_
    refine AllReadyH.cons (i := 6) rfl (fun K hK => ?_) AllReadyH.nil
    simp only [List.getElem_toArray, List.getElem_cons_succ, List.getElem_cons_zero]
    rw [if_pos (by rfl)]
    go_simp
    have hOld := hHeld
    clear hHeld
    refine hK.out _ _ ?_ (fun hHeld => ?_)
    · (try dsimp only); first | (simp [*]; done) | (refine ⟨?_, ?_, ?_, ?_, ?_, ?_⟩ <;> go_simp) | go_simp
    clear hK K hOld
    try simp only [Act.put, List.setIfInBounds_toArray, List.set_cons_zero, List.set_cons_succ]
    refine wpAnyH_take (i := 7) (v := ?_) rfl (by kernel_rfl) (by kernel_rfl) (by kernel_rfl) (fun _ _ _ h => h) (Or.inl ⟨by rfl, ?_⟩) (by assumption) ?_
    rotate_left
    · (intro w' hSw; (try dsimp only at hSw); go_simp; try (with_reducible rfl))
    change wpAnyH _ _ _ _ _ _ _ (Act.put _ (some 7) _) _
    try simp only [Act.put, List.setIfInBounds_toArray, List.set_cons_zero, List.set_cons_succ]
    refine wpAnyH_done (by kernel_rfl) ?_ _
    clear hHeld
    go_wp2_with fail
    refine bodyPost_ret (v := .tuple #[.agg #[.bool R.1.neg, .string R.1.dig, .int .i64 R.1.exp], .int .i64 R.2]) (by simp [results, Tryz.results42, go_sem, s0, s1, s2, s3, s4, s5, s6, s7, s8, r0, r1, r2, lt]) rfl ⟨rfl, ?_⟩
    repeat' (first | (with_reducible exact bw) | (with_reducible refine Below.setCell ?_ ?_ _) | (simp; done) | (simp; omega) | omega)
  · have hR0 : arithD 3 a b = mulD a b := by unfold arithD; simp
    rw [hR0]
    have CC := hid (fun (w : World) => implDecMul a b w ha hb)
    obtain ⟨R, hR⟩ : ∃ r, mulD a b = r := ⟨_, rfl⟩
    rw [hR] at CC ⊢
    unfold formV at CC ⊢
    obtain ⟨na, da, ea⟩ := a
    obtain ⟨nb, db, eb⟩ := b
    dsimp only at *
    clear ha hb hR0 hR
    have X0 := hid (box3_start w na da ea nb db eb)
    obtain ⟨s0, s1, s2, s3, s4, s5, s6, s7, s8, r0, r1, r2, bw, lt⟩ := X0.out
    go_enter Tryz.func42, Tryz.ntmps42
    go_wp2_with fail
    refine (CC.out _).mono ?_
    rintro e' w1 ⟨rfl, hb1⟩
    have X1 := hid (X0.out.call hb1)
    clear s0 s1 s2 s3 s4 s5 s6 s7 s8 r0 r1 r2 bw lt
    obtain ⟨s0, s1, s2, s3, s4, s5, s6, s7, s8, r0, r1, r2, bw, lt⟩ := X1.out
    clear hb1
    go_wp2_with fail
    refine bodyPost_ret (v := .tuple #[.agg #[.bool R.1.neg, .string R.1.dig, .int .i64 R.1.exp], .int .i64 R.2]) (by simp [results, Tryz.results42, go_sem, s0, s1, s2, s3, s4, s5, s6, s7, s8, r0, r1, r2, lt]) rfl ⟨rfl, ?_⟩
    repeat' (first | (with_reducible exact bw) | (with_reducible refine Below.setCell ?_ ?_ _) | (simp; done) | (simp; omega) | omega)
  · have hR0 : arithD 4 a b = divD a b := by unfold arithD; simp
    rw [hR0]
    have CC := hid (fun (w : World) => implDecDiv a b w ha hb)
    obtain ⟨R, hR⟩ : ∃ r, divD a b = r := ⟨_, rfl⟩
    rw [hR] at CC ⊢
    unfold formV at CC ⊢
    obtain ⟨na, da, ea⟩ := a
    obtain ⟨nb, db, eb⟩ := b
    dsimp only at *
    clear ha hb hR0 hR
    have X0 := hid (box3_start w na da ea nb db eb)
    obtain ⟨s0, s1, s2, s3, s4, s5, s6, s7, s8, r0, r1, r2, bw, lt⟩ := X0.out
    go_enter Tryz.func42, Tryz.ntmps42
    go_wp2_with fail
    refine (CC.out _).mono ?_
    rintro e' w1 ⟨rfl, hb1⟩
    have X1 := hid (X0.out.call hb1)
    clear s0 s1 s2 s3 s4 s5 s6 s7 s8 r0 r1 r2 bw lt
    obtain ⟨s0, s1, s2, s3, s4, s5, s6, s7, s8, r0, r1, r2, bw, lt⟩ := X1.out
    clear hb1
    go_wp2_with fail
    refine bodyPost_ret (v := .tuple #[.agg #[.bool R.1.neg, .string R.1.dig, .int .i64 R.1.exp], .int .i64 R.2]) (by simp [results, Tryz.results42, go_sem, s0, s1, s2, s3, s4, s5, s6, s7, s8, r0, r1, r2, lt]) rfl ⟨rfl, ?_⟩
    repeat' (first | (with_reducible exact bw) | (with_reducible refine Below.setCell ?_ ?_ _) | (simp; done) | (simp; omega) | omega)
  · have hR0 : arithD 5 a b = modD a b := by unfold arithD; simp
    rw [hR0]
    have CC := hid (fun (w : World) => implDecMod a b w ha hb)
    obtain ⟨R, hR⟩ : ∃ r, modD a b = r := ⟨_, rfl⟩
    rw [hR] at CC ⊢
    unfold formV at CC ⊢
    obtain ⟨na, da, ea⟩ := a
    obtain ⟨nb, db, eb⟩ := b
    dsimp only at *
    clear ha hb hR0 hR
    have X0 := hid (box3_start w na da ea nb db eb)
    obtain ⟨s0, s1, s2, s3, s4, s5, s6, s7, s8, r0, r1, r2, bw, lt⟩ := X0.out
    go_enter Tryz.func42, Tryz.ntmps42
    go_wp2_with fail
    refine (CC.out _).mono ?_
    rintro e' w1 ⟨rfl, hb1⟩
    have X1 := hid (X0.out.call hb1)
    clear s0 s1 s2 s3 s4 s5 s6 s7 s8 r0 r1 r2 bw lt
    obtain ⟨s0, s1, s2, s3, s4, s5, s6, s7, s8, r0, r1, r2, bw, lt⟩ := X1.out
    clear hb1
    go_wp2_with fail
    refine bodyPost_ret (v := .tuple #[.agg #[.bool R.1.neg, .string R.1.dig, .int .i64 R.1.exp], .int .i64 R.2]) (by simp [results, Tryz.results42, go_sem, s0, s1, s2, s3, s4, s5, s6, s7, s8, r0, r1, r2, lt]) rfl ⟨rfl, ?_⟩
    repeat' (first | (with_reducible exact bw) | (with_reducible refine Below.setCell ?_ ?_ _) | (simp; done) | (simp; omega) | omega)
  · have hR0 : arithD 6 a b = if (wholeD b).2 = false then (dec0, 3) else if -99 ≤ (wholeD b).1 ∧ (wholeD b).1 ≤ 99 then powD a (wholeD b).1 else (dec0, 3) := by unfold arithD; simp
    rw [hR0]
    have CW := hid (fun (w : World) => implWhole b w hb)
    have hin := wholeD_in b
    obtain ⟨n, hn⟩ : ∃ n, (wholeD b).1 = n := ⟨_, rfl⟩
    obtain ⟨ok, hok⟩ : ∃ x, (wholeD b).2 = x := ⟨_, rfl⟩
    rw [hn, hok] at CW
    rw [hn] at hin
    rw [hn, hok]
    have CP := hid (fun (w : World) => implDecPow a n w ha (by omega))
    cases ok
    · rw [if_pos rfl]
      obtain ⟨na, da, ea⟩ := a
      obtain ⟨nb, db, eb⟩ := b
      dsimp only at *
      clear ha hb hR0 hn hok
      have X0 := hid (box3_start w na da ea nb db eb)
      obtain ⟨s0, s1, s2, s3, s4, s5, s6, s7, s8, r0, r1, r2, bw, lt⟩ := X0.out
      go_enter Tryz.func42, Tryz.ntmps42
      go_wp2_with fail
      refine (CW.out _).mono ?_
      rintro e' w1 ⟨rfl, hb1⟩
      have X1 := hid (X0.out.call hb1)
      clear s0 s1 s2 s3 s4 s5 s6 s7 s8 r0 r1 r2 bw lt
      obtain ⟨s0, s1, s2, s3, s4, s5, s6, s7, s8, r0, r1, r2, bw, lt⟩ := X1.out
      clear hb1
      go_wp2
      refine bodyPost_ret (v := .tuple #[.agg #[.bool false, .string ⟨#[]⟩, .int .i64 0], .int .i64 3]) (by simp [results, Tryz.results42, go_sem, s0, s1, s2, s3, s4, s5, s6, s7, s8, r0, r1, r2, lt]) rfl ⟨rfl, ?_⟩
      repeat' (first | (with_reducible exact bw) | (with_reducible refine Below.setCell ?_ ?_ _) | (simp; done) | (simp; omega) | omega)
    · rw [if_neg (by decide)]
      obtain ⟨R, hR⟩ : ∃ r, (if -99 ≤ n ∧ n ≤ 99 then powD a n else (dec0, 3)) = r := ⟨_, rfl⟩
      rw [hR] at CP ⊢
      unfold formV at CP ⊢
      obtain ⟨na, da, ea⟩ := a
      obtain ⟨nb, db, eb⟩ := b
      dsimp only at *
      clear ha hb hR0 hn hok hR
      have X0 := hid (box3_start w na da ea nb db eb)
      obtain ⟨s0, s1, s2, s3, s4, s5, s6, s7, s8, r0, r1, r2, bw, lt⟩ := X0.out
      go_enter Tryz.func42, Tryz.ntmps42
      go_wp2_with fail
      refine (CW.out _).mono ?_
      rintro e' w1 ⟨rfl, hb1⟩
      have X1 := hid (X0.out.call hb1)
      clear s0 s1 s2 s3 s4 s5 s6 s7 s8 r0 r1 r2 bw lt
      obtain ⟨s0, s1, s2, s3, s4, s5, s6, s7, s8, r0, r1, r2, bw, lt⟩ := X1.out
      clear hb1
      go_wp2_with fail
      refine (CP.out _).mono ?_
      rintro e' w2 ⟨rfl, hb2⟩
      have X2 := hid (X1.out.call hb2)
      clear s0 s1 s2 s3 s4 s5 s6 s7 s8 r0 r1 r2 bw lt
      obtain ⟨s0, s1, s2, s3, s4, s5, s6, s7, s8, r0, r1, r2, bw, lt⟩ := X2.out
      clear hb2
      go_wp2_with fail
      refine bodyPost_ret (v := .tuple #[.agg #[.bool R.1.neg, .string R.1.dig, .int .i64 R.1.exp], .int .i64 R.2]) (by simp [results, Tryz.results42, go_sem, s0, s1, s2, s3, s4, s5, s6, s7, s8, r0, r1, r2, lt]) rfl ⟨rfl, ?_⟩
      repeat' (first | (with_reducible exact bw) | (with_reducible refine Below.setCell ?_ ?_ _) | (simp; done) | (simp; omega) | omega)
end Go.Proofs.YthfmhenphnllfaaGreatDoor
