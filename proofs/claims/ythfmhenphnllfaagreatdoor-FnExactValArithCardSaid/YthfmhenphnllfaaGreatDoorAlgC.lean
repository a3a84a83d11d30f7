/-
  What is proved here: spec.l03Form where there is something more behind the digits. No condition but sizes.
  What is proved here: spec.DecMul returns the product. The conditions are that the numbers are in form.
  What is proved here: spec.DecDiv returns the quotient. The conditions are that the numbers are in form.
  What is proved here: spec.DecMod returns the remainder. The conditions are that the numbers are in form.
  What is proved here: spec.DecAdd, spec.DecSub return the sum and the difference. The conditions are that the numbers are in form.
  What is proved here: spec.DecPow returns the power. The condition is that the number is in form.
  What is proved here: NumVal on both sides. No condition.
-/
import Derived.Test.YthfmhenphnllfaaGreatDoorAlgA
import Derived.Test.YthfmhenphnllfaaGreatDoorAlgB
import Derived.Test.YthfmhenphnllfaaGreatDoorNat
import Derived.Test.YthfmhenphnllfaaGreatDoorVal0
namespace Go.Proofs.YthfmhenphnllfaaGreatDoor
open Go.RowKit
set_option linter.unusedVariables false
set_option linter.unusedSimpArgs false
theorem natL_len_le {l : List UInt8} (h : digits l) {v K : Nat} (hv : v ≤ vD l) (hl : l.length ≤ K) (hK : 1 ≤ K) : (natL v).length ≤ K :=
  natL_len_pow (Nat.lt_of_le_of_lt hv (Nat.lt_of_lt_of_le (vD_lt h) (Nat.pow_le_pow_right (by decide) hl))) hK
set_option maxHeartbeats 8000000 in
set_option maxRecDepth 100000 in
theorem specFormM (neg : Bool) (s : ByteArray) (exp : Int) (w : World) (hd : digits s.data.toList) (hs : s.size ≤ 1800) (he : -20000 ≤ exp ∧ exp ≤ 20000) :
    Calls Tryz.prog 70 #[.bool neg, .string s, .int .i64 exp, .bool true] w fun e w' => e = .returned (formV (formD neg (s.data.toList ++ [49]) (exp - 1))) ∧ Below w.heap.size w w' := by
  obtain ⟨e0, rfl⟩ : ∃ e0, exp = e0 + 1 := ⟨exp - 1, by omega⟩
  rw [show e0 + 1 - 1 = e0 by omega]
  have hex : IntKind.i64.wrap (e0 + 1 - 1) = e0 := by rw [show e0 + 1 - 1 = e0 by omega]; exact IntWalk.i64_in _ (by omega)
  have hex2 : IntKind.i64.wrap e0 = e0 := IntWalk.i64_in _ (by omega)
  replace he : -20001 ≤ e0 ∧ e0 ≤ 20000 := by omega
  have he1 : (s ++ ⟨#[49]⟩ : ByteArray).data.toList = s.data.toList ++ [49] := by rw [ByteArray.data_append, Array.toList_append]
  have hs1 : (s ++ ⟨#[49]⟩ : ByteArray).size = s.size + 1 := by rw [ByteArray.size_append]; rfl
  have hsum : ¬ 9223372036854775807 < s.size + 1 := by omega
  have hd1 : digits (s ++ ⟨#[49]⟩ : ByteArray).data.toList := by rw [he1]; exact digits_append hd digits_one
  rw [← he1]
  clear hd
  obtain ⟨l, hl⟩ : ∃ l, (s ++ ⟨#[49]⟩ : ByteArray).data.toList = l := ⟨_, rfl⟩
  have hsl : s.size + 1 = l.length := by rw [← hs1, Lib.size_eq, hl]
  have hTl := trimL_len l
  have CT := hid (fun w => specTrim (s ++ ⟨#[49]⟩) w (by omega))
  obtain ⟨T, hT⟩ : ∃ t, trimB (s ++ ⟨#[49]⟩) = t := ⟨_, rfl⟩
  rw [hT] at CT
  have hTd : T.data.toList = trimL l := by rw [← hT]; unfold trimB; rw [mkB_data, hl]
  have hTs : T.size = (trimL l).length := by rw [Lib.size_eq, hTd]
  rw [hl] at hd1 ⊢
  clear hT hl he1 hs1
  obtain ⟨F, hF⟩ : ∃ f, formD neg l e0 = f := ⟨_, rfl⟩
  rw [hF]
  by_cases h0 : trimL l = [48]
  · have HF := hid (show F = (dec0, 0) by rw [← hF, formD_zero h0])
    have g0 : (T.toList == [48]) = true := by rw [beq_iff_eq, Lib.toList_data, hTd, h0]
    clear hF h0 hTd hTl hTs
    go_enter Tryz.func70, Tryz.ntmps70
    go_wp2_with fail
    refine (CT.out _).mono ?_
    rintro e w1 ⟨rfl, rfl⟩
    go_wp2
    refine bodyPost_ret (v := .tuple #[.agg #[.bool false, .string ⟨#[]⟩, .int .i64 0], .int .i64 0]) (by simp [results, Tryz.results70, go_sem]) rfl ⟨by rw [HF.out]; rfl, ?_⟩
    repeat' (first | (with_reducible exact Below.refl _ _) | (with_reducible exact ext_alloc _ _) | (with_reducible refine Below.setCell ?_ ?_ _) | (simp; done) | (simp; omega) | omega)
  have g0 : (T.toList == [48]) = false := trimL_beq (by rw [hTd]; exact h0)
  obtain ⟨RL, hRL⟩ : ∃ r, cutL (trimL l) = r := ⟨_, rfl⟩
  have hRn := cutL_size (trimL l)
  have hmem := cutL_ne hd1 h0
  obtain ⟨S, hS⟩ : ∃ r, stripL RL = r := ⟨_, rfl⟩
  rw [hRL] at hRn hmem
  obtain ⟨mo, hmo⟩ : ∃ m, (trimL l).length - 20 = m := ⟨_, rfl⟩
  have K1 := hid (fun (e : Int) (he : e + (S.length : Int) = e0 + (mo : Int) + (RL.length : Int)) (hc : 99 < e + (S.length : Int) - 1) => hF.symm.trans (formD_over h0 (by rw [hRL]; exact hS) (by rw [hRL, hmo]; exact he) hc))
  have K2 := hid (fun (e : Int) (he : e + (S.length : Int) = e0 + (mo : Int) + (RL.length : Int)) (hc : e + (S.length : Int) - 1 < -99) => hF.symm.trans (formD_under h0 (by rw [hRL]; exact hS) (by rw [hRL, hmo]; exact he) hc))
  have K3 := hid (fun (e : Int) (he : e + (S.length : Int) = e0 + (mo : Int) + (RL.length : Int)) (hc : ¬ 99 < e + (S.length : Int) - 1) (hc2 : ¬ e + (S.length : Int) - 1 < -99) => hF.symm.trans (formD_in h0 (by rw [hRL]; exact hS) (by rw [hRL, hmo]; exact he) hc hc2))
  have HRL := hid hRL
  have HSL := hid hS
  have HTD := hid hTd
  have HMO := hid hmo
  have hTg : digits T.data.toList := by rw [hTd]; exact digits_trim hd1
  have HMM := hid hmem
  have hmo1 : mo ≤ 1901 := by omega
  have hRn2 : RL.length ≤ 1910 := by omega
  have hTs2 : T.size ≤ 1901 := by omega
  have HTS := hid hTs
  clear hF h0 hRL hS hTd hmo hmem hd1 hsl hRn hTl hTs hs
  go_enter Tryz.func70, Tryz.ntmps70
  go_wp2_with fail
  refine (CT.out _).mono ?_
  rintro e w1 ⟨rfl, rfl⟩
  go_upto_if 24 with fail
  go_cut [1, 2] from 12 (fun v1 v2 wr => v1 = .string (mkB RL) ∧ v2 = .int .i64 (e0 + (mo : Int)) ∧ Below (w.heap.size + 1) (w.alloc (.cells #[.bool false, .string ⟨#[]⟩, .int .i64 0] 27)) wr)
  case first =>
    by_cases h20 : 20 < T.size
    · have hm : (T.size : Int) - 20 = (mo : Int) := by have := HTS.out; have := HMO.out; omega
      have hm1 : 1 ≤ mo := by omega
      have CR := hid (fun w => specRound T mo w hTg (by omega) hm1 (by omega))
      have HRR := hid (show mkB (roundL T.data.toList mo) = mkB RL by
        rw [← HRL.out]
        unfold cutL
        rw [if_pos (by have := HTS.out; omega), HTD.out, ← HMO.out])
      have g1 : (20 : Int) < (T.size : Int) := by omega
      have hw : IntKind.i64.wrap (e0 + (mo : Int)) = e0 + (mo : Int) := IntWalk.i64_in _ (by omega)
      clear hTg
      go_wp2_with fail
      refine (CR.out _).mono ?_
      rintro e w2 ⟨rfl, hb2⟩
      rw [HRR.out]
      go_wp2
      go_meet
      case rel => exact ⟨rfl, rfl, by have e0 : (w.alloc (.cells #[.bool false, .string ⟨#[]⟩, .int .i64 0] 27)).heap.size = w.heap.size + 1 := (by simp); rw [← e0]; exact hb2⟩
    · have hm : mo = 0 := by have := HTS.out; have := HMO.out; omega
      have HRR := hid (show T = mkB RL by
        rw [← HRL.out]
        unfold cutL
        rw [if_neg (by have := HTS.out; omega), ← HTD.out, mkB_of])
      have g1 : ¬ (20 : Int) < (T.size : Int) := by omega
      have HM0 := hid hm
      clear hTg hm
      go_wp2
      go_meet
      case rel => exact ⟨by rw [HRR.out], by rw [HM0.out]; simp, Below.refl _ _⟩
  case rest =>
  obtain ⟨rfl, rfl, hB⟩ := hcut
  obtain ⟨hc, hf⟩ := bcell hB
  have hl1 : w.heap.size < wc.heap.size := by have := hB.size; (try simp at this); omega
  have f0 : wc.frozen? ⟨w.heap.size, 0, none⟩ = some false ∨ True := Or.inr trivial
  go_wp2
  go_loopw [1, 2] (fun v1 v2 wr => ∃ (t : ByteArray) (e : Int), v1 = .string t ∧ v2 = .int .i64 e ∧ Hid (stripL t.data.toList = S) ∧ Hid (e + (t.size : Int) = e0 + (mo : Int) + (RL.length : Int)) ∧ Hid (∃ c ∈ t.data.toList, ¬ c = 48) ∧ t.size ≤ RL.length ∧ wc = wr) (fun v1 _ _ => match v1 with | .string t => t.size | _ => 0)
  case atStart => exact ⟨mkB RL, _, rfl, rfl, HSL, hid (by rw [mkB_size]), HMM, by rw [mkB_size]; exact Nat.le_refl _, rfl⟩
  case round =>
    obtain ⟨t, e, rfl, rfl, HS, HE, HC, hts, rfl⟩ := hrel
    have hpos : 0 < t.size := by
      obtain ⟨c, hc', _⟩ := HC.out
      rw [Lib.size_eq]
      exact List.length_pos_of_mem hc'
    obtain ⟨c, hlast⟩ : ∃ c : UInt8, t[t.size - 1]'(by omega) = c := ⟨_, rfl⟩
    have HL := hid (show t.data.toList = (t.extract 0 (t.size - 1)).data.toList ++ [c] by rw [← hlast]; exact last_split hpos)
    have hix : (t[t.size - 1]'(by omega) : UInt8).toNat = c.toNat := by rw [hlast]
    have hi1 : (t.size : Int) - 1 = ((t.size - 1 : Nat) : Int) := by omega
    have hlt : t.size - 1 < t.size := by omega
    have heb : -22000 ≤ e ∧ e ≤ 24000 := by have := HE.out; omega
    clear hlast
    by_cases h48 : c.toNat = 48
    · have HN : Hid (c = 48) := hid (toNat_eq_48.1 h48)
      have hsz : (t.extract 0 (t.size - 1)).size = t.size - 1 := by rw [ByteArray.size_extract]; omega
      have HS2 := hid (show stripL (t.extract 0 (t.size - 1)).data.toList = S by rw [← HS.out, HL.out, HN.out, stripL_zero])
      have HC2 := hid (show ∃ c ∈ (t.extract 0 (t.size - 1)).data.toList, ¬ c = 48 by
        obtain ⟨x, hx, hx48⟩ := HC.out
        rw [HL.out] at hx
        rcases List.mem_append.1 hx with h | h
        · exact ⟨x, h, hx48⟩
        · exact absurd ((List.mem_singleton.1 h).trans HN.out) hx48)
      have hw : IntKind.i64.wrap (e + 1) = e + 1 := IntWalk.i64_in _ (by omega)
      go_wp2
      go_roundw
      case rel => exact ⟨_, e + 1, rfl, rfl, HS2, hid (by have := HE.out; rw [hsz]; omega), HC2, by rw [hsz]; omega, by first | rfl | trivial⟩
      case measure => show (t.extract 0 (t.size - 1)).size < t.size; omega
    · have g48 : ((c.toNat : Int) == 48) = false := by rw [beq_eq_false_iff_ne]; omega
      have HTS2 := hid (show t.data.toList = S by
        rw [← HS.out, HL.out, stripL_other _ (fun h' => h48 (toNat_eq_48.2 h'))])
      have HTB := hid (show t = mkB S by rw [← HTS2.out, mkB_of])
      have hSl : S.length = t.size := by rw [← HTS2.out, Lib.size_eq]
      have hE2 : e + (S.length : Int) = e0 + (mo : Int) + (RL.length : Int) := by rw [hSl]; exact HE.out
      have hw1 : IntKind.i64.wrap (e + (t.size : Int)) = e + (t.size : Int) := IntWalk.i64_in _ (by omega)
      have hw2 : IntKind.i64.wrap (e + (t.size : Int) - 1) = e + (t.size : Int) - 1 := IntWalk.i64_in _ (by omega)
      clear h48
      by_cases h99 : 99 < e + (S.length : Int) - 1
      · have HF := hid (K1.out e (by omega) (by omega))
        rw [hSl] at h99
        clear hE2 hSl
        go_wp2
        refine bodyPost_ret (v := .tuple #[.agg #[.bool false, .string ⟨#[]⟩, .int .i64 0], .int .i64 1]) (by simp [results, Tryz.results70, go_sem, hc, hl1]) rfl ⟨by rw [HF.out]; rfl, ?_⟩
        have hBB : Below w.heap.size w wc := (ext_alloc _ _).trans (hB.mono (by omega))
        repeat' (first | (with_reducible exact hBB) | (with_reducible refine Below.setCell ?_ ?_ _) | (simp; done) | (simp; omega) | omega)
      · by_cases h98 : e + (S.length : Int) - 1 < -99
        · have HF := hid (K2.out e (by omega) (by omega))
          rw [hSl] at h99 h98
          clear hE2 hSl
          go_wp2
          refine bodyPost_ret (v := .tuple #[.agg #[.bool false, .string ⟨#[]⟩, .int .i64 0], .int .i64 0]) (by simp [results, Tryz.results70, go_sem, hc, hl1]) rfl ⟨by rw [HF.out]; rfl, ?_⟩
          have hBB : Below w.heap.size w wc := (ext_alloc _ _).trans (hB.mono (by omega))
          repeat' (first | (with_reducible exact hBB) | (with_reducible refine Below.setCell ?_ ?_ _) | (simp; done) | (simp; omega) | omega)
        · have HF := hid (K3.out e (by omega) (by omega) (by omega))
          rw [hSl] at h99 h98
          clear hE2 hSl
          go_wp2
          refine bodyPost_ret (v := .tuple #[.agg #[.bool neg, .string t, .int .i64 e], .int .i64 0]) (by simp [results, Tryz.results70, go_sem, hc, hl1]) rfl ⟨by rw [HF.out, HTB.out]; rfl, ?_⟩
          have hBB : Below w.heap.size w wc := (ext_alloc _ _).trans (hB.mono (by omega))
          repeat' (first | (with_reducible exact hBB) | (with_reducible refine Below.setCell ?_ ?_ _) | (simp; done) | (simp; omega) | omega)
end Go.Proofs.YthfmhenphnllfaaGreatDoor

namespace Go.Proofs.YthfmhenphnllfaaGreatDoor
open Go.RowKit
set_option linter.unusedVariables false
set_option linter.unusedSimpArgs false
set_option maxHeartbeats 16000000 in
set_option maxRecDepth 100000 in
theorem specDecMul (a b : Dec) (w : World) (ha : decOk a = true) (hb : decOk b = true) :
    Calls Tryz.prog 32 #[.agg #[.bool a.neg, .string a.dig, .int .i64 a.exp], .agg #[.bool b.neg, .string b.dig, .int .i64 b.exp]] w fun e w' => e = .returned (formV (mulD a b)) ∧ Below w.heap.size w w' := by
  obtain ⟨a1, a2, a3, a4, a5⟩ := ok_facts ha
  obtain ⟨b1, b2, b3, b4, b5⟩ := ok_facts hb
  have CO1 : Hid (∀ w, Calls Tryz.prog 67 #[.agg #[.bool a.neg, .string a.dig, .int .i64 a.exp]] w fun e w' => e = .returned (.bool true) ∧ Below w.heap.size w w') := hid (fun w => by
    have h := specDecOk (d := a) (cs := #[.bool a.neg, .string a.dig, .int .i64 a.exp]) w (by exact rdDec_mk (x := a) (by omega) (by omega))
    rw [ha] at h
    exact h)
  have CO2 : Hid (∀ w, Calls Tryz.prog 67 #[.agg #[.bool b.neg, .string b.dig, .int .i64 b.exp]] w fun e w' => e = .returned (.bool true) ∧ Below w.heap.size w w') := hid (fun w => by
    have h := specDecOk (d := b) (cs := #[.bool b.neg, .string b.dig, .int .i64 b.exp]) w (by exact rdDec_mk (x := b) (by omega) (by omega))
    rw [hb] at h
    exact h)
  have CD1 := hid (fun (w : World) => specDig a.neg a.dig a.exp w)
  have CD2 := hid (fun (w : World) => specDig b.neg b.dig b.exp w)
  have hs1 : (dgB a.dig).size ≤ 21 := Nat.le_trans (dgB_size _) (by omega)
  have hs2 : (dgB b.dig).size ≤ 21 := Nat.le_trans (dgB_size _) (by omega)
  have CM := hid (fun (w : World) => specMul (dgB a.dig) (dgB b.dig) w a3 b3 (by omega) (by omega))
  have hnl : (natL (valZ a * valZ b)).length ≤ 42 := by
    refine natL_len_pow ?_ (by decide)
    have h1 := valZ_lt ha
    have h2 := valZ_lt hb
    exact Nat.lt_of_lt_of_le (Nat.mul_lt_mul'' h1 h2) (by decide)
  have CF := hid (fun (w : World) => specForm (a.neg != b.neg) (mkB (natL (valZ a * valZ b))) (a.exp + b.exp) w (natL_mkB_digits _) (by rw [mkB_size]; omega) (by omega))
  rw [mkB_data] at CF
  have hR0 : formD (a.neg != b.neg) (natL (valZ a * valZ b)) (a.exp + b.exp) = mulD a b := rfl
  rw [hR0] at CF
  have hV : vD (dgB a.dig).data.toList * vD (dgB b.dig).data.toList = valZ a * valZ b := rfl
  rw [hV] at CM
  obtain ⟨R, hR⟩ : ∃ r, mulD a b = r := ⟨_, rfl⟩
  rw [hR] at CF ⊢
  unfold formV at CF ⊢
  obtain ⟨A, hA⟩ : ∃ x, dgB a.dig = x := ⟨_, rfl⟩
  obtain ⟨B, hB⟩ : ∃ x, dgB b.dig = x := ⟨_, rfl⟩
  obtain ⟨M, hM⟩ : ∃ x, mkB (natL (valZ a * valZ b)) = x := ⟨_, rfl⟩
  rw [hA] at CD1 CM
  rw [hB] at CD2 CM
  rw [hM] at CM CF
  have hw : IntKind.i64.wrap (a.exp + b.exp) = a.exp + b.exp := IntWalk.i64_in _ (by omega)
  obtain ⟨na, da, ea⟩ := a
  obtain ⟨nb, db, eb⟩ := b
  dsimp only at *
  clear a1 a3 a4 a5 b1 b3 b4 b5 ha hb hs1 hs2 hnl hR0 hR hA hB hM hV a2 b2
  have X0 := hid (box3_start w na da ea nb db eb)
  obtain ⟨s0, s1, s2, s3, s4, s5, s6, s7, s8, r0, r1, r2, bw, lt⟩ := X0.out
  go_enter Tryz.func32, Tryz.ntmps32
  go_wp2_with fail
  refine (CO1.out _).mono ?_
  rintro e' w1 ⟨rfl, hb1⟩
  have X1 := hid (X0.out.call hb1)
  clear s0 s1 s2 s3 s4 s5 s6 s7 s8 r0 r1 r2 bw lt
  obtain ⟨s0, s1, s2, s3, s4, s5, s6, s7, s8, r0, r1, r2, bw, lt⟩ := X1.out
  clear hb1
  go_wp2_with fail
  refine (CO2.out _).mono ?_
  rintro e' w2 ⟨rfl, hb2⟩
  have X2 := hid (X1.out.call hb2)
  clear s0 s1 s2 s3 s4 s5 s6 s7 s8 r0 r1 r2 bw lt
  obtain ⟨s0, s1, s2, s3, s4, s5, s6, s7, s8, r0, r1, r2, bw, lt⟩ := X2.out
  clear hb2
  go_wp2_with fail
  refine wp_region_held_drew (S := fun w' => w'.cell? ⟨w.heap.size, 0, none⟩ = some (.bool na) ∧ w'.cell? ⟨w.heap.size, 1, none⟩ = some (.string da) ∧ w'.cell? ⟨w.heap.size, 2, none⟩ = some (.int .i64 ea) ∧ w'.cell? ⟨w.heap.size + 1, 0, none⟩ = some (.bool nb) ∧ w'.cell? ⟨w.heap.size + 1, 1, none⟩ = some (.string db) ∧ w'.cell? ⟨w.heap.size + 1, 2, none⟩ = some (.int .i64 eb)) (by kernel_rfl) ?_ (fun hHeld => ?_)
  · simp [*]
  refine wpAnyH_take (i := 0) (v := ?_) rfl (by kernel_rfl) (by kernel_rfl) (by kernel_rfl) (fun _ _ _ h => h) (Or.inl ⟨by rfl, ?_⟩) (by assumption) ?_
  rotate_left
  · (intro w' hSw; (try dsimp only at hSw); go_simp; try (with_reducible rfl))
  change wpAnyH _ _ _ _ _ _ _ (Act.put _ (some 15) _) _
  try simp only [Act.put, List.setIfInBounds_toArray, List.set_cons_zero, List.set_cons_succ]
  refine wpAnyH_take (i := 1) (v := ?_) rfl (by kernel_rfl) (by kernel_rfl) (by kernel_rfl) (fun _ _ _ h => h) (Or.inl ⟨by rfl, ?_⟩) (by assumption) ?_
  rotate_left
  · (intro w' hSw; (try dsimp only at hSw); go_simp; try (with_reducible rfl))
  change wpAnyH _ _ _ _ _ _ _ (Act.put _ (some 16) _) _
  try simp only [Act.put, List.setIfInBounds_toArray, List.set_cons_zero, List.set_cons_succ]
  refine wpAnyH_take (i := 2) (v := ?_) rfl (by kernel_rfl) (by kernel_rfl) (by kernel_rfl) (fun _ _ _ h => h) (Or.inl ⟨by rfl, ?_⟩) (by assumption) ?_
  rotate_left
  · (intro w' hSw; (try dsimp only at hSw); go_simp; try (with_reducible rfl))
  change wpAnyH _ _ _ _ _ _ _ (Act.put _ (some 17) _) _
  try simp only [Act.put, List.setIfInBounds_toArray, List.set_cons_zero, List.set_cons_succ]
  refine wpAnyH_take (i := 3) (v := ?_) rfl (by kernel_rfl) (by kernel_rfl) (by kernel_rfl) (fun _ _ _ h => h) (Or.inl ⟨by rfl, ?_⟩) (by assumption) ?_
  rotate_left
  · (intro w' hSw; (try dsimp only at hSw); go_simp; try (with_reducible rfl))
  change wpAnyH _ _ _ _ _ _ _ (Act.put _ (some 18) _) _
  try simp only [Act.put, List.setIfInBounds_toArray, List.set_cons_zero, List.set_cons_succ]
  refine wpAnyH_take (i := 4) (v := ?_) rfl (by kernel_rfl) (by kernel_rfl) (by kernel_rfl) (fun _ _ _ h => h) (Or.inl ⟨by rfl, ?_⟩) (by assumption) ?_
  rotate_left
  · (intro w' hSw; (try dsimp only at hSw); go_simp; try (with_reducible rfl))
  change wpAnyH _ _ _ _ _ _ _ (Act.put _ (some 19) _) _
  try simp only [Act.put, List.setIfInBounds_toArray, List.set_cons_zero, List.set_cons_succ]
  refine wpAnyH_take (i := 5) (v := ?_) rfl (by kernel_rfl) (by kernel_rfl) (by kernel_rfl) (fun _ _ _ h => h) (Or.inl ⟨by rfl, ?_⟩) (by assumption) ?_
  rotate_left
  · (intro w' hSw; (try dsimp only at hSw); go_simp; try (with_reducible rfl))
  change wpAnyH _ _ _ _ _ _ _ (Act.put _ (some 20) _) _
  try simp only [Act.put, List.setIfInBounds_toArray, List.set_cons_zero, List.set_cons_succ]
  refine wpAnyH_take (i := 7) (v := ?_) rfl (by kernel_rfl) (by kernel_rfl) (by kernel_rfl) (fun _ _ _ h => h) (Or.inl ⟨by rfl, ?_⟩) (by assumption) ?_
  rotate_left
  · (intro w' hSw; (try dsimp only at hSw); go_simp; try (with_reducible rfl))
  change wpAnyH _ _ _ _ _ _ _ (Act.put _ (some 22) _) _
  try simp only [Act.put, List.setIfInBounds_toArray, List.set_cons_zero, List.set_cons_succ]
  refine wpAnyH_take (i := 10) (v := ?_) rfl (by kernel_rfl) (by kernel_rfl) (by kernel_rfl) (fun _ _ _ h => h) (Or.inl ⟨by rfl, ?_⟩) (by assumption) ?_
  rotate_left
  · (intro w' hSw; (try dsimp only at hSw); go_simp; try (with_reducible rfl))
  change wpAnyH _ _ _ _ _ _ _ (Act.put _ (some 25) _) _
  try simp only [Act.put, List.setIfInBounds_toArray, List.set_cons_zero, List.set_cons_succ]
  refine wpAnyH_take (i := 11) (v := ?_) rfl (by kernel_rfl) (by kernel_rfl) (by kernel_rfl) (fun _ _ _ h => h) (Or.inl ⟨by rfl, ?_⟩) (by assumption) ?_
  rotate_left
  · (intro w' hSw; (try dsimp only at hSw); go_simp; try (with_reducible rfl))
  change wpAnyH _ _ _ _ _ _ _ (Act.put _ (some 26) _) _
  try simp only [Act.put, List.setIfInBounds_toArray, List.set_cons_zero, List.set_cons_succ]
  refine wpAnyH_take (i := 12) (v := ?_) rfl (by kernel_rfl) (by kernel_rfl) (by kernel_rfl) (fun _ _ _ h => h) (Or.inl ⟨by rfl, ?_⟩) (by assumption) ?_
  rotate_left
  · (intro w' hSw; (try dsimp only at hSw); go_simp; try (with_reducible rfl))
  change wpAnyH _ _ _ _ _ _ _ (Act.put _ (some 27) _) _
  try simp only [Act.put, List.setIfInBounds_toArray, List.set_cons_zero, List.set_cons_succ]
  refine wpAnyH_take (i := 13) (v := ?_) rfl (by kernel_rfl) (by kernel_rfl) (by kernel_rfl) (fun _ _ _ h => h) (Or.inl ⟨by rfl, ?_⟩) (by assumption) ?_
  rotate_left
  · (intro w' hSw; (try dsimp only at hSw); go_simp; try (with_reducible rfl))
  change wpAnyH _ _ _ _ _ _ _ (Act.put _ (some 28) _) _
  try simp only [Act.put, List.setIfInBounds_toArray, List.set_cons_zero, List.set_cons_succ]
  refine wpAnyH_take (i := 14) (v := ?_) rfl (by kernel_rfl) (by kernel_rfl) (by kernel_rfl) (fun _ _ _ h => h) (Or.inl ⟨by rfl, ?_⟩) (by assumption) ?_
  rotate_left
  · (intro w' hSw; (try dsimp only at hSw); go_simp; try (with_reducible rfl))
  change wpAnyH _ _ _ _ _ _ _ (Act.put _ (some 29) _) _
  try simp only [Act.put, List.setIfInBounds_toArray, List.set_cons_zero, List.set_cons_succ]
  refine wpAnyH_ready (rs := [6]) (by kernel_rfl) (by simp) ?_
  refine AllReadyH.cons (i := 6) rfl (fun K hK => ?_) AllReadyH.nil
  simp only [List.getElem_toArray, List.getElem_cons_succ, List.getElem_cons_zero]
  rw [if_pos (by rfl)]
  go_simp
  (go_at_call 72; refine (CD1.out _).mono ?_; rintro e' w3 ⟨rfl, hb3⟩; have X3 := hid (X2.out.drew.call hb3); clear s0 s1 s2 s3 s4 s5 s6 s7 s8 r0 r1 r2 bw lt; obtain ⟨s0, s1, s2, s3, s4, s5, s6, s7, s8, r0, r1, r2, bw, lt⟩ := X3.out; clear hb3; go_wp2_with fail)
  have hOld := hHeld
  clear hHeld
  refine hK.out _ _ ?_ (fun hHeld => ?_)
  · (try dsimp only); first | (simp [*]; done) | (refine ⟨?_, ?_, ?_, ?_, ?_, ?_⟩ <;> go_simp) | go_simp
  clear hK K hOld
  try simp only [Act.put, List.setIfInBounds_toArray, List.set_cons_zero, List.set_cons_succ]
  refine wpAnyH_ready (rs := [8]) (by kernel_rfl) (by simp) ?_
  refine AllReadyH.cons (i := 8) rfl (fun K hK => ?_) AllReadyH.nil
  simp only [List.getElem_toArray, List.getElem_cons_succ, List.getElem_cons_zero]
  rw [if_pos (by rfl)]
  go_simp
  (go_at_call 72; refine (CD2.out _).mono ?_; rintro e' w4 ⟨rfl, hb4⟩; have X4 := hid (X3.out.call hb4); clear s0 s1 s2 s3 s4 s5 s6 s7 s8 r0 r1 r2 bw lt; obtain ⟨s0, s1, s2, s3, s4, s5, s6, s7, s8, r0, r1, r2, bw, lt⟩ := X4.out; clear hb4; go_wp2_with fail)
  have hOld := hHeld
  clear hHeld
  refine hK.out _ _ ?_ (fun hHeld => ?_)
  · (try dsimp only); first | (simp [*]; done) | (refine ⟨?_, ?_, ?_, ?_, ?_, ?_⟩ <;> go_simp) | go_simp
  clear hK K hOld
  try simp only [Act.put, List.setIfInBounds_toArray, List.set_cons_zero, List.set_cons_succ]
  refine wpAnyH_ready (rs := [9]) (by kernel_rfl) (by simp) ?_
  refine AllReadyH.cons (i := 9) rfl (fun K hK => ?_) AllReadyH.nil
  simp only [List.getElem_toArray, List.getElem_cons_succ, List.getElem_cons_zero]
  rw [if_pos (by rfl)]
  go_simp
  (go_at_call 71; refine (CM.out _).mono ?_; rintro e' w5 ⟨rfl, hb5⟩; have X5 := hid (X4.out.call hb5); clear s0 s1 s2 s3 s4 s5 s6 s7 s8 r0 r1 r2 bw lt; obtain ⟨s0, s1, s2, s3, s4, s5, s6, s7, s8, r0, r1, r2, bw, lt⟩ := X5.out; clear hb5; go_wp2_with fail)
  have hOld := hHeld
  clear hHeld
  refine hK.out _ _ ?_ (fun hHeld => ?_)
  · (try dsimp only); first | (simp [*]; done) | (refine ⟨?_, ?_, ?_, ?_, ?_, ?_⟩ <;> go_simp) | go_simp
  clear hK K hOld
  try simp only [Act.put, List.setIfInBounds_toArray, List.set_cons_zero, List.set_cons_succ]
  refine wpAnyH_ready (rs := [15]) (by kernel_rfl) (by simp) ?_
  refine AllReadyH.cons (i := 15) rfl (fun K hK => ?_) AllReadyH.nil
  simp only [List.getElem_toArray, List.getElem_cons_succ, List.getElem_cons_zero]
  rw [if_pos (by rfl)]
  go_simp
  (go_at_call 70; refine (CF.out _).mono ?_; rintro e' w6 ⟨rfl, hb6⟩; have X6 := hid (X5.out.call hb6); clear s0 s1 s2 s3 s4 s5 s6 s7 s8 r0 r1 r2 bw lt; obtain ⟨s0, s1, s2, s3, s4, s5, s6, s7, s8, r0, r1, r2, bw, lt⟩ := X6.out; clear hb6; go_wp2_with fail)
  have hOld := hHeld
  clear hHeld
  refine hK.out _ _ ?_ (fun hHeld => ?_)
  · (try dsimp only); first | (simp [*]; done) | (refine ⟨?_, ?_, ?_, ?_, ?_, ?_⟩ <;> go_simp) | go_simp
  clear hK K hOld
  try simp only [Act.put, List.setIfInBounds_toArray, List.set_cons_zero, List.set_cons_succ]
  refine wpAnyH_take (i := 16) (v := ?_) rfl (by kernel_rfl) (by kernel_rfl) (by kernel_rfl) (fun _ _ _ h => h) (Or.inl ⟨by rfl, ?_⟩) (by assumption) ?_
  rotate_left
  · (intro w' hSw; (try dsimp only at hSw); go_simp; try (with_reducible rfl))
  change wpAnyH _ _ _ _ _ _ _ (Act.put _ (some 31) _) _
  try simp only [Act.put, List.setIfInBounds_toArray, List.set_cons_zero, List.set_cons_succ]
  refine wpAnyH_take (i := 17) (v := ?_) rfl (by kernel_rfl) (by kernel_rfl) (by kernel_rfl) (fun _ _ _ h => h) (Or.inl ⟨by rfl, ?_⟩) (by assumption) ?_
  rotate_left
  · (intro w' hSw; (try dsimp only at hSw); go_simp; try (with_reducible rfl))
  change wpAnyH _ _ _ _ _ _ _ (Act.put _ (some 32) _) _
  try simp only [Act.put, List.setIfInBounds_toArray, List.set_cons_zero, List.set_cons_succ]
  refine wpAnyH_ready (rs := [18]) (by kernel_rfl) (by simp) ?_
  refine AllReadyH.cons (i := 18) rfl (fun K hK => ?_) AllReadyH.nil
  simp only [List.getElem_toArray, List.getElem_cons_succ, List.getElem_cons_zero]
  rw [if_pos (by rfl)]
  go_simp
  have hOld := hHeld
  clear hHeld
  refine hK.out _ _ ?_ (fun hHeld => ?_)
  · (try dsimp only); first | (simp [*]; done) | (refine ⟨?_, ?_, ?_, ?_, ?_, ?_⟩ <;> go_simp) | go_simp
  clear hK K hOld
  try simp only [Act.put, List.setIfInBounds_toArray, List.set_cons_zero, List.set_cons_succ]
  refine wpAnyH_take (i := 19) (v := ?_) rfl (by kernel_rfl) (by kernel_rfl) (by kernel_rfl) (fun _ _ _ h => h) (Or.inl ⟨by rfl, ?_⟩) (by assumption) ?_
  rotate_left
  · (intro w' hSw; (try dsimp only at hSw); go_simp; try (with_reducible rfl))
  change wpAnyH _ _ _ _ _ _ _ (Act.put _ (some 5) _) _
  try simp only [Act.put, List.setIfInBounds_toArray, List.set_cons_zero, List.set_cons_succ]
  refine wpAnyH_done (by kernel_rfl) ?_ _
  clear hHeld
  go_wp2_with fail
  refine bodyPost_ret (v := .tuple #[.agg #[.bool R.1.neg, .string R.1.dig, .int .i64 R.1.exp], .int .i64 R.2]) (by simp [results, Tryz.results32, go_sem, s0, s1, s2, s3, s4, s5, s6, s7, s8, r0, r1, r2, lt]) rfl ⟨rfl, ?_⟩
  repeat' (first | (with_reducible exact bw) | (with_reducible refine Below.setCell ?_ ?_ _) | (simp; done) | (simp; omega) | omega)
end Go.Proofs.YthfmhenphnllfaaGreatDoor

namespace Go.Proofs.YthfmhenphnllfaaGreatDoor
open Go.RowKit
set_option linter.unusedVariables false
set_option linter.unusedSimpArgs false
set_option maxHeartbeats 16000000 in
set_option maxRecDepth 100000 in
theorem specDecDiv (a b : Dec) (w : World) (ha : decOk a = true) (hb : decOk b = true) :
    Calls Tryz.prog 33 #[.agg #[.bool a.neg, .string a.dig, .int .i64 a.exp], .agg #[.bool b.neg, .string b.dig, .int .i64 b.exp]] w fun e w' => e = .returned (formV (divD a b)) ∧ Below w.heap.size w w' := by
  obtain ⟨a1, a2, a3, a4, a5⟩ := ok_facts ha
  obtain ⟨b1, b2, b3, b4, b5⟩ := ok_facts hb
  have CO1 : Hid (∀ w, Calls Tryz.prog 67 #[.agg #[.bool a.neg, .string a.dig, .int .i64 a.exp]] w fun e w' => e = .returned (.bool true) ∧ Below w.heap.size w w') := hid (fun w => by
    have h := specDecOk (d := a) (cs := #[.bool a.neg, .string a.dig, .int .i64 a.exp]) w (by exact rdDec_mk (x := a) (by omega) (by omega))
    rw [ha] at h
    exact h)
  have CO2 : Hid (∀ w, Calls Tryz.prog 67 #[.agg #[.bool b.neg, .string b.dig, .int .i64 b.exp]] w fun e w' => e = .returned (.bool true) ∧ Below w.heap.size w w') := hid (fun w => by
    have h := specDecOk (d := b) (cs := #[.bool b.neg, .string b.dig, .int .i64 b.exp]) w (by exact rdDec_mk (x := b) (by omega) (by omega))
    rw [hb] at h
    exact h)
  by_cases hz : b.dig.size = 0
  · have HR := hid (show divD a b = (dec0, 2) by unfold divD; rw [if_pos hz])
    have g1 : (b.dig.toList == []) = true := by rw [ba_nil hz, Lib.toList_data]; rfl
    have g2 : b.dig.toList.isEmpty = true := by rw [empty_size, decide_eq_true hz]
    clear hz
    obtain ⟨na, da, ea⟩ := a
    obtain ⟨nb, db, eb⟩ := b
    dsimp only at *
    clear a1 a3 a4 a5 b1 b3 b4 b5 ha hb a2 b2
    have X0 := hid (box3_start w na da ea nb db eb)
    obtain ⟨s0, s1, s2, s3, s4, s5, s6, s7, s8, r0, r1, r2, bw, lt⟩ := X0.out
    go_enter Tryz.func33, Tryz.ntmps33
    go_wp2_with fail
    refine (CO1.out _).mono ?_
    rintro e' w1 ⟨rfl, hb1⟩
    have X1 := hid (X0.out.call hb1)
    clear s0 s1 s2 s3 s4 s5 s6 s7 s8 r0 r1 r2 bw lt
    obtain ⟨s0, s1, s2, s3, s4, s5, s6, s7, s8, r0, r1, r2, bw, lt⟩ := X1.out
    clear hb1
    go_wp2_with fail
    refine (CO2.out _).mono ?_
    rintro e' w2 ⟨rfl, hb2⟩
    have X2 := hid (X1.out.call hb2)
    clear s0 s1 s2 s3 s4 s5 s6 s7 s8 r0 r1 r2 bw lt
    obtain ⟨s0, s1, s2, s3, s4, s5, s6, s7, s8, r0, r1, r2, bw, lt⟩ := X2.out
    clear hb2
    go_wp2
    refine bodyPost_ret (v := .tuple #[.agg #[.bool false, .string ⟨#[]⟩, .int .i64 0], .int .i64 2]) (by simp [results, Tryz.results33, go_sem, s0, s1, s2, s3, s4, s5, s6, s7, s8, r0, r1, r2, lt]) rfl ⟨by rw [HR.out]; rfl, ?_⟩
    repeat' (first | (with_reducible exact bw) | (with_reducible refine Below.setCell ?_ ?_ _) | (simp; done) | (simp; omega) | omega)
  have hdb : dgB b.dig = b.dig := by unfold dgB; rw [if_neg hz]
  have g1 : (b.dig.toList == []) = false := ba_nil_beq hz
  have g2 : b.dig.toList.isEmpty = false := by rw [empty_size, decide_eq_false hz]
  have hB0 : 0 < valZ b := by
    have := mt (valZ_zero hb).1 hz
    omega
  have hVb : vD b.dig.data.toList = valZ b := by unfold valZ; rw [hdb]
  have hbd : digits b.dig.data.toList := by rw [← hdb]; exact b3
  have hsA : (dgB a.dig).size ≤ 21 := Nat.le_trans (dgB_size _) (by omega)
  have CD1 := hid (fun (w : World) => specDig a.neg a.dig a.exp w)
  have CZ : Hid (∀ w, Calls Tryz.prog 74 #[.int .i64 42] w fun e w' => e = .returned (.string (zeroB 42)) ∧ Below w.heap.size w w') := hid (fun (w : World) => specZeros 42 w (by decide))
  have hAZ : (dgB a.dig ++ zeroB 42).data.toList = (dgB a.dig).data.toList ++ zeroL 42 := by rw [ByteArray.data_append, Array.toList_append]; rfl
  have hvA : vD (dgB a.dig ++ zeroB 42).data.toList = valZ a * 10 ^ 42 := by rw [hAZ, vD_append, vD_zeros, zeroL_len, Nat.add_zero]; rfl
  have CDV := hid (fun (w : World) => specDiv (dgB a.dig ++ zeroB 42) b.dig w (by rw [hAZ]; exact digits_append_zeros a3 42) hbd (by rw [hVb]; exact hB0) (by rw [ByteArray.size_append, zeroB_size]; omega) (by omega))
  rw [hvA, hVb] at CDV
  have hql : (natL (valZ a * 10 ^ 42 / valZ b)).length ≤ 70 := by
    refine natL_len_pow ?_ (by decide)
    have h1 := valZ_lt ha
    have h2 : valZ a * 10 ^ 42 / valZ b ≤ valZ a * 10 ^ 42 := Nat.div_le_self _ _
    have h3 : valZ a * 10 ^ 42 ≤ 10 ^ 20 * 10 ^ 42 := Nat.mul_le_mul_right _ (Nat.le_of_lt h1)
    exact Nat.lt_of_le_of_lt (Nat.le_trans h2 h3) (by decide)
  have hdi : divD a b = divN (a.neg != b.neg) (valZ a * 10 ^ 42) (valZ b) (a.exp - b.exp - 42) := by unfold divD; rw [if_neg hz]
  unfold divN at hdi
  obtain ⟨rr, hrr⟩ : ∃ r, valZ a * 10 ^ 42 % valZ b = r := ⟨_, rfl⟩
  obtain ⟨qq, hqq⟩ : ∃ r, valZ a * 10 ^ 42 / valZ b = r := ⟨_, rfl⟩
  rw [hrr, hqq] at hdi CDV
  rw [hqq] at hql
  have hrt1 : ((mkB (natL rr)).toList != [48]) = decide (rr ≠ 0) := by
    rw [mkB_toList, Bool.eq_iff_iff, bne_iff_ne, decide_eq_true_eq, ne_eq, natL_is0]
  have hrt2 : ((mkB (natL rr)).toList == [48]) = decide (rr = 0) := by
    rw [mkB_toList, Bool.eq_iff_iff, beq_iff_eq, decide_eq_true_eq, natL_is0]
  have CF1 := hid (fun (w : World) => specFormM (a.neg != b.neg) (mkB (natL qq)) (a.exp - b.exp - 42) w (natL_mkB_digits _) (by rw [mkB_size]; omega) (by omega))
  have CF2 := hid (fun (w : World) => specForm (a.neg != b.neg) (mkB (natL qq)) (a.exp - b.exp - 42) w (natL_mkB_digits _) (by rw [mkB_size]; omega) (by omega))
  rw [mkB_data] at CF1 CF2
  obtain ⟨R, hR⟩ : ∃ r, divD a b = r := ⟨_, rfl⟩
  rw [hR] at hdi ⊢
  have hsum : ¬ 9223372036854775807 < (dgB a.dig).size + (zeroB 42).size := by rw [zeroB_size]; omega
  obtain ⟨A, hA⟩ : ∃ x, dgB a.dig = x := ⟨_, rfl⟩
  obtain ⟨ZB, hZB⟩ : ∃ x, zeroB 42 = x := ⟨_, rfl⟩
  obtain ⟨QB, hQB⟩ : ∃ x, mkB (natL qq) = x := ⟨_, rfl⟩
  obtain ⟨RB, hRB⟩ : ∃ x, mkB (natL rr) = x := ⟨_, rfl⟩
  rw [hA] at CD1 CDV hsum
  rw [hZB] at CZ CDV hsum
  rw [hQB] at CDV CF1 CF2
  rw [hRB] at CDV hrt1 hrt2
  have hw1 : IntKind.i64.wrap (a.exp - b.exp) = a.exp - b.exp := IntWalk.i64_in _ (by omega)
  have hw2 : IntKind.i64.wrap (a.exp - b.exp - 42) = a.exp - b.exp - 42 := IntWalk.i64_in _ (by omega)
  by_cases hr0 : rr ≠ 0
  · rw [if_pos hr0] at hdi
    rw [decide_eq_true hr0] at hrt1
    rw [decide_eq_false hr0] at hrt2
    rw [← hdi] at CF1
    unfold formV at CF1 ⊢
    clear hdb hB0 hVb hbd hsA hAZ hvA hql hdi hrr hqq hR hA hZB hQB hRB hr0 hz CF2
    obtain ⟨na, da, ea⟩ := a
    obtain ⟨nb, db, eb⟩ := b
    dsimp only at *
    clear a1 a3 a4 a5 b1 b3 b4 b5 ha hb a2 b2
    have X0 := hid (box3_start w na da ea nb db eb)
    obtain ⟨s0, s1, s2, s3, s4, s5, s6, s7, s8, r0, r1, r2, bw, lt⟩ := X0.out
    go_enter Tryz.func33, Tryz.ntmps33
    go_wp2_with fail
    refine (CO1.out _).mono ?_
    rintro e' w1 ⟨rfl, hb1⟩
    have X1 := hid (X0.out.call hb1)
    clear s0 s1 s2 s3 s4 s5 s6 s7 s8 r0 r1 r2 bw lt
    obtain ⟨s0, s1, s2, s3, s4, s5, s6, s7, s8, r0, r1, r2, bw, lt⟩ := X1.out
    clear hb1
    go_wp2_with fail
    refine (CO2.out _).mono ?_
    rintro e' w2 ⟨rfl, hb2⟩
    have X2 := hid (X1.out.call hb2)
    clear s0 s1 s2 s3 s4 s5 s6 s7 s8 r0 r1 r2 bw lt
    obtain ⟨s0, s1, s2, s3, s4, s5, s6, s7, s8, r0, r1, r2, bw, lt⟩ := X2.out
    clear hb2
    go_wp2_with fail
    refine wp_region_held_drew (S := fun w' => w'.cell? ⟨w.heap.size, 0, none⟩ = some (.bool na) ∧ w'.cell? ⟨w.heap.size, 1, none⟩ = some (.string da) ∧ w'.cell? ⟨w.heap.size, 2, none⟩ = some (.int .i64 ea) ∧ w'.cell? ⟨w.heap.size + 1, 0, none⟩ = some (.bool nb) ∧ w'.cell? ⟨w.heap.size + 1, 1, none⟩ = some (.string db) ∧ w'.cell? ⟨w.heap.size + 1, 2, none⟩ = some (.int .i64 eb)) (by kernel_rfl) ?_ (fun hHeld => ?_)
    · simp [*]
    refine wpAnyH_take (i := 0) (v := ?_) rfl (by kernel_rfl) (by kernel_rfl) (by kernel_rfl) (fun _ _ _ h => h) (Or.inl ⟨by rfl, ?_⟩) (by assumption) ?_
    rotate_left
    · (intro w' hSw; (try dsimp only at hSw); go_simp; try (with_reducible rfl))
    change wpAnyH _ _ _ _ _ _ _ (Act.put _ (some 23) _) _
    try simp only [Act.put, List.setIfInBounds_toArray, List.set_cons_zero, List.set_cons_succ]
    refine wpAnyH_take (i := 2) (v := ?_) rfl (by kernel_rfl) (by kernel_rfl) (by kernel_rfl) (fun _ _ _ h => h) (Or.inl ⟨by rfl, ?_⟩) (by assumption) ?_
    rotate_left
    · (intro w' hSw; (try dsimp only at hSw); go_simp; try (with_reducible rfl))
    change wpAnyH _ _ _ _ _ _ _ (Act.put _ (some 25) _) _
    try simp only [Act.put, List.setIfInBounds_toArray, List.set_cons_zero, List.set_cons_succ]
    refine wpAnyH_take (i := 5) (v := ?_) rfl (by kernel_rfl) (by kernel_rfl) (by kernel_rfl) (fun _ _ _ h => h) (Or.inl ⟨by rfl, ?_⟩) (by assumption) ?_
    rotate_left
    · (intro w' hSw; (try dsimp only at hSw); go_simp; try (with_reducible rfl))
    change wpAnyH _ _ _ _ _ _ _ (Act.put _ (some 28) _) _
    try simp only [Act.put, List.setIfInBounds_toArray, List.set_cons_zero, List.set_cons_succ]
    refine wpAnyH_take (i := 6) (v := ?_) rfl (by kernel_rfl) (by kernel_rfl) (by kernel_rfl) (fun _ _ _ h => h) (Or.inl ⟨by rfl, ?_⟩) (by assumption) ?_
    rotate_left
    · (intro w' hSw; (try dsimp only at hSw); go_simp; try (with_reducible rfl))
    change wpAnyH _ _ _ _ _ _ _ (Act.put _ (some 29) _) _
    try simp only [Act.put, List.setIfInBounds_toArray, List.set_cons_zero, List.set_cons_succ]
    refine wpAnyH_ready (rs := [1]) (by kernel_rfl) (by simp) ?_
    refine AllReadyH.cons (i := 1) rfl (fun K hK => ?_) AllReadyH.nil
    simp only [List.getElem_toArray, List.getElem_cons_succ, List.getElem_cons_zero]
    rw [if_pos (by rfl)]
    go_simp
    (go_at_call 72; refine (CD1.out _).mono ?_; rintro e' w3 ⟨rfl, hb3⟩; have X3 := hid (X2.out.drew.call hb3); clear s0 s1 s2 s3 s4 s5 s6 s7 s8 r0 r1 r2 bw lt; obtain ⟨s0, s1, s2, s3, s4, s5, s6, s7, s8, r0, r1, r2, bw, lt⟩ := X3.out; clear hb3; go_wp2_with fail)
    have hOld := hHeld
    clear hHeld
    refine hK.out _ _ ?_ (fun hHeld => ?_)
    · (try dsimp only); first | (simp [*]; done) | (refine ⟨?_, ?_, ?_, ?_, ?_, ?_⟩ <;> go_simp) | go_simp
    clear hK K hOld
    try simp only [Act.put, List.setIfInBounds_toArray, List.set_cons_zero, List.set_cons_succ]
    refine wpAnyH_ready (rs := [3]) (by kernel_rfl) (by simp) ?_
    refine AllReadyH.cons (i := 3) rfl (fun K hK => ?_) AllReadyH.nil
    simp only [List.getElem_toArray, List.getElem_cons_succ, List.getElem_cons_zero]
    rw [if_pos (by rfl)]
    go_simp
    (go_at_call 74; refine (CZ.out _).mono ?_; rintro e' w4 ⟨rfl, hb4⟩; have X4 := hid (X3.out.call hb4); clear s0 s1 s2 s3 s4 s5 s6 s7 s8 r0 r1 r2 bw lt; obtain ⟨s0, s1, s2, s3, s4, s5, s6, s7, s8, r0, r1, r2, bw, lt⟩ := X4.out; clear hb4; go_wp2_with fail)
    have hOld := hHeld
    clear hHeld
    refine hK.out _ _ ?_ (fun hHeld => ?_)
    · (try dsimp only); first | (simp [*]; done) | (refine ⟨?_, ?_, ?_, ?_, ?_, ?_⟩ <;> go_simp) | go_simp
    clear hK K hOld
    try simp only [Act.put, List.setIfInBounds_toArray, List.set_cons_zero, List.set_cons_succ]
    refine wpAnyH_take (i := 4) (v := ?_) rfl (by kernel_rfl) (by kernel_rfl) (by kernel_rfl) (fun _ _ _ h => h) (Or.inl ⟨by rfl, ?_⟩) (by assumption) ?_
    rotate_left
    · (intro w' hSw; (try dsimp only at hSw); go_simp; try (with_reducible rfl))
    change wpAnyH _ _ _ _ _ _ _ (Act.put _ (some 27) _) _
    try simp only [Act.put, List.setIfInBounds_toArray, List.set_cons_zero, List.set_cons_succ]
    refine wpAnyH_ready (rs := [7]) (by kernel_rfl) (by simp) ?_
    refine AllReadyH.cons (i := 7) rfl (fun K hK => ?_) AllReadyH.nil
    simp only [List.getElem_toArray, List.getElem_cons_succ, List.getElem_cons_zero]
    rw [if_pos (by rfl)]
    go_simp
    (go_at_call 73; refine (CDV.out _).mono ?_; rintro e' w5 ⟨rfl, hb5⟩; have X5 := hid (X4.out.call hb5); clear s0 s1 s2 s3 s4 s5 s6 s7 s8 r0 r1 r2 bw lt; obtain ⟨s0, s1, s2, s3, s4, s5, s6, s7, s8, r0, r1, r2, bw, lt⟩ := X5.out; clear hb5; go_wp2_with fail)
    have hOld := hHeld
    clear hHeld
    refine hK.out _ _ ?_ (fun hHeld => ?_)
    · (try dsimp only); first | (simp [*]; done) | (refine ⟨?_, ?_, ?_, ?_, ?_, ?_⟩ <;> go_simp) | go_simp
    clear hK K hOld
    try simp only [Act.put, List.setIfInBounds_toArray, List.set_cons_zero, List.set_cons_succ]
    refine wpAnyH_take (i := 8) (v := ?_) rfl (by kernel_rfl) (by kernel_rfl) (by kernel_rfl) (fun _ _ _ h => h) (Or.inl ⟨by rfl, ?_⟩) (by assumption) ?_
    rotate_left
    · (intro w' hSw; (try dsimp only at hSw); go_simp; try (with_reducible rfl))
    change wpAnyH _ _ _ _ _ _ _ (Act.put _ (some 22) _) _
    try simp only [Act.put, List.setIfInBounds_toArray, List.set_cons_zero, List.set_cons_succ]
    refine wpAnyH_take (i := 9) (v := ?_) rfl (by kernel_rfl) (by kernel_rfl) (by kernel_rfl) (fun _ _ _ h => h) (Or.inl ⟨by rfl, ?_⟩) (by assumption) ?_
    rotate_left
    · (intro w' hSw; (try dsimp only at hSw); go_simp; try (with_reducible rfl))
    change wpAnyH _ _ _ _ _ _ _ (Act.put _ (some 31) _) _
    try simp only [Act.put, List.setIfInBounds_toArray, List.set_cons_zero, List.set_cons_succ]
    refine wpAnyH_take (i := 10) (v := ?_) rfl (by kernel_rfl) (by kernel_rfl) (by kernel_rfl) (fun _ _ _ h => h) (Or.inl ⟨by rfl, ?_⟩) (by assumption) ?_
    rotate_left
    · (intro w' hSw; (try dsimp only at hSw); go_simp; try (with_reducible rfl))
    change wpAnyH _ _ _ _ _ _ _ (Act.put _ (some 32) _) _
    try simp only [Act.put, List.setIfInBounds_toArray, List.set_cons_zero, List.set_cons_succ]
    refine wpAnyH_take (i := 11) (v := ?_) rfl (by kernel_rfl) (by kernel_rfl) (by kernel_rfl) (fun _ _ _ h => h) (Or.inl ⟨by rfl, ?_⟩) (by assumption) ?_
    rotate_left
    · (intro w' hSw; (try dsimp only at hSw); go_simp; try (with_reducible rfl))
    change wpAnyH _ _ _ _ _ _ _ (Act.put _ (some 7) _) _
    try simp only [Act.put, List.setIfInBounds_toArray, List.set_cons_zero, List.set_cons_succ]
    refine wpAnyH_take (i := 12) (v := ?_) rfl (by kernel_rfl) (by kernel_rfl) (by kernel_rfl) (fun _ _ _ h => h) (Or.inl ⟨by rfl, ?_⟩) (by assumption) ?_
    rotate_left
    · (intro w' hSw; (try dsimp only at hSw); go_simp; try (with_reducible rfl))
    change wpAnyH _ _ _ _ _ _ _ (Act.put _ (some 8) _) _
    try simp only [Act.put, List.setIfInBounds_toArray, List.set_cons_zero, List.set_cons_succ]
    refine wpAnyH_done (by kernel_rfl) ?_ _
    clear hHeld
    go_wp2_with fail
    refine (CF1.out _).mono ?_
    rintro e' w6 ⟨rfl, hb6⟩
    have X6 := hid (X5.out.call hb6)
    clear s0 s1 s2 s3 s4 s5 s6 s7 s8 r0 r1 r2 bw lt
    obtain ⟨s0, s1, s2, s3, s4, s5, s6, s7, s8, r0, r1, r2, bw, lt⟩ := X6.out
    clear hb6
    go_wp2_with fail
    refine bodyPost_ret (v := .tuple #[.agg #[.bool R.1.neg, .string R.1.dig, .int .i64 R.1.exp], .int .i64 R.2]) (by simp [results, Tryz.results33, go_sem, s0, s1, s2, s3, s4, s5, s6, s7, s8, r0, r1, r2, lt]) rfl ⟨rfl, ?_⟩
    repeat' (first | (with_reducible exact bw) | (with_reducible refine Below.setCell ?_ ?_ _) | (simp; done) | (simp; omega) | omega)
  · rw [if_neg hr0] at hdi
    rw [decide_eq_false hr0] at hrt1
    rw [decide_eq_true (Decidable.not_not.1 hr0)] at hrt2
    rw [← hdi] at CF2
    unfold formV at CF2 ⊢
    clear hdb hB0 hVb hbd hsA hAZ hvA hql hdi hrr hqq hR hA hZB hQB hRB hr0 hz CF1
    obtain ⟨na, da, ea⟩ := a
    obtain ⟨nb, db, eb⟩ := b
    dsimp only at *
    clear a1 a3 a4 a5 b1 b3 b4 b5 ha hb a2 b2
    have X0 := hid (box3_start w na da ea nb db eb)
    obtain ⟨s0, s1, s2, s3, s4, s5, s6, s7, s8, r0, r1, r2, bw, lt⟩ := X0.out
    go_enter Tryz.func33, Tryz.ntmps33
    go_wp2_with fail
    refine (CO1.out _).mono ?_
    rintro e' w1 ⟨rfl, hb1⟩
    have X1 := hid (X0.out.call hb1)
    clear s0 s1 s2 s3 s4 s5 s6 s7 s8 r0 r1 r2 bw lt
    obtain ⟨s0, s1, s2, s3, s4, s5, s6, s7, s8, r0, r1, r2, bw, lt⟩ := X1.out
    clear hb1
    go_wp2_with fail
    refine (CO2.out _).mono ?_
    rintro e' w2 ⟨rfl, hb2⟩
    have X2 := hid (X1.out.call hb2)
    clear s0 s1 s2 s3 s4 s5 s6 s7 s8 r0 r1 r2 bw lt
    obtain ⟨s0, s1, s2, s3, s4, s5, s6, s7, s8, r0, r1, r2, bw, lt⟩ := X2.out
    clear hb2
    go_wp2_with fail
    refine wp_region_held_drew (S := fun w' => w'.cell? ⟨w.heap.size, 0, none⟩ = some (.bool na) ∧ w'.cell? ⟨w.heap.size, 1, none⟩ = some (.string da) ∧ w'.cell? ⟨w.heap.size, 2, none⟩ = some (.int .i64 ea) ∧ w'.cell? ⟨w.heap.size + 1, 0, none⟩ = some (.bool nb) ∧ w'.cell? ⟨w.heap.size + 1, 1, none⟩ = some (.string db) ∧ w'.cell? ⟨w.heap.size + 1, 2, none⟩ = some (.int .i64 eb)) (by kernel_rfl) ?_ (fun hHeld => ?_)
    · simp [*]
    refine wpAnyH_take (i := 0) (v := ?_) rfl (by kernel_rfl) (by kernel_rfl) (by kernel_rfl) (fun _ _ _ h => h) (Or.inl ⟨by rfl, ?_⟩) (by assumption) ?_
    rotate_left
    · (intro w' hSw; (try dsimp only at hSw); go_simp; try (with_reducible rfl))
    change wpAnyH _ _ _ _ _ _ _ (Act.put _ (some 23) _) _
    try simp only [Act.put, List.setIfInBounds_toArray, List.set_cons_zero, List.set_cons_succ]
    refine wpAnyH_take (i := 2) (v := ?_) rfl (by kernel_rfl) (by kernel_rfl) (by kernel_rfl) (fun _ _ _ h => h) (Or.inl ⟨by rfl, ?_⟩) (by assumption) ?_
    rotate_left
    · (intro w' hSw; (try dsimp only at hSw); go_simp; try (with_reducible rfl))
    change wpAnyH _ _ _ _ _ _ _ (Act.put _ (some 25) _) _
    try simp only [Act.put, List.setIfInBounds_toArray, List.set_cons_zero, List.set_cons_succ]
    refine wpAnyH_take (i := 5) (v := ?_) rfl (by kernel_rfl) (by kernel_rfl) (by kernel_rfl) (fun _ _ _ h => h) (Or.inl ⟨by rfl, ?_⟩) (by assumption) ?_
    rotate_left
    · (intro w' hSw; (try dsimp only at hSw); go_simp; try (with_reducible rfl))
    change wpAnyH _ _ _ _ _ _ _ (Act.put _ (some 28) _) _
    try simp only [Act.put, List.setIfInBounds_toArray, List.set_cons_zero, List.set_cons_succ]
    refine wpAnyH_take (i := 6) (v := ?_) rfl (by kernel_rfl) (by kernel_rfl) (by kernel_rfl) (fun _ _ _ h => h) (Or.inl ⟨by rfl, ?_⟩) (by assumption) ?_
    rotate_left
    · (intro w' hSw; (try dsimp only at hSw); go_simp; try (with_reducible rfl))
    change wpAnyH _ _ _ _ _ _ _ (Act.put _ (some 29) _) _
    try simp only [Act.put, List.setIfInBounds_toArray, List.set_cons_zero, List.set_cons_succ]
    refine wpAnyH_ready (rs := [1]) (by kernel_rfl) (by simp) ?_
    refine AllReadyH.cons (i := 1) rfl (fun K hK => ?_) AllReadyH.nil
    simp only [List.getElem_toArray, List.getElem_cons_succ, List.getElem_cons_zero]
    rw [if_pos (by rfl)]
    go_simp
    (go_at_call 72; refine (CD1.out _).mono ?_; rintro e' w3 ⟨rfl, hb3⟩; have X3 := hid (X2.out.drew.call hb3); clear s0 s1 s2 s3 s4 s5 s6 s7 s8 r0 r1 r2 bw lt; obtain ⟨s0, s1, s2, s3, s4, s5, s6, s7, s8, r0, r1, r2, bw, lt⟩ := X3.out; clear hb3; go_wp2_with fail)
    have hOld := hHeld
    clear hHeld
    refine hK.out _ _ ?_ (fun hHeld => ?_)
    · (try dsimp only); first | (simp [*]; done) | (refine ⟨?_, ?_, ?_, ?_, ?_, ?_⟩ <;> go_simp) | go_simp
    clear hK K hOld
    try simp only [Act.put, List.setIfInBounds_toArray, List.set_cons_zero, List.set_cons_succ]
    refine wpAnyH_ready (rs := [3]) (by kernel_rfl) (by simp) ?_
    refine AllReadyH.cons (i := 3) rfl (fun K hK => ?_) AllReadyH.nil
    simp only [List.getElem_toArray, List.getElem_cons_succ, List.getElem_cons_zero]
    rw [if_pos (by rfl)]
    go_simp
    (go_at_call 74; refine (CZ.out _).mono ?_; rintro e' w4 ⟨rfl, hb4⟩; have X4 := hid (X3.out.call hb4); clear s0 s1 s2 s3 s4 s5 s6 s7 s8 r0 r1 r2 bw lt; obtain ⟨s0, s1, s2, s3, s4, s5, s6, s7, s8, r0, r1, r2, bw, lt⟩ := X4.out; clear hb4; go_wp2_with fail)
    have hOld := hHeld
    clear hHeld
    refine hK.out _ _ ?_ (fun hHeld => ?_)
    · (try dsimp only); first | (simp [*]; done) | (refine ⟨?_, ?_, ?_, ?_, ?_, ?_⟩ <;> go_simp) | go_simp
    clear hK K hOld
    try simp only [Act.put, List.setIfInBounds_toArray, List.set_cons_zero, List.set_cons_succ]
    refine wpAnyH_take (i := 4) (v := ?_) rfl (by kernel_rfl) (by kernel_rfl) (by kernel_rfl) (fun _ _ _ h => h) (Or.inl ⟨by rfl, ?_⟩) (by assumption) ?_
    rotate_left
    · (intro w' hSw; (try dsimp only at hSw); go_simp; try (with_reducible rfl))
    change wpAnyH _ _ _ _ _ _ _ (Act.put _ (some 27) _) _
    try simp only [Act.put, List.setIfInBounds_toArray, List.set_cons_zero, List.set_cons_succ]
    refine wpAnyH_ready (rs := [7]) (by kernel_rfl) (by simp) ?_
    refine AllReadyH.cons (i := 7) rfl (fun K hK => ?_) AllReadyH.nil
    simp only [List.getElem_toArray, List.getElem_cons_succ, List.getElem_cons_zero]
    rw [if_pos (by rfl)]
    go_simp
    (go_at_call 73; refine (CDV.out _).mono ?_; rintro e' w5 ⟨rfl, hb5⟩; have X5 := hid (X4.out.call hb5); clear s0 s1 s2 s3 s4 s5 s6 s7 s8 r0 r1 r2 bw lt; obtain ⟨s0, s1, s2, s3, s4, s5, s6, s7, s8, r0, r1, r2, bw, lt⟩ := X5.out; clear hb5; go_wp2_with fail)
    have hOld := hHeld
    clear hHeld
    refine hK.out _ _ ?_ (fun hHeld => ?_)
    · (try dsimp only); first | (simp [*]; done) | (refine ⟨?_, ?_, ?_, ?_, ?_, ?_⟩ <;> go_simp) | go_simp
    clear hK K hOld
    try simp only [Act.put, List.setIfInBounds_toArray, List.set_cons_zero, List.set_cons_succ]
    refine wpAnyH_take (i := 8) (v := ?_) rfl (by kernel_rfl) (by kernel_rfl) (by kernel_rfl) (fun _ _ _ h => h) (Or.inl ⟨by rfl, ?_⟩) (by assumption) ?_
    rotate_left
    · (intro w' hSw; (try dsimp only at hSw); go_simp; try (with_reducible rfl))
    change wpAnyH _ _ _ _ _ _ _ (Act.put _ (some 22) _) _
    try simp only [Act.put, List.setIfInBounds_toArray, List.set_cons_zero, List.set_cons_succ]
    refine wpAnyH_take (i := 9) (v := ?_) rfl (by kernel_rfl) (by kernel_rfl) (by kernel_rfl) (fun _ _ _ h => h) (Or.inl ⟨by rfl, ?_⟩) (by assumption) ?_
    rotate_left
    · (intro w' hSw; (try dsimp only at hSw); go_simp; try (with_reducible rfl))
    change wpAnyH _ _ _ _ _ _ _ (Act.put _ (some 31) _) _
    try simp only [Act.put, List.setIfInBounds_toArray, List.set_cons_zero, List.set_cons_succ]
    refine wpAnyH_take (i := 10) (v := ?_) rfl (by kernel_rfl) (by kernel_rfl) (by kernel_rfl) (fun _ _ _ h => h) (Or.inl ⟨by rfl, ?_⟩) (by assumption) ?_
    rotate_left
    · (intro w' hSw; (try dsimp only at hSw); go_simp; try (with_reducible rfl))
    change wpAnyH _ _ _ _ _ _ _ (Act.put _ (some 32) _) _
    try simp only [Act.put, List.setIfInBounds_toArray, List.set_cons_zero, List.set_cons_succ]
    refine wpAnyH_take (i := 11) (v := ?_) rfl (by kernel_rfl) (by kernel_rfl) (by kernel_rfl) (fun _ _ _ h => h) (Or.inl ⟨by rfl, ?_⟩) (by assumption) ?_
    rotate_left
    · (intro w' hSw; (try dsimp only at hSw); go_simp; try (with_reducible rfl))
    change wpAnyH _ _ _ _ _ _ _ (Act.put _ (some 7) _) _
    try simp only [Act.put, List.setIfInBounds_toArray, List.set_cons_zero, List.set_cons_succ]
    refine wpAnyH_take (i := 12) (v := ?_) rfl (by kernel_rfl) (by kernel_rfl) (by kernel_rfl) (fun _ _ _ h => h) (Or.inl ⟨by rfl, ?_⟩) (by assumption) ?_
    rotate_left
    · (intro w' hSw; (try dsimp only at hSw); go_simp; try (with_reducible rfl))
    change wpAnyH _ _ _ _ _ _ _ (Act.put _ (some 8) _) _
    try simp only [Act.put, List.setIfInBounds_toArray, List.set_cons_zero, List.set_cons_succ]
    refine wpAnyH_done (by kernel_rfl) ?_ _
    clear hHeld
    go_wp2_with fail
    refine (CF2.out _).mono ?_
    rintro e' w6 ⟨rfl, hb6⟩
    have X6 := hid (X5.out.call hb6)
    clear s0 s1 s2 s3 s4 s5 s6 s7 s8 r0 r1 r2 bw lt
    obtain ⟨s0, s1, s2, s3, s4, s5, s6, s7, s8, r0, r1, r2, bw, lt⟩ := X6.out
    clear hb6
    go_wp2_with fail
    refine bodyPost_ret (v := .tuple #[.agg #[.bool R.1.neg, .string R.1.dig, .int .i64 R.1.exp], .int .i64 R.2]) (by simp [results, Tryz.results33, go_sem, s0, s1, s2, s3, s4, s5, s6, s7, s8, r0, r1, r2, lt]) rfl ⟨rfl, ?_⟩
    repeat' (first | (with_reducible exact bw) | (with_reducible refine Below.setCell ?_ ?_ _) | (simp; done) | (simp; omega) | omega)
end Go.Proofs.YthfmhenphnllfaaGreatDoor

namespace Go.Proofs.YthfmhenphnllfaaGreatDoor
open Go.RowKit
set_option linter.unusedVariables false
set_option linter.unusedSimpArgs false
set_option maxHeartbeats 16000000 in
set_option maxRecDepth 100000 in
theorem specDecMod (a b : Dec) (w : World) (ha : decOk a = true) (hb : decOk b = true) :
    Calls Tryz.prog 34 #[.agg #[.bool a.neg, .string a.dig, .int .i64 a.exp], .agg #[.bool b.neg, .string b.dig, .int .i64 b.exp]] w fun e w' => e = .returned (formV (modD a b)) ∧ Below w.heap.size w w' := by
  obtain ⟨a1, a2, a3, a4, a5⟩ := ok_facts ha
  obtain ⟨b1, b2, b3, b4, b5⟩ := ok_facts hb
  have CO1 : Hid (∀ w, Calls Tryz.prog 67 #[.agg #[.bool a.neg, .string a.dig, .int .i64 a.exp]] w fun e w' => e = .returned (.bool true) ∧ Below w.heap.size w w') := hid (fun w => by
    have h := specDecOk (d := a) (cs := #[.bool a.neg, .string a.dig, .int .i64 a.exp]) w (by exact rdDec_mk (x := a) (by omega) (by omega))
    rw [ha] at h
    exact h)
  have CO2 : Hid (∀ w, Calls Tryz.prog 67 #[.agg #[.bool b.neg, .string b.dig, .int .i64 b.exp]] w fun e w' => e = .returned (.bool true) ∧ Below w.heap.size w w') := hid (fun w => by
    have h := specDecOk (d := b) (cs := #[.bool b.neg, .string b.dig, .int .i64 b.exp]) w (by exact rdDec_mk (x := b) (by omega) (by omega))
    rw [hb] at h
    exact h)
  by_cases hz : b.dig.size = 0
  · have HR := hid (show modD a b = (dec0, 2) by unfold modD; rw [if_pos hz])
    have g1 : (b.dig.toList == []) = true := by rw [ba_nil hz, Lib.toList_data]; rfl
    have g2 : b.dig.toList.isEmpty = true := by rw [empty_size, decide_eq_true hz]
    clear hz
    obtain ⟨na, da, ea⟩ := a
    obtain ⟨nb, db, eb⟩ := b
    dsimp only at *
    clear a1 a3 a4 a5 b1 b3 b4 b5 ha hb a2 b2
    have X0 := hid (box3_start w na da ea nb db eb)
    obtain ⟨s0, s1, s2, s3, s4, s5, s6, s7, s8, r0, r1, r2, bw, lt⟩ := X0.out
    go_enter Tryz.func34, Tryz.ntmps34
    go_wp2_with fail
    refine (CO1.out _).mono ?_
    rintro e' w1 ⟨rfl, hb1⟩
    have X1 := hid (X0.out.call hb1)
    clear s0 s1 s2 s3 s4 s5 s6 s7 s8 r0 r1 r2 bw lt
    obtain ⟨s0, s1, s2, s3, s4, s5, s6, s7, s8, r0, r1, r2, bw, lt⟩ := X1.out
    clear hb1
    go_wp2_with fail
    refine (CO2.out _).mono ?_
    rintro e' w2 ⟨rfl, hb2⟩
    have X2 := hid (X1.out.call hb2)
    clear s0 s1 s2 s3 s4 s5 s6 s7 s8 r0 r1 r2 bw lt
    obtain ⟨s0, s1, s2, s3, s4, s5, s6, s7, s8, r0, r1, r2, bw, lt⟩ := X2.out
    clear hb2
    go_wp2
    refine bodyPost_ret (v := .tuple #[.agg #[.bool false, .string ⟨#[]⟩, .int .i64 0], .int .i64 2]) (by simp [results, Tryz.results34, go_sem, s0, s1, s2, s3, s4, s5, s6, s7, s8, r0, r1, r2, lt]) rfl ⟨by rw [HR.out]; rfl, ?_⟩
    repeat' (first | (with_reducible exact bw) | (with_reducible refine Below.setCell ?_ ?_ _) | (simp; done) | (simp; omega) | omega)
  have hle := lowE_le a.exp b.exp
  have CA := hid (fun (w : World) => specLevel a.neg b.neg a.dig b.dig a.exp b.exp w (by omega) (by omega) (by omega) (by omega))
  have hv1 : vD (levB a.dig (a.exp - lowE a.exp b.exp).toNat).data.toList = valX a (lowE a.exp b.exp) := levB_val a.dig (a.exp - lowE a.exp b.exp).toNat
  have hv2 : vD (levB b.dig (b.exp - lowE a.exp b.exp).toNat).data.toList = valX b (lowE a.exp b.exp) := levB_val b.dig (b.exp - lowE a.exp b.exp).toNat
  have p1 : digits (levB a.dig (a.exp - lowE a.exp b.exp).toNat).data.toList := by rw [levB_list]; exact digits_append_zeros a3 _
  have p3 : digits (levB b.dig (b.exp - lowE a.exp b.exp).toNat).data.toList := by rw [levB_list]; exact digits_append_zeros b3 _
  have hsz : ∀ (d : ByteArray) (n : Nat), d.size ≤ 20 → n ≤ 400 → (levB d n).size ≤ 450 := fun d n h1 h2 => by
    unfold levB
    have h1 := dgB_size d
    rw [ByteArray.size_append, zeroB_size]
    omega
  have hs1 := hsz a.dig (a.exp - lowE a.exp b.exp).toNat a1 (by omega)
  have hs2 := hsz b.dig (b.exp - lowE a.exp b.exp).toNat b1 (by omega)
  have hXl : ∀ v : Nat, v ≤ valX a (lowE a.exp b.exp) → (natL v).length ≤ 450 := fun v h => by
    exact natL_len_le p1 (by rw [hv1]; exact h) (by rw [← Lib.size_eq]; exact hs1) (by decide)
  have hYl : ∀ v : Nat, v ≤ valX b (lowE a.exp b.exp) → (natL v).length ≤ 450 := fun v h => by
    exact natL_len_le p3 (by rw [hv2]; exact h) (by rw [← Lib.size_eq]; exact hs2) (by decide)
  have hY0 : 0 < valX b (lowE a.exp b.exp) := by
    have := mt (valX_zero hb (lowE a.exp b.exp)).1 hz
    omega
  have g1 : (b.dig.toList == []) = false := ba_nil_beq hz
  have g2 : b.dig.toList.isEmpty = false := by rw [empty_size, decide_eq_false hz]
  have CT := hid (fun (w : World) => specTrim (levB b.dig (b.exp - lowE a.exp b.exp).toNat) w (by omega))
  rw [trimB_nat rfl p3 hv2] at CT
  have CDV := hid (fun (w : World) => specDiv (levB a.dig (a.exp - lowE a.exp b.exp).toNat) (mkB (natL (valX b (lowE a.exp b.exp)))) w p1 (natL_mkB_digits _) (by rw [mkB_data, natL_val]; exact hY0) (by omega) (by rw [mkB_size]; exact Nat.le_trans (hYl _ (Nat.le_refl _)) (by decide)))
  rw [hv1, mkB_data, natL_val] at CDV
  have CF := hid (fun (w : World) => specForm a.neg (mkB (natL (valX a (lowE a.exp b.exp) % valX b (lowE a.exp b.exp)))) (lowE a.exp b.exp) w (natL_mkB_digits _) (by rw [mkB_size]; exact Nat.le_trans (hXl _ (Nat.mod_le _ _)) (by decide)) (by omega))
  rw [mkB_data] at CF
  have hR0 : formD a.neg (natL (valX a (lowE a.exp b.exp) % valX b (lowE a.exp b.exp))) (lowE a.exp b.exp) = modD a b := by unfold modD; rw [if_neg hz]
  rw [hR0] at CF
  obtain ⟨R, hR⟩ : ∃ r, modD a b = r := ⟨_, rfl⟩
  rw [hR] at CF ⊢
  unfold formV at CF ⊢
  obtain ⟨x, hx⟩ : ∃ x, levB a.dig (a.exp - lowE a.exp b.exp).toNat = x := ⟨_, rfl⟩
  obtain ⟨y, hy⟩ : ∃ y, levB b.dig (b.exp - lowE a.exp b.exp).toNat = y := ⟨_, rfl⟩
  obtain ⟨le, hlee⟩ : ∃ y, lowE a.exp b.exp = y := ⟨_, rfl⟩
  rw [hx, hy] at CA
  rw [hy] at CT
  rw [hx] at CDV
  rw [hlee] at CA CT CDV CF
  obtain ⟨TY, hTY⟩ : ∃ x, mkB (natL (valX b le)) = x := ⟨_, rfl⟩
  obtain ⟨QB, hQB⟩ : ∃ x, mkB (natL (valX a le / valX b le)) = x := ⟨_, rfl⟩
  obtain ⟨RB, hRB⟩ : ∃ x, mkB (natL (valX a le % valX b le)) = x := ⟨_, rfl⟩
  rw [hTY] at CT CDV
  rw [hQB, hRB] at CDV
  rw [hRB] at CF
  obtain ⟨na, da, ea⟩ := a
  obtain ⟨nb, db, eb⟩ := b
  dsimp only at *
  clear a1 a3 a4 a5 b1 b3 b4 b5 ha hb hle hv1 hv2 p1 p3 hsz hs1 hs2 hXl hYl hY0 hR0 hR hx hy hQB hRB hTY hz hlee a2 b2
  have X0 := hid (box3_start w na da ea nb db eb)
  obtain ⟨s0, s1, s2, s3, s4, s5, s6, s7, s8, r0, r1, r2, bw, lt⟩ := X0.out
  go_enter Tryz.func34, Tryz.ntmps34
  go_wp2_with fail
  refine (CO1.out _).mono ?_
  rintro e' w1 ⟨rfl, hb1⟩
  have X1 := hid (X0.out.call hb1)
  clear s0 s1 s2 s3 s4 s5 s6 s7 s8 r0 r1 r2 bw lt
  obtain ⟨s0, s1, s2, s3, s4, s5, s6, s7, s8, r0, r1, r2, bw, lt⟩ := X1.out
  clear hb1
  go_wp2_with fail
  refine (CO2.out _).mono ?_
  rintro e' w2 ⟨rfl, hb2⟩
  have X2 := hid (X1.out.call hb2)
  clear s0 s1 s2 s3 s4 s5 s6 s7 s8 r0 r1 r2 bw lt
  obtain ⟨s0, s1, s2, s3, s4, s5, s6, s7, s8, r0, r1, r2, bw, lt⟩ := X2.out
  clear hb2
  go_wp2_with fail
  refine (CA.out _).mono ?_
  rintro e' w3 ⟨rfl, hb3⟩
  have X3 := hid (X2.out.call hb3)
  clear s0 s1 s2 s3 s4 s5 s6 s7 s8 r0 r1 r2 bw lt
  obtain ⟨s0, s1, s2, s3, s4, s5, s6, s7, s8, r0, r1, r2, bw, lt⟩ := X3.out
  clear hb3
  go_wp2_with fail
  refine (CT.out _).mono ?_
  rintro e' wT ⟨rfl, rfl⟩
  go_wp2_with fail
  refine (CDV.out _).mono ?_
  rintro e' w4 ⟨rfl, hb4⟩
  have X4 := hid (X3.out.call hb4)
  clear s0 s1 s2 s3 s4 s5 s6 s7 s8 r0 r1 r2 bw lt
  obtain ⟨s0, s1, s2, s3, s4, s5, s6, s7, s8, r0, r1, r2, bw, lt⟩ := X4.out
  clear hb4
  go_wp2_with fail
  refine (CF.out _).mono ?_
  rintro e' w5 ⟨rfl, hb5⟩
  have X5 := hid (X4.out.call hb5)
  clear s0 s1 s2 s3 s4 s5 s6 s7 s8 r0 r1 r2 bw lt
  obtain ⟨s0, s1, s2, s3, s4, s5, s6, s7, s8, r0, r1, r2, bw, lt⟩ := X5.out
  clear hb5
  go_wp2_with fail
  refine bodyPost_ret (v := .tuple #[.agg #[.bool R.1.neg, .string R.1.dig, .int .i64 R.1.exp], .int .i64 R.2]) (by simp [results, Tryz.results34, go_sem, s0, s1, s2, s3, s4, s5, s6, s7, s8, r0, r1, r2, lt]) rfl ⟨rfl, ?_⟩
  repeat' (first | (with_reducible exact bw) | (with_reducible refine Below.setCell ?_ ?_ _) | (simp; done) | (simp; omega) | omega)
end Go.Proofs.YthfmhenphnllfaaGreatDoor

namespace Go.Proofs.YthfmhenphnllfaaGreatDoor
open Go.RowKit
set_option linter.unusedVariables false
set_option linter.unusedSimpArgs false
set_option maxHeartbeats 16000000 in
set_option maxRecDepth 100000 in
theorem specSum1 (a b : Dec) (w : World) (ha : decOk a = true) (hb : decOk b = true) :
    Calls Tryz.prog 68 #[.agg #[.bool a.neg, .string a.dig, .int .i64 a.exp], .agg #[.bool b.neg, .string b.dig, .int .i64 b.exp], .bool true] w fun e w' => e = .returned (formV (addD a b)) ∧ Below w.heap.size w w' := by
  obtain ⟨a1, a2, a3, a4, a5⟩ := ok_facts ha
  obtain ⟨b1, b2, b3, b4, b5⟩ := ok_facts hb
  have hle := lowE_le a.exp b.exp
  have CA := hid (fun (w : World) => specLevel a.neg b.neg a.dig b.dig a.exp b.exp w (by omega) (by omega) (by omega) (by omega))
  have hv1 : vD (levB a.dig (a.exp - lowE a.exp b.exp).toNat).data.toList = valX a (lowE a.exp b.exp) := levB_val a.dig (a.exp - lowE a.exp b.exp).toNat
  have hv2 : vD (levB b.dig (b.exp - lowE a.exp b.exp).toNat).data.toList = valX b (lowE a.exp b.exp) := levB_val b.dig (b.exp - lowE a.exp b.exp).toNat
  have p1 : digits (levB a.dig (a.exp - lowE a.exp b.exp).toNat).data.toList := by rw [levB_list]; exact digits_append_zeros a3 _
  have p3 : digits (levB b.dig (b.exp - lowE a.exp b.exp).toNat).data.toList := by rw [levB_list]; exact digits_append_zeros b3 _
  have hsz : ∀ (d : ByteArray) (n : Nat), d.size ≤ 20 → n ≤ 400 → (levB d n).size ≤ 450 := fun d n h1 h2 => by
    unfold levB
    have h1 := dgB_size d
    rw [ByteArray.size_append, zeroB_size]
    omega
  have hs1 := hsz a.dig (a.exp - lowE a.exp b.exp).toNat a1 (by omega)
  have hs2 := hsz b.dig (b.exp - lowE a.exp b.exp).toNat b1 (by omega)
  have hXl : ∀ v : Nat, v ≤ valX a (lowE a.exp b.exp) → (natL v).length ≤ 450 := fun v h => by
    exact natL_len_le p1 (by rw [hv1]; exact h) (by rw [← Lib.size_eq]; exact hs1) (by decide)
  have hYl : ∀ v : Nat, v ≤ valX b (lowE a.exp b.exp) → (natL v).length ≤ 450 := fun v h => by
    exact natL_len_le p3 (by rw [hv2]; exact h) (by rw [← Lib.size_eq]; exact hs2) (by decide)
  have hXYl : (natL (valX a (lowE a.exp b.exp) + valX b (lowE a.exp b.exp))).length ≤ 452 := by
    have h1 := addL_len (levB a.dig (a.exp - lowE a.exp b.exp).toNat).data.toList (levB b.dig (b.exp - lowE a.exp b.exp).toNat).data.toList
    rw [addL_nat p1 p3, hv1, hv2, ← Lib.size_eq, ← Lib.size_eq] at h1
    omega
  have CAD := hid (fun (w : World) => specAdd (levB a.dig (a.exp - lowE a.exp b.exp).toNat) (levB b.dig (b.exp - lowE a.exp b.exp).toNat) w p1 p3 (by omega) (by omega))
  rw [addL_nat p1 p3, hv1, hv2] at CAD
  have CCM := hid (fun (w : World) => specNatCmp (levB a.dig (a.exp - lowE a.exp b.exp).toNat) (levB b.dig (b.exp - lowE a.exp b.exp).toNat) w p1 p3 (by omega) (by omega))
  rw [hv1, hv2] at CCM
  have CT1 := hid (fun (w : World) => specTrim (levB a.dig (a.exp - lowE a.exp b.exp).toNat) w (by omega))
  rw [trimB_nat rfl p1 hv1] at CT1
  have CT2 := hid (fun (w : World) => specTrim (levB b.dig (b.exp - lowE a.exp b.exp).toNat) w (by omega))
  rw [trimB_nat rfl p3 hv2] at CT2
  have CS1 : Hid (valX b (lowE a.exp b.exp) ≤ valX a (lowE a.exp b.exp) → ∀ w, Calls Tryz.prog 119 #[.string (mkB (natL (valX a (lowE a.exp b.exp)))), .string (levB b.dig (b.exp - lowE a.exp b.exp).toNat)] w fun e w' => e = .returned (.string (mkB (natL (valX a (lowE a.exp b.exp) - valX b (lowE a.exp b.exp))))) ∧ Below w.heap.size w w') := hid (fun hle w => by
    have h := specSub (mkB (natL (valX a (lowE a.exp b.exp)))) (levB b.dig (b.exp - lowE a.exp b.exp).toNat) w (natL_mkB_digits _) p3 (by rw [mkB_size]; exact Nat.le_trans (hXl _ (Nat.le_refl _)) (by decide)) (by omega)
    rw [mkB_data, subL_nat (natL_digits _) p3 (by rw [natL_val, hv2]; exact hle), natL_val, hv2] at h
    exact h)
  have CS2 : Hid (valX a (lowE a.exp b.exp) ≤ valX b (lowE a.exp b.exp) → ∀ w, Calls Tryz.prog 119 #[.string (mkB (natL (valX b (lowE a.exp b.exp)))), .string (levB a.dig (a.exp - lowE a.exp b.exp).toNat)] w fun e w' => e = .returned (.string (mkB (natL (valX b (lowE a.exp b.exp) - valX a (lowE a.exp b.exp))))) ∧ Below w.heap.size w w') := hid (fun hle w => by
    have h := specSub (mkB (natL (valX b (lowE a.exp b.exp)))) (levB a.dig (a.exp - lowE a.exp b.exp).toNat) w (natL_mkB_digits _) p1 (by rw [mkB_size]; exact Nat.le_trans (hYl _ (Nat.le_refl _)) (by decide)) (by omega)
    rw [mkB_data, subL_nat (natL_digits _) p1 (by rw [natL_val, hv1]; exact hle), natL_val, hv1] at h
    exact h)
  have CF := hid (fun (ng : Bool) (v : Nat) (hv : (natL v).length ≤ 452) (w : World) => specForm ng (mkB (natL v)) (lowE a.exp b.exp) w (natL_mkB_digits _) (by rw [mkB_size]; omega) (by omega))
  simp only [mkB_data] at CF
  obtain ⟨R, hR⟩ : ∃ r, addD a b = r := ⟨_, rfl⟩
  rw [hR]
  unfold addD sumF at hR
  unfold formV at CF ⊢
  obtain ⟨x, hx⟩ : ∃ x, levB a.dig (a.exp - lowE a.exp b.exp).toNat = x := ⟨_, rfl⟩
  obtain ⟨y, hy⟩ : ∃ y, levB b.dig (b.exp - lowE a.exp b.exp).toNat = y := ⟨_, rfl⟩
  obtain ⟨le, hlee⟩ : ∃ y, lowE a.exp b.exp = y := ⟨_, rfl⟩
  rw [hx, hy] at CA CAD CCM
  rw [hx] at CT1 CS2
  rw [hy] at CT2 CS1
  rw [hlee] at CA CAD CCM CS1 CS2 CT1 CT2 hR hXl hYl hXYl
  simp only [hlee] at CF
  obtain ⟨X, hX⟩ : ∃ v, valX a le = v := ⟨_, rfl⟩
  obtain ⟨Y, hY⟩ : ∃ v, valX b le = v := ⟨_, rfl⟩
  rw [hX, hY] at CAD CCM CS1 CS2 hR hXYl
  rw [hX] at hXl CT1
  rw [hY] at hYl CT2
  have hC := hid (sgn3_cases X Y)
  obtain ⟨sg, hsg⟩ : ∃ s, sgn3 X Y = s := ⟨_, rfl⟩
  rw [hsg] at CCM hC
  have HR := hid hR
  obtain ⟨na, da, ea⟩ := a
  obtain ⟨nb, db, eb⟩ := b
  dsimp only at *
  clear a1 a2 a3 a4 a5 b1 b2 b3 b4 b5 ha hb hle hv1 hv2 p1 p3 hsz hs1 hs2 hR hx hy hX hY hsg hlee
  by_cases hn : na = nb
  · have hn2 : (na == nb) = true := by rw [beq_iff_eq]; exact hn
    have hRR : formD na (natL (X + Y)) le = R := by rw [← HR.out, if_pos hn]
    have CFF := hid (CF.out na (X + Y) hXYl)
    rw [hRR] at CFF
    obtain ⟨M, hM⟩ : ∃ m, mkB (natL (X + Y)) = m := ⟨_, rfl⟩
    rw [hM] at CFF CAD
    clear hRR hM hXYl hXl hYl hn
    have X0 := hid (box3_start w na da ea nb db eb)
    obtain ⟨s0, s1, s2, s3, s4, s5, s6, s7, s8, r0, r1, r2, bw, lt⟩ := X0.out
    go_enter Tryz.func68, Tryz.ntmps68
    go_wp2_with fail
    refine (CA.out _).mono ?_
    rintro e' w1 ⟨rfl, hb1⟩
    have X1 := hid (X0.out.call hb1)
    clear s0 s1 s2 s3 s4 s5 s6 s7 s8 r0 r1 r2 bw lt
    obtain ⟨s0, s1, s2, s3, s4, s5, s6, s7, s8, r0, r1, r2, bw, lt⟩ := X1.out
    clear hb1
    go_wp2_with fail
    refine (CAD.out _).mono ?_
    rintro e' w2 ⟨rfl, hb2⟩
    have X2 := hid (X1.out.call hb2)
    clear s0 s1 s2 s3 s4 s5 s6 s7 s8 r0 r1 r2 bw lt
    obtain ⟨s0, s1, s2, s3, s4, s5, s6, s7, s8, r0, r1, r2, bw, lt⟩ := X2.out
    clear hb2
    go_wp2_with fail
    refine (CFF.out _).mono ?_
    rintro e' w3 ⟨rfl, hb3⟩
    have X3 := hid (X2.out.call hb3)
    clear s0 s1 s2 s3 s4 s5 s6 s7 s8 r0 r1 r2 bw lt
    obtain ⟨s0, s1, s2, s3, s4, s5, s6, s7, s8, r0, r1, r2, bw, lt⟩ := X3.out
    clear hb3
    go_wp2_with fail
    refine bodyPost_ret (v := .tuple #[.agg #[.bool R.1.neg, .string R.1.dig, .int .i64 R.1.exp], .int .i64 R.2]) (by simp [results, Tryz.results68, go_sem, s0, s1, s2, s3, s4, s5, s6, s7, s8, r0, r1, r2, lt]) rfl ⟨rfl, ?_⟩
    repeat' (first | (with_reducible exact bw) | (with_reducible refine Below.setCell ?_ ?_ _) | (simp; done) | (simp; omega) | omega)
  · have hn2 : (na == nb) = false := by rw [beq_eq_false_iff_ne]; exact hn
    rcases hC.out with ⟨h1, h2⟩ | ⟨h1, h2⟩
    · have hsg0 : (0 : Int) ≤ sg := h2
      have hRR : formD na (natL (X - Y)) le = R := by rw [← HR.out, if_neg hn, if_pos h1]
      have CFF := hid (CF.out na (X - Y) (Nat.le_trans (hXl (X - Y) (Nat.sub_le _ _)) (by decide)))
      rw [hRR] at CFF
      have CSS := hid (CS1.out h1)
      obtain ⟨M, hM⟩ : ∃ m, mkB (natL (X - Y)) = m := ⟨_, rfl⟩
      rw [hM] at CFF CSS
      obtain ⟨T1, hT1⟩ : ∃ m, mkB (natL X) = m := ⟨_, rfl⟩
      rw [hT1] at CT1 CSS
      clear hRR hM hT1 hXYl hXl hYl h1 h2 hn
      have X0 := hid (box3_start w na da ea nb db eb)
      obtain ⟨s0, s1, s2, s3, s4, s5, s6, s7, s8, r0, r1, r2, bw, lt⟩ := X0.out
      go_enter Tryz.func68, Tryz.ntmps68
      go_wp2_with fail
      refine (CA.out _).mono ?_
      rintro e' w1 ⟨rfl, hb1⟩
      have X1 := hid (X0.out.call hb1)
      clear s0 s1 s2 s3 s4 s5 s6 s7 s8 r0 r1 r2 bw lt
      obtain ⟨s0, s1, s2, s3, s4, s5, s6, s7, s8, r0, r1, r2, bw, lt⟩ := X1.out
      clear hb1
      go_wp2_with fail
      refine (CCM.out _).mono ?_
      rintro e' wT ⟨rfl, rfl⟩
      go_wp2_with fail
      refine (CT1.out _).mono ?_
      rintro e' wT ⟨rfl, rfl⟩
      go_wp2_with fail
      refine (CSS.out _).mono ?_
      rintro e' w2 ⟨rfl, hb2⟩
      have X2 := hid (X1.out.call hb2)
      clear s0 s1 s2 s3 s4 s5 s6 s7 s8 r0 r1 r2 bw lt
      obtain ⟨s0, s1, s2, s3, s4, s5, s6, s7, s8, r0, r1, r2, bw, lt⟩ := X2.out
      clear hb2
      go_wp2_with fail
      refine (CFF.out _).mono ?_
      rintro e' w3 ⟨rfl, hb3⟩
      have X3 := hid (X2.out.call hb3)
      clear s0 s1 s2 s3 s4 s5 s6 s7 s8 r0 r1 r2 bw lt
      obtain ⟨s0, s1, s2, s3, s4, s5, s6, s7, s8, r0, r1, r2, bw, lt⟩ := X3.out
      clear hb3
      go_wp2_with fail
      refine bodyPost_ret (v := .tuple #[.agg #[.bool R.1.neg, .string R.1.dig, .int .i64 R.1.exp], .int .i64 R.2]) (by simp [results, Tryz.results68, go_sem, s0, s1, s2, s3, s4, s5, s6, s7, s8, r0, r1, r2, lt]) rfl ⟨rfl, ?_⟩
      repeat' (first | (with_reducible exact bw) | (with_reducible refine Below.setCell ?_ ?_ _) | (simp; done) | (simp; omega) | omega)
    · have hsg0 : ¬ (0 : Int) ≤ sg := by omega
      have hRR : formD nb (natL (Y - X)) le = R := by rw [← HR.out, if_neg hn, if_neg (by omega)]
      have CFF := hid (CF.out nb (Y - X) (Nat.le_trans (hYl (Y - X) (Nat.sub_le _ _)) (by decide)))
      rw [hRR] at CFF
      have CSS := hid (CS2.out (by omega))
      obtain ⟨M, hM⟩ : ∃ m, mkB (natL (Y - X)) = m := ⟨_, rfl⟩
      rw [hM] at CFF CSS
      obtain ⟨T2, hT2⟩ : ∃ m, mkB (natL Y) = m := ⟨_, rfl⟩
      rw [hT2] at CT2 CSS
      clear hRR hM hT2 hXYl hXl hYl h1 h2 hn
      have X0 := hid (box3_start w na da ea nb db eb)
      obtain ⟨s0, s1, s2, s3, s4, s5, s6, s7, s8, r0, r1, r2, bw, lt⟩ := X0.out
      go_enter Tryz.func68, Tryz.ntmps68
      go_wp2_with fail
      refine (CA.out _).mono ?_
      rintro e' w1 ⟨rfl, hb1⟩
      have X1 := hid (X0.out.call hb1)
      clear s0 s1 s2 s3 s4 s5 s6 s7 s8 r0 r1 r2 bw lt
      obtain ⟨s0, s1, s2, s3, s4, s5, s6, s7, s8, r0, r1, r2, bw, lt⟩ := X1.out
      clear hb1
      go_wp2_with fail
      refine (CCM.out _).mono ?_
      rintro e' wT ⟨rfl, rfl⟩
      go_wp2_with fail
      refine (CT2.out _).mono ?_
      rintro e' wT ⟨rfl, rfl⟩
      go_wp2_with fail
      refine (CSS.out _).mono ?_
      rintro e' w2 ⟨rfl, hb2⟩
      have X2 := hid (X1.out.call hb2)
      clear s0 s1 s2 s3 s4 s5 s6 s7 s8 r0 r1 r2 bw lt
      obtain ⟨s0, s1, s2, s3, s4, s5, s6, s7, s8, r0, r1, r2, bw, lt⟩ := X2.out
      clear hb2
      go_wp2_with fail
      refine (CFF.out _).mono ?_
      rintro e' w3 ⟨rfl, hb3⟩
      have X3 := hid (X2.out.call hb3)
      clear s0 s1 s2 s3 s4 s5 s6 s7 s8 r0 r1 r2 bw lt
      obtain ⟨s0, s1, s2, s3, s4, s5, s6, s7, s8, r0, r1, r2, bw, lt⟩ := X3.out
      clear hb3
      go_wp2_with fail
      refine bodyPost_ret (v := .tuple #[.agg #[.bool R.1.neg, .string R.1.dig, .int .i64 R.1.exp], .int .i64 R.2]) (by simp [results, Tryz.results68, go_sem, s0, s1, s2, s3, s4, s5, s6, s7, s8, r0, r1, r2, lt]) rfl ⟨rfl, ?_⟩
      repeat' (first | (with_reducible exact bw) | (with_reducible refine Below.setCell ?_ ?_ _) | (simp; done) | (simp; omega) | omega)
set_option maxHeartbeats 16000000 in
set_option maxRecDepth 100000 in
theorem specDecAdd (a b : Dec) (w : World) (ha : decOk a = true) (hb : decOk b = true) :
    Calls Tryz.prog 30 #[.agg #[.bool a.neg, .string a.dig, .int .i64 a.exp], .agg #[.bool b.neg, .string b.dig, .int .i64 b.exp]] w fun e w' => e = .returned (formV (addD a b)) ∧ Below w.heap.size w w' := by
  obtain ⟨a1, a2, a3, a4, a5⟩ := ok_facts ha
  obtain ⟨b1, b2, b3, b4, b5⟩ := ok_facts hb
  have CO1 : Hid (∀ w, Calls Tryz.prog 67 #[.agg #[.bool a.neg, .string a.dig, .int .i64 a.exp]] w fun e w' => e = .returned (.bool true) ∧ Below w.heap.size w w') := hid (fun w => by
    have h := specDecOk (d := a) (cs := #[.bool a.neg, .string a.dig, .int .i64 a.exp]) w (by exact rdDec_mk (x := a) (by omega) (by omega))
    rw [ha] at h
    exact h)
  have CO2 : Hid (∀ w, Calls Tryz.prog 67 #[.agg #[.bool b.neg, .string b.dig, .int .i64 b.exp]] w fun e w' => e = .returned (.bool true) ∧ Below w.heap.size w w') := hid (fun w => by
    have h := specDecOk (d := b) (cs := #[.bool b.neg, .string b.dig, .int .i64 b.exp]) w (by exact rdDec_mk (x := b) (by omega) (by omega))
    rw [hb] at h
    exact h)
  have CS := hid (fun (w : World) => specSum1 a b w ha hb)
  obtain ⟨R, hR⟩ : ∃ r, addD a b = r := ⟨_, rfl⟩
  rw [hR] at CS ⊢
  unfold formV at CS ⊢
  have a6 := a1
  obtain ⟨na, da, ea⟩ := a
  obtain ⟨nb, db, eb⟩ := b
  dsimp only at *
  clear a1 a3 a4 a5 b1 b3 b4 b5 ha hb hR a2 b2 a6
  have X0 := hid (box3_start w na da ea nb db eb)
  obtain ⟨s0, s1, s2, s3, s4, s5, s6, s7, s8, r0, r1, r2, bw, lt⟩ := X0.out
  go_enter Tryz.func30, Tryz.ntmps30
  go_wp2_with fail
  refine (CO1.out _).mono ?_
  rintro e' w1 ⟨rfl, hb1⟩
  have X1 := hid (X0.out.call hb1)
  clear s0 s1 s2 s3 s4 s5 s6 s7 s8 r0 r1 r2 bw lt
  obtain ⟨s0, s1, s2, s3, s4, s5, s6, s7, s8, r0, r1, r2, bw, lt⟩ := X1.out
  clear hb1
  go_wp2_with fail
  refine (CO2.out _).mono ?_
  rintro e' w2 ⟨rfl, hb2⟩
  have X2 := hid (X1.out.call hb2)
  clear s0 s1 s2 s3 s4 s5 s6 s7 s8 r0 r1 r2 bw lt
  obtain ⟨s0, s1, s2, s3, s4, s5, s6, s7, s8, r0, r1, r2, bw, lt⟩ := X2.out
  clear hb2
  go_wp2_with fail
  refine (CS.out _).mono ?_
  rintro e' w3 ⟨rfl, hb3⟩
  have X3 := hid (X2.out.call hb3)
  clear s0 s1 s2 s3 s4 s5 s6 s7 s8 r0 r1 r2 bw lt
  obtain ⟨s0, s1, s2, s3, s4, s5, s6, s7, s8, r0, r1, r2, bw, lt⟩ := X3.out
  clear hb3
  go_wp2_with fail
  refine bodyPost_ret (v := .tuple #[.agg #[.bool R.1.neg, .string R.1.dig, .int .i64 R.1.exp], .int .i64 R.2]) (by simp [results, Tryz.results30, go_sem, s0, s1, s2, s3, s4, s5, s6, s7, s8, r0, r1, r2, lt]) rfl ⟨rfl, ?_⟩
  repeat' (first | (with_reducible exact bw) | (with_reducible refine Below.setCell ?_ ?_ _) | (simp; done) | (simp; omega) | omega)
set_option maxHeartbeats 16000000 in
set_option maxRecDepth 100000 in
theorem specDecSub (a b : Dec) (w : World) (ha : decOk a = true) (hb : decOk b = true) :
    Calls Tryz.prog 31 #[.agg #[.bool a.neg, .string a.dig, .int .i64 a.exp], .agg #[.bool b.neg, .string b.dig, .int .i64 b.exp]] w fun e w' => e = .returned (formV (subD a b)) ∧ Below w.heap.size w w' := by
  obtain ⟨a1, a2, a3, a4, a5⟩ := ok_facts ha
  obtain ⟨b1, b2, b3, b4, b5⟩ := ok_facts hb
  have CO1 : Hid (∀ w, Calls Tryz.prog 67 #[.agg #[.bool a.neg, .string a.dig, .int .i64 a.exp]] w fun e w' => e = .returned (.bool true) ∧ Below w.heap.size w w') := hid (fun w => by
    have h := specDecOk (d := a) (cs := #[.bool a.neg, .string a.dig, .int .i64 a.exp]) w (by exact rdDec_mk (x := a) (by omega) (by omega))
    rw [ha] at h
    exact h)
  have CO2 : Hid (∀ w, Calls Tryz.prog 67 #[.agg #[.bool b.neg, .string b.dig, .int .i64 b.exp]] w fun e w' => e = .returned (.bool true) ∧ Below w.heap.size w w') := hid (fun w => by
    have h := specDecOk (d := b) (cs := #[.bool b.neg, .string b.dig, .int .i64 b.exp]) w (by exact rdDec_mk (x := b) (by omega) (by omega))
    rw [hb] at h
    exact h)
  have CN := hid (fun (w : World) => specNegD b w hb)
  have CS := hid (fun (w : World) => specSum1 a (negD b) w ha (negD_ok hb))
  obtain ⟨R, hR⟩ : ∃ r, subD a b = r := ⟨_, rfl⟩
  have hR2 : addD a (negD b) = R := hR
  rw [hR2] at CS
  rw [hR]
  unfold formV at CS ⊢
  obtain ⟨NB, hNB⟩ : ∃ x, negD b = x := ⟨_, rfl⟩
  rw [hNB] at CN CS hR2
  obtain ⟨na, da, ea⟩ := a
  obtain ⟨nb, db, eb⟩ := b
  dsimp only at *
  clear a1 a3 a4 a5 b1 b3 b4 b5 ha hb hR hR2 hNB a2 b2
  have X0 := hid (box3_start w na da ea nb db eb)
  obtain ⟨s0, s1, s2, s3, s4, s5, s6, s7, s8, r0, r1, r2, bw, lt⟩ := X0.out
  go_enter Tryz.func31, Tryz.ntmps31
  go_wp2_with fail
  refine (CO1.out _).mono ?_
  rintro e' w1 ⟨rfl, hb1⟩
  have X1 := hid (X0.out.call hb1)
  clear s0 s1 s2 s3 s4 s5 s6 s7 s8 r0 r1 r2 bw lt
  obtain ⟨s0, s1, s2, s3, s4, s5, s6, s7, s8, r0, r1, r2, bw, lt⟩ := X1.out
  clear hb1
  go_wp2_with fail
  refine (CO2.out _).mono ?_
  rintro e' w2 ⟨rfl, hb2⟩
  have X2 := hid (X1.out.call hb2)
  clear s0 s1 s2 s3 s4 s5 s6 s7 s8 r0 r1 r2 bw lt
  obtain ⟨s0, s1, s2, s3, s4, s5, s6, s7, s8, r0, r1, r2, bw, lt⟩ := X2.out
  clear hb2
  go_wp2_with fail
  refine wp_region_held_drew (S := fun w' => w'.cell? ⟨w.heap.size, 0, none⟩ = some (.bool na) ∧ w'.cell? ⟨w.heap.size, 1, none⟩ = some (.string da) ∧ w'.cell? ⟨w.heap.size, 2, none⟩ = some (.int .i64 ea) ∧ w'.cell? ⟨w.heap.size + 1, 0, none⟩ = some (.bool nb) ∧ w'.cell? ⟨w.heap.size + 1, 1, none⟩ = some (.string db) ∧ w'.cell? ⟨w.heap.size + 1, 2, none⟩ = some (.int .i64 eb)) (by kernel_rfl) ?_ (fun hHeld => ?_)
  · simp [*]
  refine wpAnyH_take (i := 0) (v := ?_) rfl (by kernel_rfl) (by kernel_rfl) (by kernel_rfl) (fun _ _ _ h => h) (Or.inl ⟨by rfl, ?_⟩) (by assumption) ?_
  rotate_left
  · (intro w' hSw; (try dsimp only at hSw); go_simp; try (with_reducible rfl))
  change wpAnyH _ _ _ _ _ _ _ (Act.put _ (some 15) _) _
  try simp only [Act.put, List.setIfInBounds_toArray, List.set_cons_zero, List.set_cons_succ]
  refine wpAnyH_take (i := 1) (v := ?_) rfl (by kernel_rfl) (by kernel_rfl) (by kernel_rfl) (fun _ _ _ h => h) (Or.inl ⟨by rfl, ?_⟩) (by assumption) ?_
  rotate_left
  · (intro w' hSw; (try dsimp only at hSw); go_simp; try (with_reducible rfl))
  change wpAnyH _ _ _ _ _ _ _ (Act.put _ (some 16) _) _
  try simp only [Act.put, List.setIfInBounds_toArray, List.set_cons_zero, List.set_cons_succ]
  refine wpAnyH_ready (rs := [2]) (by kernel_rfl) (by simp) ?_
  refine AllReadyH.cons (i := 2) rfl (fun K hK => ?_) AllReadyH.nil
  simp only [List.getElem_toArray, List.getElem_cons_succ, List.getElem_cons_zero]
  rw [if_pos (by rfl)]
  go_simp
  (go_at_call 69; refine (CN.out _).mono ?_; rintro e' w3 ⟨rfl, hb3⟩; have X3 := hid (X2.out.drew.call hb3); clear s0 s1 s2 s3 s4 s5 s6 s7 s8 r0 r1 r2 bw lt; obtain ⟨s0, s1, s2, s3, s4, s5, s6, s7, s8, r0, r1, r2, bw, lt⟩ := X3.out; clear hb3; go_wp2_with fail)
  have hOld := hHeld
  clear hHeld
  refine hK.out _ _ ?_ (fun hHeld => ?_)
  · (try dsimp only); first | (simp [*]; done) | (refine ⟨?_, ?_, ?_, ?_, ?_, ?_⟩ <;> go_simp) | go_simp
  clear hK K hOld
  try simp only [Act.put, List.setIfInBounds_toArray, List.set_cons_zero, List.set_cons_succ]
  refine wpAnyH_ready (rs := [3]) (by kernel_rfl) (by simp) ?_
  refine AllReadyH.cons (i := 3) rfl (fun K hK => ?_) AllReadyH.nil
  simp only [List.getElem_toArray, List.getElem_cons_succ, List.getElem_cons_zero]
  rw [if_pos (by rfl)]
  go_simp
  (go_at_call 68; refine (CS.out _).mono ?_; rintro e' w4 ⟨rfl, hb4⟩; have X4 := hid (X3.out.call hb4); clear s0 s1 s2 s3 s4 s5 s6 s7 s8 r0 r1 r2 bw lt; obtain ⟨s0, s1, s2, s3, s4, s5, s6, s7, s8, r0, r1, r2, bw, lt⟩ := X4.out; clear hb4; go_wp2_with fail)
  have hOld := hHeld
  clear hHeld
  refine hK.out _ _ ?_ (fun hHeld => ?_)
  · (try dsimp only); first | (simp [*]; done) | (refine ⟨?_, ?_, ?_, ?_, ?_, ?_⟩ <;> go_simp) | go_simp
  clear hK K hOld
  try simp only [Act.put, List.setIfInBounds_toArray, List.set_cons_zero, List.set_cons_succ]
  refine wpAnyH_take (i := 4) (v := ?_) rfl (by kernel_rfl) (by kernel_rfl) (by kernel_rfl) (fun _ _ _ h => h) (Or.inl ⟨by rfl, ?_⟩) (by assumption) ?_
  rotate_left
  · (intro w' hSw; (try dsimp only at hSw); go_simp; try (with_reducible rfl))
  change wpAnyH _ _ _ _ _ _ _ (Act.put _ (some 19) _) _
  try simp only [Act.put, List.setIfInBounds_toArray, List.set_cons_zero, List.set_cons_succ]
  refine wpAnyH_take (i := 5) (v := ?_) rfl (by kernel_rfl) (by kernel_rfl) (by kernel_rfl) (fun _ _ _ h => h) (Or.inl ⟨by rfl, ?_⟩) (by assumption) ?_
  rotate_left
  · (intro w' hSw; (try dsimp only at hSw); go_simp; try (with_reducible rfl))
  change wpAnyH _ _ _ _ _ _ _ (Act.put _ (some 20) _) _
  try simp only [Act.put, List.setIfInBounds_toArray, List.set_cons_zero, List.set_cons_succ]
  refine wpAnyH_ready (rs := [6]) (by kernel_rfl) (by simp) ?_
  refine AllReadyH.cons (i := 6) rfl (fun K hK => ?_) AllReadyH.nil
  simp only [List.getElem_toArray, List.getElem_cons_succ, List.getElem_cons_zero]
  rw [if_pos (by rfl)]
  go_simp
  have hOld := hHeld
  clear hHeld
  refine hK.out _ _ ?_ (fun hHeld => ?_)
  · (try dsimp only); first | (simp [*]; done) | (refine ⟨?_, ?_, ?_, ?_, ?_, ?_⟩ <;> go_simp) | go_simp
  clear hK K hOld
  try simp only [Act.put, List.setIfInBounds_toArray, List.set_cons_zero, List.set_cons_succ]
  refine wpAnyH_take (i := 7) (v := ?_) rfl (by kernel_rfl) (by kernel_rfl) (by kernel_rfl) (fun _ _ _ h => h) (Or.inl ⟨by rfl, ?_⟩) (by assumption) ?_
  rotate_left
  · (intro w' hSw; (try dsimp only at hSw); go_simp; try (with_reducible rfl))
  change wpAnyH _ _ _ _ _ _ _ (Act.put _ (some 5) _) _
  try simp only [Act.put, List.setIfInBounds_toArray, List.set_cons_zero, List.set_cons_succ]
  refine wpAnyH_done (by kernel_rfl) ?_ _
  clear hHeld
  go_wp2_with fail
  refine bodyPost_ret (v := .tuple #[.agg #[.bool R.1.neg, .string R.1.dig, .int .i64 R.1.exp], .int .i64 R.2]) (by simp [results, Tryz.results31, go_sem, s0, s1, s2, s3, s4, s5, s6, s7, s8, r0, r1, r2, lt]) rfl ⟨rfl, ?_⟩
  repeat' (first | (with_reducible exact bw) | (with_reducible refine Below.setCell ?_ ?_ _) | (simp; done) | (simp; omega) | omega)
end Go.Proofs.YthfmhenphnllfaaGreatDoor

namespace Go.Proofs.YthfmhenphnllfaaGreatDoor
open Go.RowKit
set_option linter.unusedVariables false
set_option linter.unusedSimpArgs false

/-- what lies in two blocks from w's end on and in one more -/
structure BoxP (w wr : World) (g : Nat) (na : Bool) (da : ByteArray) (ea : Int) (p : Dec) : Prop where
  c0 : wr.cell? ⟨w.heap.size, 0, none⟩ = some (.bool na)
  c1 : wr.cell? ⟨w.heap.size, 1, none⟩ = some (.string da)
  c2 : wr.cell? ⟨w.heap.size, 2, none⟩ = some (.int .i64 ea)
  c3 : wr.cell? ⟨w.heap.size + 1, 0, none⟩ = some (.bool false)
  c4 : wr.cell? ⟨w.heap.size + 1, 1, none⟩ = some (.string ⟨#[]⟩)
  c5 : wr.cell? ⟨w.heap.size + 1, 2, none⟩ = some (.int .i64 0)
  c6 : wr.cell? ⟨g, 0, none⟩ = some (.bool p.neg)
  c7 : wr.cell? ⟨g, 1, none⟩ = some (.string p.dig)
  c8 : wr.cell? ⟨g, 2, none⟩ = some (.int .i64 p.exp)
  y0 : wr.frozen? ⟨w.heap.size + 1, 0, none⟩ = false
  y1 : wr.frozen? ⟨w.heap.size + 1, 1, none⟩ = false
  y2 : wr.frozen? ⟨w.heap.size + 1, 2, none⟩ = false
  y3 : wr.frozen? ⟨g, 0, none⟩ = false
  y4 : wr.frozen? ⟨g, 1, none⟩ = false
  y5 : wr.frozen? ⟨g, 2, none⟩ = false
  bw : Below w.heap.size w wr
  l1 : w.heap.size + 1 < wr.heap.size
  lg : g < wr.heap.size
  hg : w.heap.size + 1 < g
theorem BoxP.call {w wr w2 : World} {g : Nat} {na : Bool} {da : ByteArray} {ea : Int} {p : Dec} (h : BoxP w wr g na da ea p) (hb : Below wr.heap.size wr w2) : BoxP w w2 g na da ea p :=
  ⟨keeps_cells hb _ _ h.c0, keeps_cells hb _ _ h.c1, keeps_cells hb _ _ h.c2, keeps_cells hb _ _ h.c3, keeps_cells hb _ _ h.c4, keeps_cells hb _ _ h.c5, keeps_cells hb _ _ h.c6, keeps_cells hb _ _ h.c7, keeps_cells hb _ _ h.c8, (hb.frozen (p := ⟨w.heap.size + 1, 0, none⟩) h.l1).trans h.y0, (hb.frozen (p := ⟨w.heap.size + 1, 1, none⟩) h.l1).trans h.y1, (hb.frozen (p := ⟨w.heap.size + 1, 2, none⟩) h.l1).trans h.y2, (hb.frozen (p := ⟨g, 0, none⟩) h.lg).trans h.y3, (hb.frozen (p := ⟨g, 1, none⟩) h.lg).trans h.y4, (hb.frozen (p := ⟨g, 2, none⟩) h.lg).trans h.y5, ext_trans h.bw hb, Nat.lt_of_lt_of_le h.l1 hb.size, Nat.lt_of_lt_of_le h.lg hb.size, h.hg⟩
theorem BoxP.drew {w wr : World} {g : Nat} {na : Bool} {da : ByteArray} {ea : Int} {p : Dec} (h : BoxP w wr g na da ea p) : BoxP w wr.drew g na da ea p :=
  ⟨h.c0, h.c1, h.c2, h.c3, h.c4, h.c5, h.c6, h.c7, h.c8, h.y0, h.y1, h.y2, h.y3, h.y4, h.y5, h.bw.drew, h.l1, h.lg, h.hg⟩
theorem BoxP.put {w wr : World} {g : Nat} {na : Bool} {da : ByteArray} {ea : Int} {p : Dec} (h : BoxP w wr g na da ea p) (q : Dec) : BoxP w (((wr.setCell ⟨g, 0, none⟩ (.bool q.neg)).setCell ⟨g, 1, none⟩ (.string q.dig)).setCell ⟨g, 2, none⟩ (.int .i64 q.exp)) g na da ea q := by
  obtain ⟨c0, c1, c2, c3, c4, c5, c6, c7, c8, y0, y1, y2, y3, y4, y5, bw, l1, lg, hg⟩ := h
  have n0 : ¬ w.heap.size = g := by omega
  have n1 : ¬ w.heap.size + 1 = g := by omega
  have n2 : ¬ g = w.heap.size := by omega
  have n3 : ¬ g = w.heap.size + 1 := by omega
  refine ⟨?_, ?_, ?_, ?_, ?_, ?_, ?_, ?_, ?_, ?_, ?_, ?_, ?_, ?_, ?_, ((bw.setCell (by show w.heap.size ≤ g; omega) _).setCell (by show w.heap.size ≤ g; omega) _).setCell (by show w.heap.size ≤ g; omega) _, by simpa [World.setCell] using l1, by simpa [World.setCell] using lg, hg⟩
  all_goals go_simp
/-- the first j of a power's factors -/
def powS (a : Dec) : Nat → Dec × Int
  | 0 => (one1, 0)
  | k + 1 => powG a k
theorem powS_stuck {a : Dec} {k n : Nat} (h : (powS a k).2 ≠ 0) (hk : k ≤ n) : powS a n = powS a k := by
  cases k with
  | zero => exact absurd rfl h
  | succ k =>
    obtain ⟨j, rfl⟩ : ∃ j, n = k + j + 1 := ⟨n - k - 1, by omega⟩
    exact powG_stuck h j
theorem powS_ok {a : Dec} (h : decOk a = true) : ∀ k, decOk (powS a k).1 = true
  | 0 => one1_ok
  | k + 1 => powG_ok h k
theorem one_list : (numB 1).data.toList = [49] := by
  unfold numB Lib.itoa
  rw [if_neg (by decide), mkB_data]
  show natL 1 = [49]
  exact natL_small (by decide)
theorem one_form : formD false [49] 0 = (one1, 0) := by rfl
set_option maxHeartbeats 4000000 in
theorem specOne (w : World) :
    Calls Tryz.prog 77 #[.int .i64 1] w fun e w' => e = .returned (.agg #[.bool false, .string ⟨#[49]⟩, .int .i64 0]) ∧ Below w.heap.size w w' := by
  have CN := hid (fun (w : World) => specNumText 1 w (by decide))
  have CF := hid (fun (w : World) => specForm false (numB 1) 0 w (by rw [one_list]; exact digits_one) (by have := numB_size (n := 1) (by decide); omega) (by decide))
  rw [one_list, one_form] at CF
  have CFF : Hid (∀ w, Calls Tryz.prog 70 #[.bool false, .string (numB 1), .int .i64 0, .bool false] w fun e w' => e = .returned (.tuple #[.agg #[.bool false, .string ⟨#[49]⟩, .int .i64 0], .int .i64 0]) ∧ Below w.heap.size w w') := CF
  clear CF
  go_enter Tryz.func77, Tryz.ntmps77
  go_wp2_with fail
  refine (CN.out _).mono ?_
  rintro e w1 ⟨rfl, hb1⟩
  obtain ⟨hc1, hf1⟩ := bcell hb1
  have hl : w.heap.size < w1.heap.size := by have := hb1.size; (try simp at this); omega
  have hbw : Below w.heap.size w w1 := ext_trans (ext_alloc _ _) hb1
  have s0 := hc1 w.heap.size 0 (by simp)
  have s1 := hc1 w.heap.size 1 (by simp)
  have s2 := hc1 w.heap.size 2 (by simp)
  have z0 := hf1 w.heap.size 0 (by simp)
  have z1 := hf1 w.heap.size 1 (by simp)
  have z2 := hf1 w.heap.size 2 (by simp)
  simp at s0 s1 s2 z0 z1 z2
  clear hc1 hf1 hb1
  obtain ⟨NB, hNB⟩ : ∃ x, numB 1 = x := ⟨_, rfl⟩
  rw [hNB] at CFF ⊢
  clear hNB CN
  go_wp2_with fail
  refine (CFF.out _).mono ?_
  rintro e w2 ⟨rfl, hb2⟩
  replace s0 := keeps_cells hb2 _ _ s0
  replace s1 := keeps_cells hb2 _ _ s1
  replace s2 := keeps_cells hb2 _ _ s2
  replace z0 := (hb2.frozen (p := ⟨w.heap.size, 0, none⟩) hl).trans z0
  replace z1 := (hb2.frozen (p := ⟨w.heap.size, 1, none⟩) hl).trans z1
  replace z2 := (hb2.frozen (p := ⟨w.heap.size, 2, none⟩) hl).trans z2
  replace hbw := ext_trans hbw hb2
  replace hl := Nat.lt_of_lt_of_le hl hb2.size
  clear hb2
  go_wp2
  refine bodyPost_ret (v := .agg #[.bool false, .string ⟨#[49]⟩, .int .i64 0]) (by simp [results, Tryz.results77, go_sem, s0, s1, s2, z0, z1, z2, hl]) rfl ⟨rfl, ?_⟩
  repeat' (first | (with_reducible exact hbw) | (with_reducible refine Below.setCell ?_ ?_ _) | (with_reducible refine Below.alloc ?_ ?_ _) | (simp; done) | (simp; omega) | omega)
theorem formD_code (ng : Bool) (D : List UInt8) (e : Int) (h : (formD ng D e).2 ≠ 0) : (formD ng D e) = (dec0, (formD ng D e).2) := by
  revert h
  unfold formD
  split
  · intro h; exact absurd rfl h
  · simp only
    split
    · intro _; rfl
    · split
      · intro h; exact absurd rfl h
      · intro h; exact absurd rfl h
theorem powG_dec0 (a : Dec) : ∀ k, (powG a k).2 ≠ 0 → (powG a k) = (dec0, (powG a k).2)
  | 0, h => absurd rfl h
  | k + 1, h => by
    by_cases hc : (powG a k).2 = 0
    · rw [powG_next hc] at h ⊢
      exact formD_code _ _ _ h
    · rw [powG, if_neg hc] at h ⊢
      exact powG_dec0 a k h
set_option maxHeartbeats 16000000 in
set_option maxRecDepth 100000 in
theorem specPow0 (a : Dec) (n : Nat) (w : World) (ha : decOk a = true) (hn : n ≤ 99) :
    Calls Tryz.prog 36 #[.agg #[.bool a.neg, .string a.dig, .int .i64 a.exp], .int .i64 (n : Int)] w fun e w' => e = .returned (formV (powS a n)) ∧ Below w.heap.size w w' := by
  obtain ⟨a1, a2, a3, a4, a5⟩ := ok_facts ha
  have CO : Hid (∀ w, Calls Tryz.prog 67 #[.agg #[.bool a.neg, .string a.dig, .int .i64 a.exp]] w fun e w' => e = .returned (.bool true) ∧ Below w.heap.size w w') := hid (fun w => by
    have h := specDecOk (d := a) (cs := #[.bool a.neg, .string a.dig, .int .i64 a.exp]) w (by exact rdDec_mk (x := a) (by omega) (by omega))
    rw [ha] at h
    exact h)
  have hb : inB (-99) (n : Int) 99 = true := inB_true (by omega)
  have g1 : ¬ (n : Int) < 0 := by omega
  have C1 := hid (fun (w : World) => specOne w)
  have CM := hid (fun (k : Nat) (w : World) => specDecMul (powS a k).1 a w (powS_ok ha k) ha)
  obtain ⟨na, da, ea⟩ := a
  dsimp only at *
  obtain ⟨A, hA⟩ : ∃ A, (⟨na, da, ea⟩ : Dec) = A := ⟨_, rfl⟩
  rw [hA] at CM ⊢
  have HA := hid hA
  clear a1 a2 a3 a4 a5 ha hA
  go_enter Tryz.func36, Tryz.ntmps36
  go_wp2_with fail
  refine (CO.out _).mono ?_
  rintro e w1 ⟨rfl, hb1⟩
  obtain ⟨hc1, hf1⟩ := bcell hb1
  have hl : w.heap.size + 1 < w1.heap.size := by have := hb1.size; (try simp at this); omega
  have hbw : Below w.heap.size w w1 := ext_trans (ext_trans (ext_alloc _ _) (ext_alloc _ _)) hb1
  have s0 := hc1 w.heap.size 0 (by simp; omega)
  have s1 := hc1 w.heap.size 1 (by simp; omega)
  have s2 := hc1 w.heap.size 2 (by simp; omega)
  have s3 := hc1 (w.heap.size + 1) 0 (by simp)
  have s4 := hc1 (w.heap.size + 1) 1 (by simp)
  have s5 := hc1 (w.heap.size + 1) 2 (by simp)
  have z3 := hf1 (w.heap.size + 1) 0 (by simp)
  have z4 := hf1 (w.heap.size + 1) 1 (by simp)
  have z5 := hf1 (w.heap.size + 1) 2 (by simp)
  simp at s0 s1 s2 s3 s4 s5 z3 z4 z5
  clear hc1 hf1 hb1
  go_wp2_with (go_at_call 28; refine (between_any _ _ _ _).mono ?_; rintro e wi ⟨rfl, rfl⟩)
  refine (C1.out _).mono ?_
  rintro e w2 ⟨rfl, hb2⟩
  have hbw2 := ext_trans hbw hb2
  have hl2 : w.heap.size + 1 < w2.heap.size := Nat.lt_of_lt_of_le hl hb2.size
  have hl20 : w.heap.size < w2.heap.size := by omega
  replace s0 := keeps_cells hb2 _ _ s0
  replace s1 := keeps_cells hb2 _ _ s1
  replace s2 := keeps_cells hb2 _ _ s2
  replace s3 := keeps_cells hb2 _ _ s3
  replace s4 := keeps_cells hb2 _ _ s4
  replace s5 := keeps_cells hb2 _ _ s5
  replace z3 := (hb2.frozen (p := ⟨w.heap.size + 1, 0, none⟩) hl).trans z3
  replace z4 := (hb2.frozen (p := ⟨w.heap.size + 1, 1, none⟩) hl).trans z4
  replace z5 := (hb2.frozen (p := ⟨w.heap.size + 1, 2, none⟩) hl).trans z5
  clear hb2 hbw hl
  have HB : Hid (BoxP w (w2.alloc (.cells #[.bool false, .string ⟨#[49]⟩, .int .i64 0] 27)) w2.heap.size na da ea one1) := hid (by
    refine ⟨keeps_cells (ext_alloc w2 _) _ _ s0, keeps_cells (ext_alloc w2 _) _ _ s1, keeps_cells (ext_alloc w2 _) _ _ s2, keeps_cells (ext_alloc w2 _) _ _ s3, keeps_cells (ext_alloc w2 _) _ _ s4, keeps_cells (ext_alloc w2 _) _ _ s5, ?_, ?_, ?_, ((ext_alloc w2 _).frozen (p := ⟨w.heap.size + 1, 0, none⟩) hl2).trans z3, ((ext_alloc w2 _).frozen (p := ⟨w.heap.size + 1, 1, none⟩) hl2).trans z4, ((ext_alloc w2 _).frozen (p := ⟨w.heap.size + 1, 2, none⟩) hl2).trans z5, ?_, ?_, ?_, ext_trans hbw2 (ext_alloc _ _), by simp; omega, by simp, hl2⟩
    all_goals (go_simp; try rfl))
  go_wp2
  clear s0 s1 s2 s3 s4 s5 z3 z4 z5 hl2 hl20
  go_loopw [9, 10] (fun cv kv wr => ∃ k : Nat, k ≤ n ∧ kv = .int .i64 (k : Int) ∧ cv = .int .i64 (powS A k).2 ∧ BoxP w wr w2.heap.size na da ea (powS A k).1) (fun _ kv _ => n - (intOf kv).toNat)
  case atStart => exact ⟨0, Nat.zero_le _, rfl, rfl, HB.out⟩
  case round =>
    obtain ⟨k, hk, rfl, rfl, hbox⟩ := hrel
    have Y1 := hid hbox
    clear hbox HB
    have HST := hid (fun (h : (powS A k).2 ≠ 0) => powS_stuck (n := n) h hk)
    by_cases hlt : k < n
    · have hlti : (k : Int) < (n : Int) := by omega
      have CMk := hid (CM.out k)
      have HN := hid (fun (j : Nat) (h : k = j + 1) (h0 : (powS A k).2 = 0) => show mulD (powS A k).1 A = powS A (k + 1) by subst h; exact (powG_next h0).symm)
      have HK0 := hid (fun (h : k = 0) => show powS A (k + 1) = (A, 0) by subst h; rfl)
      obtain ⟨P, hP⟩ : ∃ P, powS A k = P := ⟨_, rfl⟩
      rw [hP] at CMk Y1 HN HST ⊢
      obtain ⟨Q, hQ⟩ : ∃ Q, powS A (k + 1) = Q := ⟨_, rfl⟩
      rw [hQ] at HN HK0
      have HQ := hid hQ
      clear hP hQ
      obtain ⟨c0, c1, c2, c3, c4, c5, c6, c7, c8, y0, y1, y2, y3, y4, y5, bw, l1, lg, hg⟩ := Y1.out
      by_cases hc : P.2 = 0
      · have hc1 : (P.2 == 0) = true := by rw [beq_iff_eq]; exact hc
        have hc2 : (P.2 != 0) = false := by rw [bne, hc1]; rfl
        have HPC := hid hc
        by_cases hk0 : k = 0
        · have gk : ((k : Int) == 0) = true := by rw [beq_iff_eq]; omega
          have HQA := hid (HK0.out hk0)
          clear hc hk0
          go_wp2
          go_roundw
          case rel =>
            refine ⟨k + 1, by omega, by go_num, by rw [HQ.out, HQA.out, HPC.out], ?_⟩
            have hbx := Y1.out.put A
            rw [HQ.out, HQA.out]
            rw [← HA.out] at hbx ⊢
            exact hbx
          case measure => simp [intOf]; omega
        · have gk : ((k : Int) == 0) = false := by rw [beq_eq_false_iff_ne]; omega
          obtain ⟨j, hj⟩ : ∃ j, k = j + 1 := ⟨k - 1, by omega⟩
          have hmq := HN.out j hj hc
          rw [hmq] at CMk
          unfold formV at CMk
          clear hc hk0 hj hmq j
          go_wp2_with fail
          refine (CMk.out _).mono ?_
          rintro e w3 ⟨rfl, hb3⟩
          have Y2 := hid (Y1.out.call hb3)
          clear c0 c1 c2 c3 c4 c5 c6 c7 c8 y0 y1 y2 y3 y4 y5 bw l1 lg hg
          obtain ⟨c0, c1, c2, c3, c4, c5, c6, c7, c8, y0, y1, y2, y3, y4, y5, bw, l1, lg, hg⟩ := Y2.out
          clear hb3
          go_wp2
          go_roundw
          case rel => exact ⟨k + 1, by omega, by go_num, by rw [HQ.out], by rw [HQ.out]; exact Y2.out.put Q.1⟩
          case measure => simp [intOf]; omega
      · have hc1 : (P.2 == 0) = false := by rw [beq_eq_false_iff_ne]; exact hc
        have hc2 : (P.2 != 0) = true := by rw [bne, hc1]; rfl
        have HE := hid (HST.out hc)
        clear hc
        go_wp2
        refine bodyPost_ret (v := .tuple #[.agg #[.bool P.1.neg, .string P.1.dig, .int .i64 P.1.exp], .int .i64 P.2]) (by simp [results, Tryz.results36, go_sem, c0, c1, c2, c3, c4, c5, c6, c7, c8, y0, y1, y2, y3, y4, y5, l1, lg]) rfl ⟨by rw [HE.out]; rfl, ?_⟩
        repeat' (first | (with_reducible exact bw) | (with_reducible refine Below.setCell ?_ ?_ _) | (with_reducible refine Below.alloc ?_ ?_ _) | (simp; done) | (simp; omega) | omega)
    · obtain rfl : k = n := by omega
      have hlti : ¬ (k : Int) < (k : Int) := by omega
      obtain ⟨P, hP⟩ : ∃ P, powS A k = P := ⟨_, rfl⟩
      rw [hP] at Y1 ⊢
      have HE := hid hP
      clear hP
      obtain ⟨c0, c1, c2, c3, c4, c5, c6, c7, c8, y0, y1, y2, y3, y4, y5, bw, l1, lg, hg⟩ := Y1.out
      go_wp2
      refine bodyPost_ret (v := .tuple #[.agg #[.bool P.1.neg, .string P.1.dig, .int .i64 P.1.exp], .int .i64 P.2]) (by simp [results, Tryz.results36, go_sem, c0, c1, c2, c3, c4, c5, c6, c7, c8, y0, y1, y2, y3, y4, y5, l1, lg]) rfl ⟨by rw [HE.out]; rfl, ?_⟩
      repeat' (first | (with_reducible exact bw) | (with_reducible refine Below.setCell ?_ ?_ _) | (with_reducible refine Below.alloc ?_ ?_ _) | (simp; done) | (simp; omega) | omega)
set_option maxHeartbeats 16000000 in
set_option maxRecDepth 100000 in
theorem specDecPow (a : Dec) (n : Int) (w : World) (ha : decOk a = true) (hn : -1000000000000000000 ≤ n ∧ n ≤ 1000000000000000000) :
    Calls Tryz.prog 36 #[.agg #[.bool a.neg, .string a.dig, .int .i64 a.exp], .int .i64 n] w fun e w' => e = .returned (formV (if -99 ≤ n ∧ n ≤ 99 then powD a n else (dec0, 3))) ∧ Below w.heap.size w w' := by
  by_cases hin : -99 ≤ n ∧ n ≤ 99
  · rw [if_pos hin]
    by_cases hneg : n < 0
    · obtain ⟨m, hm⟩ : ∃ m : Nat, -n = (m : Int) := ⟨(-n).toNat, by omega⟩
      have CR := hid (fun (w : World) => specPow0 a m w ha (by omega))
      have C1 := hid (fun (w : World) => specOne w)
      have CD := hid (fun (w : World) => specDecDiv one1 (powS a m).1 w one1_ok (powS_ok ha m))
      have hPD : powD a n = if (powS a m).2 ≠ 0 then (dec0, (powS a m).2) else divD one1 (powS a m).1 := by
        have e : n.natAbs - 1 + 1 = m := by omega
        have e2 : powG a (n.natAbs - 1) = powS a m := by rw [← e]; rfl
        unfold powD
        rw [if_neg (by omega), e2, if_pos hneg]
      obtain ⟨a1, a2, a3, a4, a5⟩ := ok_facts ha
      have CO : Hid (∀ w, Calls Tryz.prog 67 #[.agg #[.bool a.neg, .string a.dig, .int .i64 a.exp]] w fun e w' => e = .returned (.bool true) ∧ Below w.heap.size w w') := hid (fun w => by
        have h := specDecOk (d := a) (cs := #[.bool a.neg, .string a.dig, .int .i64 a.exp]) w (by exact rdDec_mk (x := a) (by omega) (by omega))
        rw [ha] at h
        exact h)
      have hb : inB (-99) n 99 = true := inB_true (by omega)
      obtain ⟨R, hR⟩ : ∃ r, powD a n = r := ⟨_, rfl⟩
      rw [hR] at hPD ⊢
      obtain ⟨P, hP⟩ : ∃ P, powS a m = P := ⟨_, rfl⟩
      rw [hP] at CR CD hPD
      unfold formV at CR ⊢
      have HN := hid hm
      have hng : IntKind.i64.wrap (-n) = -n := IntWalk.i64_in _ (by omega)
      obtain ⟨na, da, ea⟩ := a
      dsimp only at *
      clear a1 a2 a3 a4 a5 ha hR hP hin
      have HPD := hid hPD
      clear hPD
      go_enter Tryz.func36, Tryz.ntmps36
      go_wp2_with fail
      refine (CO.out _).mono ?_
      rintro e w1 ⟨rfl, hb1⟩
      obtain ⟨hc1, hf1⟩ := bcell hb1
      have hl : w.heap.size + 1 < w1.heap.size := by have := hb1.size; (try simp at this); omega
      have hbw : Below w.heap.size w w1 := ext_trans (ext_trans (ext_alloc _ _) (ext_alloc _ _)) hb1
      have s0 := hc1 w.heap.size 0 (by simp; omega)
      have s1 := hc1 w.heap.size 1 (by simp; omega)
      have s2 := hc1 w.heap.size 2 (by simp; omega)
      have s3 := hc1 (w.heap.size + 1) 0 (by simp)
      have s4 := hc1 (w.heap.size + 1) 1 (by simp)
      have s5 := hc1 (w.heap.size + 1) 2 (by simp)
      have z3 := hf1 (w.heap.size + 1) 0 (by simp)
      have z4 := hf1 (w.heap.size + 1) 1 (by simp)
      have z5 := hf1 (w.heap.size + 1) 2 (by simp)
      simp at s0 s1 s2 s3 s4 s5 z3 z4 z5
      clear hc1 hf1 hb1
      go_wp2_with (go_at_call 28; refine (between_any _ _ _ _).mono ?_; rintro e wi ⟨rfl, rfl⟩)
      refine (CR.out _).mono ?_
      rintro e w2 ⟨rfl, hb2⟩
      have hbw2 := ext_trans hbw hb2
      have hl2 : w.heap.size + 1 < w2.heap.size := Nat.lt_of_lt_of_le hl hb2.size
      have hl20 : w.heap.size < w2.heap.size := by omega
      replace s0 := keeps_cells hb2 _ _ s0
      replace s1 := keeps_cells hb2 _ _ s1
      replace s2 := keeps_cells hb2 _ _ s2
      replace s3 := keeps_cells hb2 _ _ s3
      replace s4 := keeps_cells hb2 _ _ s4
      replace s5 := keeps_cells hb2 _ _ s5
      replace z3 := (hb2.frozen (p := ⟨w.heap.size + 1, 0, none⟩) hl).trans z3
      replace z4 := (hb2.frozen (p := ⟨w.heap.size + 1, 1, none⟩) hl).trans z4
      replace z5 := (hb2.frozen (p := ⟨w.heap.size + 1, 2, none⟩) hl).trans z5
      clear hb2 hbw hl hm
      have HB : Hid (BoxP w (w2.alloc (.cells #[.bool P.1.neg, .string P.1.dig, .int .i64 P.1.exp] 27)) w2.heap.size na da ea P.1) := hid (by
        refine ⟨keeps_cells (ext_alloc w2 _) _ _ s0, keeps_cells (ext_alloc w2 _) _ _ s1, keeps_cells (ext_alloc w2 _) _ _ s2, keeps_cells (ext_alloc w2 _) _ _ s3, keeps_cells (ext_alloc w2 _) _ _ s4, keeps_cells (ext_alloc w2 _) _ _ s5, ?_, ?_, ?_, ((ext_alloc w2 _).frozen (p := ⟨w.heap.size + 1, 0, none⟩) hl2).trans z3, ((ext_alloc w2 _).frozen (p := ⟨w.heap.size + 1, 1, none⟩) hl2).trans z4, ((ext_alloc w2 _).frozen (p := ⟨w.heap.size + 1, 2, none⟩) hl2).trans z5, ?_, ?_, ?_, ext_trans hbw2 (ext_alloc _ _), by simp; omega, by simp, hl2⟩
        all_goals go_simp)
      by_cases hc : P.2 = 0
      · have hc1 : (P.2 == 0) = true := by rw [beq_iff_eq]; exact hc
        have hc2 : (P.2 != 0) = false := by rw [bne, hc1]; rfl
        have HRD := hid (show divD one1 P.1 = R by rw [HPD.out, if_neg (fun h => h hc)])
        rw [HRD.out] at CD
        unfold formV at CD
        have CDX : Hid (∀ w, Calls Tryz.prog 33 #[.agg #[.bool false, .string ⟨#[49]⟩, .int .i64 0], .agg #[.bool P.1.neg, .string P.1.dig, .int .i64 P.1.exp]] w fun e w' => e = .returned (.tuple #[.agg #[.bool R.1.neg, .string R.1.dig, .int .i64 R.1.exp], .int .i64 R.2]) ∧ Below w.heap.size w w') := CD
        clear hc CD
        go_wp2_with fail
        clear s0 s1 s2 s3 s4 s5 z3 z4 z5 hbw2
        have Y1 := HB
        obtain ⟨c0, c1, c2, c3, c4, c5, c6, c7, c8, y0, y1, y2, y3, y4, y5, bw, l1, lg, hg⟩ := Y1.out
        refine wp_region_held_drew (S := fun w' => w'.cell? ⟨w2.heap.size, 0, none⟩ = some (.bool P.1.neg) ∧ w'.cell? ⟨w2.heap.size, 1, none⟩ = some (.string P.1.dig) ∧ w'.cell? ⟨w2.heap.size, 2, none⟩ = some (.int .i64 P.1.exp)) (by kernel_rfl) ?_ (fun hHeld => ?_)
        · simp [*]
        refine wpAnyH_take (i := 1) (v := ?_) rfl (by kernel_rfl) (by kernel_rfl) (by kernel_rfl) (fun _ _ _ h => h) (Or.inl ⟨by rfl, ?_⟩) (by assumption) ?_
        rotate_left
        · (intro w' hSw; (try dsimp only at hSw); go_simp; try (with_reducible rfl))
        change wpAnyH _ _ _ _ _ _ _ (Act.put _ (some 34) _) _
        try simp only [Act.put, List.setIfInBounds_toArray, List.set_cons_zero, List.set_cons_succ]
        refine wpAnyH_ready (rs := [0]) (by kernel_rfl) (by simp) ?_
        refine AllReadyH.cons (i := 0) rfl (fun K hK => ?_) AllReadyH.nil
        simp only [List.getElem_toArray, List.getElem_cons_succ, List.getElem_cons_zero]
        rw [if_pos (by rfl)]
        go_simp
        (go_at_call 77; refine (C1.out _).mono ?_; rintro e w3 ⟨rfl, hb3⟩; have Y2 := hid (Y1.out.drew.call hb3); clear c0 c1 c2 c3 c4 c5 c6 c7 c8 y0 y1 y2 y3 y4 y5 bw l1 lg hg; obtain ⟨c0, c1, c2, c3, c4, c5, c6, c7, c8, y0, y1, y2, y3, y4, y5, bw, l1, lg, hg⟩ := Y2.out; clear hb3; go_wp2_with fail)
        have hOld := hHeld
        clear hHeld
        refine hK.out _ _ ?_ (fun hHeld => ?_)
        · (try dsimp only); first | (simp [*]; done) | (refine ⟨?_, ?_, ?_⟩ <;> go_simp) | go_simp
        clear hK K hOld
        try simp only [Act.put, List.setIfInBounds_toArray, List.set_cons_zero, List.set_cons_succ]
        refine wpAnyH_ready (rs := [2]) (by kernel_rfl) (by simp) ?_
        refine AllReadyH.cons (i := 2) rfl (fun K hK => ?_) AllReadyH.nil
        simp only [List.getElem_toArray, List.getElem_cons_succ, List.getElem_cons_zero]
        rw [if_pos (by rfl)]
        go_simp
        (go_at_call 33; refine (CDX.out _).mono ?_; rintro e w4 ⟨rfl, hb4⟩; have Y3 := hid (Y2.out.call hb4); clear c0 c1 c2 c3 c4 c5 c6 c7 c8 y0 y1 y2 y3 y4 y5 bw l1 lg hg; obtain ⟨c0, c1, c2, c3, c4, c5, c6, c7, c8, y0, y1, y2, y3, y4, y5, bw, l1, lg, hg⟩ := Y3.out; clear hb4; go_wp2_with fail)
        have hOld := hHeld
        clear hHeld
        refine hK.out _ _ ?_ (fun hHeld => ?_)
        · (try dsimp only); first | (simp [*]; done) | (refine ⟨?_, ?_, ?_⟩ <;> go_simp) | go_simp
        clear hK K hOld
        try simp only [Act.put, List.setIfInBounds_toArray, List.set_cons_zero, List.set_cons_succ]
        refine wpAnyH_take (i := 3) (v := ?_) rfl (by kernel_rfl) (by kernel_rfl) (by kernel_rfl) (fun _ _ _ h => h) (Or.inl ⟨by rfl, ?_⟩) (by assumption) ?_
        rotate_left
        · (intro w' hSw; (try dsimp only at hSw); go_simp; try (with_reducible rfl))
        change wpAnyH _ _ _ _ _ _ _ (Act.put _ (some 36) _) _
        try simp only [Act.put, List.setIfInBounds_toArray, List.set_cons_zero, List.set_cons_succ]
        refine wpAnyH_take (i := 4) (v := ?_) rfl (by kernel_rfl) (by kernel_rfl) (by kernel_rfl) (fun _ _ _ h => h) (Or.inl ⟨by rfl, ?_⟩) (by assumption) ?_
        rotate_left
        · (intro w' hSw; (try dsimp only at hSw); go_simp; try (with_reducible rfl))
        change wpAnyH _ _ _ _ _ _ _ (Act.put _ (some 37) _) _
        try simp only [Act.put, List.setIfInBounds_toArray, List.set_cons_zero, List.set_cons_succ]
        refine wpAnyH_ready (rs := [5]) (by kernel_rfl) (by simp) ?_
        refine AllReadyH.cons (i := 5) rfl (fun K hK => ?_) AllReadyH.nil
        simp only [List.getElem_toArray, List.getElem_cons_succ, List.getElem_cons_zero]
        rw [if_pos (by rfl)]
        go_simp
        have hOld := hHeld
        clear hHeld
        refine hK.out _ _ ?_ (fun hHeld => ?_)
        · (try dsimp only); first | (simp [*]; done) | (refine ⟨?_, ?_, ?_⟩ <;> go_simp) | go_simp
        clear hK K hOld
        try simp only [Act.put, List.setIfInBounds_toArray, List.set_cons_zero, List.set_cons_succ]
        refine wpAnyH_take (i := 6) (v := ?_) rfl (by kernel_rfl) (by kernel_rfl) (by kernel_rfl) (fun _ _ _ h => h) (Or.inl ⟨by rfl, ?_⟩) (by assumption) ?_
        rotate_left
        · (intro w' hSw; (try dsimp only at hSw); go_simp; try (with_reducible rfl))
        change wpAnyH _ _ _ _ _ _ _ (Act.put _ (some 5) _) _
        try simp only [Act.put, List.setIfInBounds_toArray, List.set_cons_zero, List.set_cons_succ]
        refine wpAnyH_done (by kernel_rfl) ?_ _
        clear hHeld
        go_wp2_with fail
        refine bodyPost_ret (v := .tuple #[.agg #[.bool R.1.neg, .string R.1.dig, .int .i64 R.1.exp], .int .i64 R.2]) (by simp [results, Tryz.results36, go_sem, c0, c1, c2, c3, c4, c5, c6, c7, c8, y0, y1, y2, y3, y4, y5, l1, lg]) rfl ⟨rfl, ?_⟩
        repeat' (first | (with_reducible exact bw) | (with_reducible refine Below.setCell ?_ ?_ _) | (with_reducible refine Below.alloc ?_ ?_ _) | (simp; done) | (simp; omega) | omega)
      · have hc1 : (P.2 == 0) = false := by rw [beq_eq_false_iff_ne]; exact hc
        have hc2 : (P.2 != 0) = true := by rw [bne, hc1]; rfl
        have HRD := hid (show R = (dec0, P.2) by rw [HPD.out, if_pos hc])
        clear hc
        go_wp2
        refine bodyPost_ret (v := .tuple #[.agg #[.bool false, .string ⟨#[]⟩, .int .i64 0], .int .i64 P.2]) (by simp [results, Tryz.results36, go_sem, s3, s4, s5, z3, z4, z5, hl2, hl20]) rfl ⟨by rw [HRD.out]; rfl, ?_⟩
        repeat' (first | (with_reducible exact hbw2) | (with_reducible refine Below.setCell ?_ ?_ _) | (with_reducible refine Below.alloc ?_ ?_ _) | (simp; done) | (simp; omega) | omega)
    · obtain ⟨m, rfl⟩ : ∃ m : Nat, n = (m : Int) := ⟨n.toNat, by omega⟩
      have e : powD a (m : Int) = powS a m := by
        unfold powD
        by_cases h0 : m = 0
        · subst h0
          exact if_pos (by rfl)
        · obtain ⟨k, rfl⟩ : ∃ k, m = k + 1 := ⟨m - 1, by omega⟩
          have e2 : ((k + 1 : Nat) : Int).natAbs - 1 = k := by omega
          rw [if_neg (by omega), e2, if_neg hneg]
          show (if (powG a k).2 ≠ 0 then _ else _) = powG a k
          have hok := powG_dec0 a k
          by_cases hc : (powG a k).2 ≠ 0
          · rw [if_pos hc, ← hok hc]
          · rw [if_neg hc]
      rw [e]
      exact specPow0 a m w ha (by omega)
  · rw [if_neg hin]
    obtain ⟨a1, a2, a3, a4, a5⟩ := ok_facts ha
    have CO : Hid (∀ w, Calls Tryz.prog 67 #[.agg #[.bool a.neg, .string a.dig, .int .i64 a.exp]] w fun e w' => e = .returned (.bool true) ∧ Below w.heap.size w w') := hid (fun w => by
      have h := specDecOk (d := a) (cs := #[.bool a.neg, .string a.dig, .int .i64 a.exp]) w (by exact rdDec_mk (x := a) (by omega) (by omega))
      rw [ha] at h
      exact h)
    have hb : inB (-99) n 99 = false := inB_false (by omega)
    obtain ⟨na, da, ea⟩ := a
    dsimp only at *
    clear hin a1 a2 a3 a4 a5 ha
    go_enter Tryz.func36, Tryz.ntmps36
    go_wp2_with fail
    refine (CO.out _).mono ?_
    rintro e w1 ⟨rfl, hb1⟩
    obtain ⟨hc1, hf1⟩ := bcell hb1
    have hl : w.heap.size + 1 < w1.heap.size := by have := hb1.size; (try simp at this); omega
    have hbw : Below w.heap.size w w1 := ext_trans (ext_trans (ext_alloc _ _) (ext_alloc _ _)) hb1
    have s0 := hc1 w.heap.size 0 (by simp; omega)
    have s1 := hc1 w.heap.size 1 (by simp; omega)
    have s2 := hc1 w.heap.size 2 (by simp; omega)
    have s3 := hc1 (w.heap.size + 1) 0 (by simp)
    have s4 := hc1 (w.heap.size + 1) 1 (by simp)
    have s5 := hc1 (w.heap.size + 1) 2 (by simp)
    have z3 := hf1 (w.heap.size + 1) 0 (by simp)
    have z4 := hf1 (w.heap.size + 1) 1 (by simp)
    have z5 := hf1 (w.heap.size + 1) 2 (by simp)
    simp at s0 s1 s2 s3 s4 s5 z3 z4 z5
    clear hc1 hf1 hb1
    go_wp2_with (go_at_call 28; refine (between_any _ _ _ _).mono ?_; rintro e wi ⟨rfl, rfl⟩)
    refine bodyPost_ret (v := .tuple #[.agg #[.bool false, .string ⟨#[]⟩, .int .i64 0], .int .i64 3]) (by simp [results, Tryz.results36, go_sem, s3, s4, s5, z3, z4, z5, hl]) rfl ⟨rfl, ?_⟩
    repeat' (first | (with_reducible exact hbw) | (with_reducible refine Below.setCell ?_ ?_ _) | (simp; done) | (simp; omega) | omega)
end Go.Proofs.YthfmhenphnllfaaGreatDoor

namespace Go.Proofs.YthfmhenphnllfaaGreatDoor
open Go.RowKit
set_option linter.unusedVariables false
set_option linter.unusedSimpArgs false

def numVal (d : Dec) : Val := if decOk d then ⟨1, d, ⟨#[]⟩⟩ else val0

set_option maxHeartbeats 1000000 in
theorem specValOk_num {d : Dec} (w : World) (hd : Rd.rd (Old w) w [.bool d.neg, .string d.dig, .int .i64 d.exp] d) :
    Calls Tryz.prog 112 #[.agg #[.int .i64 1, .bool d.neg, .string d.dig, .int .i64 d.exp, .string ⟨#[]⟩]] w fun e w' => e = .returned (.bool (decOk d)) ∧ Below w.heap.size w w' := by
  obtain ⟨_, hs, he⟩ := rdDec hd
  go_enter Tryz.func112, Tryz.ntmps112
  go_wp2_with fail
  refine (specDecOk (d := d) _ (by exact rdDec_mk hs he)).mono ?_
  rintro e w1 ⟨rfl, hb⟩
  go_wp2
  go_ret
  exact ⟨rfl, ext_trans (ext_alloc _ _) hb⟩

set_option maxHeartbeats 1000000 in
theorem specSound_num {d : Dec} (w : World) (hd : Rd.rd (Old w) w [.bool d.neg, .string d.dig, .int .i64 d.exp] d) :
    Calls Tryz.prog 65 #[.agg #[.int .i64 1, .bool d.neg, .string d.dig, .int .i64 d.exp, .string ⟨#[]⟩]] w fun e w' => ∃ cs' : Array Value, e = .returned (.agg cs') ∧ Rd.rd (Old w') w' cs'.toList (numVal d) ∧ Below w.heap.size w w' := by
  obtain ⟨_, hs, he⟩ := rdDec hd
  obtain ⟨b, hb⟩ : ∃ b, decOk d = b := ⟨_, rfl⟩
  have HB := hid hb
  clear hb
  cases b
  · go_enter Tryz.func65, Tryz.ntmps65
    go_wp2_with fail
    refine (specValOk_num (d := d) _ (by exact rdDec_mk hs he)).mono ?_
    rintro e w1 ⟨rfl, hb⟩
    rw [HB.out]
    obtain ⟨hc1, hf1⟩ := bcell hb
    have hl : w.heap.size + 1 < w1.heap.size := by have := hb.size; (try simp at this); omega
    have hl' : w.heap.size < w1.heap.size := by omega
    have hbw : Below w.heap.size w w1 := ext_trans (ext_trans (ext_alloc _ _) (ext_alloc _ _)) hb
    go_wp2
    refine bodyPost_ret (v := .agg #[.int .i64 0, .bool false, .string ⟨#[]⟩, .int .i64 0, .string ⟨#[]⟩]) (by simp [results, Tryz.results65, go_sem, hc1, hl, hl']) rfl ⟨_, rfl, ?_, ?_⟩
    · unfold numVal; rw [HB.out]; exact rd_val0
    · repeat' (first | (with_reducible exact hbw) | (with_reducible refine Below.setCell ?_ ?_ _) | (simp; done) | (simp; omega) | omega)
  · go_enter Tryz.func65, Tryz.ntmps65
    go_wp2_with fail
    refine (specValOk_num (d := d) _ (by exact rdDec_mk hs he)).mono ?_
    rintro e w1 ⟨rfl, hb⟩
    rw [HB.out]
    obtain ⟨hc1, hf1⟩ := bcell hb
    have hl : w.heap.size + 1 < w1.heap.size := by have := hb.size; (try simp at this); omega
    have hl' : w.heap.size < w1.heap.size := by omega
    have hbw : Below w.heap.size w w1 := ext_trans (ext_trans (ext_alloc _ _) (ext_alloc _ _)) hb
    go_wp2
    refine bodyPost_ret (v := .agg #[.int .i64 1, .bool d.neg, .string d.dig, .int .i64 d.exp, .string ⟨#[]⟩]) (by simp [results, Tryz.results65, go_sem, hc1, hl, hl']) rfl ⟨_, rfl, ?_, ?_⟩
    · unfold numVal; rw [HB.out]; exact rdVal_mk (x := ⟨1, d, ⟨#[]⟩⟩) (show (-9223372036854775808 : Int) ≤ 1 ∧ (1 : Int) ≤ 9223372036854775807 by decide) hs he (show (⟨#[]⟩ : ByteArray).size ≤ 9223372036854775807 by decide)
    · repeat' (first | (with_reducible exact hbw) | (with_reducible refine Below.setCell ?_ ?_ _) | (simp; done) | (simp; omega) | omega)

set_option maxHeartbeats 1000000 in
theorem specNumVal {cs : Array Value} {d : Dec} (w : World) (hrd : Rd.rd (Old w) w cs.toList d) :
    Calls Tryz.prog 37 #[.agg cs] w fun e w' => ∃ cs' : Array Value, e = .returned (.agg cs') ∧ Rd.rd (Old w') w' cs'.toList (numVal d) ∧ Below w.heap.size w w' := by
  obtain ⟨hcs, hs, he⟩ := rdDec hrd
  obtain rfl := arr_of_list hcs
  clear hcs hrd
  go_enter Tryz.func37, Tryz.ntmps37
  go_wp2_with fail
  refine (specSound_num (d := d) _ (by exact rdDec_mk hs he)).mono ?_
  rintro e w1 ⟨cs1, rfl, hr, hb⟩
  obtain ⟨hcs1, g0, g1, g2, g3⟩ := rdVal hr
  obtain rfl := arr_of_list hcs1
  obtain ⟨hc1, hf1⟩ := bcell hb
  have hl : w.heap.size + 1 < w1.heap.size := by have := hb.size; (try simp at this); omega
  have hl' : w.heap.size < w1.heap.size := by omega
  have hbw : Below w.heap.size w w1 := ext_trans (ext_trans (ext_alloc _ _) (ext_alloc _ _)) hb
  clear hcs1 hr
  go_wp2
  refine bodyPost_ret (v := .agg #[.int .i64 (numVal d).kind, .bool (numVal d).num.neg, .string (numVal d).num.dig, .int .i64 (numVal d).num.exp, .string (numVal d).text]) (by simp [results, Tryz.results37, go_sem, hc1, hl, hl']) rfl ⟨_, rfl, ?_, ?_⟩
  · exact rdVal_mk g0 g1 g2 g3
  · repeat' (first | (with_reducible exact hbw) | (with_reducible refine Below.setCell ?_ ?_ _) | (simp; done) | (simp; omega) | omega)

end Go.Proofs.YthfmhenphnllfaaGreatDoor
