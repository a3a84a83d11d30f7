/-
  What is proved here: spec.l03Form and impl.normal bring the digits of a number to twenty without noughts at the ends. No condition but sizes.
-/
import Derived.Test.YtommldonooicjaaDoorPreI
namespace Go.Proofs.YtommldonooicjaaDoor
open Go.RowKit
set_option linter.unusedVariables false
set_option linter.unusedSimpArgs false

def formV (r : Dec × Int) : Value := .tuple #[.agg #[.bool r.1.neg, .string r.1.dig, .int .i64 r.1.exp], .int .i64 r.2]
theorem last_split {t : ByteArray} (h : 0 < t.size) : t.data.toList = (t.extract 0 (t.size - 1)).data.toList ++ [t[t.size - 1]'(by omega)] := by
  have hl : t.data.toList.length = t.size := (Lib.size_eq t).symm
  rw [extL, List.drop_zero, Nat.sub_zero]
  have h1 := (List.take_append_drop (t.size - 1) t.data.toList).symm
  have h2 : t.data.toList.drop (t.size - 1) = [t[t.size - 1]'(by omega)] := by
    rw [drop_get (by omega), List.drop_of_length_le (by rw [hl]; omega)]
  rw [h2] at h1
  exact h1
/-- what is known of the digits that are kept -/
theorem cutL_size (T : List UInt8) : (cutL T).length ≤ T.length + 3 := by
  unfold cutL
  split
  · exact roundL_len
  · omega
theorem formD_zero {neg : Bool} {l : List UInt8} {exp : Int} (h : trimL l = [48]) : formD neg l exp = (dec0, 0) := by unfold formD; rw [if_pos h]
theorem formD_over {neg : Bool} {l : List UInt8} {exp : Int} (h : ¬ trimL l = [48]) {S : List UInt8} (hS : stripL (cutL (trimL l)) = S) {e : Int} (he : e + (S.length : Int) = exp + ((trimL l).length - 20 : Nat) + ((cutL (trimL l)).length : Int)) (hc : 99 < e + (S.length : Int) - 1) : formD neg l exp = (dec0, 1) := by
  unfold formD
  simp only
  rw [if_neg h, hS, if_pos (by omega)]
theorem formD_under {neg : Bool} {l : List UInt8} {exp : Int} (h : ¬ trimL l = [48]) {S : List UInt8} (hS : stripL (cutL (trimL l)) = S) {e : Int} (he : e + (S.length : Int) = exp + ((trimL l).length - 20 : Nat) + ((cutL (trimL l)).length : Int)) (hc : e + (S.length : Int) - 1 < -99) : formD neg l exp = (dec0, 0) := by
  unfold formD
  simp only
  rw [if_neg h, hS, if_neg (by omega), if_pos (by omega)]
theorem formD_in {neg : Bool} {l : List UInt8} {exp : Int} (h : ¬ trimL l = [48]) {S : List UInt8} (hS : stripL (cutL (trimL l)) = S) {e : Int} (he : e + (S.length : Int) = exp + ((trimL l).length - 20 : Nat) + ((cutL (trimL l)).length : Int)) (h1 : ¬ 99 < e + (S.length : Int) - 1) (h2 : ¬ e + (S.length : Int) - 1 < -99) : formD neg l exp = (⟨neg, mkB S, e⟩, 0) := by
  unfold formD
  simp only
  rw [if_neg h, hS, if_neg (by omega), if_neg (by omega)]
  have : exp + ((trimL l).length - 20 : Nat) + (((cutL (trimL l)).length : Int) - (S.length : Int)) = e := by omega
  rw [this]
theorem trimL_beq {T : ByteArray} (h : ¬ T.data.toList = [48]) : (T.toList == [48]) = false := by rw [beq_eq_false_iff_ne, Lib.toList_data]; exact h
set_option maxHeartbeats 8000000 in
set_option maxRecDepth 100000 in
theorem specForm (neg : Bool) (s : ByteArray) (exp : Int) (w : World) (hd : digits s.data.toList) (hs : s.size ≤ 1900) (he : -20000 ≤ exp ∧ exp ≤ 20000) :
    Calls Tryd.prog 83 #[.bool neg, .string s, .int .i64 exp, .bool false] w fun e w' => e = .returned (formV (formD neg s.data.toList exp)) ∧ Below w.heap.size w w' := by
  obtain ⟨l, hl⟩ : ∃ l, s.data.toList = l := ⟨_, rfl⟩
  have hsl : s.size = l.length := by rw [Lib.size_eq, hl]
  have hTl := trimL_len l
  have CT := hid (fun w => specTrim s w (by omega))
  obtain ⟨T, hT⟩ : ∃ t, trimB s = t := ⟨_, rfl⟩
  rw [hT] at CT
  have hTd : T.data.toList = trimL l := by rw [← hT]; unfold trimB; rw [mkB_data, hl]
  have hTs : T.size = (trimL l).length := by rw [Lib.size_eq, hTd]
  rw [hl] at hd ⊢
  clear hT hl
  obtain ⟨F, hF⟩ : ∃ f, formD neg l exp = f := ⟨_, rfl⟩
  rw [hF]
  by_cases h0 : trimL l = [48]
  · have HF := hid (show F = (dec0, 0) by rw [← hF, formD_zero h0])
    have g0 : (T.toList == [48]) = true := by rw [beq_iff_eq, Lib.toList_data, hTd, h0]
    clear hF h0 hTd hTl hTs
    go_enter Tryd.func83, Tryd.ntmps83
    go_wp2_with fail
    refine (CT.out _).mono ?_
    rintro e w1 ⟨rfl, rfl⟩
    go_wp2
    refine bodyPost_ret (v := .tuple #[.agg #[.bool false, .string ⟨#[]⟩, .int .i64 0], .int .i64 0]) (by simp [results, Tryd.results83, go_sem]) rfl ⟨by rw [HF.out]; rfl, ?_⟩
    repeat' (first | (with_reducible exact Below.refl _ _) | (with_reducible exact ext_alloc _ _) | (with_reducible refine Below.setCell ?_ ?_ _) | (simp; done) | (simp; omega) | omega)
  have g0 : (T.toList == [48]) = false := trimL_beq (by rw [hTd]; exact h0)
  obtain ⟨RL, hRL⟩ : ∃ r, cutL (trimL l) = r := ⟨_, rfl⟩
  have hRn := cutL_size (trimL l)
  have hmem := cutL_ne hd h0
  obtain ⟨S, hS⟩ : ∃ r, stripL RL = r := ⟨_, rfl⟩
  rw [hRL] at hRn hmem
  obtain ⟨mo, hmo⟩ : ∃ m, (trimL l).length - 20 = m := ⟨_, rfl⟩
  have K1 := hid (fun (e : Int) (he : e + (S.length : Int) = exp + (mo : Int) + (RL.length : Int)) (hc : 99 < e + (S.length : Int) - 1) => hF.symm.trans (formD_over h0 (by rw [hRL]; exact hS) (by rw [hRL, hmo]; exact he) hc))
  have K2 := hid (fun (e : Int) (he : e + (S.length : Int) = exp + (mo : Int) + (RL.length : Int)) (hc : e + (S.length : Int) - 1 < -99) => hF.symm.trans (formD_under h0 (by rw [hRL]; exact hS) (by rw [hRL, hmo]; exact he) hc))
  have K3 := hid (fun (e : Int) (he : e + (S.length : Int) = exp + (mo : Int) + (RL.length : Int)) (hc : ¬ 99 < e + (S.length : Int) - 1) (hc2 : ¬ e + (S.length : Int) - 1 < -99) => hF.symm.trans (formD_in h0 (by rw [hRL]; exact hS) (by rw [hRL, hmo]; exact he) hc hc2))
  have HRL := hid hRL
  have HSL := hid hS
  have HTD := hid hTd
  have HMO := hid hmo
  have hTg : digits T.data.toList := by rw [hTd]; exact digits_trim hd
  have HMM := hid hmem
  have hmo1 : mo ≤ 1901 := by omega
  have hRn2 : RL.length ≤ 1910 := by omega
  have hTs2 : T.size ≤ 1901 := by omega
  have HTS := hid hTs
  clear hF h0 hRL hS hTd hmo hmem hd hsl hRn hTl hTs hs
  go_enter Tryd.func83, Tryd.ntmps83
  go_wp2_with fail
  refine (CT.out _).mono ?_
  rintro e w1 ⟨rfl, rfl⟩
  go_upto_if 24 with fail
  go_cut [1, 2] from 12 (fun v1 v2 wr => v1 = .string (mkB RL) ∧ v2 = .int .i64 (exp + (mo : Int)) ∧ Below (w.heap.size + 1) (w.alloc (.cells #[.bool false, .string ⟨#[]⟩, .int .i64 0] 29)) wr)
  case first =>
    by_cases h20 : 20 < T.size
    · have hm : (T.size : Int) - 20 = (mo : Int) := by have := HTS.out; have := HMO.out; omega
      have hm1 : 1 ≤ mo := by omega
      have CR := hid (fun w => specRound T mo w hTg (by omega) hm1 (by omega))
      have HRR := hid (show mkB (roundL T.data.toList mo) = mkB RL by
        rw [← HRL.out]
        unfold cutL
        rw [if_pos (by have := HTS.out; omega), HTD.out, ← HMO.out])
      have g1 : (20 : Int) < (T.size : Int) := by omega
      have hw : IntKind.i64.wrap (exp + (mo : Int)) = exp + (mo : Int) := IntWalk.i64_in _ (by omega)
      clear hTg
      go_wp2_with fail
      refine (CR.out _).mono ?_
      rintro e w2 ⟨rfl, hb2⟩
      rw [HRR.out]
      go_wp2
      go_meet
      case rel => exact ⟨rfl, rfl, by have e0 : (w.alloc (.cells #[.bool false, .string ⟨#[]⟩, .int .i64 0] 29)).heap.size = w.heap.size + 1 := (by simp); rw [← e0]; exact hb2⟩
    · have hm : mo = 0 := by have := HTS.out; have := HMO.out; omega
      have HRR := hid (show T = mkB RL by
        rw [← HRL.out]
        unfold cutL
        rw [if_neg (by have := HTS.out; omega), ← HTD.out, mkB_of])
      have g1 : ¬ (20 : Int) < (T.size : Int) := by omega
      have HM0 := hid hm
      clear hTg hm
      go_wp2
      go_meet
      case rel => exact ⟨by rw [HRR.out], by rw [HM0.out]; simp, Below.refl _ _⟩
  case rest =>
  obtain ⟨rfl, rfl, hB⟩ := hcut
  obtain ⟨hc, hf⟩ := bcell hB
  have hl1 : w.heap.size < wc.heap.size := by have := hB.size; (try simp at this); omega
  have f0 : wc.frozen? ⟨w.heap.size, 0, none⟩ = some false ∨ True := Or.inr trivial
  go_wp2
  go_loopw [1, 2] (fun v1 v2 wr => ∃ (t : ByteArray) (e : Int), v1 = .string t ∧ v2 = .int .i64 e ∧ Hid (stripL t.data.toList = S) ∧ Hid (e + (t.size : Int) = exp + (mo : Int) + (RL.length : Int)) ∧ Hid (∃ c ∈ t.data.toList, ¬ c = 48) ∧ t.size ≤ RL.length ∧ wc = wr) (fun v1 _ _ => match v1 with | .string t => t.size | _ => 0)
  case atStart => exact ⟨mkB RL, _, rfl, rfl, HSL, hid (by rw [mkB_size]), HMM, by rw [mkB_size]; exact Nat.le_refl _, rfl⟩
  case round =>
    obtain ⟨t, e, rfl, rfl, HS, HE, HC, hts, rfl⟩ := hrel
    have hpos : 0 < t.size := by
      obtain ⟨c, hc', _⟩ := HC.out
      rw [Lib.size_eq]
      exact List.length_pos_of_mem hc'
    obtain ⟨c, hlast⟩ : ∃ c : UInt8, t[t.size - 1]'(by omega) = c := ⟨_, rfl⟩
    have HL := hid (show t.data.toList = (t.extract 0 (t.size - 1)).data.toList ++ [c] by rw [← hlast]; exact last_split hpos)
    have hix : (t[t.size - 1]'(by omega) : UInt8).toNat = c.toNat := by rw [hlast]
    have hi1 : (t.size : Int) - 1 = ((t.size - 1 : Nat) : Int) := by omega
    have hlt : t.size - 1 < t.size := by omega
    have heb : -22000 ≤ e ∧ e ≤ 24000 := by have := HE.out; omega
    clear hlast
    by_cases h48 : c.toNat = 48
    · have HN : Hid (c = 48) := hid (toNat_eq_48.1 h48)
      have hsz : (t.extract 0 (t.size - 1)).size = t.size - 1 := by rw [ByteArray.size_extract]; omega
      have HS2 := hid (show stripL (t.extract 0 (t.size - 1)).data.toList = S by rw [← HS.out, HL.out, HN.out, stripL_zero])
      have HC2 := hid (show ∃ c ∈ (t.extract 0 (t.size - 1)).data.toList, ¬ c = 48 by
        obtain ⟨x, hx, hx48⟩ := HC.out
        rw [HL.out] at hx
        rcases List.mem_append.1 hx with h | h
        · exact ⟨x, h, hx48⟩
        · exact absurd ((List.mem_singleton.1 h).trans HN.out) hx48)
      have hw : IntKind.i64.wrap (e + 1) = e + 1 := IntWalk.i64_in _ (by omega)
      go_wp2
      go_roundw
      case rel => exact ⟨_, e + 1, rfl, rfl, HS2, hid (by have := HE.out; rw [hsz]; omega), HC2, by rw [hsz]; omega, by first | rfl | trivial⟩
      case measure => show (t.extract 0 (t.size - 1)).size < t.size; omega
    · have g48 : ((c.toNat : Int) == 48) = false := by rw [beq_eq_false_iff_ne]; omega
      have HTS2 := hid (show t.data.toList = S by
        rw [← HS.out, HL.out, stripL_other _ (fun h' => h48 (toNat_eq_48.2 h'))])
      have HTB := hid (show t = mkB S by rw [← HTS2.out, mkB_of])
      have hSl : S.length = t.size := by rw [← HTS2.out, Lib.size_eq]
      have hE2 : e + (S.length : Int) = exp + (mo : Int) + (RL.length : Int) := by rw [hSl]; exact HE.out
      have hw1 : IntKind.i64.wrap (e + (t.size : Int)) = e + (t.size : Int) := IntWalk.i64_in _ (by omega)
      have hw2 : IntKind.i64.wrap (e + (t.size : Int) - 1) = e + (t.size : Int) - 1 := IntWalk.i64_in _ (by omega)
      clear h48
      by_cases h99 : 99 < e + (S.length : Int) - 1
      · have HF := hid (K1.out e (by omega) (by omega))
        rw [hSl] at h99
        clear hE2 hSl
        go_wp2
        refine bodyPost_ret (v := .tuple #[.agg #[.bool false, .string ⟨#[]⟩, .int .i64 0], .int .i64 1]) (by simp [results, Tryd.results83, go_sem, hc, hl1]) rfl ⟨by rw [HF.out]; rfl, ?_⟩
        have hBB : Below w.heap.size w wc := (ext_alloc _ _).trans (hB.mono (by omega))
        repeat' (first | (with_reducible exact hBB) | (with_reducible refine Below.setCell ?_ ?_ _) | (simp; done) | (simp; omega) | omega)
      · by_cases h98 : e + (S.length : Int) - 1 < -99
        · have HF := hid (K2.out e (by omega) (by omega))
          rw [hSl] at h99 h98
          clear hE2 hSl
          go_wp2
          refine bodyPost_ret (v := .tuple #[.agg #[.bool false, .string ⟨#[]⟩, .int .i64 0], .int .i64 0]) (by simp [results, Tryd.results83, go_sem, hc, hl1]) rfl ⟨by rw [HF.out]; rfl, ?_⟩
          have hBB : Below w.heap.size w wc := (ext_alloc _ _).trans (hB.mono (by omega))
          repeat' (first | (with_reducible exact hBB) | (with_reducible refine Below.setCell ?_ ?_ _) | (simp; done) | (simp; omega) | omega)
        · have HF := hid (K3.out e (by omega) (by omega) (by omega))
          rw [hSl] at h99 h98
          clear hE2 hSl
          go_wp2
          refine bodyPost_ret (v := .tuple #[.agg #[.bool neg, .string t, .int .i64 e], .int .i64 0]) (by simp [results, Tryd.results83, go_sem, hc, hl1]) rfl ⟨by rw [HF.out, HTB.out]; rfl, ?_⟩
          have hBB : Below w.heap.size w wc := (ext_alloc _ _).trans (hB.mono (by omega))
          repeat' (first | (with_reducible exact hBB) | (with_reducible refine Below.setCell ?_ ?_ _) | (simp; done) | (simp; omega) | omega)
end Go.Proofs.YtommldonooicjaaDoor
