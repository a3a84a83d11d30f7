/-
  What is proved here: spec.l03Read and impl.decRead read the text of a number. The condition 'Mx' says that the library's MaxLen holds an int.
-/
import Derived.Test.YtomcoilmpkpoeaaGreatDoorVForm
namespace Go.Proofs.YtomcoilmpkpoeaaGreatDoor
open Go.RowKit
set_option linter.unusedVariables false
set_option linter.unusedSimpArgs false

theorem extL1 {s : ByteArray} {k : Nat} (h : k < s.size) : (s.extract k (k + 1)).data.toList = [s[k]] := by
  rw [extL, drop_get h, show k + 1 - k = 1 by omega]
  rfl
/-- what the first byte of a number is -/
theorem num_head {sg A P B X : List UInt8} {s : ByteArray} (hs : s.data.toList = sg ++ (A ++ (P ++ (B ++ X)))) (hn : isNum sg A P B X) :
    0 < s.size ∧ ((sg = [] ∧ atB isSg s 0 = false) ∨ (∃ h : 0 < s.size, sg = [s[0]] ∧ isSg s[0] = true)) := by
  obtain ⟨hsg, hA, hB, hP, hne⟩ := hn
  have hpos : 0 < s.size := by
    rw [Lib.size_eq, hs]
    simp only [List.length_append]
    have : 0 < (A ++ B).length := List.length_pos_iff.2 hne
    rw [List.length_append] at this
    omega
  refine ⟨hpos, ?_⟩
  have h0 := head_list s hpos
  by_cases h1 : sg = []
  · left
    refine ⟨h1, ?_⟩
    subst h1
    rw [atB_get hpos rfl]
    rw [hs, List.nil_append] at h0
    cases A with
    | cons c A' =>
      have : c = s[0] := by simpa using h0
      rw [← this]
      have := hA c (by simp)
      exact isSg_no (by omega) (by omega)
    | nil =>
      rcases hP with ⟨rfl, rfl⟩ | rfl
      · exact absurd rfl hne
      · have : (46 : UInt8) = s[0] := by simpa using h0
        rw [← this]
        decide
  · right
    refine ⟨hpos, ?_⟩
    rcases hsg with h | h | h
    · exact absurd h h1
    · rw [hs, h] at h0
      have : (43 : UInt8) = s[0] := by simpa using h0
      rw [h, ← this]
      exact ⟨rfl, by decide⟩
    · rw [hs, h] at h0
      have : (45 : UInt8) = s[0] := by simpa using h0
      rw [h, ← this]
      exact ⟨rfl, by decide⟩
set_option maxHeartbeats 8000000 in
set_option maxRecDepth 100000 in
theorem specRead {sg A P B X : List UInt8} {x : Int} (s : ByteArray) (w : World) (hs : s.data.toList = sg ++ (A ++ (P ++ (B ++ X)))) (hn : isNum sg A P B X) (hX : isExp X x) (hsz : s.size ≤ 1000) :
    Calls Tryz.prog 65 #[.string s] w fun e w' => e = .returned (formV (formD (decide (sg = [45])) (A ++ B) (x - (B.length : Int)))) ∧ Below w.heap.size w w' := by
  obtain ⟨hpos, hhd⟩ := num_head hs hn
  obtain ⟨hsg, hA, hB, _, _⟩ := id hn
  have hdg : digits (A ++ B) := digits_append hA hB
  have hsgl : sg.length ≤ s.size := by rw [Lib.size_eq, hs, List.length_append]; omega
  have hst : s.data.toList.drop sg.length = A ++ (P ++ (B ++ X)) := by rw [hs, List.drop_left]
  have hrd := rdL_num hn hX
  rw [← hst] at hrd
  have hlen : (A ++ B).length ≤ 1000 ∧ B.length ≤ 1000 := by
    have : s.data.toList.length = s.size := (Lib.size_eq s).symm
    rw [hs] at this
    simp only [List.length_append] at this ⊢
    omega
  have HRD := hid hrd
  have HHD := hid hhd
  have HX := hid hX
  have HDG := hid hdg
  obtain ⟨L, hL⟩ : ∃ l, A ++ B = l := ⟨_, rfl⟩
  obtain ⟨bl, hbl⟩ : ∃ n, B.length = n := ⟨_, rfl⟩
  rw [hL, hbl] at HRD hlen ⊢
  rw [hL] at HDG
  obtain ⟨sl, hslE⟩ : ∃ n, sg.length = n := ⟨_, rfl⟩
  rw [hslE] at HRD hsgl
  have HSLE := hid hslE
  have CF := hid (fun (D : ByteArray) (e : Int) (w : World) (hd : D.data.toList = L) (he : -20000 ≤ e ∧ e ≤ 20000) => show Calls Tryz.prog 86 #[.bool (decide (sg = [45])), .string D, .int .i64 e, .bool false] w fun e' w' => e' = .returned (.tuple #[.agg #[.bool (formD (decide (sg = [45])) L e).1.neg, .string (formD (decide (sg = [45])) L e).1.dig, .int .i64 (formD (decide (sg = [45])) L e).1.exp], .int .i64 (formD (decide (sg = [45])) L e).2]) ∧ Below w.heap.size w w' by
    have h := specForm (decide (sg = [45])) D e w (by rw [hd]; exact HDG.out) (by rw [Lib.size_eq, hd]; omega) he
    rw [hd] at h
    exact h)
  obtain ⟨ng, hng⟩ : ∃ b, decide (sg = [45]) = b := ⟨_, rfl⟩
  rw [hng] at CF ⊢
  have HNG := hid hng
  obtain ⟨R, hR⟩ : ∃ r, formD ng L (x - (bl : Int)) = r := ⟨_, rfl⟩
  rw [hR]
  have HR := hid hR
  clear hR hhd hX hrd hst hs hn hsg hA hB hdg hL hbl hslE hng
  have hi0 : (0 : Int) < (s.size : Int) := by omega
  go_enter Tryz.func65, Tryz.ntmps65
  go_upto_region 6 with fail
  go_cut [18] from 11 (fun v wr => v = .bool (atB isSg s 0) ∧ w.alloc (.cells #[.bool false, .string ⟨#[]⟩, .int .i64 0] 36) = wr)
  case first =>
    obtain ⟨c, hc⟩ : ∃ c : UInt8, s[0] = c := ⟨_, rfl⟩
    have HA := hid (atB_get (p := isSg) hpos hc)
    have hix : (s[0] : UInt8).toNat = c.toNat := by rw [hc]
    clear hc
    by_cases h1 : c.toNat = 43
    · have HB := hid (isSg_iff.2 (Or.inl h1))
      have g1 : ((c.toNat : Int) == 43) = true := by rw [beq_iff_eq]; omega
      clear h1
      go_wp2
      go_meet
      case rel => exact ⟨by rw [HA.out, HB.out], rfl⟩
    · by_cases h2 : c.toNat = 45
      · have HB := hid (isSg_iff.2 (Or.inr h2))
        have g1 : ((c.toNat : Int) == 43) = false := by rw [beq_eq_false_iff_ne]; omega
        have g2 : ((c.toNat : Int) == 45) = true := by rw [beq_iff_eq]; omega
        clear h1 h2
        go_wp2
        go_meet
        case rel => exact ⟨by rw [HA.out, HB.out], rfl⟩
      · have HB := hid (isSg_no h1 h2)
        have g1 : ((c.toNat : Int) == 43) = false := by rw [beq_eq_false_iff_ne]; omega
        have g2 : ((c.toNat : Int) == 45) = false := by rw [beq_eq_false_iff_ne]; omega
        clear h1 h2
        go_wp2
        go_meet
        case rel => exact ⟨by rw [HA.out, HB.out], rfl⟩
  case rest =>
  obtain ⟨rfl, hwc⟩ := hcut
  obtain ⟨b, hb⟩ : ∃ b, atB isSg s 0 = b := ⟨_, rfl⟩
  have HB := hid hb
  rw [hb]
  clear hb
  go_upto_if 18 with fail
  go_cut [4, 8] from 11 (fun v4 v8 wr => v4 = .bool ng ∧ v8 = .int .i64 (sl : Int) ∧ wc = wr)
  case first =>
    cases b
    · have HE := hid (show sg = [] by
        rcases HHD.out with h | ⟨h, h1, h2⟩
        · exact h.1
        · have := HB.out; rw [atB_get h rfl, h2] at this; cases this)
      have HE1 := hid (show ng = false ∧ sl = 0 by rw [← HNG.out, ← HSLE.out, HE.out]; exact ⟨rfl, rfl⟩)
      go_wp2
      go_meet
      case rel => exact ⟨by rw [HE1.out.1], by rw [HE1.out.2]; rfl, by first | rfl | trivial⟩
    · obtain ⟨c, hc⟩ : ∃ c : UInt8, s[0] = c := ⟨_, rfl⟩
      have HE := hid (show sg = [c] by
        rcases HHD.out with h | ⟨h, h1, h2⟩
        · have := HB.out; rw [h.2] at this; cases this
        · rw [h1, hc])
      have hix : (s[0] : UInt8).toNat = c.toNat := by rw [hc]
      have HE2 := hid (show sl = 1 by rw [← HSLE.out, HE.out]; rfl)
      clear hc
      by_cases h45 : c.toNat = 45
      · have HE1 := hid (show ng = true by rw [← HNG.out, HE.out, byte_eq h45 (by decide)]; rfl)
        have g1 : ((c.toNat : Int) == 45) = true := by rw [beq_iff_eq]; omega
        clear h45
        go_wp2
        go_meet
        case rel => exact ⟨by rw [HE1.out], by rw [HE2.out]; rfl, by first | rfl | trivial⟩
      · have HE1 := hid (show ng = false by
          rw [← HNG.out, HE.out, decide_eq_false_iff_not]
          intro h
          have h1 : c = 45 := by injection h
          exact h45 (by rw [h1]; rfl))
        have g1 : ((c.toNat : Int) == 45) = false := by rw [beq_eq_false_iff_ne]; omega
        clear h45
        go_wp2
        go_meet
        case rel => exact ⟨by rw [HE1.out], by rw [HE2.out]; rfl, by first | rfl | trivial⟩
  case rest =>
  obtain ⟨rfl, rfl, rfl⟩ := hcut
  go_wp2
  go_loopw [5, 6, 7, 8] (fun v5 v6 v7 v8 wr => ∃ (D : ByteArray) (n k : Nat) (bh : Bool), v5 = .string D ∧ v6 = .int .i64 (-(n : Int)) ∧ v7 = .bool bh ∧ v8 = .int .i64 (k : Int) ∧ k ≤ s.size ∧ D.size ≤ k ∧ n ≤ k ∧ Hid (rdL bh D.data.toList n (s.data.toList.drop k) = (L, bl, X)) ∧ wc = wr) (fun _ _ _ v8 _ => s.size - (intOf v8).toNat)
  case atStart => exact ⟨⟨#[]⟩, 0, sl, false, rfl, rfl, rfl, rfl, hsgl, Nat.zero_le _, Nat.zero_le _, HRD, rfl⟩
  case round =>
    obtain ⟨D, n, k, bh, rfl, rfl, rfl, rfl, hk, hDk, hnk, HK, rfl⟩ := hrel
    go_upto_region 9 with fail
    go_cut [37] from 22 to 53 (fun v wr => ∃ b : Bool, v = .bool b ∧ Hid (b = true → ∃ h : k < s.size, isEx s[k] = false) ∧ Hid (b = false → rdL bh D.data.toList n (s.data.toList.drop k) = (D.data.toList, n, s.data.toList.drop k)) ∧ wc = wr)
    case first =>
      by_cases hlt : k < s.size
      · obtain ⟨c, hc⟩ : ∃ c : UInt8, s[k] = c := ⟨_, rfl⟩
        have HC := hid hc
        have HD := hid (show s.data.toList.drop k = c :: s.data.toList.drop (k + 1) by rw [← hc]; exact drop_get hlt)
        have hi1 : (k : Int) < (s.size : Int) := by omega
        have hix : (s[k] : UInt8).toNat = c.toNat := by rw [hc]
        clear hc
        by_cases h1 : c.toNat = 101
        · have HB := hid (isEx_iff.2 (Or.inl h1))
          have g1 : ((c.toNat : Int) != 101) = false := by rw [bne_eq_false_iff_eq]; omega
          clear h1
          go_wp2
          go_meet
          case rel => exact ⟨false, rfl, hid (fun h => by cases h), hid (fun _ => by rw [HD.out, rdL, if_pos HB.out]), by first | rfl | trivial⟩
        · by_cases h2 : c.toNat = 69
          · have HB := hid (isEx_iff.2 (Or.inr h2))
            have g1 : ((c.toNat : Int) != 101) = true := by rw [bne_iff_ne]; omega
            have g2 : ((c.toNat : Int) != 69) = false := by rw [bne_eq_false_iff_eq]; omega
            clear h1 h2
            go_wp2
            go_meet
            case rel => exact ⟨false, rfl, hid (fun h => by cases h), hid (fun _ => by rw [HD.out, rdL, if_pos HB.out]), by first | rfl | trivial⟩
          · have HB := hid (isEx_no h1 h2)
            have g1 : ((c.toNat : Int) != 101) = true := by rw [bne_iff_ne]; omega
            have g2 : ((c.toNat : Int) != 69) = true := by rw [bne_iff_ne]; omega
            clear h1 h2
            go_wp2
            go_meet
            case rel => exact ⟨true, rfl, hid (fun _ => ⟨hlt, by rw [HC.out, HB.out]⟩), hid (fun h => by cases h), by first | rfl | trivial⟩
      · have hi1 : ¬ (k : Int) < (s.size : Int) := by omega
        have HD := hid (drop_end hlt)
        go_wp2
        go_meet
        case rel => exact ⟨false, rfl, hid (fun h => by cases h), hid (fun _ => by rw [HD.out]; cases bh <;> rfl), by first | rfl | trivial⟩
    case rest =>
    obtain ⟨b, rfl, HT, HF, rfl⟩ := hcut
    cases b
    · -- the digits have ended
      have h1 := HK.out
      rw [HF.out rfl] at h1
      have hDL : D.data.toList = L := congrArg Prod.fst h1
      have hnb : n = bl := congrArg (fun q => q.2.1) h1
      have hdX : s.data.toList.drop k = X := congrArg (fun q => q.2.2) h1
      have HDL := hid hDL
      have HDX := hid hdX
      have CFD := hid (fun (e : Int) (w : World) (he : -20000 ≤ e ∧ e ≤ 20000) => CF.out D e w HDL.out he)
      subst hnb
      clear h1 hDL hdX HT HF HK CF
      have hwl : w.heap.size < wc.heap.size := by rw [← hwc]; simp
      have hbw : Below w.heap.size w wc := by rw [← hwc]; exact ext_alloc _ _
      rcases HX.out with ⟨hX0, hx0⟩ | ⟨ec, s2, C, hX1, _, hs2, hC, _, hx1⟩
      · have hke : ¬ k < s.size := by
          intro h
          have := HDX.out
          rw [hX0, drop_get h] at this
          cases this
        have hi1 : ¬ (k : Int) < (s.size : Int) := by omega
        have hxe : x - (n : Int) = -(n : Int) := by omega
        have CG := hid (fun (w : World) => CFD.out (-(n : Int)) w (by omega))
        have HRR := hid (show R = formD ng L (-(n : Int)) by rw [← HR.out, hxe])
        clear hX0 hx0 hxe hke CFD
        go_wp2_with fail
        refine (CG.out _).mono ?_
        rintro e w2 ⟨rfl, hb2⟩
        obtain ⟨hc2, hf2⟩ := bcell hb2
        have hl2 : w.heap.size < w2.heap.size := by have := hb2.size; omega
        have tcell : ∀ j, j < 3 → wc.cell? ⟨w.heap.size, j, none⟩ = (w.alloc (.cells #[.bool false, .string ⟨#[]⟩, .int .i64 0] 36)).cell? ⟨w.heap.size, j, none⟩ := fun j _ => by rw [← hwc]
        have tfr : ∀ j, j < 3 → wc.frozen? ⟨w.heap.size, j, none⟩ = (w.alloc (.cells #[.bool false, .string ⟨#[]⟩, .int .i64 0] 36)).frozen? ⟨w.heap.size, j, none⟩ := fun j _ => by rw [← hwc]
        have t0 := (hc2 w.heap.size 0 hwl).trans (tcell 0 (by decide))
        have t1 := (hc2 w.heap.size 1 hwl).trans (tcell 1 (by decide))
        have t2 := (hc2 w.heap.size 2 hwl).trans (tcell 2 (by decide))
        have r0 := (hf2 w.heap.size 0 hwl).trans (tfr 0 (by decide))
        have r1 := (hf2 w.heap.size 1 hwl).trans (tfr 1 (by decide))
        have r2 := (hf2 w.heap.size 2 hwl).trans (tfr 2 (by decide))
        clear tcell tfr hc2 hf2
        simp at t0 t1 t2 r0 r1 r2
        go_wp2
        refine bodyPost_ret (v := formV (formD ng L (-(n : Int)))) (by simp [results, Tryz.results65, go_sem, hl2, formV, t0, t1, t2, r0, r1, r2]) rfl ⟨by rw [HRR.out], ?_⟩
        have hBB : Below w.heap.size w w2 := ext_trans hbw hb2
        repeat' (first | (with_reducible exact hBB) | (with_reducible refine Below.setCell ?_ ?_ _) | (simp; done) | (simp; omega) | omega)
      · have hke : k < s.size := by
          apply Classical.byContradiction
          intro h
          have := HDX.out
          rw [hX1, drop_end h] at this
          cases this
        have HC2 := hid (show s.data.toList.drop (k + 1) = s2 ++ C by
          have := HDX.out
          rw [hX1, drop_get hke] at this
          injection this)
        obtain ⟨nn, hnn, hnb, hxv⟩ := capN_exp (e := 0) hs2 hC hx1
        obtain ⟨mm, hmm⟩ : ∃ m, (capN 0 false (s2 ++ C)).2 = m := ⟨_, rfl⟩
        rw [hmm] at hxv
        have HCAP := hid (show capN 0 false (s.data.toList.drop (k + 1)) = (nn, mm) by rw [HC2.out, ← hnn, ← hmm])
        have HXV := hid hxv
        have hi1 : (k : Int) < (s.size : Int) := by omega
        clear hX1 hx1 hs2 hC hnn hmm hxv HX
        go_wp2
        go_loopw [8, 9, 10] (fun v8 v9 v10 wr => ∃ (i n1 : Nat) (m1 : Bool), v8 = .int .i64 (i : Int) ∧ v9 = .int .i64 (n1 : Int) ∧ v10 = .bool m1 ∧ i ≤ s.size ∧ n1 < 100010 ∧ Hid (capN n1 m1 (s.data.toList.drop i) = (nn, mm)) ∧ wc = wr) (fun v8 _ _ _ => s.size - (intOf v8).toNat)
        case atStart => exact ⟨k + 1, 0, false, by go_num, rfl, rfl, hke, by omega, HCAP, rfl⟩
        case round =>
          obtain ⟨i, n1, m1, rfl, rfl, rfl, hi, hn1, HK1, rfl⟩ := hrel
          by_cases hlt : i < s.size
          · obtain ⟨c, hc⟩ : ∃ c : UInt8, s[i] = c := ⟨_, rfl⟩
            have HD := hid (show s.data.toList.drop i = c :: s.data.toList.drop (i + 1) by rw [← hc]; exact drop_get hlt)
            have hi2 : (i : Int) < (s.size : Int) := by omega
            have hix : (s[i] : UInt8).toNat = c.toNat := by rw [hc]
            have CB := hid (fun (w : World) => specDigitB c w)
            have hi3 : i + 1 ≤ s.size := by omega
            clear hc
            by_cases h45 : c.toNat = 45
            · have hnd : isDig c = false := isDig_no (by omega)
              have HN := hid (show capN n1 true (s.data.toList.drop (i + 1)) = (nn, mm) by
                have h := HK1.out
                rw [HD.out, capN, if_neg (by rw [hnd]; simp), h45, show (m1 || decide (45 = 45)) = true by cases m1 <;> rfl] at h
                exact h)
              have g1 : ((c.toNat : Int) == 45) = true := by rw [beq_iff_eq]; omega
              rw [hnd] at CB
              clear h45 hnd
              go_wp2_with (go_at_call 111; refine (CB.out _).mono ?_; rintro e w1 ⟨rfl, rfl⟩)
              go_roundw
              case rel => exact ⟨i + 1, n1, true, by go_num, rfl, rfl, hi3, hn1, HN, by first | rfl | trivial⟩
              case measure => simp [intOf]; omega
            · have g1 : ((c.toNat : Int) == 45) = false := by rw [beq_eq_false_iff_ne]; omega
              have h45d : (m1 || decide (c.toNat = 45)) = m1 := by rw [show decide (c.toNat = 45) = false from decide_eq_false h45, Bool.or_false]
              obtain ⟨b, hb⟩ : ∃ b, isDig c = b := ⟨_, rfl⟩
              rw [hb] at CB
              cases b
              · have HN := hid (show capN n1 m1 (s.data.toList.drop (i + 1)) = (nn, mm) by
                  have h := HK1.out
                  rw [HD.out, capN, if_neg (by rw [hb]; simp), h45d] at h
                  exact h)
                clear h45 hb h45d
                go_wp2_with (go_at_call 111; refine (CB.out _).mono ?_; rintro e w1 ⟨rfl, rfl⟩)
                go_roundw
                case rel => exact ⟨i + 1, n1, m1, by go_num, rfl, rfl, hi3, hn1, HN, by first | rfl | trivial⟩
                case measure => simp [intOf]; omega
              · by_cases hcap : n1 < 10000
                · have hcd := isDig_iff.1 hb
                  have HN := hid (show capN (10 * n1 + (c.toNat - 48)) m1 (s.data.toList.drop (i + 1)) = (nn, mm) by
                    have h := HK1.out
                    rw [HD.out, capN, if_pos ⟨hb, hcap⟩, h45d] at h
                    exact h)
                  have g2 : (n1 : Int) < 10000 := by omega
                  have hw1 : IntKind.u8.wrap ((c.toNat : Int) - 48) = (c.toNat : Int) - 48 := by simp [IntKind.wrap, IntKind.bits, IntKind.signed]; omega
                  have hw2 : IntKind.i64.wrap ((c.toNat : Int) - 48) = (c.toNat : Int) - 48 := IntWalk.i64_in _ (by omega)
                  have hw3 : IntKind.i64.wrap (10 * (n1 : Int)) = 10 * (n1 : Int) := IntWalk.i64_in _ (by omega)
                  have hw4 : IntKind.i64.wrap (10 * (n1 : Int) + ((c.toNat : Int) - 48)) = 10 * (n1 : Int) + ((c.toNat : Int) - 48) := IntWalk.i64_in _ (by omega)
                  have hnE : 10 * (n1 : Int) + ((c.toNat : Int) - 48) = ((10 * n1 + (c.toNat - 48) : Nat) : Int) := by omega
                  have HNE := hid hnE
                  have hn2 : 10 * n1 + (c.toNat - 48) < 100010 := by omega
                  clear h45 hb h45d hnE
                  go_wp2_with (go_at_call 111; refine (CB.out _).mono ?_; rintro e w1 ⟨rfl, rfl⟩)
                  go_roundw
                  case rel => exact ⟨i + 1, _, m1, by go_num, by rw [HNE.out], rfl, hi3, hn2, HN, by first | rfl | trivial⟩
                  case measure => simp [intOf]; omega
                · have HN := hid (show capN n1 m1 (s.data.toList.drop (i + 1)) = (nn, mm) by
                    have h := HK1.out
                    rw [HD.out, capN, if_neg (fun h' => hcap h'.2), h45d] at h
                    exact h)
                  have g2 : ¬ (n1 : Int) < 10000 := by omega
                  clear h45 hb h45d
                  go_wp2_with (go_at_call 111; refine (CB.out _).mono ?_; rintro e w1 ⟨rfl, rfl⟩)
                  go_roundw
                  case rel => exact ⟨i + 1, n1, m1, by go_num, rfl, rfl, hi3, hn1, HN, by first | rfl | trivial⟩
                  case measure => simp [intOf]; omega
          · have hi2 : ¬ (i : Int) < (s.size : Int) := by omega
            have h := HK1.out
            rw [drop_end hlt, capN] at h
            injection h with h1 h2
            subst h1 h2
            clear HK1 HCAP
            by_cases hbig : 9999 < n1
            · have g1 : (9999 : Int) < (n1 : Int) := by omega
              cases m1
              · have HRR := hid (show R = formD ng L (-(n : Int) + 9999) by rw [← HR.out, show x - (n : Int) = -(n : Int) + 9999 by have := HXV.out; rw [if_neg (by decide)] at this; omega])
                have hw : IntKind.i64.wrap (-(n : Int) + 9999) = -(n : Int) + 9999 := IntWalk.i64_in _ (by omega)
                clear hbig
                go_wp2_with fail
                refine (CFD.out _ _ (by omega)).mono ?_
                rintro e w2 ⟨rfl, hb2⟩
                obtain ⟨hc2, hf2⟩ := bcell hb2
                have hl2 : w.heap.size < w2.heap.size := by have := hb2.size; omega
                have tcell : ∀ j, j < 3 → wc.cell? ⟨w.heap.size, j, none⟩ = (w.alloc (.cells #[.bool false, .string ⟨#[]⟩, .int .i64 0] 36)).cell? ⟨w.heap.size, j, none⟩ := fun j _ => by rw [← hwc]
                have tfr : ∀ j, j < 3 → wc.frozen? ⟨w.heap.size, j, none⟩ = (w.alloc (.cells #[.bool false, .string ⟨#[]⟩, .int .i64 0] 36)).frozen? ⟨w.heap.size, j, none⟩ := fun j _ => by rw [← hwc]
                have t0 := (hc2 w.heap.size 0 hwl).trans (tcell 0 (by decide))
                have t1 := (hc2 w.heap.size 1 hwl).trans (tcell 1 (by decide))
                have t2 := (hc2 w.heap.size 2 hwl).trans (tcell 2 (by decide))
                have r0 := (hf2 w.heap.size 0 hwl).trans (tfr 0 (by decide))
                have r1 := (hf2 w.heap.size 1 hwl).trans (tfr 1 (by decide))
                have r2 := (hf2 w.heap.size 2 hwl).trans (tfr 2 (by decide))
                clear tcell tfr hc2 hf2
                simp at t0 t1 t2 r0 r1 r2
                go_wp2
                refine bodyPost_ret (v := formV (formD ng L (-(n : Int) + 9999))) (by simp [results, Tryz.results65, go_sem, hl2, formV, t0, t1, t2, r0, r1, r2]) rfl ⟨by rw [HRR.out], ?_⟩
                have hBB : Below w.heap.size w w2 := ext_trans hbw hb2
                repeat' (first | (with_reducible exact hBB) | (with_reducible refine Below.setCell ?_ ?_ _) | (simp; done) | (simp; omega) | omega)
              · have HRR := hid (show R = formD ng L (-(n : Int) + -9999) by rw [← HR.out, show x - (n : Int) = -(n : Int) + -9999 by have := HXV.out; rw [if_pos rfl] at this; omega])
                have hw : IntKind.i64.wrap (-(n : Int) + -9999) = -(n : Int) + -9999 := IntWalk.i64_in _ (by omega)
                clear hbig
                go_wp2_with fail
                refine (CFD.out _ _ (by omega)).mono ?_
                rintro e w2 ⟨rfl, hb2⟩
                obtain ⟨hc2, hf2⟩ := bcell hb2
                have hl2 : w.heap.size < w2.heap.size := by have := hb2.size; omega
                have tcell : ∀ j, j < 3 → wc.cell? ⟨w.heap.size, j, none⟩ = (w.alloc (.cells #[.bool false, .string ⟨#[]⟩, .int .i64 0] 36)).cell? ⟨w.heap.size, j, none⟩ := fun j _ => by rw [← hwc]
                have tfr : ∀ j, j < 3 → wc.frozen? ⟨w.heap.size, j, none⟩ = (w.alloc (.cells #[.bool false, .string ⟨#[]⟩, .int .i64 0] 36)).frozen? ⟨w.heap.size, j, none⟩ := fun j _ => by rw [← hwc]
                have t0 := (hc2 w.heap.size 0 hwl).trans (tcell 0 (by decide))
                have t1 := (hc2 w.heap.size 1 hwl).trans (tcell 1 (by decide))
                have t2 := (hc2 w.heap.size 2 hwl).trans (tcell 2 (by decide))
                have r0 := (hf2 w.heap.size 0 hwl).trans (tfr 0 (by decide))
                have r1 := (hf2 w.heap.size 1 hwl).trans (tfr 1 (by decide))
                have r2 := (hf2 w.heap.size 2 hwl).trans (tfr 2 (by decide))
                clear tcell tfr hc2 hf2
                simp at t0 t1 t2 r0 r1 r2
                go_wp2
                refine bodyPost_ret (v := formV (formD ng L (-(n : Int) + -9999))) (by simp [results, Tryz.results65, go_sem, hl2, formV, t0, t1, t2, r0, r1, r2]) rfl ⟨by rw [HRR.out], ?_⟩
                have hBB : Below w.heap.size w w2 := ext_trans hbw hb2
                repeat' (first | (with_reducible exact hBB) | (with_reducible refine Below.setCell ?_ ?_ _) | (simp; done) | (simp; omega) | omega)
            · have g1 : ¬ (9999 : Int) < (n1 : Int) := by omega
              cases m1
              · have HRR := hid (show R = formD ng L (-(n : Int) + (n1 : Int)) by rw [← HR.out, show x - (n : Int) = -(n : Int) + (n1 : Int) by have := HXV.out; rw [if_neg (by decide)] at this; omega])
                have hw : IntKind.i64.wrap (-(n : Int) + (n1 : Int)) = -(n : Int) + (n1 : Int) := IntWalk.i64_in _ (by omega)
                clear hbig
                go_wp2_with fail
                refine (CFD.out _ _ (by omega)).mono ?_
                rintro e w2 ⟨rfl, hb2⟩
                obtain ⟨hc2, hf2⟩ := bcell hb2
                have hl2 : w.heap.size < w2.heap.size := by have := hb2.size; omega
                have tcell : ∀ j, j < 3 → wc.cell? ⟨w.heap.size, j, none⟩ = (w.alloc (.cells #[.bool false, .string ⟨#[]⟩, .int .i64 0] 36)).cell? ⟨w.heap.size, j, none⟩ := fun j _ => by rw [← hwc]
                have tfr : ∀ j, j < 3 → wc.frozen? ⟨w.heap.size, j, none⟩ = (w.alloc (.cells #[.bool false, .string ⟨#[]⟩, .int .i64 0] 36)).frozen? ⟨w.heap.size, j, none⟩ := fun j _ => by rw [← hwc]
                have t0 := (hc2 w.heap.size 0 hwl).trans (tcell 0 (by decide))
                have t1 := (hc2 w.heap.size 1 hwl).trans (tcell 1 (by decide))
                have t2 := (hc2 w.heap.size 2 hwl).trans (tcell 2 (by decide))
                have r0 := (hf2 w.heap.size 0 hwl).trans (tfr 0 (by decide))
                have r1 := (hf2 w.heap.size 1 hwl).trans (tfr 1 (by decide))
                have r2 := (hf2 w.heap.size 2 hwl).trans (tfr 2 (by decide))
                clear tcell tfr hc2 hf2
                simp at t0 t1 t2 r0 r1 r2
                go_wp2
                refine bodyPost_ret (v := formV (formD ng L (-(n : Int) + (n1 : Int)))) (by simp [results, Tryz.results65, go_sem, hl2, formV, t0, t1, t2, r0, r1, r2]) rfl ⟨by rw [HRR.out], ?_⟩
                have hBB : Below w.heap.size w w2 := ext_trans hbw hb2
                repeat' (first | (with_reducible exact hBB) | (with_reducible refine Below.setCell ?_ ?_ _) | (simp; done) | (simp; omega) | omega)
              · have HRR := hid (show R = formD ng L (-(n : Int) + -(n1 : Int)) by rw [← HR.out, show x - (n : Int) = -(n : Int) + -(n1 : Int) by have := HXV.out; rw [if_pos rfl] at this; omega])
                have hw : IntKind.i64.wrap (-(n : Int) + -(n1 : Int)) = -(n : Int) + -(n1 : Int) := IntWalk.i64_in _ (by omega)
                have hw0 : IntKind.i64.wrap (-(n1 : Int)) = -(n1 : Int) := IntWalk.i64_in _ (by omega)
                clear hbig
                go_wp2_with fail
                refine (CFD.out _ _ (by omega)).mono ?_
                rintro e w2 ⟨rfl, hb2⟩
                obtain ⟨hc2, hf2⟩ := bcell hb2
                have hl2 : w.heap.size < w2.heap.size := by have := hb2.size; omega
                have tcell : ∀ j, j < 3 → wc.cell? ⟨w.heap.size, j, none⟩ = (w.alloc (.cells #[.bool false, .string ⟨#[]⟩, .int .i64 0] 36)).cell? ⟨w.heap.size, j, none⟩ := fun j _ => by rw [← hwc]
                have tfr : ∀ j, j < 3 → wc.frozen? ⟨w.heap.size, j, none⟩ = (w.alloc (.cells #[.bool false, .string ⟨#[]⟩, .int .i64 0] 36)).frozen? ⟨w.heap.size, j, none⟩ := fun j _ => by rw [← hwc]
                have t0 := (hc2 w.heap.size 0 hwl).trans (tcell 0 (by decide))
                have t1 := (hc2 w.heap.size 1 hwl).trans (tcell 1 (by decide))
                have t2 := (hc2 w.heap.size 2 hwl).trans (tcell 2 (by decide))
                have r0 := (hf2 w.heap.size 0 hwl).trans (tfr 0 (by decide))
                have r1 := (hf2 w.heap.size 1 hwl).trans (tfr 1 (by decide))
                have r2 := (hf2 w.heap.size 2 hwl).trans (tfr 2 (by decide))
                clear tcell tfr hc2 hf2
                simp at t0 t1 t2 r0 r1 r2
                go_wp2
                refine bodyPost_ret (v := formV (formD ng L (-(n : Int) + -(n1 : Int)))) (by simp [results, Tryz.results65, go_sem, hl2, formV, t0, t1, t2, r0, r1, r2]) rfl ⟨by rw [HRR.out], ?_⟩
                have hBB : Below w.heap.size w w2 := ext_trans hbw hb2
                repeat' (first | (with_reducible exact hBB) | (with_reducible refine Below.setCell ?_ ?_ _) | (simp; done) | (simp; omega) | omega)
    · -- one more byte
      obtain ⟨hlt, hex⟩ := HT.out rfl
      obtain ⟨c, hc⟩ : ∃ c : UInt8, s[k] = c := ⟨_, rfl⟩
      have HD := hid (show s.data.toList.drop k = c :: s.data.toList.drop (k + 1) by rw [← hc]; exact drop_get hlt)
      have hi1 : (k : Int) < (s.size : Int) := by omega
      have hix : (s[k] : UInt8).toNat = c.toNat := by rw [hc]
      have HE1 := hid (show (s.extract k (k + 1)).data.toList = [c] by rw [extL1 hlt, hc])
      rw [hc] at hex
      have HEX := hid hex
      clear hc hex HT HF
      by_cases h46 : c.toNat = 46
      · have g1 : ((c.toNat : Int) == 46) = true := by rw [beq_iff_eq]; omega
        have HN := hid (show rdL true D.data.toList n (s.data.toList.drop (k + 1)) = (L, n - n + bl, X) by
          have h := HK.out
          rw [HD.out, rdL, HEX.out, if_neg (by decide), if_pos h46] at h
          rw [h, Nat.sub_self, Nat.zero_add])
        clear h46
        go_wp2
        go_roundw
        case rel =>
          first
            | exact ⟨D, n, k + 1, true, rfl, rfl, rfl, by go_num, by omega, by omega, by omega, hid (by rw [HN.out, Nat.sub_self, Nat.zero_add]), by first | rfl | trivial⟩
            | ((repeat apply Exists.intro); exact ⟨⟨D, n, k + 1, true, rfl, rfl, rfl, by go_num, by omega, by omega, by omega, hid (by rw [HN.out, Nat.sub_self, Nat.zero_add]), by first | rfl | trivial⟩, rfl⟩)
        case measure => simp [intOf]; omega
      · have g1 : ((c.toNat : Int) == 46) = false := by rw [beq_eq_false_iff_ne]; omega
        have hsE : (s.extract k (k + 1)).size = 1 := by rw [Lib.size_eq, HE1.out]; rfl
        have hds : ¬ 9223372036854775807 < D.size + 1 := by omega
        have hDs : (D ++ s.extract k (k + 1)).size ≤ k + 1 := by rw [ByteArray.size_append, hsE]; omega
        have HDD := hid (show (D ++ s.extract k (k + 1)).data.toList = D.data.toList ++ [c] by rw [ByteArray.data_append, Array.toList_append, HE1.out])
        have HN := hid (show rdL bh (D ++ s.extract k (k + 1)).data.toList (if bh then n + 1 else n) (s.data.toList.drop (k + 1)) = (L, bl, X) by
          have h := HK.out
          rw [HD.out, rdL, HEX.out, if_neg (by decide), if_neg h46] at h
          rw [HDD.out, h])
        clear h46
        have hk2 : k + 1 ≤ s.size := by omega
        cases bh
        · go_wp2
          go_roundw
          case rel =>
            first
              | exact ⟨_, n, k + 1, false, rfl, rfl, rfl, by go_num, by omega, hDs, by omega, HN, by first | rfl | trivial⟩
              | ((repeat apply Exists.intro); exact ⟨⟨_, n, k + 1, false, rfl, rfl, rfl, by go_num, by omega, hDs, by omega, HN, by first | rfl | trivial⟩, rfl⟩)
          case measure => simp [intOf]; omega
        · have hw1 : IntKind.i64.wrap (-(n : Int) - 1) = -(n : Int) - 1 := IntWalk.i64_in _ (by omega)
          go_wp2
          go_roundw
          case rel =>
            first
              | exact ⟨_, n + 1, k + 1, true, rfl, by first | rfl | (congr 1; omega), rfl, by go_num, by omega, hDs, by omega, HN, by first | rfl | trivial⟩
              | ((repeat apply Exists.intro); exact ⟨⟨_, n + 1, k + 1, true, rfl, by first | rfl | (congr 1; omega), rfl, by go_num, by omega, hDs, by omega, HN, by first | rfl | trivial⟩, rfl⟩)
          case measure => simp [intOf]; omega
end Go.Proofs.YtomcoilmpkpoeaaGreatDoor
