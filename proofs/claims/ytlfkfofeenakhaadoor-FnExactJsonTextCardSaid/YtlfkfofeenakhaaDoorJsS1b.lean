/-
  What is proved here: the reference's JSON reader: a sign that must come, digits, numbers. No condition but that the reader lies in memory.
-/
import Derived.Test.YtlfkfofeenakhaaDoorJsS1
import Derived.Deep.Cut
import Derived.Deep.CutRange
namespace Go.Proofs.YtlfkfofeenakhaaDoor
open Go.RowKit
set_option linter.unusedVariables false
set_option linter.unusedSimpArgs false

set_option maxHeartbeats 4000000 in
theorem specJWant {g : Nat} {s : ByteArray} {p cd bd d b : Nat} {nv : Value} (c : Nat) (w : World) (h : JS w g s p cd bd d b nv) (hp : p ≤ 10000) :
    Calls Tryd.prog 65 #[.pointer (some ⟨g, 0, none⟩), .int .i64 (c : Int)] w fun e w' => e = .returned (.tuple #[]) ∧ JS w' g s (if gB s.data.toList p = c then p + 1 else p) (if gB s.data.toList p = c then cd else if cd = 0 then 2 else cd) (if gB s.data.toList p = c then bd else if cd = 0 then p else bd) d b nv ∧ Kp g none w w' := by
  have CP := hid (specJPeek w h)
  have CF := hid (fun w (h : JS w g s p cd bd d b nv) => specJFail 2 p w h)
  obtain ⟨G, hG⟩ : ∃ G, gB s.data.toList p = G := ⟨_, rfl⟩
  rw [hG] at CP ⊢
  have HH := hid h
  clear hG h
  by_cases hc : G = c
  · subst hc
    obtain ⟨q1, hq1⟩ : ∃ x, p + 1 = x := ⟨_, rfl⟩
    have hw' : (p : Int) + 1 = (q1 : Int) := by omega
    have hw : IntKind.i64.wrap (q1 : Int) = (q1 : Int) := IntWalk.i64_in _ (by omega)
    rw [if_pos rfl, if_pos rfl, if_pos rfl, hq1]
    clear hq1
    go_enter Tryd.func65, Tryd.ntmps65
    go_wp2_with fail
    refine CP.out.mono ?_
    rintro e w1 ⟨rfl, hq⟩
    have HJ := hid (HH.out.qt hq)
    have HQ := hid hq
    obtain ⟨c0, c1, c2, c3, c4, c5, c6, y1, y2, y3, y4, y5, y6, hl⟩ := HJ.out.cells
    clear c2 c3 c4 c5 c6 hq
    go_wp2
    first | refine bodyPost_ret (results_none rfl _ _ _) rfl ?_ | (simp only [Exit.inBlock, Exit.then]; refine bodyPost_ret (results_none rfl _ _ _) rfl ?_) | go_end0
    exact ⟨rfl, HJ.out.setP q1, HQ.out.kp.set 1 _⟩
  · have h1 : ((G : Int) == (c : Int)) = false := by rw [beq_eq_false_iff_ne]; omega
    have h2 : ¬ (G : Int) = (c : Int) := by omega
    have h3 : ¬ G = c := hc
    rw [if_neg hc, if_neg hc, if_neg hc]
    obtain ⟨R1, hR1⟩ : ∃ x, (if cd = 0 then 2 else cd) = x := ⟨_, rfl⟩
    obtain ⟨R2, hR2⟩ : ∃ x, (if cd = 0 then p else bd) = x := ⟨_, rfl⟩
    rw [hR1, hR2] at CF
    rw [hR1, hR2]
    clear hR1 hR2 hc
    go_enter Tryd.func65, Tryd.ntmps65
    go_wp2_with fail
    refine CP.out.mono ?_
    rintro e w1 ⟨rfl, hq⟩
    have HJ := hid (HH.out.qt hq)
    have HQ := hid hq
    obtain ⟨c0, c1, c2, c3, c4, c5, c6, y1, y2, y3, y4, y5, y6, hl⟩ := HJ.out.cells
    clear c2 c3 c4 c5 c6 hq
    go_wp2_with fail
    refine (CF.out _ HJ.out).mono ?_
    rintro e w2 ⟨rfl, hj, hk⟩
    have HK := hid (HQ.out.kp.trans hk (RowOn.refl _ _))
    clear hk c0 c1
    go_wp2
    go_end0
    exact ⟨rfl, hj, HK.out⟩
set_option maxHeartbeats 8000000 in
set_option maxRecDepth 100000 in
theorem specJDigits {g : Nat} {s : ByteArray} {p d b : Nat} {nv : Value} (w : World) (h : JS w g s p 0 0 d b nv) (hp : p ≤ 10000) (hs : s.size ≤ 5000) :
    Calls Tryd.prog 105 #[.pointer (some ⟨g, 0, none⟩)] w fun e w' => e = .returned (.tuple #[]) ∧ JS w' g s (dgE s.data.toList p) (if dgE s.data.toList p = p then 2 else 0) (if dgE s.data.toList p = p then p else 0) d b nv ∧ Kp g none w w' := by
  obtain ⟨L, hL⟩ : ∃ L, s.data.toList = L := ⟨_, rfl⟩
  have hsl : s.size = L.length := by rw [← hL, Lib.size_eq]
  have CP := hid (fun (q cd bd : Nat) (w : World) (h : JS w g s q cd bd d b nv) => specJPeek w h)
  have CF := hid (fun w (h : JS w g s p 0 0 d b nv) => specJFail 2 p w h)
  rw [if_pos rfl, if_pos rfl] at CF
  rw [hL] at CP ⊢
  obtain ⟨CD, hCD⟩ : ∃ x, (if dgE L p = p then 2 else 0 : Nat) = x := ⟨_, rfl⟩
  obtain ⟨BD, hBD⟩ : ∃ x, (if dgE L p = p then p else 0 : Nat) = x := ⟨_, rfl⟩
  obtain ⟨R, hR⟩ : ∃ R, dgE L p = R := ⟨_, rfl⟩
  have HR := hid hR
  have HCD := hid hCD
  have HBD := hid hBD
  rw [hCD, hBD, hR]
  have HH := hid h
  have HSL := hid hsl
  clear hL hsl hR h hCD hBD
  go_enter Tryd.func105, Tryd.ntmps105
  go_wp2_with fail
  refine (CP.out p 0 0 _ HH.out).mono ?_
  rintro e w1 ⟨rfl, hq⟩
  have HJ1 := hid (HH.out.qt hq)
  have HK1 := hid (hq.kp (g := g) (r := none))
  clear hq
  have hle := gB_le L p
  have CD1 := hid (fun w => specJDigit (gB L p) w)
  obtain ⟨G, hG⟩ : ∃ G, gB L p = G := ⟨_, rfl⟩
  rw [hG] at hle CD1 ⊢
  have HG := hid hG
  have hwb : IntKind.u8.wrap (G : Int) = (G : Int) := by rw [IntKind.wrap_u8]; omega
  clear hG
  go_wp2_with fail
  refine (CD1.out _).mono ?_
  rintro e w2 ⟨rfl, rfl⟩
  go_upto_if 6 with fail
  go_cut [] from 2 (fun wx => JS wx g s p CD BD d b nv ∧ Kp g none w wx)
  case first =>
    cases hb : dgB G with
    | true =>
      have hne : ¬ dgE L p = p := fun e => by rw [dgE_no, HG.out, hb] at e; cases e
      have e1 : CD = 0 := by rw [← HCD.out, if_neg hne]
      have e2 : BD = 0 := by rw [← HBD.out, if_neg hne]
      have HJ2 := hid (show JS w1 g s p CD BD d b nv by rw [e1, e2]; exact HJ1.out)
      clear hb hne e1 e2
      go_wp2
      go_meet
      case rel => exact ⟨HJ2.out, HK1.out⟩
    | false =>
      have hne : dgE L p = p := by rw [dgE_no, HG.out, hb]
      have e1 : CD = 2 := by rw [← HCD.out, if_pos hne]
      have e2 : BD = p := by rw [← HBD.out, if_pos hne]
      have HE := hid (And.intro e1 e2)
      obtain ⟨c0, c1, c2, c3, c4, c5, c6, y1, y2, y3, y4, y5, y6, hl⟩ := HJ1.out.cells
      clear c2 c3 c4 c5 c6 hb hne e1 e2
      go_wp2_with fail
      refine (CF.out _ HJ1.out).mono ?_
      rintro e w3 ⟨rfl, hj, hk⟩
      have HJ3 := hid (show JS w3 g s p CD BD d b nv by rw [HE.out.1, HE.out.2]; exact hj)
      have HK3 := hid (HK1.out.trans hk (RowOn.refl _ _))
      clear hj hk c0 c1
      go_wp2
      go_meet
      case rel => exact ⟨HJ3.out, HK3.out⟩
  case rest =>
  obtain ⟨hj, hk⟩ := hcut
  have HJC := hid hj
  have HKC := hid hk
  clear hj hk hwb hle
  go_wp2
  go_loopw [] (fun wr => ∃ q : Nat, (q ≤ s.size ∨ q = p) ∧ q ≤ 10000 ∧ JS wr g s q CD BD d b nv ∧ Kp g none w wr ∧ Hid (dgE L q = R)) (fun wr => s.size + 1 - atJ wr g)
  case atStart => exact ⟨p, Or.inr rfl, hp, HJC.out, HKC.out, HR⟩
  case round =>
    obtain ⟨q, hq, hq2, hj, hk, HQ⟩ := hrel
    have HJ := hid hj
    have HK := hid hk
    clear hj hk
    have hle := gB_le L q
    have CPQ := hid (CP.out q CD BD _ HJ.out)
    have CDQ := hid (fun w => specJDigit (gB L q) w)
    obtain ⟨G2, hG2⟩ : ∃ G, gB L q = G := ⟨_, rfl⟩
    rw [hG2] at hle CPQ CDQ
    have hwb : IntKind.u8.wrap (G2 : Int) = (G2 : Int) := by rw [IntKind.wrap_u8]; omega
    cases hb : dgB G2 with
    | true =>
      have hlt : q < L.length := gB_lt (fun e => by rw [hG2] at e; rw [e] at hb; revert hb; decide)
      have HST := hid (show dgE L (q + 1) = R by rw [← HQ.out]; exact (runE_step hlt (by rw [hG2]; exact hb)).symm)
      rw [hb] at CDQ
      obtain ⟨q1, hq1⟩ : ∃ x, q + 1 = x := ⟨_, rfl⟩
      have hw' : (q : Int) + 1 = (q1 : Int) := by omega
      have hw : IntKind.i64.wrap (q1 : Int) = (q1 : Int) := IntWalk.i64_in _ (by omega)
      rw [hq1] at HST
      have HQ1 := hid hq1
      have HLT := hid hlt
      clear hG2 hb hq1 hlt
      go_wp2_with fail
      refine CPQ.out.mono ?_
      rintro e w3 ⟨rfl, hqt⟩
      have HJ3 := hid (HJ.out.qt hqt)
      have HK3 := hid (HK.out.trans hqt.kp (RowOn.refl _ _))
      clear hqt
      go_wp2_with fail
      refine (CDQ.out _).mono ?_
      rintro e w4 ⟨rfl, rfl⟩
      obtain ⟨c0, c1, c2, c3, c4, c5, c6, y1, y2, y3, y4, y5, y6, hl⟩ := HJ3.out.cells
      clear c2 c3 c4 c5 c6
      have HJ5 := hid (HJ3.out.setP q1)
      have HK5 := hid (HK3.out.set 1 (.int .i64 (q1 : Int)))
      go_wp2
      go_roundw
      case rel => exact ⟨q1, Or.inl (by have := HQ1.out; have := HLT.out; have := HSL.out; omega), by have := HQ1.out; have := HLT.out; have := HSL.out; omega, HJ5.out, HK5.out, HST⟩
      case measure =>
        have e1 := HJ5.out.atJ
        have e2 := HJ.out.atJ
        have := HQ1.out
        have := HLT.out
        have := HSL.out
        rw [e1, e2]
        omega
    | false =>
      have HST := hid (show q = R by rw [← HQ.out]; exact (runE_stop (by rw [hG2]; exact hb)).symm)
      rw [hb] at CDQ
      clear hG2 hb
      go_wp2_with fail
      refine CPQ.out.mono ?_
      rintro e w3 ⟨rfl, hqt⟩
      have HJ3 := hid (HJ.out.qt hqt)
      have HK3 := hid (HK.out.trans hqt.kp (RowOn.refl _ _))
      clear hqt
      go_wp2_with fail
      refine (CDQ.out _).mono ?_
      rintro e w4 ⟨rfl, rfl⟩
      go_wp2
      go_end0
      rw [← HST.out]
      exact ⟨rfl, HJ3.out, HK3.out⟩
set_option maxHeartbeats 16000000 in
set_option maxRecDepth 100000 in
theorem specJNumber {g : Nat} {s : ByteArray} {p d b : Nat} {nv : Value} (w : World) (h : JS w g s p 0 0 d b nv) (hp : p ≤ s.size) (hs : s.size ≤ 5000) :
    Calls Tryd.prog 69 #[.pointer (some ⟨g, 0, none⟩)] w fun e w' => e = .returned (.tuple #[]) ∧ JS w' g s (numJ s.data.toList p).2 (if (numJ s.data.toList p).1 = true then 0 else 2) (if (numJ s.data.toList p).1 = true then 0 else (numJ s.data.toList p).2) d b nv ∧ Kp g none w w' := by
  obtain ⟨L, hL⟩ : ∃ L, s.data.toList = L := ⟨_, rfl⟩
  have hsl : s.size = L.length := by rw [← hL, Lib.size_eq]
  have CP := hid (fun (q cd bd : Nat) (w : World) (h : JS w g s q cd bd d b nv) => specJPeek w h)
  have CG := hid (fun (q : Nat) (w : World) (h : JS w g s q 0 0 d b nv) (hq : q ≤ 10000) => specJDigits w h hq hs)
  rw [hL] at CP CG ⊢
  obtain ⟨R, hR⟩ : ∃ R, numJ L p = R := ⟨_, rfl⟩
  have HR := hid hR
  rw [hR]
  obtain ⟨RC, hRC⟩ : ∃ x, (if R.1 = true then 0 else 2 : Nat) = x := ⟨_, rfl⟩
  obtain ⟨RB, hRB⟩ : ∃ x, (if R.1 = true then 0 else R.2 : Nat) = x := ⟨_, rfl⟩
  obtain ⟨RP, hRP⟩ : ∃ x, R.2 = x := ⟨_, rfl⟩
  rw [hRC, hRB]
  rw [hRP]
  have HRR := hid (show ∀ ok q, R = (ok, q) → RP = q ∧ RC = (if ok = true then 0 else 2) ∧ RB = (if ok = true then 0 else q) by rintro ok q rfl; exact ⟨hRP.symm, hRC.symm, hRB.symm⟩)
  clear hRC hRB hRP
  have HH := hid h
  have HSL := hid hsl
  have HLE := hid (fun q => gB_le L q)
  clear hL hsl hR h
  go_enter Tryd.func69, Tryd.ntmps69
  go_wp2_with fail
  refine (CP.out p 0 0 _ HH.out).mono ?_
  rintro e w1 ⟨rfl, hq⟩
  have HJ1 := hid (HH.out.qt hq)
  have HK1 := hid (hq.kp (g := g) (r := none))
  clear hq
  obtain ⟨p1, hp1⟩ : ∃ x, sgP L p = x := ⟨_, rfl⟩
  have HP1 := hid hp1
  obtain ⟨G, hG⟩ : ∃ G, gB L p = G := ⟨_, rfl⟩
  rw [hG]
  have HG := hid hG
  clear hG hp1
  go_upto_if 4 with fail
  go_cut [] from 2 (fun wx => JS wx g s p1 0 0 d b nv ∧ p1 ≤ p + 1 ∧ Kp g none w wx)
  case first =>
    obtain ⟨c0, c1, c2, c3, c4, c5, c6, y1, y2, y3, y4, y5, y6, hl⟩ := HJ1.out.cells
    clear c2 c3 c4 c5 c6
    by_cases h45 : G = 45
    · have e1 : ((G : Int) == 45) = true := by rw [h45]; rfl
      have e3 : (G : Int) = 45 := by omega
      have e2 : p1 = p + 1 := by rw [← HP1.out]; unfold sgP; rw [HG.out, if_pos h45]
      have hw' : (p : Int) + 1 = (p1 : Int) := by omega
      have hw : IntKind.i64.wrap (p1 : Int) = (p1 : Int) := IntWalk.i64_in _ (by omega)
      have HE2 := hid e2
      have HJ2 := hid (HJ1.out.setP p1)
      clear e2 h45
      go_wp2
      go_meet
      case rel => exact ⟨HJ2.out, by have := HE2.out; omega, HK1.out.set 1 _⟩
    · have e1 : ((G : Int) == 45) = false := by rw [beq_eq_false_iff_ne]; omega
      have e3 : ¬ (G : Int) = 45 := by omega
      have e2 : p1 = p := by rw [← HP1.out]; unfold sgP; rw [HG.out, if_neg h45]
      have HE2 := hid e2
      have HJ2 := hid (show JS w1 g s p1 0 0 d b nv by rw [e2]; exact HJ1.out)
      clear e2 h45
      go_wp2
      go_meet
      case rel => exact ⟨HJ2.out, by have := HE2.out; omega, HK1.out⟩
  case rest =>
  obtain ⟨hj, hpp, hk⟩ := hcut
  have HJ2 := hid hj
  have HK2 := hid hk
  clear hj hk
  have hA1 := gB_le L p1
  obtain ⟨A, hA⟩ : ∃ A, intP L p1 = A := ⟨_, rfl⟩
  have HA := hid hA
  have CPP := hid (CP.out p1 0 0 wc HJ2.out)
  obtain ⟨G2, hG2⟩ : ∃ G, gB L p1 = G := ⟨_, rfl⟩
  rw [hG2] at CPP
  have HG2 := hid hG2
  clear hG2 hA hA1
  go_wp2_with fail
  refine CPP.out.mono ?_
  rintro e w3 ⟨rfl, hq⟩
  have HJ3 := hid (HJ2.out.qt hq)
  have HK3 := hid (HK2.out.trans hq.kp (RowOn.refl _ _))
  clear hq
  go_upto_if 14 with fail
  go_cut [] from 2 (fun wx => JS wx g s A.2 (if A.1 = true then 0 else 2) (if A.1 = true then 0 else A.2) d b nv ∧ A.2 ≤ 5002 ∧ Kp g none w wx)
  case first =>
    by_cases h48 : G2 = 48
    · obtain ⟨c0, c1, c2, c3, c4, c5, c6, y1, y2, y3, y4, y5, y6, hl⟩ := HJ3.out.cells
      clear c2 c3 c4 c5 c6
      have e1 : ((G2 : Int) == 48) = true := by rw [h48]; rfl
      have e3 : (G2 : Int) = 48 := by omega
      obtain ⟨q1, hq1⟩ : ∃ x, p1 + 1 = x := ⟨_, rfl⟩
      have HAE := hid (show A = (true, q1) by rw [← HA.out]; unfold intP; rw [HG2.out, if_pos h48, hq1])
      have hw' : (p1 : Int) + 1 = (q1 : Int) := by omega
      have hw : IntKind.i64.wrap (q1 : Int) = (q1 : Int) := IntWalk.i64_in _ (by omega)
      have HJ4 := hid (HJ3.out.setP q1)
      have hq5 : q1 ≤ 5002 := by omega
      clear h48 hq1
      go_wp2
      go_meet
      case rel =>
        rw [HAE.out]
        exact ⟨HJ4.out, hq5, HK3.out.set 1 _⟩
    · have e1 : ((G2 : Int) == 48) = false := by rw [beq_eq_false_iff_ne]; omega
      have e3 : ¬ (G2 : Int) = 48 := by omega
      have HAE := hid (show A = if dgE L p1 = p1 then (false, p1) else (true, dgE L p1) by rw [← HA.out]; unfold intP; rw [HG2.out, if_neg h48])
      clear h48
      go_wp2_with fail
      refine (CG.out p1 _ HJ3.out (by omega)).mono ?_
      rintro e w4 ⟨rfl, hj, hk⟩
      have HJ4 := hid hj
      have HK4 := hid (HK3.out.trans hk (RowOn.refl _ _))
      clear hj hk
      go_wp2
      go_meet
      case rel =>
        have hle : dgE L p1 ≤ 5002 := by
          rcases Nat.lt_or_ge L.length p1 with h | h
          · have : dgE L p1 = p1 := runE_far (by omega)
            omega
          · have := runE_len (f := dgB) h
            have := HSL.out
            unfold dgE
            omega
        have hj := HJ4.out
        rw [HAE.out]
        by_cases he : dgE L p1 = p1
        · rw [if_pos he, if_pos he] at hj
          rw [he] at hj
          rw [if_pos he]
          exact ⟨hj, by show p1 ≤ 5002; omega, HK4.out⟩
        · rw [if_neg he, if_neg he] at hj
          rw [if_neg he]
          exact ⟨hj, hle, HK4.out⟩
  case rest =>
  obtain ⟨hj, hA5, hk⟩ := hcut
  obtain ⟨aok, ap⟩ := A
  dsimp only at hj hA5
  have HK4 := hid hk
  clear hk
  cases aok with
  | false =>
    have HRE := hid (show R = (false, ap) by rw [← HR.out]; unfold numJ; rw [HP1.out, HA.out]; rfl)
    have HJ4 := hid (show JS wc g s ap 2 ap d b nv from hj)
    obtain ⟨c0, c1, c2, c3, c4, c5, c6, y1, y2, y3, y4, y5, y6, hl⟩ := HJ4.out.cells
    clear hj c0 c1 c3 c4 c5 c6
    obtain ⟨r1, r2, r3⟩ := HRR.out _ _ HRE.out
    have HJE := hid (show JS wc g s RP RC RB d b nv by rw [r1, r2, r3]; exact HJ4.out)
    clear r1 r2 r3
    go_wp2
    go_end0
    exact ⟨rfl, HJE.out, HK4.out⟩
  | true =>
  have HR2 := hid (show R = if (frP L ap).1 = false then frP L ap else exP L (frP L ap).2 by rw [← HR.out]; unfold numJ; rw [HP1.out, HA.out]; rfl)
  have HJ4 := hid (show JS wc g s ap 0 0 d b nv from hj)
  obtain ⟨c0, c1, c2, c3, c4, c5, c6, y1, y2, y3, y4, y5, y6, hl⟩ := HJ4.out.cells
  clear hj c0 c1 c3 c4 c5 c6
  obtain ⟨F, hF⟩ : ∃ F, frP L ap = F := ⟨_, rfl⟩
  rw [hF] at HR2
  have HF := hid hF
  have CPA := hid (CP.out ap 0 0 wc HJ4.out)
  obtain ⟨G3, hG3⟩ : ∃ G, gB L ap = G := ⟨_, rfl⟩
  rw [hG3] at CPA
  have HG3 := hid hG3
  clear hF hG3
  go_wp2_with fail
  refine CPA.out.mono ?_
  rintro e w5 ⟨rfl, hq⟩
  have HJ5 := hid (HJ4.out.qt hq)
  have HK5 := hid (HK4.out.trans hq.kp (RowOn.refl _ _))
  clear hq c2
  go_upto_if 33 with fail
  go_cut [] from 2 (fun wx => JS wx g s F.2 (if F.1 = true then 0 else 2) (if F.1 = true then 0 else F.2) d b nv ∧ F.2 ≤ 5003 ∧ Kp g none w wx)
  case first =>
    by_cases h46 : G3 = 46
    · obtain ⟨c0, c1, c2, c3, c4, c5, c6, y1, y2, y3, y4, y5, y6, hl⟩ := HJ5.out.cells
      clear c2 c3 c4 c5 c6
      have e1 : ((G3 : Int) == 46) = true := by rw [h46]; rfl
      have e3 : (G3 : Int) = 46 := by omega
      obtain ⟨q1, hq1⟩ : ∃ x, ap + 1 = x := ⟨_, rfl⟩
      have HFE := hid (show F = if dgE L q1 = q1 then (false, q1) else (true, dgE L q1) by rw [← HF.out]; unfold frP; rw [HG3.out, if_pos h46, hq1])
      have hw' : (ap : Int) + 1 = (q1 : Int) := by omega
      have hw : IntKind.i64.wrap (q1 : Int) = (q1 : Int) := IntWalk.i64_in _ (by omega)
      have HJ6 := hid (HJ5.out.setP q1)
      have HK6 := hid (HK5.out.set 1 (.int .i64 (q1 : Int)))
      have hq5 : q1 ≤ 5003 := by omega
      clear h46 hq1
      go_wp2_with fail
      refine (CG.out q1 _ HJ6.out (by omega)).mono ?_
      rintro e w6 ⟨rfl, hj, hk⟩
      have HJ7 := hid hj
      have HK7 := hid (HK6.out.trans hk (RowOn.refl _ _))
      clear hj hk
      go_wp2
      go_meet
      case rel =>
        have hle : dgE L q1 ≤ 5003 := by
          rcases Nat.lt_or_ge L.length q1 with h | h
          · have : dgE L q1 = q1 := runE_far (by omega)
            omega
          · have := runE_len (f := dgB) h
            have := HSL.out
            unfold dgE
            omega
        have hj := HJ7.out
        rw [HFE.out]
        by_cases he : dgE L q1 = q1
        · rw [if_pos he, if_pos he] at hj
          rw [he] at hj
          rw [if_pos he]
          exact ⟨hj, hq5, HK7.out⟩
        · rw [if_neg he, if_neg he] at hj
          rw [if_neg he]
          exact ⟨hj, hle, HK7.out⟩
    · have e1 : ((G3 : Int) == 46) = false := by rw [beq_eq_false_iff_ne]; omega
      have e3 : ¬ (G3 : Int) = 46 := by omega
      have HFE := hid (show F = (true, ap) by rw [← HF.out]; unfold frP; rw [HG3.out, if_neg h46])
      clear h46
      go_wp2
      go_meet
      case rel =>
        rw [HFE.out]
        exact ⟨HJ5.out, by show ap ≤ 5003; omega, HK5.out⟩
  case rest =>
  obtain ⟨hj, hF5, hk⟩ := hcut
  obtain ⟨fok, fp⟩ := F
  dsimp only at hj hF5 HR2
  have HK6 := hid hk
  clear hk
  cases fok with
  | false =>
    have HRE := hid (show R = (false, fp) by rw [HR2.out]; rfl)
    have HJ6 := hid (show JS wc g s fp 2 fp d b nv from hj)
    obtain ⟨c0, c1, c2, c3, c4, c5, c6, y1, y2, y3, y4, y5, y6, hl⟩ := HJ6.out.cells
    clear hj c0 c1 c3 c4 c5 c6
    obtain ⟨r1, r2, r3⟩ := HRR.out _ _ HRE.out
    have HJE := hid (show JS wc g s RP RC RB d b nv by rw [r1, r2, r3]; exact HJ6.out)
    clear r1 r2 r3
    go_wp2
    go_end0
    exact ⟨rfl, HJE.out, HK6.out⟩
  | true =>
  have HR3 := hid (show R = exP L fp by rw [HR2.out]; rfl)
  have HJ6 := hid (show JS wc g s fp 0 0 d b nv from hj)
  obtain ⟨c0, c1, c2, c3, c4, c5, c6, y1, y2, y3, y4, y5, y6, hl⟩ := HJ6.out.cells
  clear hj c0 c1 c3 c4 c5 c6 HR2
  obtain ⟨G4, hG4⟩ : ∃ G, gB L fp = G := ⟨_, rfl⟩
  have HG4 := hid hG4
  have CPE := hid (fun (wx : World) (hq : Qt wc wx) => CP.out fp 0 0 wx (HJ6.out.qt hq))
  rw [hG4] at CPE
  clear hG4
  go_upto_region 8 with fail
  go_cut [57] from 43 (fun v wx => v = .bool (decide (G4 = 101 ∨ G4 = 69)) ∧ Qt wc wx)
  case first =>
    by_cases h101 : G4 = 101
    · have e1 : ((G4 : Int) == 101) = true := by rw [h101]; rfl
      have e3 : (G4 : Int) = 101 := by omega
      have HB := hid (show decide (G4 = 101 ∨ G4 = 69) = true from decide_eq_true (Or.inl h101))
      clear h101
      go_wp2_with fail
      refine (CPE.out _ (Qt.refl _)).mono ?_
      rintro e w7 ⟨rfl, hq⟩
      have HQ7 := hid hq
      clear hq
      go_wp2
      go_meet
      case rel => exact ⟨by rw [HB.out], HQ7.out⟩
    · have e1 : ((G4 : Int) == 101) = false := by rw [beq_eq_false_iff_ne]; omega
      have e3 : ¬ (G4 : Int) = 101 := by omega
      have HB := hid (show decide (G4 = 101 ∨ G4 = 69) = decide (G4 = 69) by congr 1; rw [eq_iff_iff]; exact ⟨fun h => h.resolve_left h101, Or.inr⟩)
      have HB2 := hid (show ((G4 : Int) == 69) = decide (G4 = 69) by rw [Bool.eq_iff_iff, beq_iff_eq, decide_eq_true_eq]; omega)
      clear h101
      go_wp2_with fail
      refine (CPE.out _ (Qt.refl _)).mono ?_
      rintro e w7 ⟨rfl, hq⟩
      have HQ7 := hid hq
      clear hq
      go_wp2_with fail
      refine (CPE.out _ HQ7.out).mono ?_
      rintro e w8 ⟨rfl, hq⟩
      have HQ8 := hid (HQ7.out.trans hq)
      clear hq
      go_wp2
      go_meet
      case rel => exact ⟨by rw [HB.out, ← HB2.out], HQ8.out⟩
  case rest =>
  obtain ⟨rfl, hq⟩ := hcut
  have HJ7 := hid (HJ6.out.qt hq)
  have HK7 := hid (HK6.out.trans hq.kp (RowOn.refl _ _))
  clear hq c2 CPE
  by_cases hE : G4 = 101 ∨ G4 = 69
  rotate_left
  · have HRE := hid (show R = (true, fp) by rw [HR3.out]; unfold exP; rw [HG4.out, if_neg hE])
    rw [decide_eq_false hE]
    obtain ⟨r1, r2, r3⟩ := HRR.out _ _ HRE.out
    have HJE := hid (show JS wc g s RP RC RB d b nv by rw [r1, r2, r3]; exact HJ7.out)
    clear r1 r2 r3 hE
    go_wp2
    go_end0
    exact ⟨rfl, HJE.out, HK7.out⟩
  obtain ⟨q1, hq1⟩ : ∃ x, fp + 1 = x := ⟨_, rfl⟩
  obtain ⟨q2, hq2⟩ : ∃ x, sg2 L q1 = x := ⟨_, rfl⟩
  have HRE := hid (show R = if dgE L q2 = q2 then (false, q2) else (true, dgE L q2) by rw [HR3.out]; unfold exP; rw [HG4.out, if_pos hE, hq1, hq2])
  rw [decide_eq_true hE]
  have hw' : (fp : Int) + 1 = (q1 : Int) := by omega
  have hw : IntKind.i64.wrap (q1 : Int) = (q1 : Int) := IntWalk.i64_in _ (by omega)
  obtain ⟨c0, c1, c2, c3, c4, c5, c6, y1, y2, y3, y4, y5, y6, hl⟩ := HJ7.out.cells
  have HQ1 := hid hq1
  have HQ2 := hid hq2
  clear hE c2 c3 c4 c5 c6 hq1 hq2 HR3
  obtain ⟨w9, hw9⟩ : ∃ x, wc.setCell ⟨g, 1, none⟩ (.int .i64 (q1 : Int)) = x := ⟨_, rfl⟩
  have HJ9 := hid (show JS w9 g s q1 0 0 d b nv by rw [← hw9]; exact HJ7.out.setP q1)
  have HK9 := hid (show Kp g none w w9 by rw [← hw9]; exact HK7.out.set 1 _)
  go_upto_region 10 with fail
  try rw [hw9]
  clear hw9 c0 c1 y1 y2 y3 y4 y5 y6 hl
  obtain ⟨G5, hG5⟩ : ∃ G, gB L q1 = G := ⟨_, rfl⟩
  have HG5 := hid hG5
  have CPE := hid (fun (wx : World) (hq : Qt w9 wx) => CP.out q1 0 0 wx (HJ9.out.qt hq))
  rw [hG5] at CPE
  clear hG5
  go_cut [72] from 65 (fun v wx => v = .bool (decide (G5 = 43 ∨ G5 = 45)) ∧ Qt w9 wx)
  case first =>
    by_cases h101 : G5 = 43
    · have e1 : ((G5 : Int) == 43) = true := by rw [h101]; rfl
      have e3 : (G5 : Int) = 43 := by omega
      have HB := hid (show decide (G5 = 43 ∨ G5 = 45) = true from decide_eq_true (Or.inl h101))
      clear h101
      go_wp2_with fail
      refine (CPE.out _ (Qt.refl _)).mono ?_
      rintro e w7 ⟨rfl, hq⟩
      have HQ7 := hid hq
      clear hq
      go_wp2
      go_meet
      case rel => exact ⟨by rw [HB.out], HQ7.out⟩
    · have e1 : ((G5 : Int) == 43) = false := by rw [beq_eq_false_iff_ne]; omega
      have e3 : ¬ (G5 : Int) = 43 := by omega
      have HB := hid (show decide (G5 = 43 ∨ G5 = 45) = decide (G5 = 45) by congr 1; rw [eq_iff_iff]; exact ⟨fun h => h.resolve_left h101, Or.inr⟩)
      have HB2 := hid (show ((G5 : Int) == 45) = decide (G5 = 45) by rw [Bool.eq_iff_iff, beq_iff_eq, decide_eq_true_eq]; omega)
      clear h101
      go_wp2_with fail
      refine (CPE.out _ (Qt.refl _)).mono ?_
      rintro e w7 ⟨rfl, hq⟩
      have HQ7 := hid hq
      clear hq
      go_wp2_with fail
      refine (CPE.out _ HQ7.out).mono ?_
      rintro e w8 ⟨rfl, hq⟩
      have HQ8 := hid (HQ7.out.trans hq)
      clear hq
      go_wp2
      go_meet
      case rel => exact ⟨by rw [HB.out, ← HB2.out], HQ8.out⟩
  case rest =>
  obtain ⟨rfl, hq⟩ := hcut
  have HJA := hid (HJ9.out.qt hq)
  have HKA := hid (HK9.out.trans hq.kp (RowOn.refl _ _))
  clear hq CPE
  go_upto_if 72 with fail
  go_cut [] from 2 (fun wx => JS wx g s q2 0 0 d b nv ∧ q2 ≤ 5010 ∧ Kp g none w wx)
  case first =>
    by_cases hE : G5 = 43 ∨ G5 = 45
    · have HE2 := hid (show q2 = q1 + 1 by rw [← HQ2.out]; unfold sg2; rw [HG5.out, if_pos hE])
      rw [decide_eq_true hE]
      have hwb' : (q1 : Int) + 1 = (q2 : Int) := by have := HE2.out; omega
      have hwb : IntKind.i64.wrap (q2 : Int) = (q2 : Int) := IntWalk.i64_in _ (by have := HE2.out; have := HQ1.out; omega)
      obtain ⟨c0, c1, c2, c3, c4, c5, c6, y1, y2, y3, y4, y5, y6, hl⟩ := HJA.out.cells
      clear hE c2 c3 c4 c5 c6
      go_wp2
      go_meet
      case rel => exact ⟨HJA.out.setP q2, by have := HE2.out; have := HQ1.out; omega, HKA.out.set 1 _⟩
    · have HE2 := hid (show q2 = q1 by rw [← HQ2.out]; unfold sg2; rw [HG5.out, if_neg hE])
      rw [decide_eq_false hE]
      clear hE
      go_wp2
      go_meet
      case rel => exact ⟨by rw [HE2.out]; exact HJA.out, by have := HE2.out; have := HQ1.out; omega, HKA.out⟩
  case rest =>
  obtain ⟨hj, hq25, hk⟩ := hcut
  have HJB := hid hj
  have HKB := hid hk
  clear hj hk
  go_wp2_with fail
  refine (CG.out q2 _ HJB.out (by omega)).mono ?_
  rintro e wz ⟨rfl, hj, hk⟩
  have HKZ := hid (HKB.out.trans hk (RowOn.refl _ _))
  have HJZ := hid (show JS wz g s RP RC RB d b nv by
    by_cases he : dgE L q2 = q2
    · obtain ⟨r1, r2, r3⟩ := HRR.out false q2 (by rw [HRE.out, if_pos he])
      rw [if_pos he, if_pos he] at hj
      rw [he] at hj
      rw [r1, r2, r3]
      exact hj
    · obtain ⟨r1, r2, r3⟩ := HRR.out true (dgE L q2) (by rw [HRE.out, if_neg he])
      rw [if_neg he, if_neg he] at hj
      rw [r1, r2, r3]
      exact hj)
  clear hj hk
  go_wp2
  go_end0
  exact ⟨rfl, HJZ.out, HKZ.out⟩
end Go.Proofs.YtlfkfofeenakhaaDoor
