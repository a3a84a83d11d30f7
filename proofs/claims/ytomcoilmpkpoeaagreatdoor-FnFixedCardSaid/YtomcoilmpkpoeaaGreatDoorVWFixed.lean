/-
  What is proved here: the walk of FnFixed: the law returns true at every code. The conditions 'TP' and 'Mx' speak of the library's tables and of its MaxLen.
-/
import Derived.Test.YtomcoilmpkpoeaaGreatDoorVDrawDec
import Derived.Test.YtomcoilmpkpoeaaGreatDoorVFixBack
import Derived.Test.YtomcoilmpkpoeaaGreatDoorVDecAddS
import Derived.Test.YtomcoilmpkpoeaaGreatDoorVFixText
namespace Go.Proofs.YtomcoilmpkpoeaaGreatDoor
open Go.RowKit
set_option linter.unusedVariables false
set_option linter.unusedSimpArgs false

set_option maxHeartbeats 16000000 in
set_option maxRecDepth 100000 in
theorem fnFixed_walk (W : World) (hT : TP W) (hM : Mx W) {v0 : Value} {x0 : List UInt8} (h0 : Rd.rd (Old W) W [v0] x0) :
    Calls Tryz.prog 5 #[v0] W fun e W' => e = .returned (.bool true) ∧ Below W.heap.size W W' := by
  by_cases hb : 1048576 < (x0.length : Int)
  · go_enter Tryz.func5, Tryz.ntmps5
    go_wp2_with fail
    refine (lawBig _ h0).mono ?_
    rintro e w1 ⟨rfl, rfl⟩
    rw [decide_eq_true hb]
    go_wp2
    go_ret
    exact ⟨rfl, Below.refl _ _⟩
  have HB := hid (decide_eq_false hb)
  have hn : x0.length ≤ 1048576 := by omega
  have HT := hid hT
  have HM := hid hM
  clear hb hT hM
  go_enter Tryz.func5, Tryz.ntmps5
  go_wp2_with fail
  refine (lawBig _ h0).mono ?_
  rintro e w1 ⟨rfl, rfl⟩
  rw [HB.out]
  go_wp2_with fail
  refine (drawFixText _ h0 hn).mono ?_
  rintro e w1 ⟨neg, dig, exp, pl, rfl, hd1, hd2, hpl, hb1⟩
  have HRD := hid (fun w : World => (rdDec_mk (x := ⟨neg, dig, exp⟩) (by show dig.size ≤ _; omega) hd2 : Rd.rd (Old w) w (#[Value.bool neg, .string dig, .int .i64 exp] : Array Value).toList (⟨neg, dig, exp⟩ : Dec)))
  have D1 := dbox_new w1 neg dig exp
  have B1 := ext_trans hb1 (ext_alloc w1 (.cells #[.bool neg, .string dig, .int .i64 exp] 36))
  have CFX := hid (fun (w : World) (hb : Below W.heap.size W w) => implFixT pl w (HRD.out w) hpl (tp_below HT.out hb).1)
  have CFS := hid (fun (w : World) => specFix pl w (HRD.out w) hpl)
  have CDO := hid (fun (w : World) => specDecOk w (HRD.out w))
  obtain ⟨ok, hok⟩ : ∃ ok, decOk ⟨neg, dig, exp⟩ = ok := ⟨_, rfl⟩
  rw [hok] at CDO
  clear hb1
  by_cases hgood : ok = true ∧ 0 ≤ pl ∧ pl ≤ 60
  rotate_left
  · have hf : fixT ⟨neg, dig, exp⟩ pl = ⟨#[]⟩ := fixT_no (fun h => hgood ⟨by rw [← hok]; exact h.1, h.2⟩)
    rw [hf] at CFX
    obtain ⟨⟨d0, d1, d2⟩, _, hgd⟩ := D1
    clear hok hf CFS
    go_wp2_with fail
    refine (CFX.out _ B1).mono ?_
    rintro e w2 ⟨rfl, hb2⟩
    have B2 := ext_trans B1 hb2
    replace d0 := keeps_cells hb2 _ _ d0
    replace d1 := keeps_cells hb2 _ _ d1
    replace d2 := keeps_cells hb2 _ _ d2
    go_wp2_with fail
    refine (CDO.out _).mono ?_
    rintro e w3 ⟨rfl, hb3⟩
    have B3 := ext_trans B2 hb3
    clear CFX CDO B1 B2 hb2 hb3
    cases ok with
    | false =>
      clear hgood
      go_wp2
      go_ret
      exact ⟨rfl, B3⟩
    | true =>
      by_cases hp0 : pl < 0
      · clear hgood
        go_wp2
        go_ret
        exact ⟨rfl, B3⟩
      · have hp1 : (60 : Int) < pl := by
          by_cases h : pl ≤ 60
          · exact absurd ⟨rfl, by omega, h⟩ hgood
          · omega
        clear hgood
        go_wp2
        go_ret
        exact ⟨rfl, B3⟩
  obtain ⟨rfl, hp0, hp60⟩ := hgood
  obtain ⟨p, rfl⟩ : ∃ p : Nat, pl = (p : Int) := ⟨pl.toNat, by omega⟩
  have hnp0 : ¬ (p : Int) < 0 := by omega
  have hnp60 : ¬ (60 : Int) < (p : Int) := by omega
  by_cases hsmall : dig.size ≤ 12 ∧ -12 ≤ exp ∧ exp ≤ 5 ∧ p ≤ 8
  rotate_left
  · obtain ⟨s, hs⟩ : ∃ s, fixT ⟨neg, dig, exp⟩ (p : Int) = s := ⟨_, rfl⟩
    rw [hs] at CFX CFS
    obtain ⟨⟨d0, d1, d2⟩, _, hgd⟩ := D1
    clear hok hs
    go_wp2_with fail
    refine (CFX.out _ B1).mono ?_
    rintro e w2 ⟨rfl, hb2⟩
    have B2 := ext_trans B1 hb2
    replace d0 := keeps_cells hb2 _ _ d0
    replace d1 := keeps_cells hb2 _ _ d1
    replace d2 := keeps_cells hb2 _ _ d2
    go_wp2_with fail
    refine (CDO.out _).mono ?_
    rintro e w3 ⟨rfl, hb3⟩
    have B3 := ext_trans B2 hb3
    replace d0 := keeps_cells hb3 _ _ d0
    replace d1 := keeps_cells hb3 _ _ d1
    replace d2 := keeps_cells hb3 _ _ d2
    clear CFX CDO B1 B2 hb2 hb3
    by_cases k1 : (12 : Int) < (dig.size : Int)
    · clear hsmall
      go_wp2_with fail
      refine (CFS.out _).mono ?_
      rintro e w4 ⟨rfl, hb4⟩
      go_wp2
      go_ret
      exact ⟨rfl, ext_trans B3 hb4⟩
    by_cases k2 : exp < -12
    · clear hsmall
      go_wp2_with fail
      refine (CFS.out _).mono ?_
      rintro e w4 ⟨rfl, hb4⟩
      go_wp2
      go_ret
      exact ⟨rfl, ext_trans B3 hb4⟩
    by_cases k3 : 5 < exp
    · clear hsmall
      go_wp2_with fail
      refine (CFS.out _).mono ?_
      rintro e w4 ⟨rfl, hb4⟩
      go_wp2
      go_ret
      exact ⟨rfl, ext_trans B3 hb4⟩
    have k4 : (8 : Int) < (p : Int) := by
      by_cases h : p ≤ 8
      · exact absurd ⟨by omega, by omega, by omega, h⟩ hsmall
      · omega
    clear hsmall
    go_wp2_with fail
    refine (CFS.out _).mono ?_
    rintro e w4 ⟨rfl, hb4⟩
    go_wp2
    go_ret
    exact ⟨rfl, ext_trans B3 hb4⟩
  obtain ⟨hs12, he1, he2, hp8⟩ := hsmall
  have k1 : ¬ (12 : Int) < (dig.size : Int) := by omega
  have k2 : ¬ exp < -12 := by omega
  have k3 : ¬ 5 < exp := by omega
  have k4 : ¬ (8 : Int) < (p : Int) := by omega
  have g1 : decide ((p : Int) < 0) = false := decide_eq_false hnp0
  have g2 : decide ((60 : Int) < (p : Int)) = false := decide_eq_false hnp60
  have g3 : decide ((12 : Int) < (dig.size : Int)) = false := decide_eq_false k1
  have g4 : decide (exp < -12) = false := decide_eq_false k2
  have g5 : decide (5 < exp) = false := decide_eq_false k3
  have g6 : decide ((8 : Int) < (p : Int)) = false := decide_eq_false k4
  obtain ⟨sg, A, P, B, hp1, hp2, hp3, hp4⟩ := fix_parts hok (pl := p) (by omega) ⟨he1, he2⟩
  obtain ⟨⟨en, eg, ee⟩, hf1, hf2, hf3, hf4⟩ := fix_back hok hp8 ⟨he1, he2⟩ hs12
  obtain ⟨X, hx1, hx2, hx3, hx4, hx5⟩ := half_parts (pl := p) (by omega)
  have hho := half_ok (pl := p) (by omega)
  have hso := sub_ok ⟨neg, dig, exp⟩ ⟨en, eg, ee⟩
  have CRD := hid (fun (w : World) (hb : Below W.heap.size W w) => implDecRead (fixT ⟨neg, dig, exp⟩ (p : Int)) w (mx_below HM.out hb) hp1 hp2 (Or.inl ⟨rfl, rfl⟩) hp4)
  have CHD := hid (fun (w : World) => specDecRead ((⟨#[53, 101, 45]⟩ : ByteArray) ++ numB ((p : Int) + 1)) w hx1 hx2 hx3 hx4)
  rw [hp3, hf1] at CRD
  rw [hx5] at CHD
  have CNT := hid (fun (w : World) => specNumText ((p : Int) + 1) w (by omega))
  have CSU := hid (fun (w : World) => specDecSub ⟨neg, dig, exp⟩ ⟨en, eg, ee⟩ w hok hf2)
  obtain ⟨S, hS⟩ : ∃ S, subD ⟨neg, dig, exp⟩ ⟨en, eg, ee⟩ = S := ⟨_, rfl⟩
  rw [hS] at CSU hf4 hso
  obtain ⟨⟨sn, sgg, se⟩, sc⟩ := S
  have CCM := hid (fun (w : World) => specDecCmp (absD ⟨sn, sgg, se⟩) (halfD p) w (abs_ok hso) hho)
  obtain ⟨cm, hcm⟩ : ∃ c, cmpD (absD ⟨sn, sgg, se⟩) (halfD p) = c := ⟨_, rfl⟩
  rw [hcm] at CCM hf4
  have CRD2 : Hid (∀ (w : World), Below W.heap.size W w → Calls Tryz.prog 24 #[.string (fixT ⟨neg, dig, exp⟩ (p : Int))] w fun e w' => e = .returned (.tuple #[.agg #[.bool en, .string eg, .int .i64 ee], .int .i64 0]) ∧ Below w.heap.size w w') := CRD
  have CHD2 : Hid (∀ (w : World), Calls Tryz.prog 26 #[.string ((⟨#[53, 101, 45]⟩ : ByteArray) ++ numB ((p : Int) + 1))] w fun e w' => e = .returned (.tuple #[.agg #[.bool false, .string ⟨#[53]⟩, .int .i64 (-((p : Int) + 1))], .int .i64 0]) ∧ Below w.heap.size w w') := CHD
  have CSU2 : Hid (∀ (w : World), Calls Tryz.prog 25 #[.agg #[.bool neg, .string dig, .int .i64 exp], .agg #[.bool en, .string eg, .int .i64 ee]] w fun e w' => e = .returned (.tuple #[.agg #[.bool sn, .string sgg, .int .i64 se], .int .i64 sc]) ∧ Below w.heap.size w w') := CSU
  have CCM2 : Hid (∀ (w : World), Calls Tryz.prog 28 #[.agg #[.bool false, .string sgg, .int .i64 se], .agg #[.bool false, .string ⟨#[53]⟩, .int .i64 (-((p : Int) + 1))]] w fun e w' => e = .returned (.int .i64 cm) ∧ Below w.heap.size w w') := CCM
  have hNB : (numB ((p : Int) + 1)).size ≤ 21 := numB_size (by omega)
  obtain ⟨s, hs⟩ : ∃ s, fixT ⟨neg, dig, exp⟩ (p : Int) = s := ⟨_, rfl⟩
  rw [hs] at CFX CRD2
  obtain ⟨NB, hNBe⟩ : ∃ b, numB ((p : Int) + 1) = b := ⟨_, rfl⟩
  rw [hNBe] at CNT CHD2 hNB
  have HEQ := hid hf3
  have hcle : cm ≤ 0 := hf4
  have hwn : IntKind.i64.wrap (-exp) = -exp := IntWalk.i64_in _ (by omega)
  have hwp : IntKind.i64.wrap ((p : Int) + 1) = (p : Int) + 1 := IntWalk.i64_in _ (by omega)
  have hsum : ¬ 9223372036854775807 < 3 + NB.size := by omega
  obtain ⟨⟨d0, d1, d2⟩, _, hgd⟩ := D1
  clear CRD CHD CSU CCM CFS hs hNBe hS hcm hso hho hp1 hp2 hp3 hp4 hf1 hf2 hf3 hf4 hx1 hx2 hx3 hx4 hx5 hok hd1 hpl h0 hn HRD HB
  go_wp2_with fail
  refine (CFX.out _ B1).mono ?_
  rintro e w2 ⟨rfl, hb2⟩
  have B2 := ext_trans B1 hb2
  replace d0 := keeps_cells hb2 _ _ d0
  replace d1 := keeps_cells hb2 _ _ d1
  replace d2 := keeps_cells hb2 _ _ d2
  clear CFX B1 hb2
  go_wp2_with fail
  refine (CDO.out _).mono ?_
  rintro e w3 ⟨rfl, hb3⟩
  have B3 := ext_trans B2 hb3
  replace d0 := keeps_cells hb3 _ _ d0
  replace d1 := keeps_cells hb3 _ _ d1
  replace d2 := keeps_cells hb3 _ _ d2
  clear CDO B2 hb3
  go_wp2_with fail
  refine (CRD2.out _ B3).mono ?_
  rintro e w4 ⟨rfl, hb4⟩
  have B4 := ext_trans B3 hb4
  replace d0 := keeps_cells hb4 _ _ d0
  replace d1 := keeps_cells hb4 _ _ d1
  replace d2 := keeps_cells hb4 _ _ d2
  clear CRD2 B3 hb4
  have e4 := ext_alloc w4 (.cells #[.bool en, .string eg, .int .i64 ee] 36)
  obtain ⟨⟨e0, e1, e2⟩, _, hge⟩ := dbox_new w4 en eg ee
  have B5 := ext_trans B4 e4
  replace d0 := keeps_cells e4 _ _ d0
  replace d1 := keeps_cells e4 _ _ d1
  replace d2 := keeps_cells e4 _ _ d2
  clear B4 e4
  by_cases hxe : -exp ≤ (p : Int)
  · have hx1 : decide (-exp ≤ (p : Int)) = true := decide_eq_true hxe
    have heq := HEQ.out hxe
    simp only [Dec.mk.injEq] at heq
    obtain ⟨rfl, rfl, rfl⟩ := heq
    clear HEQ
    go_wp2_with fail
    refine (CSU2.out _).mono ?_
    rintro e w5 ⟨rfl, hb5⟩
    have B6 := ext_trans B5 hb5
    clear B5 hb5 CSU2 d0 d1 d2 e0 e1 e2
    have e6 := ext_alloc w5 (.cells #[.bool false, .string sgg, .int .i64 se] 36)
    obtain ⟨⟨f0, f1, f2⟩, _, hgf⟩ := dbox_new w5 false sgg se
    have B7 := ext_trans B6 e6
    clear B6 e6
    go_wp2_with fail
    refine (CNT.out _).mono ?_
    rintro e w7 ⟨rfl, hb7⟩
    have B8 := ext_trans B7 hb7
    replace f0 := keeps_cells hb7 _ _ f0
    replace f1 := keeps_cells hb7 _ _ f1
    replace f2 := keeps_cells hb7 _ _ f2
    clear B7 hb7 CNT
    go_wp2_with fail
    refine (CHD2.out _).mono ?_
    rintro e w8 ⟨rfl, hb8⟩
    have B9 := ext_trans B8 hb8
    replace f0 := keeps_cells hb8 _ _ f0
    replace f1 := keeps_cells hb8 _ _ f1
    replace f2 := keeps_cells hb8 _ _ f2
    clear B8 hb8 CHD2
    have e9 := ext_alloc w8 (.cells #[.bool false, .string ⟨#[53]⟩, .int .i64 (-((p : Int) + 1))] 36)
    obtain ⟨⟨m0, m1, m2⟩, _, hgm⟩ := dbox_new w8 false ⟨#[53]⟩ (-((p : Int) + 1))
    have B10 := ext_trans B9 e9
    replace f0 := keeps_cells e9 _ _ f0
    replace f1 := keeps_cells e9 _ _ f1
    replace f2 := keeps_cells e9 _ _ f2
    clear B9 e9
    go_wp2_with fail
    refine (CCM2.out _).mono ?_
    rintro e w11 ⟨rfl, hb11⟩
    have B11 := ext_trans B10 hb11
    have hcd : decide (cm ≤ 0) = true := decide_eq_true hcle
    clear B10 hb11 CCM2
    go_wp2
    go_ret
    exact ⟨by first | rfl | (rw [hcd]), B11⟩
  · have hx1 : decide (-exp ≤ (p : Int)) = false := decide_eq_false hxe
    clear HEQ
    go_wp2_with fail
    refine (CSU2.out _).mono ?_
    rintro e w5 ⟨rfl, hb5⟩
    have B6 := ext_trans B5 hb5
    clear B5 hb5 CSU2 d0 d1 d2 e0 e1 e2
    have e6 := ext_alloc w5 (.cells #[.bool false, .string sgg, .int .i64 se] 36)
    obtain ⟨⟨f0, f1, f2⟩, _, hgf⟩ := dbox_new w5 false sgg se
    have B7 := ext_trans B6 e6
    clear B6 e6
    go_wp2_with fail
    refine (CNT.out _).mono ?_
    rintro e w7 ⟨rfl, hb7⟩
    have B8 := ext_trans B7 hb7
    replace f0 := keeps_cells hb7 _ _ f0
    replace f1 := keeps_cells hb7 _ _ f1
    replace f2 := keeps_cells hb7 _ _ f2
    clear B7 hb7 CNT
    go_wp2_with fail
    refine (CHD2.out _).mono ?_
    rintro e w8 ⟨rfl, hb8⟩
    have B9 := ext_trans B8 hb8
    replace f0 := keeps_cells hb8 _ _ f0
    replace f1 := keeps_cells hb8 _ _ f1
    replace f2 := keeps_cells hb8 _ _ f2
    clear B8 hb8 CHD2
    have e9 := ext_alloc w8 (.cells #[.bool false, .string ⟨#[53]⟩, .int .i64 (-((p : Int) + 1))] 36)
    obtain ⟨⟨m0, m1, m2⟩, _, hgm⟩ := dbox_new w8 false ⟨#[53]⟩ (-((p : Int) + 1))
    have B10 := ext_trans B9 e9
    replace f0 := keeps_cells e9 _ _ f0
    replace f1 := keeps_cells e9 _ _ f1
    replace f2 := keeps_cells e9 _ _ f2
    clear B9 e9
    go_wp2_with fail
    refine (CCM2.out _).mono ?_
    rintro e w11 ⟨rfl, hb11⟩
    have B11 := ext_trans B10 hb11
    have hcd : decide (cm ≤ 0) = true := decide_eq_true hcle
    clear B10 hb11 CCM2
    go_wp2
    go_ret
    exact ⟨by first | rfl | (rw [hcd]), B11⟩
end Go.Proofs.YtomcoilmpkpoeaaGreatDoor
