/-
  What is proved here: the pattern reader's items of a bracket in impl. No condition but that the reader and its list lie in memory.
-/
import Derived.Test.YtomcoilmpkpoeaaGreatDoorQA
namespace Go.Proofs.YtomcoilmpkpoeaaGreatDoor
open Go.RowKit
set_option linter.unusedVariables false
set_option linter.unusedSimpArgs false

def itemOne (l : List Nat) (i : Nat) : IR := match oneAt l i with
    | none => .er 6 i
    | some (lo, j) =>
      if ¬ gN l j = 45 ∨ gN l (j + 1) = 93 ∨ gN l (j + 1) = 0 then .ok [(lo : Int), (lo : Int)] j
      else match oneAt l (j + 1) with
        | none => .er 6 (j + 1)
        | some (hi, m) => if hi < lo then .er 4 0 else .ok [(lo : Int), (hi : Int)] m
theorem ItemE.up {w w1 w' : World} {g cap d : Nat} {a : Option Addr} {l : List Nat} {nv : Value} {r : IR} {e : Ending} (h : ItemE w1 w' g cap d a l nv r e) (hs : w.heap.size ≤ w1.heap.size) : ItemE w w' g cap d a l nv r e := by
  rcases h with ⟨s, j, b, h1, h2, h3, h4⟩ | h
  · exact Or.inl ⟨s, j, b, h1, h2, Nat.le_trans hs h3, h4⟩
  · exact Or.inr h
set_option maxHeartbeats 16000000 in
theorem implItem {g cap i d : Nat} {a : Option Addr} {l : List Nat} {nv : Value} (w : World) (hb : w.heap[g]? = some (.cells #[.slice a l.length cap, .int .i64 (i : Int), .int .i64 (d : Int), nv] 101 (0, 0)))
    (hL : RxL w g a l) (hi : i < l.length) :
    Calls Tryz.prog 229 #[.pointer (some ⟨g, 0, none⟩)] w fun e w' => ItemE w w' g cap d a l nv (itemAt l i) e ∧ Kp g none w w' := by
  have hlen := hL.len
  have hg : g < w.heap.size := (Array.getElem?_eq_some_iff.1 hb).1
  have CX := hid (fun (w' : World) (j : Nat) (hk : Kp g none w w') (hb' : w'.heap[g]? = some (.cells #[.slice a l.length cap, .int .i64 ((j : Nat) : Int), .int .i64 (d : Int), nv] 101 (0, 0))) (hj : j ≤ 1000) => implNext w' hb' (hL.below (hk.base hg)) (by omega))
  have CA := hid (fun (w' : World) (j : Nat) (hk : Kp g none w w') (hb' : w'.heap[g]? = some (.cells #[.slice a l.length cap, .int .i64 ((j : Nat) : Int), .int .i64 (d : Int), nv] 101 (0, 0))) (hj : j ≤ 1000) => implAhead (k := 1) w' hb' (hL.below (hk.base hg)) (by omega) (by decide))
  have CE := hid (fun (w' : World) (j : Nat) (hk : Kp g none w w') (hb' : w'.heap[g]? = some (.cells #[.slice a l.length cap, .int .i64 ((j : Nat) : Int), .int .i64 (d : Int), nv] 101 (0, 0))) (hj : j < l.length) => implEnd w' hb' (hL.below (hk.base hg)) hj)
  have CC := hid (fun (w' : World) (j : Nat) (hk : Kp g none w w') (hb' : w'.heap[g]? = some (.cells #[.slice a l.length cap, .int .i64 ((j : Nat) : Int), .int .i64 (d : Int), nv] 101 (0, 0))) (hj : j + 2 ≤ l.length) => implClass w' hb' (hL.below (hk.base hg)) hj)
  have HB := hid hb
  obtain ⟨R, hR⟩ : ∃ r, itemAt l i = r := ⟨_, rfl⟩
  rw [hR]
  have HR := hid hR
  clear hb hR
  obtain ⟨x, hx⟩ : ∃ c, gN l i = c := ⟨_, rfl⟩
  obtain ⟨y, hy⟩ : ∃ c, gN l (i + 1) = c := ⟨_, rfl⟩
  have HX := hid hx
  have HY := hid hy
  have CXI := hid (CX.out w i (Kp.refl g none w) HB.out (by omega))
  have CAI := hid (fun w' (hq : Qt w w') => CA.out w' i hq.kp (hq.at HB.out) (by omega))
  rw [hx] at CXI
  rw [hy] at CAI
  clear hx hy
  have hlL := hid hL
  clear hL
  by_cases h91 : x = 91
  · subst h91
    by_cases h58 : y = 58
    · subst h58
      have hi2 : i + 2 ≤ l.length := by have := gN_lt (l := l) (i := i + 1) (by have := HY.out; omega); omega
      have HF := hid (show clsR l (i + 2) = R by rw [← HR.out, clsR_item ⟨HX.out, HY.out⟩])
      unfold ItemE
      go_enter Tryz.func229, Tryz.ntmps229
      go_wp2_with fail
      refine CXI.out.mono ?_
      rintro e w1 ⟨rfl, hq1⟩
      go_wp2_with fail
      refine (CAI.out _ hq1).mono ?_
      rintro e w2 ⟨rfl, hq2⟩
      have hq := hq1.trans hq2
      go_wp2_with fail
      refine (CC.out _ i hq.kp (hq.at HB.out) hi2).mono ?_
      rintro e w3 ⟨he, hk⟩
      rw [HF.out] at he
      have hs : w.heap.size ≤ w2.heap.size := by rw [hq.heap]; exact Nat.le_refl _
      rcases he with ⟨s, j, b, h1, rfl, h3, h4, h5⟩ | ⟨c, p, x, j, h1, rfl, h3, h4, h5⟩
      · have H1 := hid h1
        have H45 := hid (And.intro h4 h5)
        clear h1 h4 h5
        go_wp2
        go_ret2
        exact ⟨Or.inl ⟨s, j, b, H1.out, rfl, Nat.le_trans hs h3, H45.out.1, H45.out.2⟩, hq.kp.trans hk (RowOn.refl _ _)⟩
      · have H1 := hid h1
        have H45 := hid (And.intro h4 h5)
        have H3 := hid h3
        clear h1 h4 h5 h3
        go_wp2
        go_ret2
        exact ⟨Or.inr ⟨c, p, x, j, H1.out, rfl, H3.out, H45.out.1, H45.out.2⟩, hq.kp.trans hk (RowOn.refl _ _)⟩
    · have g58 : ((y : Int) == 58) = false := by rw [beq_eq_false_iff_ne]; omega
      have HRR := hid (show itemOne l i = R by rw [← HR.out]; unfold itemAt; rw [if_neg (by rw [HX.out, HY.out]; simp [h58])]; rfl)
      clear h58
      unfold ItemE
      go_enter Tryz.func229, Tryz.ntmps229
      go_wp2_with fail
      refine CXI.out.mono ?_
      rintro e w1 ⟨rfl, hq1⟩
      go_wp2_with fail
      refine (CAI.out _ hq1).mono ?_
      rintro e w2 ⟨rfl, hq2⟩
      have hq := hq1.trans hq2
      clear hq1 hq2
      go_wp2_with fail
      refine (CE.out _ i hq.kp (hq.at HB.out) hi).mono ?_
      rintro e w3 ⟨he, hk3⟩
      have hkp3 := hq.kp.trans hk3 (RowOn.refl _ _)
      rcases he with ⟨c, j, h1, rfl, h2⟩ | ⟨h1, ⟨x0, rfl⟩, h2⟩
      · have H1 := hid h1
        have H2 := hid h2
        have hjl : j ≤ l.length := (oneAt_in hi h1).2.1
        have hl3 : g < w3.heap.size := (Array.getElem?_eq_some_iff.1 h2).1
        clear h1 h2
        obtain ⟨u, hu⟩ : ∃ c, gN l j = c := ⟨_, rfl⟩
        obtain ⟨v, hv⟩ : ∃ c, gN l (j + 1) = c := ⟨_, rfl⟩
        have HU := hid hu
        have HV := hid hv
        have CXJ := hid (CX.out w3 j hkp3 H2.out (by omega))
        have CAJ := hid (fun w' (hq : Qt w3 w') => CA.out w' j (hkp3.trans hq.kp (RowOn.refl _ _)) (hq.at H2.out) (by omega))
        rw [hu] at CXJ
        rw [hv] at CAJ
        clear hu hv
        have HF0 := hid (show R = if ¬ u = 45 ∨ v = 93 ∨ v = 0 then .ok [(c : Int), (c : Int)] j else (match oneAt l (j + 1) with | none => .er 6 (j + 1) | some (hi, m) => if hi < c then .er 4 0 else .ok [(c : Int), (hi : Int)] m) by
          rw [← HRR.out]
          unfold itemOne
          rw [H1.out]
          simp only [HU.out, HV.out])
        by_cases h45 : u = 45
        · subst h45
          by_cases h93 : v = 93
          · subst h93
            have HF := hid (show R = .ok [(c : Int), (c : Int)] j by rw [HF0.out, if_pos (by simp)])
            go_wp2_with fail
            refine CXJ.out.mono ?_
            rintro e w4 ⟨rfl, hq4⟩
            go_wp2_with fail
            refine (CAJ.out _ hq4).mono ?_
            rintro e w5 ⟨rfl, hq5⟩
            have hqq := hq4.trans hq5
            go_wp2
            go_ret2
            have hkp5 := hkp3.trans hqq.kp (RowOn.refl _ _)
            have hl5 : g < w5.heap.size := by rw [hqq.heap]; exact hl3
            exact ⟨Or.inl ⟨[(c : Int), (c : Int)], j, _, HF.out, rfl, hkp5.size, heap_alloc_new _ _, ((ext_alloc _ _).block g hl5).trans (hqq.at H2.out)⟩, hkp5.alloc _⟩
          · have g93 : ((v : Int) == 93) = false := by rw [beq_eq_false_iff_ne]; omega
            by_cases h0 : v = 0
            · subst h0
              have HF := hid (show R = .ok [(c : Int), (c : Int)] j by rw [HF0.out, if_pos (by simp)])
              go_wp2_with fail
              refine CXJ.out.mono ?_
              rintro e w4 ⟨rfl, hq4⟩
              go_wp2_with fail
              refine (CAJ.out _ hq4).mono ?_
              rintro e w5' ⟨rfl, hq5⟩
              go_wp2_with fail
              refine (CAJ.out _ (hq4.trans hq5)).mono ?_
              rintro e w5 ⟨rfl, hq6⟩
              have hqq := (hq4.trans hq5).trans hq6
              go_wp2
              go_ret2
              have hkp5 := hkp3.trans hqq.kp (RowOn.refl _ _)
              have hl5 : g < w5.heap.size := by rw [hqq.heap]; exact hl3
              exact ⟨Or.inl ⟨[(c : Int), (c : Int)], j, _, HF.out, rfl, hkp5.size, heap_alloc_new _ _, ((ext_alloc _ _).block g hl5).trans (hqq.at H2.out)⟩, hkp5.alloc _⟩
            · have g0 : ((v : Int) == 0) = false := by rw [beq_eq_false_iff_ne]; omega
              have hj1 : j + 1 < l.length := gN_lt (by have := HV.out; omega)
              have HF1 := hid (show R = (match oneAt l (j + 1) with | none => .er 6 (j + 1) | some (hi, m) => if hi < c then .er 4 0 else .ok [(c : Int), (hi : Int)] m) by rw [HF0.out, if_neg (by simp [h93, h0])])
              clear h93 h0 HF0
              have hw : IntKind.i64.wrap ((j : Int) + 1) = (j : Int) + 1 := IntWalk.i64_in _ (by omega)
              go_wp2_with fail
              refine CXJ.out.mono ?_
              rintro e w4 ⟨rfl, hq4⟩
              go_wp2_with fail
              refine (CAJ.out _ hq4).mono ?_
              rintro e w5' ⟨rfl, hq5⟩
              go_wp2_with fail
              refine (CAJ.out _ (hq4.trans hq5)).mono ?_
              rintro e w5 ⟨rfl, hq6⟩
              have hqq := (hq4.trans hq5).trans hq6
              have hb5 := hqq.at H2.out
              obtain ⟨d0, d1, d2, d3, z0, z1, z2, z3, hl5⟩ := blk4 hb5
              have HN := hid (blk4_set (o := 1) (.int .i64 ((j + 1 : Nat) : Int)) hb5)
              have hcast : ((j + 1 : Nat) : Int) = (j : Int) + 1 := by omega
              have hk5 := (hkp3.trans hqq.kp (RowOn.refl _ _)).set 1 (.int .i64 ((j + 1 : Nat) : Int))
              have CE2 := hid (CE.out _ (j + 1) hk5 HN.out hj1)
              rw [hcast] at hk5 HN CE2
              clear hb5 hcast
              go_wp2_with fail
              refine CE2.out.mono ?_
              rintro e w6 ⟨he, hk6⟩
              have hkp6 := hk5.trans hk6 (RowOn.refl _ _)
              rcases he with ⟨hh, m, h1, rfl, h2⟩ | ⟨h1, ⟨x0, rfl⟩, h2⟩
              · have H62 := hid h2
                have hl6 : g < w6.heap.size := (Array.getElem?_eq_some_iff.1 h2).1
                by_cases hlo : hh < c
                · have HF := hid (show R = .er 4 0 by rw [HF1.out, h1]; simp only [hlo, if_true])
                  have hlo2 : (hh : Int) < (c : Int) := by omega
                  clear h1 h2
                  go_wp2
                  go_ret2
                  exact ⟨Or.inr ⟨4, 0, _, m, HF.out, rfl, Or.inr rfl, fun h => absurd h (by decide), ((ext_alloc _ _).block g hl6).trans H62.out⟩, hkp6.alloc _⟩
                · have HF := hid (show R = .ok [(c : Int), (hh : Int)] m by rw [HF1.out, h1]; simp only [hlo, if_false])
                  have hlo2 : ¬ (hh : Int) < (c : Int) := by omega
                  clear h1 h2
                  go_wp2
                  go_ret2
                  exact ⟨Or.inl ⟨[(c : Int), (hh : Int)], m, _, HF.out, rfl, hkp6.size, heap_alloc_new _ _, ((ext_alloc _ _).block g hl6).trans H62.out⟩, hkp6.alloc _⟩
              · have H62 := hid h2
                have hl6 : g < w6.heap.size := (Array.getElem?_eq_some_iff.1 h2).1
                have HF := hid (show R = .er 6 (j + 1) by rw [HF1.out, h1])
                clear h1 h2
                go_wp2
                go_ret2
                exact ⟨Or.inr ⟨6, j + 1, _, j + 1, HF.out, rfl, Or.inl rfl, fun _ => rfl, ((ext_alloc _ _).block g hl6).trans H62.out⟩, hkp6.alloc _⟩
        · have g45 : ((u : Int) == 45) = false := by rw [beq_eq_false_iff_ne]; omega
          have HF := hid (show R = .ok [(c : Int), (c : Int)] j by rw [HF0.out, if_pos (by simp [h45])])
          have g45' : ¬ (u : Int) = 45 := by omega
          clear h45
          go_wp2_with fail
          refine CXJ.out.mono ?_
          rintro e w5 ⟨rfl, hqq⟩
          go_wp2
          go_ret2
          have hkp5 := hkp3.trans hqq.kp (RowOn.refl _ _)
          have hl5 : g < w5.heap.size := by rw [hqq.heap]; exact hl3
          exact ⟨Or.inl ⟨[(c : Int), (c : Int)], j, _, HF.out, rfl, hkp5.size, heap_alloc_new _ _, ((ext_alloc _ _).block g hl5).trans (hqq.at H2.out)⟩, hkp5.alloc _⟩
      · have HF := hid (show R = .er 6 i by rw [← HRR.out]; unfold itemOne; rw [h1])
        have H2 := hid h2
        clear h1 h2
        go_wp2
        go_ret2
        exact ⟨Or.inr ⟨6, i, _, i, HF.out, rfl, Or.inl rfl, fun _ => rfl, H2.out⟩, hkp3⟩
  · have g91 : ((x : Int) == 91) = false := by rw [beq_eq_false_iff_ne]; omega
    have HRR := hid (show itemOne l i = R by rw [← HR.out]; unfold itemAt; rw [if_neg (by rw [HX.out]; simp [h91])]; rfl)
    clear h91
    unfold ItemE
    go_enter Tryz.func229, Tryz.ntmps229
    go_wp2_with fail
    refine CXI.out.mono ?_
    rintro e w2 ⟨rfl, hq⟩
    go_wp2_with fail
    refine (CE.out _ i hq.kp (hq.at HB.out) hi).mono ?_
    rintro e w3 ⟨he, hk3⟩
    have hkp3 := hq.kp.trans hk3 (RowOn.refl _ _)
    rcases he with ⟨c, j, h1, rfl, h2⟩ | ⟨h1, ⟨x0, rfl⟩, h2⟩
    · have H1 := hid h1
      have H2 := hid h2
      have hjl : j ≤ l.length := (oneAt_in hi h1).2.1
      have hl3 : g < w3.heap.size := (Array.getElem?_eq_some_iff.1 h2).1
      clear h1 h2
      obtain ⟨u, hu⟩ : ∃ c, gN l j = c := ⟨_, rfl⟩
      obtain ⟨v, hv⟩ : ∃ c, gN l (j + 1) = c := ⟨_, rfl⟩
      have HU := hid hu
      have HV := hid hv
      have CXJ := hid (CX.out w3 j hkp3 H2.out (by omega))
      have CAJ := hid (fun w' (hq : Qt w3 w') => CA.out w' j (hkp3.trans hq.kp (RowOn.refl _ _)) (hq.at H2.out) (by omega))
      rw [hu] at CXJ
      rw [hv] at CAJ
      clear hu hv
      have HF0 := hid (show R = if ¬ u = 45 ∨ v = 93 ∨ v = 0 then .ok [(c : Int), (c : Int)] j else (match oneAt l (j + 1) with | none => .er 6 (j + 1) | some (hi, m) => if hi < c then .er 4 0 else .ok [(c : Int), (hi : Int)] m) by
        rw [← HRR.out]
        unfold itemOne
        rw [H1.out]
        simp only [HU.out, HV.out])
      by_cases h45 : u = 45
      · subst h45
        by_cases h93 : v = 93
        · subst h93
          have HF := hid (show R = .ok [(c : Int), (c : Int)] j by rw [HF0.out, if_pos (by simp)])
          go_wp2_with fail
          refine CXJ.out.mono ?_
          rintro e w4 ⟨rfl, hq4⟩
          go_wp2_with fail
          refine (CAJ.out _ hq4).mono ?_
          rintro e w5 ⟨rfl, hq5⟩
          have hqq := hq4.trans hq5
          go_wp2
          go_ret2
          have hkp5 := hkp3.trans hqq.kp (RowOn.refl _ _)
          have hl5 : g < w5.heap.size := by rw [hqq.heap]; exact hl3
          exact ⟨Or.inl ⟨[(c : Int), (c : Int)], j, _, HF.out, rfl, hkp5.size, heap_alloc_new _ _, ((ext_alloc _ _).block g hl5).trans (hqq.at H2.out)⟩, hkp5.alloc _⟩
        · have g93 : ((v : Int) == 93) = false := by rw [beq_eq_false_iff_ne]; omega
          by_cases h0 : v = 0
          · subst h0
            have HF := hid (show R = .ok [(c : Int), (c : Int)] j by rw [HF0.out, if_pos (by simp)])
            go_wp2_with fail
            refine CXJ.out.mono ?_
            rintro e w4 ⟨rfl, hq4⟩
            go_wp2_with fail
            refine (CAJ.out _ hq4).mono ?_
            rintro e w5' ⟨rfl, hq5⟩
            go_wp2_with fail
            refine (CAJ.out _ (hq4.trans hq5)).mono ?_
            rintro e w5 ⟨rfl, hq6⟩
            have hqq := (hq4.trans hq5).trans hq6
            go_wp2
            go_ret2
            have hkp5 := hkp3.trans hqq.kp (RowOn.refl _ _)
            have hl5 : g < w5.heap.size := by rw [hqq.heap]; exact hl3
            exact ⟨Or.inl ⟨[(c : Int), (c : Int)], j, _, HF.out, rfl, hkp5.size, heap_alloc_new _ _, ((ext_alloc _ _).block g hl5).trans (hqq.at H2.out)⟩, hkp5.alloc _⟩
          · have g0 : ((v : Int) == 0) = false := by rw [beq_eq_false_iff_ne]; omega
            have hj1 : j + 1 < l.length := gN_lt (by have := HV.out; omega)
            have HF1 := hid (show R = (match oneAt l (j + 1) with | none => .er 6 (j + 1) | some (hi, m) => if hi < c then .er 4 0 else .ok [(c : Int), (hi : Int)] m) by rw [HF0.out, if_neg (by simp [h93, h0])])
            clear h93 h0 HF0
            have hw : IntKind.i64.wrap ((j : Int) + 1) = (j : Int) + 1 := IntWalk.i64_in _ (by omega)
            go_wp2_with fail
            refine CXJ.out.mono ?_
            rintro e w4 ⟨rfl, hq4⟩
            go_wp2_with fail
            refine (CAJ.out _ hq4).mono ?_
            rintro e w5' ⟨rfl, hq5⟩
            go_wp2_with fail
            refine (CAJ.out _ (hq4.trans hq5)).mono ?_
            rintro e w5 ⟨rfl, hq6⟩
            have hqq := (hq4.trans hq5).trans hq6
            have hb5 := hqq.at H2.out
            obtain ⟨d0, d1, d2, d3, z0, z1, z2, z3, hl5⟩ := blk4 hb5
            have HN := hid (blk4_set (o := 1) (.int .i64 ((j + 1 : Nat) : Int)) hb5)
            have hcast : ((j + 1 : Nat) : Int) = (j : Int) + 1 := by omega
            have hk5 := (hkp3.trans hqq.kp (RowOn.refl _ _)).set 1 (.int .i64 ((j + 1 : Nat) : Int))
            have CE2 := hid (CE.out _ (j + 1) hk5 HN.out hj1)
            rw [hcast] at hk5 HN CE2
            clear hb5 hcast
            go_wp2_with fail
            refine CE2.out.mono ?_
            rintro e w6 ⟨he, hk6⟩
            have hkp6 := hk5.trans hk6 (RowOn.refl _ _)
            rcases he with ⟨hh, m, h1, rfl, h2⟩ | ⟨h1, ⟨x0, rfl⟩, h2⟩
            · have H62 := hid h2
              have hl6 : g < w6.heap.size := (Array.getElem?_eq_some_iff.1 h2).1
              by_cases hlo : hh < c
              · have HF := hid (show R = .er 4 0 by rw [HF1.out, h1]; simp only [hlo, if_true])
                have hlo2 : (hh : Int) < (c : Int) := by omega
                clear h1 h2
                go_wp2
                go_ret2
                exact ⟨Or.inr ⟨4, 0, _, m, HF.out, rfl, Or.inr rfl, fun h => absurd h (by decide), ((ext_alloc _ _).block g hl6).trans H62.out⟩, hkp6.alloc _⟩
              · have HF := hid (show R = .ok [(c : Int), (hh : Int)] m by rw [HF1.out, h1]; simp only [hlo, if_false])
                have hlo2 : ¬ (hh : Int) < (c : Int) := by omega
                clear h1 h2
                go_wp2
                go_ret2
                exact ⟨Or.inl ⟨[(c : Int), (hh : Int)], m, _, HF.out, rfl, hkp6.size, heap_alloc_new _ _, ((ext_alloc _ _).block g hl6).trans H62.out⟩, hkp6.alloc _⟩
            · have H62 := hid h2
              have hl6 : g < w6.heap.size := (Array.getElem?_eq_some_iff.1 h2).1
              have HF := hid (show R = .er 6 (j + 1) by rw [HF1.out, h1])
              clear h1 h2
              go_wp2
              go_ret2
              exact ⟨Or.inr ⟨6, j + 1, _, j + 1, HF.out, rfl, Or.inl rfl, fun _ => rfl, ((ext_alloc _ _).block g hl6).trans H62.out⟩, hkp6.alloc _⟩
      · have g45 : ((u : Int) == 45) = false := by rw [beq_eq_false_iff_ne]; omega
        have HF := hid (show R = .ok [(c : Int), (c : Int)] j by rw [HF0.out, if_pos (by simp [h45])])
        have g45' : ¬ (u : Int) = 45 := by omega
        clear h45
        go_wp2_with fail
        refine CXJ.out.mono ?_
        rintro e w5 ⟨rfl, hqq⟩
        go_wp2
        go_ret2
        have hkp5 := hkp3.trans hqq.kp (RowOn.refl _ _)
        have hl5 : g < w5.heap.size := by rw [hqq.heap]; exact hl3
        exact ⟨Or.inl ⟨[(c : Int), (c : Int)], j, _, HF.out, rfl, hkp5.size, heap_alloc_new _ _, ((ext_alloc _ _).block g hl5).trans (hqq.at H2.out)⟩, hkp5.alloc _⟩
    · have HF := hid (show R = .er 6 i by rw [← HRR.out]; unfold itemOne; rw [h1])
      have H2 := hid h2
      clear h1 h2
      go_wp2
      go_ret2
      exact ⟨Or.inr ⟨6, i, _, i, HF.out, rfl, Or.inl rfl, fun _ => rfl, H2.out⟩, hkp3⟩
end Go.Proofs.YtomcoilmpkpoeaaGreatDoor
