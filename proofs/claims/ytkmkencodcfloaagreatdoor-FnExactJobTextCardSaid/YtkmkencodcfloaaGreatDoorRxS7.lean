/-
  What is proved here: the reference's atoms, off what its alternatives are. No condition but that the reader, its list and its nodes lie in memory, and sizes.
-/
import Derived.Test.YtkmkencodcfloaaGreatDoorRxS6
import Derived.Test.YtkmkencodcfloaaGreatDoorRxI9
namespace Go.Proofs.YtkmkencodcfloaaGreatDoor
open Go.RowKit
set_option linter.unusedVariables false
set_option linter.unusedSimpArgs false

/-- what a function of the reference's reader answers, wherever it stands below a length -/
def NodeCS (fn : Nat) (p : Nat → List RxNode → RR) (n M g cap d : Nat) (a : Option Addr) (l : List Nat) : Prop :=
  ∀ (X : Nat → Prop) (w : World) (i : Nat) (nv : Value) (ns : List RxNode), (∀ b, X b → b < w.heap.size) → w.heap[g]? = some (.cells #[.slice a l.length cap, .int .i64 ((i : Nat) : Int), .int .i64 ((0 : Nat) : Int), .int .i64 ((0 : Nat) : Int), .int .i64 ((d : Nat) : Int), nv] 93 (0, 0)) → RxL w g a l → i < n → RxNs X g nv w ns → ns.length ≤ 4 * i + 4 →
    Calls Tryz.prog fn #[.pointer (some ⟨g, 0, none⟩)] w fun e w' => NodeS X w w' g cap d a l nv M (p i ns) e ∧ Kp g nv.ownBlock w w'
/-- the reference's atom: a repetition or a closing parenthesis is none -/
def atomS (l : List Nat) (grp : Nat → List RxNode → RR) (i : Nat) (ns : List RxNode) : RR :=
  if gN l i = 41 then .er 2 i else if timesN (gN l i) = true then .er 5 i else atomP l grp i ns
theorem gN_pt {l : List Nat} (hp : ∀ c ∈ l, 1 ≤ c ∧ c ≤ 1114111) {i : Nat} (h : gN l i = 0) : l.length ≤ i := by
  rcases Nat.lt_or_ge i l.length with h1 | h1
  · rw [gN_at h1] at h
    have := (hp _ (List.getElem_mem h1)).1
    omega
  · exact h1
theorem blk6_two {w : World} {g : Nat} {x0 x1 x2 x3 x4 x5 y1 y4 : Value} {t : TypeId} (h : w.heap[g]? = some (.cells #[x0, x1, x2, x3, x4, x5] t (0, 0))) : ((w.setCell ⟨g, 1, none⟩ y1).setCell ⟨g, 4, none⟩ y4).heap[g]? = some (.cells #[x0, y1, x2, x3, y4, x5] t (0, 0)) :=
  blk6_set (o := 4) y4 (blk6_set (o := 1) y1 h)
/-- what stands in parentheses, off the level -/
def grpOf (l : List Nat) (d v : Nat) (HA : Prop) : Prop := (d = 6 ∧ v = 0) ∨ (d < 6 ∧ HA)
set_option maxHeartbeats 16000000 in
set_option maxRecDepth 100000 in
theorem specAtom {g cap d M M1 v : Nat} {a : Option Addr} {l : List Nat} (hM : 5000 ≤ M1) (hM1 : M ≤ M1) (HA : (d = 6 ∧ v = 0) ∨ (d < 6 ∧ ∃ u, v = u + 1 ∧ NodeCS 60 (altsP l (grpP l u)) (l.length + 1) M g cap (d + 1) a l)) : NodeCS 126 (atomS l (grpP l v)) l.length M1 g cap d a l := by
  intro X w i nv ns hX hb hL hi hn hlen2
  have hlen := hL.len
  have hg : g < w.heap.size := (Array.getElem?_eq_some_iff.1 hb).1
  have CX := hid (specPeek w hb hL (by omega))
  have CB := hid (fun (w' : World) (hq : Qt w w') => specBracket w' (hq.at hb) (hL.qt hq) hi (hn.qt hq) (by omega) (fun b h => by rw [hq.heap]; exact hX b h))
  have CE := hid (fun (w' : World) (hq : Qt w w') => specEscape w' (hq.at hb) (hL.qt hq) (by omega))
  have HLL := hid (fun (w' : World) (hk : Kp g nv.ownBlock w w') => hL.kp hn hk hg)
  obtain ⟨R, hR⟩ : ∃ r, atomS l (grpP l v) i ns = r := ⟨_, rfl⟩
  rw [hR]
  have HR := hid hR
  have HN := hid hn
  have HB := hid hb
  have hgl := gN_le hL.pts i
  have HPTS := hid hL.pts
  obtain ⟨⟨c0, c1, c2, c3, c4, c5⟩, ⟨y1, y2, y3, y4, y5⟩, hl⟩ := blk6c hb
  have hw : IntKind.i64.wrap ((i : Int) + 1) = (i : Int) + 1 := IntWalk.i64_in _ (by omega)
  have hcast : ((i + 1 : Nat) : Int) = (i : Int) + 1 := by omega
  have HC := hid (fun (w1 : World) (hq : Qt w w1) => blk6_set (o := 1) (.int .i64 ((i + 1 : Nat) : Int)) (hq.at hb))
  have HM := hid (fun (w1 : World) (hq : Qt w w1) => hn.kp ((Kp.refl g none w).trans ((hq.kp).set 1 (.int .i64 ((i + 1 : Nat) : Int))) (RowOn.refl _ _)))
  have HSZ := hid hlen2
  have HX0 := hid hX
  have HL0 := hid hL
  have HHA := hid HA
  clear hb hR hn hL hlen2 hX HA
  obtain ⟨x, hx⟩ : ∃ c, gN l i = c := ⟨_, rfl⟩
  rw [hx] at CX hgl
  have HX := hid hx
  clear hx
  by_cases h40 : x = 40
  · subst h40
    have HF := hid (show grpP l v i ns = R by rw [← HR.out]; unfold atomS atomP; rw [HX.out, if_neg (by decide), if_neg (by decide), if_pos rfl])
    rcases HHA.out with ⟨rfl, rfl⟩ | ⟨hd6, u, rfl, HAu⟩
    · have HF2 := hid (show R = .er 3 i by rw [← HF.out]; rfl)
      unfold NodeS
      go_enter Tryz.func126, Tryz.ntmps126
      go_wp2_with fail
      refine CX.out.mono ?_
      rintro e w1 ⟨rfl, ⟨m1, rfl⟩⟩
      go_wp2_with fail
      refine (specFail (p := 0) 3 i _ (by exact (Qt.one w m1).at HB.out)).mono ?_
      rintro e w9 ⟨rfl, f1, f2⟩
      have F1 := hid f1
      have hk10 := Kp.trans ((Qt.one w m1).kp) f2 (RowOn.refl _ _)
      clear f1
      go_wp2
      go_ret
      exact ⟨Or.inr ⟨3, i, 0, i, nv, ns, HF2.out, rfl, by decide, F1.out, HN.out.kp hk10, RowOn.refl _ _, by have := HSZ.out; omega, by omega, by omega⟩, hk10.weak⟩
    · have e6 : ((d : Int) == 6) = false := by rw [beq_eq_false_iff_ne]; omega
      have f6 : ¬ (d : Int) = 6 := by omega
      have hw2 : IntKind.i64.wrap ((d : Int) + 1) = (d : Int) + 1 := IntWalk.i64_in _ (by omega)
      have hcd : ((d + 1 : Nat) : Int) = (d : Int) + 1 := by omega
      have HAL := hid (fun (w1 : World) (hq : Qt w w1) =>
        HAu X ((w1.setCell ⟨g, 1, none⟩ (.int .i64 ((i + 1 : Nat) : Int))).setCell ⟨g, 4, none⟩ (.int .i64 ((d + 1 : Nat) : Int))) (i + 1) nv ns (fun b h => by simp; rw [hq.heap]; exact HX0.out b h) (blk6_two (hq.at HB.out)) (HLL.out _ (((hq.kp).set 1 _).set 4 _)) (by omega) (HN.out.kp (((hq.kp).set 1 _).set 4 _)) (by have := HSZ.out; omega))
      have HFW := hid (fun kid j ns1 (h : altsP l (grpP l u) (i + 1) ns = .ok kid j ns1) => altsP_in (grpP_in l u) (show i + 1 ≤ l.length by omega) h)
      rw [hcast, hcd] at HAL
      clear HAu
      unfold NodeS at HAL ⊢
      go_enter Tryz.func126, Tryz.ntmps126
      go_wp2_with fail
      refine CX.out.mono ?_
      rintro e w1 ⟨rfl, ⟨m1, rfl⟩⟩
      go_wp2_with fail
      refine (HAL.out _ (Qt.one w m1)).mono ?_
      rintro e w3 ⟨he, hk3⟩
      have hk3 := Kp.trans (show Kp g nv.ownBlock w _ from (((Qt.one w m1).kp).set 1 (.int .i64 ((i : Int) + 1))).set 4 (.int .i64 ((d : Int) + 1))) hk3 (RowOn.refl _ _)
      rcases he with ⟨kid, j, ns2, nv2, h1, rfl, h3, h4, h5⟩ | ⟨c, q, z, j, nv2, ns2, h1, rfl, h3, h4, h5, h6, h7, h8, h9⟩
      · have h5 : RowOn w nv.ownBlock nv2.ownBlock := h5.up (by simp)
        have hfw := HFW.out kid j ns2 h1
        obtain ⟨⟨c0, c1, c2, c3, c4, c5⟩, ⟨y1, y2, y3, y4, y5⟩, hl3⟩ := blk6c h3
        have hw3 : IntKind.i64.wrap ((d : Int) + 1 - 1) = (d : Int) := by rw [IntWalk.i64_in _ (by omega)]; omega
        have hb4 := blk6_set (o := 4) (.int .i64 (d : Int)) h3
        have hk4 := hk3.set 4 (.int .i64 (d : Int))
        have CXJ := hid (specPeek (w3.setCell ⟨g, 4, none⟩ (.int .i64 (d : Int))) hb4 (HLL.out _ hk4) (by omega))
        have HB4 := hid hb4
        have HK4 := hid hk4
        have H1 := hid h1
        clear h3 h1 hb4 hk4
        obtain ⟨u9, hu⟩ : ∃ c, gN l j = c := ⟨_, rfl⟩
        rw [hu] at CXJ
        have HU := hid hu
        clear hu
        go_wp2_with fail
        refine CXJ.out.mono ?_
        rintro e w5 ⟨rfl, hq5⟩
        by_cases h41 : u9 = 41
        · subst h41
          have HF2 := hid (show R = .ok kid (j + 1) ns2 by rw [← HF.out]; exact grpP_ok H1.out HU.out)
          have hb5 := hq5.at HB4.out
          clear c0 c1 c2 c3 c4 c5 y1 y2 y3 y4 y5
          obtain ⟨⟨c0, c1, c2, c3, c4, c5⟩, ⟨y1, y2, y3, y4, y5⟩, hl5⟩ := blk6c hb5
          have hw9 : IntKind.i64.wrap ((j : Int) + 1) = (j : Int) + 1 := IntWalk.i64_in _ (by omega)
          have hc9 : ((j + 1 : Nat) : Int) = (j : Int) + 1 := by omega
          have HB6 := hid (blk6_set (o := 1) (.int .i64 ((j : Int) + 1)) hb5)
          clear hb5
          go_wp2
          go_ret
          exact ⟨Or.inl ⟨kid, j + 1, ns2, nv2, HF2.out, rfl, by rw [hc9]; exact HB6.out, h4.kp ((((Kp.refl g none w3).set 4 _).trans hq5.kp (RowOn.refl _ _)).set 1 _), h5⟩, (HK4.out.trans hq5.kp h5).set 1 _⟩
        · have hjl : j = l.length := by
            have h0 : gN l j = 0 := by
              rcases hfw.2.2.2.2.2 with h | h
              · exact h
              · rw [HU.out] at h; exact absurd h h41
            have := gN_pt HPTS.out h0
            omega
          have HF2 := hid (show R = .er 2 l.length by rw [← HF.out, grpP_no H1.out (by rw [HU.out]; exact h41), hjl])
          have e41 : ((u9 : Int) == 41) = false := by rw [beq_eq_false_iff_ne]; omega
          have f41 : ¬ (u9 : Int) = 41 := by omega
          have n41 : ((u9 : Int) != 41) = true := by rw [bne_iff_ne]; omega
          have hb5 := hq5.at HB4.out
          clear c0 c1 c2 c3 c4 c5 y1 y2 y3 y4 y5
          obtain ⟨⟨c0, c1, c2, c3, c4, c5⟩, ⟨y1, y2, y3, y4, y5⟩, hl5⟩ := blk6c hb5
          have HB5 := hid hb5
          clear hb5
          go_wp2_with fail
          refine (specFail (p := 0) 2 l.length _ (by exact HB5.out)).mono ?_
          rintro e w9 ⟨rfl, f1, f2⟩
          have F1 := hid f1
          have hk10 := (HK4.out.trans hq5.kp h5).trans f2.weak h5
          clear f1
          go_wp2
          go_ret
          exact ⟨Or.inr ⟨2, l.length, 0, j, nv2, ns2, HF2.out, rfl, by decide, F1.out, h4.kp ((((Kp.refl g none w3).set 4 _).trans hq5.kp (RowOn.refl _ _)).trans f2 (RowOn.refl _ _)), h5, by have := HSZ.out; omega, by omega, by omega⟩, hk10⟩
      · have h6 : RowOn w nv.ownBlock nv2.ownBlock := h6.up (by simp)
        have HF2 := hid (show R = .er c q by rw [← HF.out]; exact grpP_er h1)
        obtain ⟨⟨c0, c1, c2, c3, c4, c5⟩, ⟨y1, y2, y3, y4, y5⟩, hl3⟩ := blk6c h4
        have hw3 : IntKind.i64.wrap ((d : Int) + 1 - 1) = (d : Int) := by rw [IntWalk.i64_in _ (by omega)]; omega
        have HB4 := hid (blk6_set (o := 4) (.int .i64 (d : Int)) h4)
        have hz1 : ((c : Int) == 0) = false := by rw [beq_eq_false_iff_ne]; omega
        have hz2 : ¬ (c : Int) = 0 := by omega
        have hz3 : ((c : Int) != 0) = true := by rw [bne_iff_ne]; omega
        clear h1 h4
        go_wp2
        go_ret
        exact ⟨Or.inr ⟨c, q, 0, j, nv2, ns2, HF2.out, rfl, h3, HB4.out, h5.kp ((Kp.refl g none w3).set 4 _), h6, by omega, h8, by omega⟩, hk3.set 4 _⟩
  have e40 : ((x : Int) == 40) = false := by rw [beq_eq_false_iff_ne]; omega
  clear HHA
  unfold NodeS
  by_cases h41 : x = 41
  · subst h41
    have HF := hid (show R = .er 2 i by rw [← HR.out]; unfold atomS; rw [HX.out, if_pos rfl])
    go_enter Tryz.func126, Tryz.ntmps126
    go_wp2_with fail
    refine CX.out.mono ?_
    rintro e w1 ⟨rfl, ⟨m1, rfl⟩⟩
    go_wp2_with fail
    refine (specFail (p := 0) 2 i _ (by exact (Qt.one w m1).at HB.out)).mono ?_
    rintro e w9 ⟨rfl, f1, f2⟩
    have F1 := hid f1
    have hk10 := Kp.trans ((Qt.one w m1).kp) f2 (RowOn.refl _ _)
    clear f1
    go_wp2
    go_ret
    exact ⟨Or.inr ⟨2, i, 0, i, nv, ns, HF.out, rfl, by decide, F1.out, HN.out.kp hk10, RowOn.refl _ _, by have := HSZ.out; omega, by omega, by omega⟩, hk10.weak⟩
  have e41 : ((x : Int) == 41) = false := by rw [beq_eq_false_iff_ne]; omega
  by_cases h42 : x = 42
  · subst h42
    have HF := hid (show R = .er 5 i by rw [← HR.out]; unfold atomS; rw [HX.out, if_neg (by decide), if_pos (by decide)])
    go_enter Tryz.func126, Tryz.ntmps126
    go_wp2_with fail
    refine CX.out.mono ?_
    rintro e w1 ⟨rfl, ⟨m1, rfl⟩⟩
    go_wp2_with fail
    refine (specFail (p := 0) 5 i _ (by exact (Qt.one w m1).at HB.out)).mono ?_
    rintro e w9 ⟨rfl, f1, f2⟩
    have F1 := hid f1
    have hk10 := Kp.trans ((Qt.one w m1).kp) f2 (RowOn.refl _ _)
    clear f1
    go_wp2
    go_ret
    exact ⟨Or.inr ⟨5, i, 0, i, nv, ns, HF.out, rfl, by decide, F1.out, HN.out.kp hk10, RowOn.refl _ _, by have := HSZ.out; omega, by omega, by omega⟩, hk10.weak⟩
  have e42 : ((x : Int) == 42) = false := by rw [beq_eq_false_iff_ne]; omega
  by_cases h43 : x = 43
  · subst h43
    have HF := hid (show R = .er 5 i by rw [← HR.out]; unfold atomS; rw [HX.out, if_neg (by decide), if_pos (by decide)])
    go_enter Tryz.func126, Tryz.ntmps126
    go_wp2_with fail
    refine CX.out.mono ?_
    rintro e w1 ⟨rfl, ⟨m1, rfl⟩⟩
    go_wp2_with fail
    refine (specFail (p := 0) 5 i _ (by exact (Qt.one w m1).at HB.out)).mono ?_
    rintro e w9 ⟨rfl, f1, f2⟩
    have F1 := hid f1
    have hk10 := Kp.trans ((Qt.one w m1).kp) f2 (RowOn.refl _ _)
    clear f1
    go_wp2
    go_ret
    exact ⟨Or.inr ⟨5, i, 0, i, nv, ns, HF.out, rfl, by decide, F1.out, HN.out.kp hk10, RowOn.refl _ _, by have := HSZ.out; omega, by omega, by omega⟩, hk10.weak⟩
  have e43 : ((x : Int) == 43) = false := by rw [beq_eq_false_iff_ne]; omega
  by_cases h63 : x = 63
  · subst h63
    have HF := hid (show R = .er 5 i by rw [← HR.out]; unfold atomS; rw [HX.out, if_neg (by decide), if_pos (by decide)])
    go_enter Tryz.func126, Tryz.ntmps126
    go_wp2_with fail
    refine CX.out.mono ?_
    rintro e w1 ⟨rfl, ⟨m1, rfl⟩⟩
    go_wp2_with fail
    refine (specFail (p := 0) 5 i _ (by exact (Qt.one w m1).at HB.out)).mono ?_
    rintro e w9 ⟨rfl, f1, f2⟩
    have F1 := hid f1
    have hk10 := Kp.trans ((Qt.one w m1).kp) f2 (RowOn.refl _ _)
    clear f1
    go_wp2
    go_ret
    exact ⟨Or.inr ⟨5, i, 0, i, nv, ns, HF.out, rfl, by decide, F1.out, HN.out.kp hk10, RowOn.refl _ _, by have := HSZ.out; omega, by omega, by omega⟩, hk10.weak⟩
  have e63 : ((x : Int) == 63) = false := by rw [beq_eq_false_iff_ne]; omega
  by_cases h123 : x = 123
  · subst h123
    have HF := hid (show R = .er 5 i by rw [← HR.out]; unfold atomS; rw [HX.out, if_neg (by decide), if_pos (by decide)])
    go_enter Tryz.func126, Tryz.ntmps126
    go_wp2_with fail
    refine CX.out.mono ?_
    rintro e w1 ⟨rfl, ⟨m1, rfl⟩⟩
    go_wp2_with fail
    refine (specFail (p := 0) 5 i _ (by exact (Qt.one w m1).at HB.out)).mono ?_
    rintro e w9 ⟨rfl, f1, f2⟩
    have F1 := hid f1
    have hk10 := Kp.trans ((Qt.one w m1).kp) f2 (RowOn.refl _ _)
    clear f1
    go_wp2
    go_ret
    exact ⟨Or.inr ⟨5, i, 0, i, nv, ns, HF.out, rfl, by decide, F1.out, HN.out.kp hk10, RowOn.refl _ _, by have := HSZ.out; omega, by omega, by omega⟩, hk10.weak⟩
  have e123 : ((x : Int) == 123) = false := by rw [beq_eq_false_iff_ne]; omega
  have htn : ¬ timesN x = true := by unfold timesN; simp [h42, h43, h63, h123]
  have HP := hid (show atomP l (grpP l v) i ns = R by rw [← HR.out]; unfold atomS; rw [HX.out, if_neg h41, if_neg htn])
  by_cases h91 : x = 91
  · subst h91
    have HF := hid (show bracketP l i ns = R by rw [← HP.out]; unfold atomP; rw [HX.out, if_neg (by decide), if_pos rfl])
    go_enter Tryz.func126, Tryz.ntmps126
    go_wp2_with fail
    refine CX.out.mono ?_
    rintro e w1 ⟨rfl, hq1⟩
    go_wp2_with fail
    refine (CB.out _ hq1).mono ?_
    rintro e w2 ⟨he, hk2⟩
    have he := he.up (w := w) (nv := nv) (M' := M1) (RowOn.refl _ _) (Nat.le_of_eq (by rw [hq1.heap])) hM
    rw [HF.out] at he
    have hk3 := hq1.kp.trans hk2 (RowOn.refl _ _)
    unfold NodeS at he
    have HE := hid he
    have hev : ∃ z : Int, e = .returned (.int .i64 z) := by
      rcases he with ⟨kid, j, ns', nv', h1, rfl, h3⟩ | ⟨c, q, z, j, nv', ns', h1, rfl, h3⟩
      · exact ⟨_, rfl⟩
      · exact ⟨_, rfl⟩
    obtain ⟨z, rfl⟩ := hev
    clear he
    go_wp2
    go_ret
    exact ⟨HE.out, hk3⟩
  have e91 : ((x : Int) == 91) = false := by rw [beq_eq_false_iff_ne]; omega
  by_cases h46 : x = 46
  · subst h46
    have HF := hid (show putR ⟨3, 0, 0, false, [], []⟩ (i + 1) ns = R by rw [← HP.out]; unfold atomP; rw [HX.out]; simp [signOf])
    go_enter Tryz.func126, Tryz.ntmps126
    go_wp2_with fail
    refine CX.out.mono ?_
    rintro e w1 ⟨rfl, ⟨m1, rfl⟩⟩
    have CADD := hid (specPutAt ⟨3, 0, 0, false, [], []⟩ _ (HC.out _ (Qt.one w m1)) (HM.out _ (Qt.one w m1)) (by have := HSZ.out; omega) (by dsimp only; omega) (by dsimp only; omega) (by dsimp only; omega) rd_noInts rd_noInts)
    dsimp only at CADD
    rw [hcast] at CADD
    go_wp2_with fail
    refine (specSign _ _).mono ?_
    rintro e ws ⟨rfl, rfl⟩
    simp only [signOf]
    go_wp2_with fail
    refine CADD.out.mono ?_
    rintro e w9 ⟨nv', rfl, h1, h2, h3, h4⟩
    have H1 := hid h1
    clear h1
    go_wp2
    go_ret
    exact ⟨Or.inl ⟨_, _, _, nv', HF.out.symm, rfl, by rw [hcast]; exact H1.out, h2, h3.up (by simp)⟩, ((((Qt.one w m1).kp).set 1 _).trans h4 (RowOn.refl _ _))⟩
  have e46 : ((x : Int) == 46) = false := by rw [beq_eq_false_iff_ne]; omega
  by_cases h94 : x = 94
  · subst h94
    have HF := hid (show putR ⟨5, 0, 0, false, [], []⟩ (i + 1) ns = R by rw [← HP.out]; unfold atomP; rw [HX.out]; simp [signOf])
    go_enter Tryz.func126, Tryz.ntmps126
    go_wp2_with fail
    refine CX.out.mono ?_
    rintro e w1 ⟨rfl, ⟨m1, rfl⟩⟩
    have CADD := hid (specPutAt ⟨5, 0, 0, false, [], []⟩ _ (HC.out _ (Qt.one w m1)) (HM.out _ (Qt.one w m1)) (by have := HSZ.out; omega) (by dsimp only; omega) (by dsimp only; omega) (by dsimp only; omega) rd_noInts rd_noInts)
    dsimp only at CADD
    rw [hcast] at CADD
    go_wp2_with fail
    refine (specSign _ _).mono ?_
    rintro e ws ⟨rfl, rfl⟩
    simp only [signOf]
    go_wp2_with fail
    refine CADD.out.mono ?_
    rintro e w9 ⟨nv', rfl, h1, h2, h3, h4⟩
    have H1 := hid h1
    clear h1
    go_wp2
    go_ret
    exact ⟨Or.inl ⟨_, _, _, nv', HF.out.symm, rfl, by rw [hcast]; exact H1.out, h2, h3.up (by simp)⟩, ((((Qt.one w m1).kp).set 1 _).trans h4 (RowOn.refl _ _))⟩
  have e94 : ((x : Int) == 94) = false := by rw [beq_eq_false_iff_ne]; omega
  by_cases h36 : x = 36
  · subst h36
    have HF := hid (show putR ⟨6, 0, 0, false, [], []⟩ (i + 1) ns = R by rw [← HP.out]; unfold atomP; rw [HX.out]; simp [signOf])
    go_enter Tryz.func126, Tryz.ntmps126
    go_wp2_with fail
    refine CX.out.mono ?_
    rintro e w1 ⟨rfl, ⟨m1, rfl⟩⟩
    have CADD := hid (specPutAt ⟨6, 0, 0, false, [], []⟩ _ (HC.out _ (Qt.one w m1)) (HM.out _ (Qt.one w m1)) (by have := HSZ.out; omega) (by dsimp only; omega) (by dsimp only; omega) (by dsimp only; omega) rd_noInts rd_noInts)
    dsimp only at CADD
    rw [hcast] at CADD
    go_wp2_with fail
    refine (specSign _ _).mono ?_
    rintro e ws ⟨rfl, rfl⟩
    simp only [signOf]
    go_wp2_with fail
    refine CADD.out.mono ?_
    rintro e w9 ⟨nv', rfl, h1, h2, h3, h4⟩
    have H1 := hid h1
    clear h1
    go_wp2
    go_ret
    exact ⟨Or.inl ⟨_, _, _, nv', HF.out.symm, rfl, by rw [hcast]; exact H1.out, h2, h3.up (by simp)⟩, ((((Qt.one w m1).kp).set 1 _).trans h4 (RowOn.refl _ _))⟩
  have e36 : ((x : Int) == 36) = false := by rw [beq_eq_false_iff_ne]; omega
  by_cases h92 : x = 92
  · subst h92
    have HF := hid (show (match escAt l i with | none => .er 6 i | some c => putR ⟨2, c, 0, false, [], []⟩ (i + 2) ns) = R by rw [← HP.out]; unfold atomP; rw [HX.out, if_neg (by decide), if_neg (by decide), if_pos rfl]; cases escAt l i <;> rfl)
    go_enter Tryz.func126, Tryz.ntmps126
    go_wp2_with fail
    refine CX.out.mono ?_
    rintro e w1 ⟨rfl, hq1⟩
    go_wp2_with fail
    refine (CE.out _ hq1).mono ?_
    rintro e w2 ⟨he, hk2⟩
    have hk3 := hq1.kp.trans hk2 (RowOn.refl _ _)
    rcases he with ⟨c, j, h1, rfl, h3⟩ | ⟨j, h1, rfl, h2, h3⟩
    · obtain ⟨c', hc', hcj⟩ : ∃ c', escAt l i = some c' ∧ c = c' ∧ j = i + 2 := by
        unfold escR at h1
        cases hh : escAt l i with
        | none => rw [hh] at h1; cases h1
        | some c' => rw [hh] at h1; simp only [Option.some.injEq, Prod.mk.injEq] at h1; exact ⟨c', rfl, h1.1.symm, h1.2.symm⟩
      obtain ⟨rfl, rfl⟩ := hcj
      have hpt := escAt_pt HPTS.out hc'
      have HF2 := hid (show putR ⟨2, c, 0, false, [], []⟩ (i + 2) ns = R by rw [← HF.out, hc'])
      have CADD := hid (specPutAt ⟨2, c, 0, false, [], []⟩ w2 h3 (HN.out.kp hk3) (by have := HSZ.out; omega) (by dsimp only; omega) (by dsimp only; omega) (by dsimp only; omega) rd_noInts rd_noInts)
      dsimp only at CADD
      obtain ⟨⟨c0, c1, c2, c3, c4, c5⟩, _, _⟩ := blk6c h3
      have HK := hid hk3
      clear h1 hc' h3 hk3
      go_wp2_with fail
      refine CADD.out.mono ?_
      rintro e w9 ⟨nv', rfl, h1, h2, h3, h4⟩
      have H1 := hid h1
      clear h1
      go_wp2
      go_ret
      exact ⟨Or.inl ⟨_, _, _, nv', HF2.out.symm, rfl, H1.out, h2, h3.up HK.out.size⟩, HK.out.weak.trans h4 (RowOn.refl _ _)⟩
    · have HF2 := hid (show R = .er 6 i by
        rw [← HF.out]
        unfold escR at h1
        cases hh : escAt l i with
        | none => rfl
        | some c' => rw [hh] at h1; cases h1)
      obtain ⟨⟨c0, c1, c2, c3, c4, c5⟩, _, _⟩ := blk6c h3
      have H3 := hid h3
      clear h1 h3
      go_wp2
      go_ret
      exact ⟨Or.inr ⟨6, i, 0, j, nv, ns, HF2.out, rfl, by decide, H3.out, HN.out.kp hk3, RowOn.refl _ _, by have := HSZ.out; omega, by omega, by omega⟩, hk3.weak⟩
  have e92 : ((x : Int) == 92) = false := by rw [beq_eq_false_iff_ne]; omega
  have HF := hid (show putR ⟨2, (x : Nat), 0, false, [], []⟩ (i + 1) ns = R by rw [← HP.out]; unfold atomP; rw [HX.out, if_neg h40, if_neg h91, if_neg h92, if_neg (by omega)])
  clear h40 h41 h91 h92 h46 h94 h36 htn h42 h43 h63 h123
  go_enter Tryz.func126, Tryz.ntmps126
  go_wp2_with fail
  refine CX.out.mono ?_
  rintro e w1 ⟨rfl, ⟨m1, rfl⟩⟩
  have CADD := hid (specPutAt ⟨2, (x : Int), 0, false, [], []⟩ _ (HC.out _ (Qt.one w m1)) (HM.out _ (Qt.one w m1)) (by have := HSZ.out; omega) (by dsimp only; omega) (by dsimp only; omega) (by dsimp only; omega) rd_noInts rd_noInts)
  dsimp only at CADD
  rw [hcast] at CADD
  go_wp2_with fail
  refine CADD.out.mono ?_
  rintro e w9 ⟨nv', rfl, h1, h2, h3, h4⟩
  have H1 := hid h1
  clear h1
  go_wp2
  go_ret
  exact ⟨Or.inl ⟨_, _, _, nv', HF.out.symm, rfl, by rw [hcast]; exact H1.out, h2, h3.up (by simp)⟩, ((((Qt.one w m1).kp).set 1 _).trans h4 (RowOn.refl _ _))⟩
end Go.Proofs.YtkmkencodcfloaaGreatDoor
