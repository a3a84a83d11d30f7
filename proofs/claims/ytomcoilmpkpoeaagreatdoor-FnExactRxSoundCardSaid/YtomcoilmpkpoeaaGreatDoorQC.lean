/-
  What is proved here: the reference's atoms, off what its alternatives are. No condition but that the reader, its list and its nodes lie in memory, and sizes.
  What is proved here: the reference's pieces, off what its atoms are. No condition but that the reader, its list and its nodes lie in memory, and sizes.
  What is proved here: the reference's rows of pieces, off what its pieces are. No condition but that the reader, its list and its nodes lie in memory, and sizes.
  What is proved here: the reference's alternatives, off what its rows are; and all of its reader, by levels. No condition but that the reader, its list and its nodes lie in memory, and sizes.
  What is proved here: all of the reference's pattern reader, by levels. No condition but that the reader and its list lie in memory, and sizes.
-/
import Derived.Test.YtomcoilmpkpoeaaGreatDoorQRxS6
import Derived.Test.YtomcoilmpkpoeaaGreatDoorQRxI9
import Derived.Deep.Cut
import Derived.Deep.CutRange
namespace Go.Proofs.YtomcoilmpkpoeaaGreatDoor
open Go.RowKit
set_option linter.unusedVariables false
set_option linter.unusedSimpArgs false

/-- what a function of the reference's reader answers, wherever it stands below a length -/
def NodeCS (fn : Nat) (p : Nat → List RxNode → RR) (n M g cap d : Nat) (a : Option Addr) (l : List Nat) : Prop :=
  ∀ (X : Nat → Prop) (w : World) (i : Nat) (nv : Value) (ns : List RxNode), (∀ b, X b → b < w.heap.size) → w.heap[g]? = some (.cells #[.slice a l.length cap, .int .i64 ((i : Nat) : Int), .int .i64 ((0 : Nat) : Int), .int .i64 ((0 : Nat) : Int), .int .i64 ((d : Nat) : Int), nv] 87 (0, 0)) → RxL w g a l → i < n → RxNs X g nv w ns → ns.length ≤ 4 * i + 4 →
    Calls Tryz.prog fn #[.pointer (some ⟨g, 0, none⟩)] w fun e w' => NodeS X w w' g cap d a l nv M (p i ns) e ∧ Kp g nv.ownBlock w w'
/-- the reference's atom: a repetition or a closing parenthesis is none -/
def atomS (l : List Nat) (grp : Nat → List RxNode → RR) (i : Nat) (ns : List RxNode) : RR :=
  if gN l i = 41 then .er 2 i else if timesN (gN l i) = true then .er 5 i else atomP l grp i ns
theorem gN_pt {l : List Nat} (hp : ∀ c ∈ l, 1 ≤ c ∧ c ≤ 1114111) {i : Nat} (h : gN l i = 0) : l.length ≤ i := by
  rcases Nat.lt_or_ge i l.length with h1 | h1
  · rw [gN_at h1] at h
    have := (hp _ (List.getElem_mem h1)).1
    omega
  · exact h1
theorem blk6_two {w : World} {g : Nat} {x0 x1 x2 x3 x4 x5 y1 y4 : Value} {t : TypeId} (h : w.heap[g]? = some (.cells #[x0, x1, x2, x3, x4, x5] t (0, 0))) : ((w.setCell ⟨g, 1, none⟩ y1).setCell ⟨g, 4, none⟩ y4).heap[g]? = some (.cells #[x0, y1, x2, x3, y4, x5] t (0, 0)) :=
  blk6_set (o := 4) y4 (blk6_set (o := 1) y1 h)
/-- what stands in parentheses, off the level -/
def grpOf (l : List Nat) (d v : Nat) (HA : Prop) : Prop := (d = 6 ∧ v = 0) ∨ (d < 6 ∧ HA)
set_option maxHeartbeats 16000000 in
set_option maxRecDepth 100000 in
theorem specAtom {g cap d M M1 v : Nat} {a : Option Addr} {l : List Nat} (hM : 5000 ≤ M1) (hM1 : M ≤ M1) (HA : (d = 6 ∧ v = 0) ∨ (d < 6 ∧ ∃ u, v = u + 1 ∧ NodeCS 68 (altsP l (grpP l u)) (l.length + 1) M g cap (d + 1) a l)) : NodeCS 183 (atomS l (grpP l v)) l.length M1 g cap d a l := by
  intro X w i nv ns hX hb hL hi hn hlen2
  have hlen := hL.len
  have hg : g < w.heap.size := (Array.getElem?_eq_some_iff.1 hb).1
  have CX := hid (specPeek w hb hL (by omega))
  have CB := hid (fun (w' : World) (hq : Qt w w') => specBracket w' (hq.at hb) (hL.qt hq) hi (hn.qt hq) (by omega) (fun b h => by rw [hq.heap]; exact hX b h))
  have CE := hid (fun (w' : World) (hq : Qt w w') => specEscape w' (hq.at hb) (hL.qt hq) (by omega))
  have HLL := hid (fun (w' : World) (hk : Kp g nv.ownBlock w w') => hL.kp hn hk hg)
  obtain ⟨R, hR⟩ : ∃ r, atomS l (grpP l v) i ns = r := ⟨_, rfl⟩
  rw [hR]
  have HR := hid hR
  have HN := hid hn
  have HB := hid hb
  have hgl := gN_le hL.pts i
  have HPTS := hid hL.pts
  obtain ⟨⟨c0, c1, c2, c3, c4, c5⟩, ⟨y1, y2, y3, y4, y5⟩, hl⟩ := blk6c hb
  have hw : IntKind.i64.wrap ((i : Int) + 1) = (i : Int) + 1 := IntWalk.i64_in _ (by omega)
  have hcast : ((i + 1 : Nat) : Int) = (i : Int) + 1 := by omega
  have HC := hid (fun (w1 : World) (hq : Qt w w1) => blk6_set (o := 1) (.int .i64 ((i + 1 : Nat) : Int)) (hq.at hb))
  have HM := hid (fun (w1 : World) (hq : Qt w w1) => hn.kp ((Kp.refl g none w).trans ((hq.kp).set 1 (.int .i64 ((i + 1 : Nat) : Int))) (RowOn.refl _ _)))
  have HSZ := hid hlen2
  have HX0 := hid hX
  have HL0 := hid hL
  have HHA := hid HA
  clear hb hR hn hL hlen2 hX HA
  obtain ⟨x, hx⟩ : ∃ c, gN l i = c := ⟨_, rfl⟩
  rw [hx] at CX hgl
  have HX := hid hx
  clear hx
  by_cases h40 : x = 40
  · subst h40
    have HF := hid (show grpP l v i ns = R by rw [← HR.out]; unfold atomS atomP; rw [HX.out, if_neg (by decide), if_neg (by decide), if_pos rfl])
    rcases HHA.out with ⟨rfl, rfl⟩ | ⟨hd6, u, rfl, HAu⟩
    · have HF2 := hid (show R = .er 3 i by rw [← HF.out]; rfl)
      unfold NodeS
      go_enter Tryz.func183, Tryz.ntmps183
      go_wp2_with fail
      refine CX.out.mono ?_
      rintro e w1 ⟨rfl, ⟨m1, rfl⟩⟩
      go_wp2_with fail
      refine (specFail (p := 0) 3 i _ (by exact (Qt.one w m1).at HB.out)).mono ?_
      rintro e w9 ⟨rfl, f1, f2⟩
      have F1 := hid f1
      have hk10 := Kp.trans ((Qt.one w m1).kp) f2 (RowOn.refl _ _)
      clear f1
      go_wp2
      go_ret
      exact ⟨Or.inr ⟨3, i, 0, i, nv, ns, HF2.out, rfl, by decide, F1.out, HN.out.kp hk10, RowOn.refl _ _, by have := HSZ.out; omega, by omega, by omega⟩, hk10.weak⟩
    · have e6 : ((d : Int) == 6) = false := by rw [beq_eq_false_iff_ne]; omega
      have f6 : ¬ (d : Int) = 6 := by omega
      have hw2 : IntKind.i64.wrap ((d : Int) + 1) = (d : Int) + 1 := IntWalk.i64_in _ (by omega)
      have hcd : ((d + 1 : Nat) : Int) = (d : Int) + 1 := by omega
      have HAL := hid (fun (w1 : World) (hq : Qt w w1) =>
        HAu X ((w1.setCell ⟨g, 1, none⟩ (.int .i64 ((i + 1 : Nat) : Int))).setCell ⟨g, 4, none⟩ (.int .i64 ((d + 1 : Nat) : Int))) (i + 1) nv ns (fun b h => by simp; rw [hq.heap]; exact HX0.out b h) (blk6_two (hq.at HB.out)) (HLL.out _ (((hq.kp).set 1 _).set 4 _)) (by omega) (HN.out.kp (((hq.kp).set 1 _).set 4 _)) (by have := HSZ.out; omega))
      have HFW := hid (fun kid j ns1 (h : altsP l (grpP l u) (i + 1) ns = .ok kid j ns1) => altsP_in (grpP_in l u) (show i + 1 ≤ l.length by omega) h)
      rw [hcast, hcd] at HAL
      clear HAu
      unfold NodeS at HAL ⊢
      go_enter Tryz.func183, Tryz.ntmps183
      go_wp2_with fail
      refine CX.out.mono ?_
      rintro e w1 ⟨rfl, ⟨m1, rfl⟩⟩
      go_wp2_with fail
      refine (HAL.out _ (Qt.one w m1)).mono ?_
      rintro e w3 ⟨he, hk3⟩
      have hk3 := Kp.trans (show Kp g nv.ownBlock w _ from (((Qt.one w m1).kp).set 1 (.int .i64 ((i : Int) + 1))).set 4 (.int .i64 ((d : Int) + 1))) hk3 (RowOn.refl _ _)
      rcases he with ⟨kid, j, ns2, nv2, h1, rfl, h3, h4, h5⟩ | ⟨c, q, z, j, nv2, ns2, h1, rfl, h3, h4, h5, h6, h7, h8, h9⟩
      · have h5 : RowOn w nv.ownBlock nv2.ownBlock := h5.up (by simp)
        have hfw := HFW.out kid j ns2 h1
        obtain ⟨⟨c0, c1, c2, c3, c4, c5⟩, ⟨y1, y2, y3, y4, y5⟩, hl3⟩ := blk6c h3
        have hw3 : IntKind.i64.wrap ((d : Int) + 1 - 1) = (d : Int) := by rw [IntWalk.i64_in _ (by omega)]; omega
        have hb4 := blk6_set (o := 4) (.int .i64 (d : Int)) h3
        have hk4 := hk3.set 4 (.int .i64 (d : Int))
        have CXJ := hid (specPeek (w3.setCell ⟨g, 4, none⟩ (.int .i64 (d : Int))) hb4 (HLL.out _ hk4) (by omega))
        have HB4 := hid hb4
        have HK4 := hid hk4
        have H1 := hid h1
        clear h3 h1 hb4 hk4
        obtain ⟨u9, hu⟩ : ∃ c, gN l j = c := ⟨_, rfl⟩
        rw [hu] at CXJ
        have HU := hid hu
        clear hu
        go_wp2_with fail
        refine CXJ.out.mono ?_
        rintro e w5 ⟨rfl, hq5⟩
        by_cases h41 : u9 = 41
        · subst h41
          have HF2 := hid (show R = .ok kid (j + 1) ns2 by rw [← HF.out]; exact grpP_ok H1.out HU.out)
          have hb5 := hq5.at HB4.out
          clear c0 c1 c2 c3 c4 c5 y1 y2 y3 y4 y5
          obtain ⟨⟨c0, c1, c2, c3, c4, c5⟩, ⟨y1, y2, y3, y4, y5⟩, hl5⟩ := blk6c hb5
          have hw9 : IntKind.i64.wrap ((j : Int) + 1) = (j : Int) + 1 := IntWalk.i64_in _ (by omega)
          have hc9 : ((j + 1 : Nat) : Int) = (j : Int) + 1 := by omega
          have HB6 := hid (blk6_set (o := 1) (.int .i64 ((j : Int) + 1)) hb5)
          clear hb5
          go_wp2
          go_ret
          exact ⟨Or.inl ⟨kid, j + 1, ns2, nv2, HF2.out, rfl, by rw [hc9]; exact HB6.out, h4.kp ((((Kp.refl g none w3).set 4 _).trans hq5.kp (RowOn.refl _ _)).set 1 _), h5⟩, (HK4.out.trans hq5.kp h5).set 1 _⟩
        · have hjl : j = l.length := by
            have h0 : gN l j = 0 := by
              rcases hfw.2.2.2.2.2 with h | h
              · exact h
              · rw [HU.out] at h; exact absurd h h41
            have := gN_pt HPTS.out h0
            omega
          have HF2 := hid (show R = .er 2 l.length by rw [← HF.out, grpP_no H1.out (by rw [HU.out]; exact h41), hjl])
          have e41 : ((u9 : Int) == 41) = false := by rw [beq_eq_false_iff_ne]; omega
          have f41 : ¬ (u9 : Int) = 41 := by omega
          have n41 : ((u9 : Int) != 41) = true := by rw [bne_iff_ne]; omega
          have hb5 := hq5.at HB4.out
          clear c0 c1 c2 c3 c4 c5 y1 y2 y3 y4 y5
          obtain ⟨⟨c0, c1, c2, c3, c4, c5⟩, ⟨y1, y2, y3, y4, y5⟩, hl5⟩ := blk6c hb5
          have HB5 := hid hb5
          clear hb5
          go_wp2_with fail
          refine (specFail (p := 0) 2 l.length _ (by exact HB5.out)).mono ?_
          rintro e w9 ⟨rfl, f1, f2⟩
          have F1 := hid f1
          have hk10 := (HK4.out.trans hq5.kp h5).trans f2.weak h5
          clear f1
          go_wp2
          go_ret
          exact ⟨Or.inr ⟨2, l.length, 0, j, nv2, ns2, HF2.out, rfl, by decide, F1.out, h4.kp ((((Kp.refl g none w3).set 4 _).trans hq5.kp (RowOn.refl _ _)).trans f2 (RowOn.refl _ _)), h5, by have := HSZ.out; omega, by omega, by omega⟩, hk10⟩
      · have h6 : RowOn w nv.ownBlock nv2.ownBlock := h6.up (by simp)
        have HF2 := hid (show R = .er c q by rw [← HF.out]; exact grpP_er h1)
        obtain ⟨⟨c0, c1, c2, c3, c4, c5⟩, ⟨y1, y2, y3, y4, y5⟩, hl3⟩ := blk6c h4
        have hw3 : IntKind.i64.wrap ((d : Int) + 1 - 1) = (d : Int) := by rw [IntWalk.i64_in _ (by omega)]; omega
        have HB4 := hid (blk6_set (o := 4) (.int .i64 (d : Int)) h4)
        have hz1 : ((c : Int) == 0) = false := by rw [beq_eq_false_iff_ne]; omega
        have hz2 : ¬ (c : Int) = 0 := by omega
        have hz3 : ((c : Int) != 0) = true := by rw [bne_iff_ne]; omega
        clear h1 h4
        go_wp2
        go_ret
        exact ⟨Or.inr ⟨c, q, 0, j, nv2, ns2, HF2.out, rfl, h3, HB4.out, h5.kp ((Kp.refl g none w3).set 4 _), h6, by omega, h8, by omega⟩, hk3.set 4 _⟩
  have e40 : ((x : Int) == 40) = false := by rw [beq_eq_false_iff_ne]; omega
  clear HHA
  unfold NodeS
  by_cases h41 : x = 41
  · subst h41
    have HF := hid (show R = .er 2 i by rw [← HR.out]; unfold atomS; rw [HX.out, if_pos rfl])
    go_enter Tryz.func183, Tryz.ntmps183
    go_wp2_with fail
    refine CX.out.mono ?_
    rintro e w1 ⟨rfl, ⟨m1, rfl⟩⟩
    go_wp2_with fail
    refine (specFail (p := 0) 2 i _ (by exact (Qt.one w m1).at HB.out)).mono ?_
    rintro e w9 ⟨rfl, f1, f2⟩
    have F1 := hid f1
    have hk10 := Kp.trans ((Qt.one w m1).kp) f2 (RowOn.refl _ _)
    clear f1
    go_wp2
    go_ret
    exact ⟨Or.inr ⟨2, i, 0, i, nv, ns, HF.out, rfl, by decide, F1.out, HN.out.kp hk10, RowOn.refl _ _, by have := HSZ.out; omega, by omega, by omega⟩, hk10.weak⟩
  have e41 : ((x : Int) == 41) = false := by rw [beq_eq_false_iff_ne]; omega
  by_cases h42 : x = 42
  · subst h42
    have HF := hid (show R = .er 5 i by rw [← HR.out]; unfold atomS; rw [HX.out, if_neg (by decide), if_pos (by decide)])
    go_enter Tryz.func183, Tryz.ntmps183
    go_wp2_with fail
    refine CX.out.mono ?_
    rintro e w1 ⟨rfl, ⟨m1, rfl⟩⟩
    go_wp2_with fail
    refine (specFail (p := 0) 5 i _ (by exact (Qt.one w m1).at HB.out)).mono ?_
    rintro e w9 ⟨rfl, f1, f2⟩
    have F1 := hid f1
    have hk10 := Kp.trans ((Qt.one w m1).kp) f2 (RowOn.refl _ _)
    clear f1
    go_wp2
    go_ret
    exact ⟨Or.inr ⟨5, i, 0, i, nv, ns, HF.out, rfl, by decide, F1.out, HN.out.kp hk10, RowOn.refl _ _, by have := HSZ.out; omega, by omega, by omega⟩, hk10.weak⟩
  have e42 : ((x : Int) == 42) = false := by rw [beq_eq_false_iff_ne]; omega
  by_cases h43 : x = 43
  · subst h43
    have HF := hid (show R = .er 5 i by rw [← HR.out]; unfold atomS; rw [HX.out, if_neg (by decide), if_pos (by decide)])
    go_enter Tryz.func183, Tryz.ntmps183
    go_wp2_with fail
    refine CX.out.mono ?_
    rintro e w1 ⟨rfl, ⟨m1, rfl⟩⟩
    go_wp2_with fail
    refine (specFail (p := 0) 5 i _ (by exact (Qt.one w m1).at HB.out)).mono ?_
    rintro e w9 ⟨rfl, f1, f2⟩
    have F1 := hid f1
    have hk10 := Kp.trans ((Qt.one w m1).kp) f2 (RowOn.refl _ _)
    clear f1
    go_wp2
    go_ret
    exact ⟨Or.inr ⟨5, i, 0, i, nv, ns, HF.out, rfl, by decide, F1.out, HN.out.kp hk10, RowOn.refl _ _, by have := HSZ.out; omega, by omega, by omega⟩, hk10.weak⟩
  have e43 : ((x : Int) == 43) = false := by rw [beq_eq_false_iff_ne]; omega
  by_cases h63 : x = 63
  · subst h63
    have HF := hid (show R = .er 5 i by rw [← HR.out]; unfold atomS; rw [HX.out, if_neg (by decide), if_pos (by decide)])
    go_enter Tryz.func183, Tryz.ntmps183
    go_wp2_with fail
    refine CX.out.mono ?_
    rintro e w1 ⟨rfl, ⟨m1, rfl⟩⟩
    go_wp2_with fail
    refine (specFail (p := 0) 5 i _ (by exact (Qt.one w m1).at HB.out)).mono ?_
    rintro e w9 ⟨rfl, f1, f2⟩
    have F1 := hid f1
    have hk10 := Kp.trans ((Qt.one w m1).kp) f2 (RowOn.refl _ _)
    clear f1
    go_wp2
    go_ret
    exact ⟨Or.inr ⟨5, i, 0, i, nv, ns, HF.out, rfl, by decide, F1.out, HN.out.kp hk10, RowOn.refl _ _, by have := HSZ.out; omega, by omega, by omega⟩, hk10.weak⟩
  have e63 : ((x : Int) == 63) = false := by rw [beq_eq_false_iff_ne]; omega
  by_cases h123 : x = 123
  · subst h123
    have HF := hid (show R = .er 5 i by rw [← HR.out]; unfold atomS; rw [HX.out, if_neg (by decide), if_pos (by decide)])
    go_enter Tryz.func183, Tryz.ntmps183
    go_wp2_with fail
    refine CX.out.mono ?_
    rintro e w1 ⟨rfl, ⟨m1, rfl⟩⟩
    go_wp2_with fail
    refine (specFail (p := 0) 5 i _ (by exact (Qt.one w m1).at HB.out)).mono ?_
    rintro e w9 ⟨rfl, f1, f2⟩
    have F1 := hid f1
    have hk10 := Kp.trans ((Qt.one w m1).kp) f2 (RowOn.refl _ _)
    clear f1
    go_wp2
    go_ret
    exact ⟨Or.inr ⟨5, i, 0, i, nv, ns, HF.out, rfl, by decide, F1.out, HN.out.kp hk10, RowOn.refl _ _, by have := HSZ.out; omega, by omega, by omega⟩, hk10.weak⟩
  have e123 : ((x : Int) == 123) = false := by rw [beq_eq_false_iff_ne]; omega
  have htn : ¬ timesN x = true := by unfold timesN; simp [h42, h43, h63, h123]
  have HP := hid (show atomP l (grpP l v) i ns = R by rw [← HR.out]; unfold atomS; rw [HX.out, if_neg h41, if_neg htn])
  by_cases h91 : x = 91
  · subst h91
    have HF := hid (show bracketP l i ns = R by rw [← HP.out]; unfold atomP; rw [HX.out, if_neg (by decide), if_pos rfl])
    go_enter Tryz.func183, Tryz.ntmps183
    go_wp2_with fail
    refine CX.out.mono ?_
    rintro e w1 ⟨rfl, hq1⟩
    go_wp2_with fail
    refine (CB.out _ hq1).mono ?_
    rintro e w2 ⟨he, hk2⟩
    have he := he.up (w := w) (nv := nv) (M' := M1) (RowOn.refl _ _) (Nat.le_of_eq (by rw [hq1.heap])) hM
    rw [HF.out] at he
    have hk3 := hq1.kp.trans hk2 (RowOn.refl _ _)
    unfold NodeS at he
    have HE := hid he
    have hev : ∃ z : Int, e = .returned (.int .i64 z) := by
      rcases he with ⟨kid, j, ns', nv', h1, rfl, h3⟩ | ⟨c, q, z, j, nv', ns', h1, rfl, h3⟩
      · exact ⟨_, rfl⟩
      · exact ⟨_, rfl⟩
    obtain ⟨z, rfl⟩ := hev
    clear he
    go_wp2
    go_ret
    exact ⟨HE.out, hk3⟩
  have e91 : ((x : Int) == 91) = false := by rw [beq_eq_false_iff_ne]; omega
  by_cases h46 : x = 46
  · subst h46
    have HF := hid (show putR ⟨3, 0, 0, false, [], []⟩ (i + 1) ns = R by rw [← HP.out]; unfold atomP; rw [HX.out]; simp [signOf])
    go_enter Tryz.func183, Tryz.ntmps183
    go_wp2_with fail
    refine CX.out.mono ?_
    rintro e w1 ⟨rfl, ⟨m1, rfl⟩⟩
    have CADD := hid (specPutAt ⟨3, 0, 0, false, [], []⟩ _ (HC.out _ (Qt.one w m1)) (HM.out _ (Qt.one w m1)) (by have := HSZ.out; omega) (by dsimp only; omega) (by dsimp only; omega) (by dsimp only; omega) rd_noInts rd_noInts)
    dsimp only at CADD
    rw [hcast] at CADD
    go_wp2_with fail
    refine (specSign _ _).mono ?_
    rintro e ws ⟨rfl, rfl⟩
    simp only [signOf]
    go_wp2_with fail
    refine CADD.out.mono ?_
    rintro e w9 ⟨nv', rfl, h1, h2, h3, h4⟩
    have H1 := hid h1
    clear h1
    go_wp2
    go_ret
    exact ⟨Or.inl ⟨_, _, _, nv', HF.out.symm, rfl, by rw [hcast]; exact H1.out, h2, h3.up (by simp)⟩, ((((Qt.one w m1).kp).set 1 _).trans h4 (RowOn.refl _ _))⟩
  have e46 : ((x : Int) == 46) = false := by rw [beq_eq_false_iff_ne]; omega
  by_cases h94 : x = 94
  · subst h94
    have HF := hid (show putR ⟨5, 0, 0, false, [], []⟩ (i + 1) ns = R by rw [← HP.out]; unfold atomP; rw [HX.out]; simp [signOf])
    go_enter Tryz.func183, Tryz.ntmps183
    go_wp2_with fail
    refine CX.out.mono ?_
    rintro e w1 ⟨rfl, ⟨m1, rfl⟩⟩
    have CADD := hid (specPutAt ⟨5, 0, 0, false, [], []⟩ _ (HC.out _ (Qt.one w m1)) (HM.out _ (Qt.one w m1)) (by have := HSZ.out; omega) (by dsimp only; omega) (by dsimp only; omega) (by dsimp only; omega) rd_noInts rd_noInts)
    dsimp only at CADD
    rw [hcast] at CADD
    go_wp2_with fail
    refine (specSign _ _).mono ?_
    rintro e ws ⟨rfl, rfl⟩
    simp only [signOf]
    go_wp2_with fail
    refine CADD.out.mono ?_
    rintro e w9 ⟨nv', rfl, h1, h2, h3, h4⟩
    have H1 := hid h1
    clear h1
    go_wp2
    go_ret
    exact ⟨Or.inl ⟨_, _, _, nv', HF.out.symm, rfl, by rw [hcast]; exact H1.out, h2, h3.up (by simp)⟩, ((((Qt.one w m1).kp).set 1 _).trans h4 (RowOn.refl _ _))⟩
  have e94 : ((x : Int) == 94) = false := by rw [beq_eq_false_iff_ne]; omega
  by_cases h36 : x = 36
  · subst h36
    have HF := hid (show putR ⟨6, 0, 0, false, [], []⟩ (i + 1) ns = R by rw [← HP.out]; unfold atomP; rw [HX.out]; simp [signOf])
    go_enter Tryz.func183, Tryz.ntmps183
    go_wp2_with fail
    refine CX.out.mono ?_
    rintro e w1 ⟨rfl, ⟨m1, rfl⟩⟩
    have CADD := hid (specPutAt ⟨6, 0, 0, false, [], []⟩ _ (HC.out _ (Qt.one w m1)) (HM.out _ (Qt.one w m1)) (by have := HSZ.out; omega) (by dsimp only; omega) (by dsimp only; omega) (by dsimp only; omega) rd_noInts rd_noInts)
    dsimp only at CADD
    rw [hcast] at CADD
    go_wp2_with fail
    refine (specSign _ _).mono ?_
    rintro e ws ⟨rfl, rfl⟩
    simp only [signOf]
    go_wp2_with fail
    refine CADD.out.mono ?_
    rintro e w9 ⟨nv', rfl, h1, h2, h3, h4⟩
    have H1 := hid h1
    clear h1
    go_wp2
    go_ret
    exact ⟨Or.inl ⟨_, _, _, nv', HF.out.symm, rfl, by rw [hcast]; exact H1.out, h2, h3.up (by simp)⟩, ((((Qt.one w m1).kp).set 1 _).trans h4 (RowOn.refl _ _))⟩
  have e36 : ((x : Int) == 36) = false := by rw [beq_eq_false_iff_ne]; omega
  by_cases h92 : x = 92
  · subst h92
    have HF := hid (show (match escAt l i with | none => .er 6 i | some c => putR ⟨2, c, 0, false, [], []⟩ (i + 2) ns) = R by rw [← HP.out]; unfold atomP; rw [HX.out, if_neg (by decide), if_neg (by decide), if_pos rfl] <;> (cases escAt l i <;> rfl))
    go_enter Tryz.func183, Tryz.ntmps183
    go_wp2_with fail
    refine CX.out.mono ?_
    rintro e w1 ⟨rfl, hq1⟩
    go_wp2_with fail
    refine (CE.out _ hq1).mono ?_
    rintro e w2 ⟨he, hk2⟩
    have hk3 := hq1.kp.trans hk2 (RowOn.refl _ _)
    rcases he with ⟨c, j, h1, rfl, h3⟩ | ⟨j, h1, rfl, h2, h3⟩
    · obtain ⟨c', hc', hcj⟩ : ∃ c', escAt l i = some c' ∧ c = c' ∧ j = i + 2 := by
        unfold escR at h1
        cases hh : escAt l i with
        | none => rw [hh] at h1; cases h1
        | some c' => rw [hh] at h1; simp only [Option.some.injEq, Prod.mk.injEq] at h1; exact ⟨c', rfl, h1.1.symm, h1.2.symm⟩
      obtain ⟨rfl, rfl⟩ := hcj
      have hpt := escAt_pt HPTS.out hc'
      have HF2 := hid (show putR ⟨2, c, 0, false, [], []⟩ (i + 2) ns = R by rw [← HF.out, hc'])
      have CADD := hid (specPutAt ⟨2, c, 0, false, [], []⟩ w2 h3 (HN.out.kp hk3) (by have := HSZ.out; omega) (by dsimp only; omega) (by dsimp only; omega) (by dsimp only; omega) rd_noInts rd_noInts)
      dsimp only at CADD
      obtain ⟨⟨c0, c1, c2, c3, c4, c5⟩, _, _⟩ := blk6c h3
      have HK := hid hk3
      clear h1 hc' h3 hk3
      go_wp2_with fail
      refine CADD.out.mono ?_
      rintro e w9 ⟨nv', rfl, h1, h2, h3, h4⟩
      have H1 := hid h1
      clear h1
      go_wp2
      go_ret
      exact ⟨Or.inl ⟨_, _, _, nv', HF2.out.symm, rfl, H1.out, h2, h3.up HK.out.size⟩, HK.out.weak.trans h4 (RowOn.refl _ _)⟩
    · have HF2 := hid (show R = .er 6 i by
        rw [← HF.out]
        unfold escR at h1
        cases hh : escAt l i with
        | none => rfl
        | some c' => rw [hh] at h1; cases h1)
      obtain ⟨⟨c0, c1, c2, c3, c4, c5⟩, _, _⟩ := blk6c h3
      have H3 := hid h3
      clear h1 h3
      go_wp2
      go_ret
      exact ⟨Or.inr ⟨6, i, 0, j, nv, ns, HF2.out, rfl, by decide, H3.out, HN.out.kp hk3, RowOn.refl _ _, by have := HSZ.out; omega, by omega, by omega⟩, hk3.weak⟩
  have e92 : ((x : Int) == 92) = false := by rw [beq_eq_false_iff_ne]; omega
  have HF := hid (show putR ⟨2, (x : Nat), 0, false, [], []⟩ (i + 1) ns = R by rw [← HP.out]; unfold atomP; rw [HX.out, if_neg h40, if_neg h91, if_neg h92, if_neg (by omega)])
  clear h40 h41 h91 h92 h46 h94 h36 htn h42 h43 h63 h123
  go_enter Tryz.func183, Tryz.ntmps183
  go_wp2_with fail
  refine CX.out.mono ?_
  rintro e w1 ⟨rfl, ⟨m1, rfl⟩⟩
  have CADD := hid (specPutAt ⟨2, (x : Int), 0, false, [], []⟩ _ (HC.out _ (Qt.one w m1)) (HM.out _ (Qt.one w m1)) (by have := HSZ.out; omega) (by dsimp only; omega) (by dsimp only; omega) (by dsimp only; omega) rd_noInts rd_noInts)
  dsimp only at CADD
  rw [hcast] at CADD
  go_wp2_with fail
  refine CADD.out.mono ?_
  rintro e w9 ⟨nv', rfl, h1, h2, h3, h4⟩
  have H1 := hid h1
  clear h1
  go_wp2
  go_ret
  exact ⟨Or.inl ⟨_, _, _, nv', HF.out.symm, rfl, by rw [hcast]; exact H1.out, h2, h3.up (by simp)⟩, ((((Qt.one w m1).kp).set 1 _).trans h4 (RowOn.refl _ _))⟩
end Go.Proofs.YtomcoilmpkpoeaaGreatDoor

namespace Go.Proofs.YtomcoilmpkpoeaaGreatDoor
open Go.RowKit
set_option linter.unusedVariables false
set_option linter.unusedSimpArgs false

def pieceS (l : List Nat) (grp : Nat → List RxNode → RR) (i : Nat) (ns : List RxNode) : RR := if gN l i = 41 then .er 2 i else pieceP l grp i ns
theorem pieceS_er {l : List Nat} {grp : Nat → List RxNode → RR} {i c p : Nat} {ns : List RxNode} (ha : atomS l grp i ns = .er c p) : pieceS l grp i ns = .er c p := by
  unfold pieceS
  unfold atomS at ha
  split at ha
  · rename_i h; rw [if_pos h]; exact ha
  · rename_i h
    rw [if_neg h]
    split at ha
    · rename_i h2; rw [pieceP_times h2]; exact ha
    · rename_i h2; exact pieceP_er (by simpa using h2) ha
theorem atomS_ok {l : List Nat} {grp : Nat → List RxNode → RR} {i kid j : Nat} {ns ns1 : List RxNode} (ha : atomS l grp i ns = .ok kid j ns1) : ¬ gN l i = 41 ∧ timesN (gN l i) = false ∧ atomP l grp i ns = .ok kid j ns1 := by
  unfold atomS at ha
  split at ha
  · cases ha
  · rename_i h
    split at ha
    · cases ha
    · rename_i h2; exact ⟨h, by simpa using h2, ha⟩
theorem pieceS_one {l : List Nat} {grp : Nat → List RxNode → RR} {i kid j : Nat} {ns ns1 : List RxNode} (ha : atomS l grp i ns = .ok kid j ns1) (hj : timesN (gN l j) = false) : pieceS l grp i ns = .ok kid j ns1 := by
  obtain ⟨h1, h2, h3⟩ := atomS_ok ha
  unfold pieceS; rw [if_neg h1]; exact pieceP_one h2 h3 hj
theorem pieceS_bad {l : List Nat} {grp : Nat → List RxNode → RR} {i kid j : Nat} {ns ns1 : List RxNode} (ha : atomS l grp i ns = .ok kid j ns1) (hj : timesN (gN l j) = true) (ht : timesAt l j = none) : pieceS l grp i ns = .er 5 j := by
  obtain ⟨h1, h2, h3⟩ := atomS_ok ha
  unfold pieceS; rw [if_neg h1]; exact pieceP_bad h2 h3 hj ht
theorem pieceS_rep {l : List Nat} {grp : Nat → List RxNode → RR} {i kid j k : Nat} {lo hi : Int} {ns ns1 : List RxNode} (ha : atomS l grp i ns = .ok kid j ns1) (hj : timesN (gN l j) = true) (ht : timesAt l j = some (lo, hi, k)) : pieceS l grp i ns = pieceQ l lo hi k kid ns1 := by
  obtain ⟨h1, h2, h3⟩ := atomS_ok ha
  unfold pieceS; rw [if_neg h1]; exact pieceP_rep h2 h3 hj ht
set_option maxHeartbeats 16000000 in
set_option maxRecDepth 100000 in
theorem specPiece {g cap d M : Nat} {a : Option Addr} {l : List Nat} {grp : Nat → List RxNode → RR} (hM : 5000 ≤ M) (HG : NodeCS 183 (atomS l grp) l.length M g cap d a l) (hfw : Fwd1 l (atomP l grp)) : NodeCS 148 (pieceS l grp) l.length M g cap d a l := by
  intro X w i nv ns hX hb hL hi hn hlen2
  have hlen := hL.len
  have hg : g < w.heap.size := (Array.getElem?_eq_some_iff.1 hb).1
  have CG := hid (HG X w i nv ns hX hb hL hi hn hlen2)
  have CX2 := hid (fun (w' : World) (j : Nat) (nv' : Value) (hk : Kp g nv.ownBlock w w') (hb' : w'.heap[g]? = some (.cells #[.slice a l.length cap, .int .i64 ((j : Nat) : Int), .int .i64 ((0 : Nat) : Int), .int .i64 ((0 : Nat) : Int), .int .i64 ((d : Nat) : Int), nv'] 87 (0, 0))) (hj : j ≤ 4000) => specPeek w' hb' (hL.kp hn hk hg) hj)
  have CT := hid (fun (w' : World) (j : Nat) (nv' : Value) (hk : Kp g nv.ownBlock w w') (hb' : w'.heap[g]? = some (.cells #[.slice a l.length cap, .int .i64 ((j : Nat) : Int), .int .i64 ((0 : Nat) : Int), .int .i64 ((0 : Nat) : Int), .int .i64 ((d : Nat) : Int), nv'] 87 (0, 0))) (hj : j < l.length) (ht : gN l j = 123) => specTimes w' hb' (hL.kp hn hk hg) hj ht)
  obtain ⟨R, hR⟩ : ∃ r, pieceS l grp i ns = r := ⟨_, rfl⟩
  rw [hR]
  have HR := hid hR
  have HSZ := hid hlen2
  have HX0 := hid hX
  have HFW := hid (hfw i ns)
  clear hb hR hn hL hlen2 hfw hX
  unfold NodeS at CG ⊢
  go_enter Tryz.func148, Tryz.ntmps148
  go_wp2_with fail
  refine CG.out.mono ?_
  rintro e w3 ⟨he, hk3⟩
  rcases he with ⟨kid, j, ns1, nv1, h1, rfl, h3, h4, h5⟩ | ⟨c, q, z, j, nv1, ns1, h1, rfl, h3, h4, h5, h6, h7, h8, h9⟩
  · have hfw := HFW.out kid j ns1 hi (atomS_ok h1).2.2
    have hsz := HSZ.out
    have H5 := hid h5
    have HK3 := hid hk3
    have H4 := hid h4
    have H3 := hid h3
    have HA := hid h1
    have CXJ := hid (CX2.out w3 j nv1 hk3 h3 (by omega))
    obtain ⟨⟨c0, c1, c2, c3, c4, c5⟩, ⟨y1, y2, y3, y4, y5⟩, hl3⟩ := blk6c h3
    clear h1 h3 h4 h5 hk3
    obtain ⟨y, hy⟩ : ∃ c, gN l j = c := ⟨_, rfl⟩
    rw [hy] at CXJ
    have HY := hid hy
    clear hy
    by_cases h42 : y = 42
    · subst h42
      have hjl := gN_lt (l := l) (i := j) (by rw [HY.out]; decide)
      have HF3 := hid (show R = pieceQ l (0) (-1) (j + 1) kid ns1 by rw [← HR.out]; exact pieceS_rep HA.out (by rw [HY.out]; rfl) (by unfold timesAt; rw [HY.out]; rfl))
      go_wp2_with fail
      refine CXJ.out.mono ?_
      rintro e w6 ⟨rfl, hq6⟩
      have hb6' := hq6.at H3.out
      have hk6m := HK3.out.trans hq6.kp H5.out
      have hn6m := H4.out.qt hq6
      have hin : j < j + 1 ∧ j + 1 ≤ l.length ∧ (-1 : Int) ≤ (0) ∧ ((0) : Int) ≤ 60 ∧ (-1 : Int) ≤ (-1) ∧ ((-1) : Int) ≤ 60 := by omega
      clear c0 c1 c2 c3 c4 c5 y1 y2 y3 y4 y5
      obtain ⟨⟨c0, c1, c2, c3, c4, c5⟩, ⟨y1, y2, y3, y4, y5⟩, hl6⟩ := blk6c hb6'
      have hwp : IntKind.i64.wrap ((j : Int) + 1) = (j : Int) + 1 := IntWalk.i64_in _ (by omega)
      have hcast : ((j + 1 : Nat) : Int) = (j : Int) + 1 := by omega
      have hb7 := blk6_set (o := 1) (.int .i64 ((j + 1 : Nat) : Int)) hb6'
      have hk7 := hk6m.set 1 (.int .i64 ((j + 1 : Nat) : Int))
      have hn7 := hn6m.kp ((Kp.refl g none w6).set 1 (.int .i64 ((j + 1 : Nat) : Int)))
      obtain ⟨w7, hw7⟩ : ∃ x, (w6).setCell ⟨g, 1, none⟩ (.int .i64 ((j + 1 : Nat) : Int)) = x := ⟨_, rfl⟩
      rw [hw7] at hb7 hk7 hn7
      have hl7 : g < w7.heap.size := (Array.getElem?_eq_some_iff.1 hb7).1
      have hb8 := ((ext_alloc w7 (.cells #[.int .i64 (kid : Int)] 3)).block g hl7).trans hb7
      have hn8 := hn7.kp ((Kp.refl g none w7).alloc (.cells #[.int .i64 (kid : Int)] 3))
      have hrd8 := rd_kid (S := Beside X g nv1.ownBlock (w7.alloc (.cells #[.int .i64 (kid : Int)] 3))) (w := w7) (e := 3) kid (by omega) ⟨hl7, by simp, fun e => by have := hn7.lt _ e; omega, fun h => by have := HX0.out _ h; have := hk7.size; omega⟩
      have CADD := hid (specPutAt ⟨9, (0), (-1), false, [], [(kid : Int)]⟩ _ hb8 hn8 (by omega) (by dsimp only; omega) (by dsimp only; omega) (by dsimp only; omega) rd_noInts hrd8)
      have HK8 := hid (hk7.alloc (.cells #[.int .i64 (kid : Int)] 3))
      dsimp only at CADD
      rw [← hw7, hcast] at CADD HK8
      rw [show ((w6).setCell ⟨g, 1, none⟩ (.int .i64 ((j : Int) + 1))).heap.size = (w6).heap.size by simp] at CADD
      have HWZ := hid (show (w6).heap.size = w6.heap.size by simp)
      clear hb6' hn6m hk6m hb7 hk7 hn7 hb8 hn8 hrd8 hl7 hw7
      try (rw [HWZ.out] at CADD)
      go_wp2_with fail
      refine CADD.out.mono ?_
      rintro e w9 ⟨nv2, rfl, h1, h2, h3, h4⟩
      have hro : RowOn w nv.ownBlock nv2.ownBlock := H5.out.trans h3 HK8.out.size
      have hk9 := HK8.out.trans h4 H5.out
      obtain ⟨z, hz⟩ : ∃ c, gN l (j + 1) = c := ⟨_, rfl⟩
      have CXK := hid (CX2.out w9 (j + 1) nv2 hk9 h1 (by omega))
      rw [hz] at CXK
      have HZ := hid hz
      have H1 := hid h1
      clear h1 hz
      go_wp2_with fail
      refine CXK.out.mono ?_
      rintro e w10 ⟨rfl, hq10⟩
      have hk11 := hk9.trans hq10.kp hro
      have hb10 := hq10.at H1.out
      have hn10 := h2.qt hq10
      clear c0 c1 c2 c3 c4 c5 y1 y2 y3 y4 y5
      obtain ⟨⟨c0, c1, c2, c3, c4, c5⟩, ⟨y1, y2, y3, y4, y5⟩, hl10⟩ := blk6c hb10
      have HB10 := hid hb10
      clear hb10
      by_cases z42 : z = 42
      · subst z42
        have HF4 := hid (show R = .er 5 (j + 1) by rw [HF3.out]; unfold pieceQ; rw [HZ.out, if_pos (by decide)])
        go_wp2_with fail
        refine (specFail (p := 0) 5 (j + 1) _ (by exact HB10.out)).mono ?_
        rintro e w12 ⟨rfl, f1, f2⟩
        have F1 := hid f1
        have hk12 := hk11.trans f2.weak hro
        clear f1
        go_wp2
        go_ret
        exact ⟨Or.inr ⟨5, j + 1, 0, j + 1, nv2, _, HF4.out, rfl, by decide, F1.out, hn10.kp f2, hro, by rw [List.length_append]; show ns1.length + 1 ≤ M; omega, by omega, by omega⟩, hk12⟩
      have g42 : ((z : Int) == 42) = false := by rw [beq_eq_false_iff_ne]; omega
      by_cases z43 : z = 43
      · subst z43
        have HF4 := hid (show R = .er 5 (j + 1) by rw [HF3.out]; unfold pieceQ; rw [HZ.out, if_pos (by decide)])
        go_wp2_with fail
        refine (specFail (p := 0) 5 (j + 1) _ (by exact HB10.out)).mono ?_
        rintro e w12 ⟨rfl, f1, f2⟩
        have F1 := hid f1
        have hk12 := hk11.trans f2.weak hro
        clear f1
        go_wp2
        go_ret
        exact ⟨Or.inr ⟨5, j + 1, 0, j + 1, nv2, _, HF4.out, rfl, by decide, F1.out, hn10.kp f2, hro, by rw [List.length_append]; show ns1.length + 1 ≤ M; omega, by omega, by omega⟩, hk12⟩
      have g43 : ((z : Int) == 43) = false := by rw [beq_eq_false_iff_ne]; omega
      by_cases z63 : z = 63
      · subst z63
        have HF4 := hid (show R = .er 5 (j + 1) by rw [HF3.out]; unfold pieceQ; rw [HZ.out, if_pos (by decide)])
        go_wp2_with fail
        refine (specFail (p := 0) 5 (j + 1) _ (by exact HB10.out)).mono ?_
        rintro e w12 ⟨rfl, f1, f2⟩
        have F1 := hid f1
        have hk12 := hk11.trans f2.weak hro
        clear f1
        go_wp2
        go_ret
        exact ⟨Or.inr ⟨5, j + 1, 0, j + 1, nv2, _, HF4.out, rfl, by decide, F1.out, hn10.kp f2, hro, by rw [List.length_append]; show ns1.length + 1 ≤ M; omega, by omega, by omega⟩, hk12⟩
      have g63 : ((z : Int) == 63) = false := by rw [beq_eq_false_iff_ne]; omega
      by_cases z123 : z = 123
      · subst z123
        have HF4 := hid (show R = .er 5 (j + 1) by rw [HF3.out]; unfold pieceQ; rw [HZ.out, if_pos (by decide)])
        go_wp2_with fail
        refine (specFail (p := 0) 5 (j + 1) _ (by exact HB10.out)).mono ?_
        rintro e w12 ⟨rfl, f1, f2⟩
        have F1 := hid f1
        have hk12 := hk11.trans f2.weak hro
        clear f1
        go_wp2
        go_ret
        exact ⟨Or.inr ⟨5, j + 1, 0, j + 1, nv2, _, HF4.out, rfl, by decide, F1.out, hn10.kp f2, hro, by rw [List.length_append]; show ns1.length + 1 ≤ M; omega, by omega, by omega⟩, hk12⟩
      have g123 : ((z : Int) == 123) = false := by rw [beq_eq_false_iff_ne]; omega
      have htz : timesN z = false := by unfold timesN; simp [z42, z43, z63, z123]
      have HF4 := hid (show R = putR ⟨9, (0), (-1), false, [], [(kid : Int)]⟩ (j + 1) ns1 by rw [HF3.out]; unfold pieceQ; rw [HZ.out, htz, if_neg (by decide)])
      clear htz z42 z43 z63 z123
      go_wp2
      go_ret
      exact ⟨Or.inl ⟨_, _, _, nv2, HF4.out, rfl, HB10.out, hn10, hro⟩, hk11⟩
    have e42 : ((y : Int) == 42) = false := by rw [beq_eq_false_iff_ne]; omega
    by_cases h43 : y = 43
    · subst h43
      have hjl := gN_lt (l := l) (i := j) (by rw [HY.out]; decide)
      have HF3 := hid (show R = pieceQ l (1) (-1) (j + 1) kid ns1 by rw [← HR.out]; exact pieceS_rep HA.out (by rw [HY.out]; rfl) (by unfold timesAt; rw [HY.out]; rfl))
      go_wp2_with fail
      refine CXJ.out.mono ?_
      rintro e w6 ⟨rfl, hq6⟩
      have hb6' := hq6.at H3.out
      have hk6m := HK3.out.trans hq6.kp H5.out
      have hn6m := H4.out.qt hq6
      have hin : j < j + 1 ∧ j + 1 ≤ l.length ∧ (-1 : Int) ≤ (1) ∧ ((1) : Int) ≤ 60 ∧ (-1 : Int) ≤ (-1) ∧ ((-1) : Int) ≤ 60 := by omega
      clear c0 c1 c2 c3 c4 c5 y1 y2 y3 y4 y5
      obtain ⟨⟨c0, c1, c2, c3, c4, c5⟩, ⟨y1, y2, y3, y4, y5⟩, hl6⟩ := blk6c hb6'
      have hwp : IntKind.i64.wrap ((j : Int) + 1) = (j : Int) + 1 := IntWalk.i64_in _ (by omega)
      have hcast : ((j + 1 : Nat) : Int) = (j : Int) + 1 := by omega
      have hb7 := blk6_set (o := 1) (.int .i64 ((j + 1 : Nat) : Int)) hb6'
      have hk7 := hk6m.set 1 (.int .i64 ((j + 1 : Nat) : Int))
      have hn7 := hn6m.kp ((Kp.refl g none w6).set 1 (.int .i64 ((j + 1 : Nat) : Int)))
      obtain ⟨w7, hw7⟩ : ∃ x, (w6).setCell ⟨g, 1, none⟩ (.int .i64 ((j + 1 : Nat) : Int)) = x := ⟨_, rfl⟩
      rw [hw7] at hb7 hk7 hn7
      have hl7 : g < w7.heap.size := (Array.getElem?_eq_some_iff.1 hb7).1
      have hb8 := ((ext_alloc w7 (.cells #[.int .i64 (kid : Int)] 3)).block g hl7).trans hb7
      have hn8 := hn7.kp ((Kp.refl g none w7).alloc (.cells #[.int .i64 (kid : Int)] 3))
      have hrd8 := rd_kid (S := Beside X g nv1.ownBlock (w7.alloc (.cells #[.int .i64 (kid : Int)] 3))) (w := w7) (e := 3) kid (by omega) ⟨hl7, by simp, fun e => by have := hn7.lt _ e; omega, fun h => by have := HX0.out _ h; have := hk7.size; omega⟩
      have CADD := hid (specPutAt ⟨9, (1), (-1), false, [], [(kid : Int)]⟩ _ hb8 hn8 (by omega) (by dsimp only; omega) (by dsimp only; omega) (by dsimp only; omega) rd_noInts hrd8)
      have HK8 := hid (hk7.alloc (.cells #[.int .i64 (kid : Int)] 3))
      dsimp only at CADD
      rw [← hw7, hcast] at CADD HK8
      rw [show ((w6).setCell ⟨g, 1, none⟩ (.int .i64 ((j : Int) + 1))).heap.size = (w6).heap.size by simp] at CADD
      have HWZ := hid (show (w6).heap.size = w6.heap.size by simp)
      clear hb6' hn6m hk6m hb7 hk7 hn7 hb8 hn8 hrd8 hl7 hw7
      try (rw [HWZ.out] at CADD)
      go_wp2_with fail
      refine CADD.out.mono ?_
      rintro e w9 ⟨nv2, rfl, h1, h2, h3, h4⟩
      have hro : RowOn w nv.ownBlock nv2.ownBlock := H5.out.trans h3 HK8.out.size
      have hk9 := HK8.out.trans h4 H5.out
      obtain ⟨z, hz⟩ : ∃ c, gN l (j + 1) = c := ⟨_, rfl⟩
      have CXK := hid (CX2.out w9 (j + 1) nv2 hk9 h1 (by omega))
      rw [hz] at CXK
      have HZ := hid hz
      have H1 := hid h1
      clear h1 hz
      go_wp2_with fail
      refine CXK.out.mono ?_
      rintro e w10 ⟨rfl, hq10⟩
      have hk11 := hk9.trans hq10.kp hro
      have hb10 := hq10.at H1.out
      have hn10 := h2.qt hq10
      clear c0 c1 c2 c3 c4 c5 y1 y2 y3 y4 y5
      obtain ⟨⟨c0, c1, c2, c3, c4, c5⟩, ⟨y1, y2, y3, y4, y5⟩, hl10⟩ := blk6c hb10
      have HB10 := hid hb10
      clear hb10
      by_cases z42 : z = 42
      · subst z42
        have HF4 := hid (show R = .er 5 (j + 1) by rw [HF3.out]; unfold pieceQ; rw [HZ.out, if_pos (by decide)])
        go_wp2_with fail
        refine (specFail (p := 0) 5 (j + 1) _ (by exact HB10.out)).mono ?_
        rintro e w12 ⟨rfl, f1, f2⟩
        have F1 := hid f1
        have hk12 := hk11.trans f2.weak hro
        clear f1
        go_wp2
        go_ret
        exact ⟨Or.inr ⟨5, j + 1, 0, j + 1, nv2, _, HF4.out, rfl, by decide, F1.out, hn10.kp f2, hro, by rw [List.length_append]; show ns1.length + 1 ≤ M; omega, by omega, by omega⟩, hk12⟩
      have g42 : ((z : Int) == 42) = false := by rw [beq_eq_false_iff_ne]; omega
      by_cases z43 : z = 43
      · subst z43
        have HF4 := hid (show R = .er 5 (j + 1) by rw [HF3.out]; unfold pieceQ; rw [HZ.out, if_pos (by decide)])
        go_wp2_with fail
        refine (specFail (p := 0) 5 (j + 1) _ (by exact HB10.out)).mono ?_
        rintro e w12 ⟨rfl, f1, f2⟩
        have F1 := hid f1
        have hk12 := hk11.trans f2.weak hro
        clear f1
        go_wp2
        go_ret
        exact ⟨Or.inr ⟨5, j + 1, 0, j + 1, nv2, _, HF4.out, rfl, by decide, F1.out, hn10.kp f2, hro, by rw [List.length_append]; show ns1.length + 1 ≤ M; omega, by omega, by omega⟩, hk12⟩
      have g43 : ((z : Int) == 43) = false := by rw [beq_eq_false_iff_ne]; omega
      by_cases z63 : z = 63
      · subst z63
        have HF4 := hid (show R = .er 5 (j + 1) by rw [HF3.out]; unfold pieceQ; rw [HZ.out, if_pos (by decide)])
        go_wp2_with fail
        refine (specFail (p := 0) 5 (j + 1) _ (by exact HB10.out)).mono ?_
        rintro e w12 ⟨rfl, f1, f2⟩
        have F1 := hid f1
        have hk12 := hk11.trans f2.weak hro
        clear f1
        go_wp2
        go_ret
        exact ⟨Or.inr ⟨5, j + 1, 0, j + 1, nv2, _, HF4.out, rfl, by decide, F1.out, hn10.kp f2, hro, by rw [List.length_append]; show ns1.length + 1 ≤ M; omega, by omega, by omega⟩, hk12⟩
      have g63 : ((z : Int) == 63) = false := by rw [beq_eq_false_iff_ne]; omega
      by_cases z123 : z = 123
      · subst z123
        have HF4 := hid (show R = .er 5 (j + 1) by rw [HF3.out]; unfold pieceQ; rw [HZ.out, if_pos (by decide)])
        go_wp2_with fail
        refine (specFail (p := 0) 5 (j + 1) _ (by exact HB10.out)).mono ?_
        rintro e w12 ⟨rfl, f1, f2⟩
        have F1 := hid f1
        have hk12 := hk11.trans f2.weak hro
        clear f1
        go_wp2
        go_ret
        exact ⟨Or.inr ⟨5, j + 1, 0, j + 1, nv2, _, HF4.out, rfl, by decide, F1.out, hn10.kp f2, hro, by rw [List.length_append]; show ns1.length + 1 ≤ M; omega, by omega, by omega⟩, hk12⟩
      have g123 : ((z : Int) == 123) = false := by rw [beq_eq_false_iff_ne]; omega
      have htz : timesN z = false := by unfold timesN; simp [z42, z43, z63, z123]
      have HF4 := hid (show R = putR ⟨9, (1), (-1), false, [], [(kid : Int)]⟩ (j + 1) ns1 by rw [HF3.out]; unfold pieceQ; rw [HZ.out, htz, if_neg (by decide)])
      clear htz z42 z43 z63 z123
      go_wp2
      go_ret
      exact ⟨Or.inl ⟨_, _, _, nv2, HF4.out, rfl, HB10.out, hn10, hro⟩, hk11⟩
    have e43 : ((y : Int) == 43) = false := by rw [beq_eq_false_iff_ne]; omega
    by_cases h63 : y = 63
    · subst h63
      have hjl := gN_lt (l := l) (i := j) (by rw [HY.out]; decide)
      have HF3 := hid (show R = pieceQ l (0) (1) (j + 1) kid ns1 by rw [← HR.out]; exact pieceS_rep HA.out (by rw [HY.out]; rfl) (by unfold timesAt; rw [HY.out]; rfl))
      go_wp2_with fail
      refine CXJ.out.mono ?_
      rintro e w6 ⟨rfl, hq6⟩
      have hb6' := hq6.at H3.out
      have hk6m := HK3.out.trans hq6.kp H5.out
      have hn6m := H4.out.qt hq6
      have hin : j < j + 1 ∧ j + 1 ≤ l.length ∧ (-1 : Int) ≤ (0) ∧ ((0) : Int) ≤ 60 ∧ (-1 : Int) ≤ (1) ∧ ((1) : Int) ≤ 60 := by omega
      clear c0 c1 c2 c3 c4 c5 y1 y2 y3 y4 y5
      obtain ⟨⟨c0, c1, c2, c3, c4, c5⟩, ⟨y1, y2, y3, y4, y5⟩, hl6⟩ := blk6c hb6'
      have hwp : IntKind.i64.wrap ((j : Int) + 1) = (j : Int) + 1 := IntWalk.i64_in _ (by omega)
      have hcast : ((j + 1 : Nat) : Int) = (j : Int) + 1 := by omega
      have hb7 := blk6_set (o := 1) (.int .i64 ((j + 1 : Nat) : Int)) hb6'
      have hk7 := hk6m.set 1 (.int .i64 ((j + 1 : Nat) : Int))
      have hn7 := hn6m.kp ((Kp.refl g none w6).set 1 (.int .i64 ((j + 1 : Nat) : Int)))
      obtain ⟨w7, hw7⟩ : ∃ x, (w6).setCell ⟨g, 1, none⟩ (.int .i64 ((j + 1 : Nat) : Int)) = x := ⟨_, rfl⟩
      rw [hw7] at hb7 hk7 hn7
      have hl7 : g < w7.heap.size := (Array.getElem?_eq_some_iff.1 hb7).1
      have hb8 := ((ext_alloc w7 (.cells #[.int .i64 (kid : Int)] 3)).block g hl7).trans hb7
      have hn8 := hn7.kp ((Kp.refl g none w7).alloc (.cells #[.int .i64 (kid : Int)] 3))
      have hrd8 := rd_kid (S := Beside X g nv1.ownBlock (w7.alloc (.cells #[.int .i64 (kid : Int)] 3))) (w := w7) (e := 3) kid (by omega) ⟨hl7, by simp, fun e => by have := hn7.lt _ e; omega, fun h => by have := HX0.out _ h; have := hk7.size; omega⟩
      have CADD := hid (specPutAt ⟨9, (0), (1), false, [], [(kid : Int)]⟩ _ hb8 hn8 (by omega) (by dsimp only; omega) (by dsimp only; omega) (by dsimp only; omega) rd_noInts hrd8)
      have HK8 := hid (hk7.alloc (.cells #[.int .i64 (kid : Int)] 3))
      dsimp only at CADD
      rw [← hw7, hcast] at CADD HK8
      rw [show ((w6).setCell ⟨g, 1, none⟩ (.int .i64 ((j : Int) + 1))).heap.size = (w6).heap.size by simp] at CADD
      have HWZ := hid (show (w6).heap.size = w6.heap.size by simp)
      clear hb6' hn6m hk6m hb7 hk7 hn7 hb8 hn8 hrd8 hl7 hw7
      try (rw [HWZ.out] at CADD)
      go_wp2_with fail
      refine CADD.out.mono ?_
      rintro e w9 ⟨nv2, rfl, h1, h2, h3, h4⟩
      have hro : RowOn w nv.ownBlock nv2.ownBlock := H5.out.trans h3 HK8.out.size
      have hk9 := HK8.out.trans h4 H5.out
      obtain ⟨z, hz⟩ : ∃ c, gN l (j + 1) = c := ⟨_, rfl⟩
      have CXK := hid (CX2.out w9 (j + 1) nv2 hk9 h1 (by omega))
      rw [hz] at CXK
      have HZ := hid hz
      have H1 := hid h1
      clear h1 hz
      go_wp2_with fail
      refine CXK.out.mono ?_
      rintro e w10 ⟨rfl, hq10⟩
      have hk11 := hk9.trans hq10.kp hro
      have hb10 := hq10.at H1.out
      have hn10 := h2.qt hq10
      clear c0 c1 c2 c3 c4 c5 y1 y2 y3 y4 y5
      obtain ⟨⟨c0, c1, c2, c3, c4, c5⟩, ⟨y1, y2, y3, y4, y5⟩, hl10⟩ := blk6c hb10
      have HB10 := hid hb10
      clear hb10
      by_cases z42 : z = 42
      · subst z42
        have HF4 := hid (show R = .er 5 (j + 1) by rw [HF3.out]; unfold pieceQ; rw [HZ.out, if_pos (by decide)])
        go_wp2_with fail
        refine (specFail (p := 0) 5 (j + 1) _ (by exact HB10.out)).mono ?_
        rintro e w12 ⟨rfl, f1, f2⟩
        have F1 := hid f1
        have hk12 := hk11.trans f2.weak hro
        clear f1
        go_wp2
        go_ret
        exact ⟨Or.inr ⟨5, j + 1, 0, j + 1, nv2, _, HF4.out, rfl, by decide, F1.out, hn10.kp f2, hro, by rw [List.length_append]; show ns1.length + 1 ≤ M; omega, by omega, by omega⟩, hk12⟩
      have g42 : ((z : Int) == 42) = false := by rw [beq_eq_false_iff_ne]; omega
      by_cases z43 : z = 43
      · subst z43
        have HF4 := hid (show R = .er 5 (j + 1) by rw [HF3.out]; unfold pieceQ; rw [HZ.out, if_pos (by decide)])
        go_wp2_with fail
        refine (specFail (p := 0) 5 (j + 1) _ (by exact HB10.out)).mono ?_
        rintro e w12 ⟨rfl, f1, f2⟩
        have F1 := hid f1
        have hk12 := hk11.trans f2.weak hro
        clear f1
        go_wp2
        go_ret
        exact ⟨Or.inr ⟨5, j + 1, 0, j + 1, nv2, _, HF4.out, rfl, by decide, F1.out, hn10.kp f2, hro, by rw [List.length_append]; show ns1.length + 1 ≤ M; omega, by omega, by omega⟩, hk12⟩
      have g43 : ((z : Int) == 43) = false := by rw [beq_eq_false_iff_ne]; omega
      by_cases z63 : z = 63
      · subst z63
        have HF4 := hid (show R = .er 5 (j + 1) by rw [HF3.out]; unfold pieceQ; rw [HZ.out, if_pos (by decide)])
        go_wp2_with fail
        refine (specFail (p := 0) 5 (j + 1) _ (by exact HB10.out)).mono ?_
        rintro e w12 ⟨rfl, f1, f2⟩
        have F1 := hid f1
        have hk12 := hk11.trans f2.weak hro
        clear f1
        go_wp2
        go_ret
        exact ⟨Or.inr ⟨5, j + 1, 0, j + 1, nv2, _, HF4.out, rfl, by decide, F1.out, hn10.kp f2, hro, by rw [List.length_append]; show ns1.length + 1 ≤ M; omega, by omega, by omega⟩, hk12⟩
      have g63 : ((z : Int) == 63) = false := by rw [beq_eq_false_iff_ne]; omega
      by_cases z123 : z = 123
      · subst z123
        have HF4 := hid (show R = .er 5 (j + 1) by rw [HF3.out]; unfold pieceQ; rw [HZ.out, if_pos (by decide)])
        go_wp2_with fail
        refine (specFail (p := 0) 5 (j + 1) _ (by exact HB10.out)).mono ?_
        rintro e w12 ⟨rfl, f1, f2⟩
        have F1 := hid f1
        have hk12 := hk11.trans f2.weak hro
        clear f1
        go_wp2
        go_ret
        exact ⟨Or.inr ⟨5, j + 1, 0, j + 1, nv2, _, HF4.out, rfl, by decide, F1.out, hn10.kp f2, hro, by rw [List.length_append]; show ns1.length + 1 ≤ M; omega, by omega, by omega⟩, hk12⟩
      have g123 : ((z : Int) == 123) = false := by rw [beq_eq_false_iff_ne]; omega
      have htz : timesN z = false := by unfold timesN; simp [z42, z43, z63, z123]
      have HF4 := hid (show R = putR ⟨9, (0), (1), false, [], [(kid : Int)]⟩ (j + 1) ns1 by rw [HF3.out]; unfold pieceQ; rw [HZ.out, htz, if_neg (by decide)])
      clear htz z42 z43 z63 z123
      go_wp2
      go_ret
      exact ⟨Or.inl ⟨_, _, _, nv2, HF4.out, rfl, HB10.out, hn10, hro⟩, hk11⟩
    have e63 : ((y : Int) == 63) = false := by rw [beq_eq_false_iff_ne]; omega
    by_cases h123 : y = 123
    · subst h123
      have hjl := gN_lt (l := l) (i := j) (by rw [HY.out]; decide)
      go_wp2_with fail
      refine CXJ.out.mono ?_
      rintro e w5 ⟨rfl, hq5⟩
      have hk5 := HK3.out.trans hq5.kp H5.out
      have CTJ := hid (CT.out w5 j nv1 hk5 (hq5.at H3.out) hjl HY.out)
      unfold TimesS at CTJ
      go_wp2_with fail
      refine CTJ.out.mono ?_
      rintro e w6 ⟨he, hk6⟩
      have hk6' := hk5.trans hk6.weak H5.out
      have hn6 := (H4.out.qt hq5).kp hk6
      rcases he with ⟨lo, hi2, k, h1, rfl, h3⟩ | ⟨k, h1, rfl, h2, h3⟩
      · have hin := timesAt_in h1
        have HF3 := hid (show R = pieceQ l lo hi2 k kid ns1 by rw [← HR.out]; exact pieceS_rep HA.out (by rw [HY.out]; rfl) h1)
        obtain ⟨k1, hkk⟩ : ∃ x, k = x + 1 := ⟨k - 1, by omega⟩
        subst hkk
        have hwm : IntKind.i64.wrap (((k1 + 1 : Nat) : Int) - 1) = (k1 : Int) := by rw [IntWalk.i64_in _ (by omega)]; omega
        have hwm2 : IntKind.i64.wrap ((k1 : Int) + 1 - 1) = (k1 : Int) := by rw [IntWalk.i64_in _ (by omega)]; omega
        have hb6' := blk6_set (o := 1) (.int .i64 ((k1 : Nat) : Int)) h3
        have hk6m := hk6'.set 1 (.int .i64 ((k1 : Nat) : Int))
        have hn6m := hn6.kp ((Kp.refl g none w6).set 1 (.int .i64 ((k1 : Nat) : Int)))
        clear c0 c1 c2 c3 c4 c5 y1 y2 y3 y4 y5
        obtain ⟨⟨c0, c1, c2, c3, c4, c5⟩, ⟨y1, y2, y3, y4, y5⟩, hl6⟩ := blk6c h3
        clear h1 h3
        have hwp : IntKind.i64.wrap ((k1 : Int) + 1) = (k1 : Int) + 1 := IntWalk.i64_in _ (by omega)
        have hcast : ((k1 + 1 : Nat) : Int) = (k1 : Int) + 1 := by omega
        have hb7 := blk6_set (o := 1) (.int .i64 ((k1 + 1 : Nat) : Int)) hb6'
        have hk7 := hk6m.set 1 (.int .i64 ((k1 + 1 : Nat) : Int))
        have hn7 := hn6m.kp ((Kp.refl g none (w6.setCell ⟨g, 1, none⟩ (.int .i64 ((k1 : Nat) : Int)))).set 1 (.int .i64 ((k1 + 1 : Nat) : Int)))
        obtain ⟨w7, hw7⟩ : ∃ x, ((w6.setCell ⟨g, 1, none⟩ (.int .i64 ((k1 : Nat) : Int)))).setCell ⟨g, 1, none⟩ (.int .i64 ((k1 + 1 : Nat) : Int)) = x := ⟨_, rfl⟩
        rw [hw7] at hb7 hk7 hn7
        have hl7 : g < w7.heap.size := (Array.getElem?_eq_some_iff.1 hb7).1
        have hb8 := ((ext_alloc w7 (.cells #[.int .i64 (kid : Int)] 3)).block g hl7).trans hb7
        have hn8 := hn7.kp ((Kp.refl g none w7).alloc (.cells #[.int .i64 (kid : Int)] 3))
        have hrd8 := rd_kid (S := Beside X g nv1.ownBlock (w7.alloc (.cells #[.int .i64 (kid : Int)] 3))) (w := w7) (e := 3) kid (by omega) ⟨hl7, by simp, fun e => by have := hn7.lt _ e; omega, fun h => by have := HX0.out _ h; have := hk7.size; omega⟩
        have CADD := hid (specPutAt ⟨9, lo, hi2, false, [], [(kid : Int)]⟩ _ hb8 hn8 (by omega) (by dsimp only; omega) (by dsimp only; omega) (by dsimp only; omega) rd_noInts hrd8)
        have HK8 := hid (hk7.alloc (.cells #[.int .i64 (kid : Int)] 3))
        dsimp only at CADD
        rw [← hw7, hcast] at CADD HK8
        rw [show (((w6.setCell ⟨g, 1, none⟩ (.int .i64 ((k1 : Nat) : Int)))).setCell ⟨g, 1, none⟩ (.int .i64 ((k1 : Int) + 1))).heap.size = ((w6.setCell ⟨g, 1, none⟩ (.int .i64 ((k1 : Nat) : Int)))).heap.size by simp] at CADD
        have HWZ := hid (show ((w6.setCell ⟨g, 1, none⟩ (.int .i64 ((k1 : Nat) : Int)))).heap.size = w6.heap.size by simp)
        clear hb6' hn6m hk6m hb7 hk7 hn7 hb8 hn8 hrd8 hl7 hw7
        try (rw [HWZ.out] at CADD)
        go_wp2_with fail
        refine CADD.out.mono ?_
        rintro e w9 ⟨nv2, rfl, h1, h2, h3, h4⟩
        have hro : RowOn w nv.ownBlock nv2.ownBlock := H5.out.trans h3 HK8.out.size
        have hk9 := HK8.out.trans h4 H5.out
        obtain ⟨z, hz⟩ : ∃ c, gN l (k1 + 1) = c := ⟨_, rfl⟩
        have CXK := hid (CX2.out w9 (k1 + 1) nv2 hk9 h1 (by omega))
        rw [hz] at CXK
        have HZ := hid hz
        have H1 := hid h1
        clear h1 hz
        go_wp2_with fail
        refine CXK.out.mono ?_
        rintro e w10 ⟨rfl, hq10⟩
        have hk11 := hk9.trans hq10.kp hro
        have hb10 := hq10.at H1.out
        have hn10 := h2.qt hq10
        clear c0 c1 c2 c3 c4 c5 y1 y2 y3 y4 y5
        obtain ⟨⟨c0, c1, c2, c3, c4, c5⟩, ⟨y1, y2, y3, y4, y5⟩, hl10⟩ := blk6c hb10
        have HB10 := hid hb10
        clear hb10
        by_cases z42 : z = 42
        · subst z42
          have HF4 := hid (show R = .er 5 (k1 + 1) by rw [HF3.out]; unfold pieceQ; rw [HZ.out, if_pos (by decide)])
          go_wp2_with fail
          refine (specFail (p := 0) 5 (k1 + 1) _ (by exact HB10.out)).mono ?_
          rintro e w12 ⟨rfl, f1, f2⟩
          have F1 := hid f1
          have hk12 := hk11.trans f2.weak hro
          clear f1
          go_wp2
          go_ret
          exact ⟨Or.inr ⟨5, k1 + 1, 0, k1 + 1, nv2, _, HF4.out, rfl, by decide, F1.out, hn10.kp f2, hro, by rw [List.length_append]; show ns1.length + 1 ≤ M; omega, by omega, by omega⟩, hk12⟩
        have g42 : ((z : Int) == 42) = false := by rw [beq_eq_false_iff_ne]; omega
        by_cases z43 : z = 43
        · subst z43
          have HF4 := hid (show R = .er 5 (k1 + 1) by rw [HF3.out]; unfold pieceQ; rw [HZ.out, if_pos (by decide)])
          go_wp2_with fail
          refine (specFail (p := 0) 5 (k1 + 1) _ (by exact HB10.out)).mono ?_
          rintro e w12 ⟨rfl, f1, f2⟩
          have F1 := hid f1
          have hk12 := hk11.trans f2.weak hro
          clear f1
          go_wp2
          go_ret
          exact ⟨Or.inr ⟨5, k1 + 1, 0, k1 + 1, nv2, _, HF4.out, rfl, by decide, F1.out, hn10.kp f2, hro, by rw [List.length_append]; show ns1.length + 1 ≤ M; omega, by omega, by omega⟩, hk12⟩
        have g43 : ((z : Int) == 43) = false := by rw [beq_eq_false_iff_ne]; omega
        by_cases z63 : z = 63
        · subst z63
          have HF4 := hid (show R = .er 5 (k1 + 1) by rw [HF3.out]; unfold pieceQ; rw [HZ.out, if_pos (by decide)])
          go_wp2_with fail
          refine (specFail (p := 0) 5 (k1 + 1) _ (by exact HB10.out)).mono ?_
          rintro e w12 ⟨rfl, f1, f2⟩
          have F1 := hid f1
          have hk12 := hk11.trans f2.weak hro
          clear f1
          go_wp2
          go_ret
          exact ⟨Or.inr ⟨5, k1 + 1, 0, k1 + 1, nv2, _, HF4.out, rfl, by decide, F1.out, hn10.kp f2, hro, by rw [List.length_append]; show ns1.length + 1 ≤ M; omega, by omega, by omega⟩, hk12⟩
        have g63 : ((z : Int) == 63) = false := by rw [beq_eq_false_iff_ne]; omega
        by_cases z123 : z = 123
        · subst z123
          have HF4 := hid (show R = .er 5 (k1 + 1) by rw [HF3.out]; unfold pieceQ; rw [HZ.out, if_pos (by decide)])
          go_wp2_with fail
          refine (specFail (p := 0) 5 (k1 + 1) _ (by exact HB10.out)).mono ?_
          rintro e w12 ⟨rfl, f1, f2⟩
          have F1 := hid f1
          have hk12 := hk11.trans f2.weak hro
          clear f1
          go_wp2
          go_ret
          exact ⟨Or.inr ⟨5, k1 + 1, 0, k1 + 1, nv2, _, HF4.out, rfl, by decide, F1.out, hn10.kp f2, hro, by rw [List.length_append]; show ns1.length + 1 ≤ M; omega, by omega, by omega⟩, hk12⟩
        have g123 : ((z : Int) == 123) = false := by rw [beq_eq_false_iff_ne]; omega
        have htz : timesN z = false := by unfold timesN; simp [z42, z43, z63, z123]
        have HF4 := hid (show R = putR ⟨9, lo, hi2, false, [], [(kid : Int)]⟩ (k1 + 1) ns1 by rw [HF3.out]; unfold pieceQ; rw [HZ.out, htz, if_neg (by decide)])
        clear htz z42 z43 z63 z123
        go_wp2
        go_ret
        exact ⟨Or.inl ⟨_, _, _, nv2, HF4.out, rfl, HB10.out, hn10, hro⟩, hk11⟩
      · have HF3 := hid (show R = .er 5 j by rw [← HR.out]; exact pieceS_bad HA.out (by rw [HY.out]; rfl) h1)
        have HB6 := hid h3
        clear h1 h3
        go_wp2_with fail
        refine (specFail (p := 0) 5 j _ (by exact HB6.out)).mono ?_
        rintro e w9 ⟨rfl, f1, f2⟩
        have F1 := hid f1
        have hk10 := hk6'.trans f2.weak H5.out
        clear f1
        go_wp2
        go_ret
        exact ⟨Or.inr ⟨5, j, 0, k, nv1, ns1, HF3.out, rfl, by decide, F1.out, hn6.kp f2, H5.out, by omega, by omega, by omega⟩, hk10⟩
    have e123 : ((y : Int) == 123) = false := by rw [beq_eq_false_iff_ne]; omega
    have htn : timesN y = false := by unfold timesN; simp [h42, h43, h63, h123]
    have HF3 := hid (show R = .ok kid j ns1 by rw [← HR.out]; exact pieceS_one HA.out (by rw [HY.out]; exact htn))
    clear htn h42 h43 h63 h123
    go_wp2_with fail
    refine CXJ.out.mono ?_
    rintro e w5 ⟨rfl, hq5⟩
    go_wp2
    go_ret
    exact ⟨Or.inl ⟨kid, j, ns1, nv1, HF3.out, rfl, hq5.at H3.out, H4.out.qt hq5, H5.out⟩, HK3.out.trans hq5.kp H5.out⟩
  · have HF2 := hid (show R = .er c q by rw [← HR.out]; exact pieceS_er h1)
    obtain ⟨⟨c0, c1, c2, c3, c4, c5⟩, _, _⟩ := blk6c h4
    have H4 := hid h4
    have hc1 : ((c : Int) == 0) = false := by rw [beq_eq_false_iff_ne]; omega
    have hc2 : ¬ (c : Int) = 0 := by omega
    have hc3 : ((c : Int) != 0) = true := by rw [bne_iff_ne]; omega
    clear h1 h4
    go_wp2
    go_ret
    exact ⟨Or.inr ⟨c, q, 0, j, nv1, ns1, HF2.out, rfl, h3, H4.out, h5, h6, h7, h8, by omega⟩, hk3⟩
end Go.Proofs.YtomcoilmpkpoeaaGreatDoor

namespace Go.Proofs.YtomcoilmpkpoeaaGreatDoor
open Go.RowKit
set_option linter.unusedVariables false
set_option linter.unusedSimpArgs false

theorem rowGoS_step {l : List Nat} {grp : Nat → List RxNode → RR} {top : Bool} {f i : Nat} {ns : List RxNode} {kids : List Nat} (h : ¬ (gN l i = 0 ∨ gN l i = 124 ∨ (gN l i = 41 ∧ top = false))) : rowGoS l grp top (f + 1) i ns kids = match pieceS l grp i ns with | .er c p => .er c p | .ok kid j ns1 => rowGoS l grp top f j ns1 (kids ++ [kid]) := by
  rw [rowGoS, if_neg h]
  unfold pieceS
  by_cases h41 : gN l i = 41
  · rw [if_pos h41, if_pos h41]
  · rw [if_neg h41, if_neg h41]
    cases pieceP l grp i ns <;> rfl
theorem rowGoS_stop {l : List Nat} {grp : Nat → List RxNode → RR} {top : Bool} {f i : Nat} {ns : List RxNode} {kids : List Nat} (h : gN l i = 0 ∨ gN l i = 124 ∨ (gN l i = 41 ∧ top = false)) : rowGoS l grp top (f + 1) i ns kids = endRow kids i ns := by
  rw [rowGoS, if_pos h]
theorem pieceS_in {l : List Nat} {grp : Nat → List RxNode → RR} (hg : Fwd1 l (pieceP l grp)) : Fwd1 l (pieceS l grp) := by
  intro i ns kid j ns1 hi h
  unfold pieceS at h
  split at h
  · cases h
  · exact hg i ns kid j ns1 hi h
theorem grown_none (w : World) : w.grownBy w none := ⟨rfl, rfl, rfl, Nat.le_refl _, fun _ _ _ => rfl⟩
def meaS (g : Nat) (w : World) : Nat := match w.cell? ⟨g, 2, none⟩ with | some (.int _ z) => if z = 0 then 5000 - atOf g w else 0 | _ => 0
theorem meaS_ok {g j : Nat} {w : World} (h : w.cell? ⟨g, 2, none⟩ = some (.int .i64 ((0 : Nat) : Int))) (h1 : w.cell? ⟨g, 1, none⟩ = some (.int .i64 ((j : Nat) : Int))) : meaS g w = 5000 - j := by
  unfold meaS
  rw [h, atOf_blk h1]
  rfl
theorem meaS_er {g c : Nat} {w : World} (h : w.cell? ⟨g, 2, none⟩ = some (.int .i64 ((c : Nat) : Int))) (hc : c ≠ 0) : meaS g w = 0 := by
  unfold meaS
  rw [h]
  simp only
  rw [if_neg (by omega)]
/-- nodes under way, and the row of their indices; or an error -/
def SeqS (X : Nat → Prop) (w wr : World) (g cap d : Nat) (a : Option Addr) (l : List Nat) (nv : Value) (i M : Nat) (F : Nat → Nat → List RxNode → List Nat → RR) (R : RR) (kv : Value) : Prop :=
  ∃ (nsj : List RxNode) (nvj : Value) (kids : List Nat) (j c q : Nat), wr.heap[g]? = some (.cells #[.slice a l.length cap, .int .i64 ((j : Nat) : Int), .int .i64 ((c : Nat) : Int), .int .i64 ((q : Nat) : Int), .int .i64 ((d : Nat) : Int), nvj] 87 (0, 0)) ∧ RxNs (fun b => X b ∨ kv.ownBlock = some b) g nvj wr nsj ∧ wr.ownsRow w.heap.size 3 1 kv kids.length (ints' (ints kids)) ∧ (∀ b, kv.ownBlock = some b → nvj.ownBlock ≠ some b)
    ∧ RowOn w nv.ownBlock nvj.ownBlock ∧ Kp g nv.ownBlock w wr ∧ j ≤ 4000 ∧ (∀ k ∈ kids, k ≤ 100000) ∧ kids.length ≤ 2000
    ∧ ((c = 0 ∧ q = 0 ∧ i ≤ j ∧ j ≤ l.length ∧ nsj.length ≤ 4 * j + 4 ∧ (∀ k ∈ kids, k < nsj.length) ∧ kids.length ≤ j ∧ ∃ f, l.length + 1 ≤ f + j ∧ F f j nsj kids = R) ∨ (c ≠ 0 ∧ R = .er c q ∧ 0 < kids.length ∧ nsj.length ≤ M))
set_option maxHeartbeats 16000000 in
set_option maxRecDepth 100000 in
theorem specRow {g cap d M : Nat} {a : Option Addr} {l : List Nat} {grp : Nat → List RxNode → RR} (hM : 5000 ≤ M) (hM9 : M ≤ 90000) (HP : NodeCS 148 (pieceS l grp) l.length M g cap d a l) (hfw : Fwd1 l (pieceP l grp)) (hd9 : d ≤ 6) : NodeCS 114 (rowS l grp (decide (d = 0))) (l.length + 1) (M + 1) g cap d a l := by
  intro X w i nv ns hX hb hL hi hn hlen2
  have hlen := hL.len
  have hg : g < w.heap.size := (Array.getElem?_eq_some_iff.1 hb).1
  have CX2 := hid (fun (w' : World) (j : Nat) (nv' : Value) (hk : Kp g nv.ownBlock w w') (hb' : w'.heap[g]? = some (.cells #[.slice a l.length cap, .int .i64 ((j : Nat) : Int), .int .i64 ((0 : Nat) : Int), .int .i64 ((0 : Nat) : Int), .int .i64 ((d : Nat) : Int), nv'] 87 (0, 0))) (hj : j ≤ 4000) => specPeek w' hb' (hL.kp hn hk hg) hj)
  have HLL := hid (fun (w' : World) (hk : Kp g nv.ownBlock w w') => hL.kp hn hk hg)
  have HPTS := hid hL.pts
  obtain ⟨R, hR⟩ : ∃ r, rowS l grp (decide (d = 0)) i ns = r := ⟨_, rfl⟩
  rw [hR]
  have HR := hid hR
  have HN := hid hn
  have HB := hid hb
  have HX := hid hX
  have HP := hid HP
  have HFW := hid (pieceS_in hfw)
  have HL := hid hlen2
  obtain ⟨ii, hii, hz0, hz1, hz2⟩ := info_parts info_int
  clear hb hR hn hL hlen2 hfw hX
  unfold NodeS
  go_enter Tryz.func114, Tryz.ntmps114
  go_wp2
  go_loopw [3] (fun kv wr => SeqS X w wr g cap d a l nv i M (rowGoS l grp (decide (d = 0))) R kv) (fun _ wr => meaS g wr)
  case atStart =>
    refine ⟨ns, nv, [], i, 0, 0, ((ext_alloc w _).block g hg).trans HB.out, (HN.out.grow (r := none) (grown_none w) (fun b e => by cases e) (fun b e => by cases e) (fun b hlt h => ?_)).kp ((Kp.refl g none w).alloc _), ⟨by simp [ints', ints], Or.inr ⟨w.heap.size, 0, #[], rfl, Nat.le_refl _, heap_alloc_new _ _, Nat.le_refl _, by decide, by simp, by simp [ints', ints]⟩⟩, ?_, RowOn.refl _ _, (Kp.refl _ _ _).alloc _, by omega, by simp, by simp, Or.inl ⟨rfl, rfl, Nat.le_refl _, by omega, HL.out, by simp, by simp, l.length + 1 - i, by omega, HR.out⟩⟩
    · rcases h with h | h
      · exact h
      · simp only [Value.ownBlock, Option.some.injEq] at h
        omega
    · intro b h e
      simp only [Value.ownBlock, Option.some.injEq] at h
      have := (HN.out.lt b e).2
      omega
  case round =>
    obtain ⟨nsj, nvj, kids, j, c, q, hbr, hns, hrow, hnk, hro, hkr, hj4, hk1, hk2, hmode⟩ := hrel
    obtain ⟨sa, sc, rfl⟩ := row_shape hrow
    obtain ⟨⟨c0, c1, c2, c3, c4, c5⟩, ⟨y1, y2, y3, y4, y5⟩, hgr⟩ := blk6c hbr
    have HBR := hid hbr
    have HNS := hid hns
    have HROW := hid hrow
    have HNK := hid hnk
    have HRO := hid hro
    have HKR := hid hkr
    have HK1 := hid hk1
    have hkp : ∀ x ∈ ints kids, ptI x := by
      intro x hx
      obtain ⟨k, hk, rfl⟩ := List.mem_map.1 hx
      have := hk1 k hk
      unfold ptI; omega
    have HKP := hid hkp
    have hws := hkr.size
    clear hns hrow hnk hro hk1 hkp
    rcases hmode with ⟨rfl, rfl, hij, hjl, hnl, hkl, hkj, f, hf, hgo⟩ | ⟨hc0, hRe, hkn, hnM⟩
    · obtain ⟨f, rfl⟩ : ∃ m, f = m + 1 := ⟨f - 1, by omega⟩
      have CXJ := hid (fun (w' : World) (hq : Qt wr w') => CX2.out w' j nvj (hkr.trans hq.kp HRO.out) (hq.at hbr) (by omega))
      have HKL := hid hkl
      obtain ⟨u, hu⟩ : ∃ c, gN l j = c := ⟨_, rfl⟩
      rw [hu] at CXJ
      have HU := hid hu
      have HGO := hid hgo
      clear hbr hkr hu hgo hkl
      go_wp2_with fail
      go_cut [39] from 5 to 44 (fun t wx => t = .bool (!(decide (u = 0) || decide (u = 124) || (decide (u = 41) && !decide (d = 0)))) ∧ Qt wr wx)
      case first =>
        as_aux_lemma =>
          have hdg : ((0 : Int) < (d : Int)) ↔ ¬ d = 0 := by omega
          by_cases hjlt : j < l.length
          · have hji : (j : Int) < (l.length : Int) := by omega
            have hu0 : ¬ u = 0 := by rw [← HU.out, gN_at hjlt]; have := (HPTS.out _ (List.getElem_mem hjlt)).1; omega
            by_cases h124 : u = 124
            · subst h124
              go_quiet (refine Calls.quiet_of (CXJ.out _ (Qt.one _ _)))
              go_wp2_with fail
              go_meet
              exact ⟨by simp, Qt.one _ _⟩
            have e124 : ((u : Int) == 124) = false := by rw [beq_eq_false_iff_ne]; omega
            have f124 : ¬ (u : Int) = 124 := by omega
            have n124 : ((u : Int) != 124) = true := by rw [bne_iff_ne]; omega
            by_cases h41 : u = 41
            · subst h41
              by_cases hd0 : d = 0
              · subst hd0
                go_quiet (refine Calls.quiet_of (CXJ.out _ (Qt.one _ _)))
                go_wp2_with fail
                go_meet
                exact ⟨by simp, Qt.one _ _⟩
              · have hdp : (0 : Int) < (d : Int) := by omega
                have hdn : 0 < d := by omega
                go_quiet (refine Calls.quiet_of (CXJ.out _ (Qt.one _ _)))
                go_wp2_with fail
                go_meet
                exact ⟨by simp [hd0, hdn], Qt.one _ _⟩
            have e41 : ((u : Int) == 41) = false := by rw [beq_eq_false_iff_ne]; omega
            go_quiet (refine Calls.quiet_of (CXJ.out _ (Qt.one _ _)))
            go_wp2_with fail
            go_meet
            exact ⟨by simp [hu0, h124, h41], Qt.one _ _⟩
          · have hji : ¬ (j : Int) < (l.length : Int) := by omega
            have hjd : decide ((j : Int) < (l.length : Int)) = false := decide_eq_false hji
            have hu0 : u = 0 := by rw [← HU.out]; exact gN_end (by omega)
            go_quiet (fail)
            go_wp2_with fail
            go_meet
            exact ⟨by simp [hu0], Qt.one _ _⟩
      case rest =>
      obtain ⟨rfl, ⟨m6, rfl⟩⟩ := hcut
      have hq6 := Qt.one wr m6
      by_cases hstop : u = 0 ∨ u = 124 ∨ (u = 41 ∧ decide (d = 0) = false)
      · have hb9 : (!(decide (u = 0) || decide (u = 124) || (decide (u = 41) && !decide (d = 0)))) = false := by
          rcases hstop with h | h | ⟨h, h2⟩
          · simp [h]
          · simp [h]
          · have : ¬ d = 0 := by simpa using h2
            simp [h, this]
        have HF := hid (show endRow kids j nsj = R by rw [← HGO.out, rowGoS_stop (by rw [HU.out]; exact hstop)])
        rw [hb9]
        clear hb9 hstop
        have HW : Qt wr (wr.drewN m6) := Qt.one _ _
        rcases kids with _ | ⟨k1, _ | ⟨k2, rest⟩⟩
        · simp only [List.length_nil] at *
          have CADD := hid (specPutAt (X := X) ⟨1, 0, 0, false, [], []⟩ _ (HW.at HBR.out) ((HNS.out.mono (fun b h => Or.inl h)).qt HW) (by omega) (by dsimp only; omega) (by dsimp only; omega) (by dsimp only; omega) rd_noInts rd_noInts)
          dsimp only at CADD
          go_wp2_with fail
          refine CADD.out.mono ?_
          rintro e w9 ⟨nv', rfl, h1, h2, h3, h4⟩
          have hkk := (HKR.out.trans HW.kp HRO.out).trans h4 HRO.out
          have hrr := HRO.out.trans (h3.up (w := wr) (by rw [HW.heap]; exact Nat.le_refl _)) hws
          have H1 := hid h1
          clear h1
          go_wp2
          go_ret
          exact ⟨Or.inl ⟨_, _, _, nv', HF.out.symm, rfl, H1.out, h2, hrr⟩, hkk⟩
        · simp only [List.length_cons, List.length_nil, Nat.zero_add] at *
          obtain ⟨b, rfl, hcb⟩ := row_one HROW.out
          go_wp2
          go_ret
          exact ⟨Or.inl ⟨k1, j, nsj, nvj, HF.out.symm, rfl, HW.at HBR.out, (HNS.out.mono (fun b h => Or.inl h)).qt HW, HRO.out⟩, HKR.out.trans HW.kp HRO.out⟩
        · simp only [List.length_cons] at *
          have q0 : (((rest.length : Int) + 1 + 1) == 0) = false := by rw [beq_eq_false_iff_ne]; omega
          have q1 : (((rest.length : Int) + 1 + 1) == 1) = false := by rw [beq_eq_false_iff_ne]; omega
          have q2 : ¬ ((rest.length : Int) + 1 + 1) = 0 := by omega
          have q3 : ¬ ((rest.length : Int) + 1 + 1) = 1 := by omega
          have q4 : ¬ ((rest.length : Int) + 1) = 0 := by omega
          have q5 : (((rest.length : Int) + 1) == 0) = false := by rw [beq_eq_false_iff_ne]; omega
          have hrk0 := rd_own_ints (S := Beside X g nvj.ownBlock wr) (by simpa [ints] using HROW.out) HKP.out (fun b hb h1 h2 => ⟨by omega, h2, HNK.out b hb, fun h => by have := HX.out b h; omega⟩)
          have hrk := Rd.same (fun b hb => by rw [HW.heap]) (Rd.mono (T := Beside X g nvj.ownBlock (wr.drewN m6)) (fun b hb => hb) hrk0)
          have CADD := hid (specPutAt (X := X) ⟨7, 0, 0, false, [], ints (k1 :: k2 :: rest)⟩ _ (HW.at HBR.out) ((HNS.out.mono (fun b h => Or.inl h)).qt HW) (by omega) (by dsimp only; omega) (by dsimp only; omega) (by dsimp only; omega) rd_noInts hrk)
          dsimp only at CADD
          go_wp2_with fail
          refine CADD.out.mono ?_
          rintro e w9 ⟨nv', rfl, h1, h2, h3, h4⟩
          have hkk := (HKR.out.trans HW.kp HRO.out).trans h4 HRO.out
          have hrr := HRO.out.trans (h3.up (w := wr) (by rw [HW.heap]; exact Nat.le_refl _)) hws
          have H1 := hid h1
          clear h1
          go_wp2
          go_ret
          exact ⟨Or.inl ⟨_, _, _, nv', HF.out.symm, rfl, H1.out, h2, hrr⟩, hkk⟩
      have hb9 : (!(decide (u = 0) || decide (u = 124) || (decide (u = 41) && !decide (d = 0)))) = true := by
        simp only [not_or, not_and] at hstop
        by_cases h41 : u = 41
        · have := hstop.2.2 h41
          simp only [decide_eq_false_iff_not, Decidable.not_not] at this
          simp [hstop.1, hstop.2.1, this]
        · simp [hstop.1, hstop.2.1, h41]
      have hjlt : j < l.length := gN_lt (by rw [HU.out]; exact fun h => hstop (Or.inl h))
      have HGO9 := hid (show (match pieceS l grp j nsj with | .er c p => .er c p | .ok kid k ns1 => rowGoS l grp (decide (d = 0)) f k ns1 (kids ++ [kid])) = R by rw [← HGO.out, rowGoS_step (by rw [HU.out]; exact hstop)])
      rw [hb9]
      clear hb9 hstop
      go_wp2_with fail
      refine (HP.out (fun b => X b ∨ (Value.slice sa kids.length sc).ownBlock = some b) (wr.drewN m6) j nvj nsj (fun b h => h.elim (fun h => by have := HX.out b h; exact Nat.lt_of_lt_of_le this hws) (fun h => (HROW.out.lt b h).2)) (hq6.at HBR.out) (HLL.out _ (HKR.out.trans hq6.kp HRO.out)) hjlt (HNS.out.qt hq6) hnl).mono ?_
      rintro e w3 ⟨he, hk3⟩
      have hk3 : Kp g nvj.ownBlock wr w3 := hq6.kp.trans hk3 (RowOn.refl _ _)
      have he := he.up (w := wr) (nv := nvj) (M' := M) (RowOn.refl _ _) (Nat.le_refl _) (Nat.le_refl _)
      rcases he with ⟨kid, k, ns2, nv2, h1, rfl, h3, h4, h5⟩ | ⟨c, p, kid, k, nv2, ns2, h1, rfl, hc0, h3, h4, h5, h7, h8, h9⟩
      · have hfw := HFW.out j nsj kid k ns2 hjlt h1
        have HGO2 := hid (show rowGoS l grp (decide (d = 0)) f k ns2 (kids ++ [kid]) = R by rw [← HGO9.out, h1])
        have hkb : kid ≤ 100000 := by omega
        have hro7 := HRO.out.trans h5 hws
        have hk7a := HKR.out.trans hk3 HRO.out
        have hne2 : ∀ b, (Value.slice sa kids.length sc).ownBlock = some b → nv2.ownBlock ≠ some b := fun b hb => h5.ne (HROW.out.lt b hb).2 (HNK.out b hb)
        have row3 := (row_kp HROW.out hk3 (by omega) (fun b hb => HNK.out b hb)).alloc (.cells #[.int .i64 (kid : Int)] 3)
        have hb8 := ((ext_alloc w3 (.cells #[.int .i64 (kid : Int)] 3)).block g (by have := hk3.size; omega)).trans h3
        have hn8 := h4.kp ((Kp.refl g none w3).alloc (.cells #[.int .i64 (kid : Int)] 3))
        have hk8 := hk7a.alloc (.cells #[.int .i64 (kid : Int)] 3)
        have hs3 := hk3.size
        have a1 : ([Value.int .i64 (kid : Int)] : List Value).length = 1 * 1 := rfl
        have a2 : ∀ u ∈ ([Value.int .i64 (kid : Int)] : List Value), u.oneCell' = true := by
          intro u hu
          simp only [List.mem_singleton] at hu
          subst hu
          rfl
        have a3 : kids.length + 1 ≤ maxLen := by unfold maxLen; omega
        have a4 : (kids.length + 1) * 8 ≤ 140737488355328 := by omega
        have a5 : w.heap.size ≤ (w3.alloc (.cells #[.int .i64 (kid : Int)] 3)).heap.size := by simp; omega
        have a6 := World.news_of_block (show (w3.alloc (.cells #[.int .i64 (kid : Int)] 3)).heap[w3.heap.size]? = some (.cells ([Value.int .i64 (kid : Int)] : List Value).toArray 3 (0, 0)) from heap_alloc_new _ _)
        have A := hid (And.intro a1 (And.intro a2 (And.intro a3 (And.intro a4 (And.intro a5 (And.intro a6 row3))))))
        have H358 := hid (And.intro hb8 (And.intro hn8 (And.intro hk8 hne2)))
        clear a1 a2 a3 a4 a5 a6 row3 hb8 hn8 hk8 hne2 h1 h3 h4 h5 hk7a
        go_wp2_with ((at_builtin; refine wpList_append_lies _ rfl (.tmp 40) (.tmp 43) 78 rfl w.heap.size 3 ii (.int .i64 0) 1 8 Tryz.underlying78 hii hz0 hz1 hz2 rfl (by decide) (.slice sa kids.length sc) kids.length (ints' (ints kids)) rfl A.out.2.2.2.2.2.2 ⟨w3.heap.size, 0, none⟩ 1 1 [.int .i64 (kid : Int)] rfl A.out.1 A.out.2.2.2.2.2.1 A.out.2.1 (by decide) A.out.2.2.1 A.out.2.2.2.1 A.out.2.2.2.2.1 _ rfl ?_))
        intro g6 cap6 w7 hown7 hgrow7 hat7 hlt7
        obtain ⟨hb8, hn8, hk8, hne2⟩ := H358.out
        have hng := fun b (e : some b = Value.ownBlock (.slice sa kids.length sc)) => (A.out.2.2.2.2.2.2.lt b e.symm).1
        have Hb7 := hid ((hgrow7.block g (by simp; omega) (fun e => by have := hng _ e; omega)).trans hb8)
        have HK7 := hid (hk8.grownNew hgrow7 (fun b e => hng b e.symm))
        have HO7 := hid hown7
        have HN7 := hid (hn8.grow (Y := fun b => X b ∨ (Value.slice (some ⟨g6, 0, none⟩) (kids.length + 1) cap6).ownBlock = some b) hgrow7 (fun b e => Or.inr e) (fun b e => hne2 b e) (fun b hlt hy => by
          rcases hy with hy | hy
          · exact Or.inl hy
          · right
            simp only [Value.ownBlock, Option.some.injEq] at hy
            subst hy
            rcases hat7 with h | h
            · exact h
            · exfalso; simp at hlt h; omega))
        have HNE7 := hid (show ∀ b, (Value.slice (some ⟨g6, 0, none⟩) (kids.length + 1) cap6).ownBlock = some b → nv2.ownBlock ≠ some b from fun b e => by
          simp only [Value.ownBlock, Option.some.injEq] at e
          subst e
          rcases hat7 with h | h
          · exact hne2 _ h
          · intro e2
            have h9 := (hn8.lt _ e2).2
            simp at h h9
            omega)
        have HKA := hid (show ∀ k ∈ kids ++ [kid], k ≤ 100000 from fun q hq => by
          rcases List.mem_append.1 hq with hq | hq
          · exact HK1.out q hq
          · rw [List.mem_singleton.1 hq]; exact hkb)
        have HKL7 := hid (show ∀ k ∈ kids ++ [kid], k < ns2.length from fun q hq => by
          rcases List.mem_append.1 hq with hq | hq
          · have := HKL.out q hq; omega
          · rw [List.mem_singleton.1 hq]; exact hfw.2.2.1)
        clear hb8 hn8 hk8 hne2 hown7 hgrow7 hng
        go_wp2
        go_roundw
        case rel => exact ⟨ns2, nv2, kids ++ [kid], k, 0, 0, Hb7.out, HN7.out, by rw [ints_ints, List.length_append]; exact HO7.out, HNE7.out, hro7, HK7.out, by omega, HKA.out, by rw [List.length_append]; show kids.length + 1 ≤ _; omega, Or.inl ⟨rfl, rfl, by omega, hfw.2.1, by omega, HKL7.out, by rw [List.length_append]; show kids.length + 1 ≤ k; omega, f, by omega, HGO2.out⟩⟩
        case measure =>
          rw [meaS_ok (blk6c Hb7.out).1.2.2.1 (blk6c Hb7.out).1.2.1, meaS_ok (blk6c HBR.out).1.2.2.1 (blk6c HBR.out).1.2.1]
          omega
      · have HRE := hid (show R = .er c p by rw [← HGO9.out, h1])
        have hkb : kid ≤ 100000 := h9
        have hro7 := HRO.out.trans h5 hws
        have hk7a := HKR.out.trans hk3 HRO.out
        have hne2 : ∀ b, (Value.slice sa kids.length sc).ownBlock = some b → nv2.ownBlock ≠ some b := fun b hb => h5.ne (HROW.out.lt b hb).2 (HNK.out b hb)
        have row3 := (row_kp HROW.out hk3 (by omega) (fun b hb => HNK.out b hb)).alloc (.cells #[.int .i64 (kid : Int)] 3)
        have hb8 := ((ext_alloc w3 (.cells #[.int .i64 (kid : Int)] 3)).block g (by have := hk3.size; omega)).trans h3
        have hn8 := h4.kp ((Kp.refl g none w3).alloc (.cells #[.int .i64 (kid : Int)] 3))
        have hk8 := hk7a.alloc (.cells #[.int .i64 (kid : Int)] 3)
        have hs3 := hk3.size
        have a1 : ([Value.int .i64 (kid : Int)] : List Value).length = 1 * 1 := rfl
        have a2 : ∀ u ∈ ([Value.int .i64 (kid : Int)] : List Value), u.oneCell' = true := by
          intro u hu
          simp only [List.mem_singleton] at hu
          subst hu
          rfl
        have a3 : kids.length + 1 ≤ maxLen := by unfold maxLen; omega
        have a4 : (kids.length + 1) * 8 ≤ 140737488355328 := by omega
        have a5 : w.heap.size ≤ (w3.alloc (.cells #[.int .i64 (kid : Int)] 3)).heap.size := by simp; omega
        have a6 := World.news_of_block (show (w3.alloc (.cells #[.int .i64 (kid : Int)] 3)).heap[w3.heap.size]? = some (.cells ([Value.int .i64 (kid : Int)] : List Value).toArray 3 (0, 0)) from heap_alloc_new _ _)
        have A := hid (And.intro a1 (And.intro a2 (And.intro a3 (And.intro a4 (And.intro a5 (And.intro a6 row3))))))
        have H358 := hid (And.intro hb8 (And.intro hn8 (And.intro hk8 hne2)))
        clear a1 a2 a3 a4 a5 a6 row3 hb8 hn8 hk8 hne2 h1 h3 h4 h5 hk7a
        go_wp2_with ((at_builtin; refine wpList_append_lies _ rfl (.tmp 40) (.tmp 43) 78 rfl w.heap.size 3 ii (.int .i64 0) 1 8 Tryz.underlying78 hii hz0 hz1 hz2 rfl (by decide) (.slice sa kids.length sc) kids.length (ints' (ints kids)) rfl A.out.2.2.2.2.2.2 ⟨w3.heap.size, 0, none⟩ 1 1 [.int .i64 (kid : Int)] rfl A.out.1 A.out.2.2.2.2.2.1 A.out.2.1 (by decide) A.out.2.2.1 A.out.2.2.2.1 A.out.2.2.2.2.1 _ rfl ?_))
        intro g6 cap6 w7 hown7 hgrow7 hat7 hlt7
        obtain ⟨hb8, hn8, hk8, hne2⟩ := H358.out
        have hng := fun b (e : some b = Value.ownBlock (.slice sa kids.length sc)) => (A.out.2.2.2.2.2.2.lt b e.symm).1
        have Hb7 := hid ((hgrow7.block g (by simp; omega) (fun e => by have := hng _ e; omega)).trans hb8)
        have HK7 := hid (hk8.grownNew hgrow7 (fun b e => hng b e.symm))
        have HO7 := hid hown7
        have HN7 := hid (hn8.grow (Y := fun b => X b ∨ (Value.slice (some ⟨g6, 0, none⟩) (kids.length + 1) cap6).ownBlock = some b) hgrow7 (fun b e => Or.inr e) (fun b e => hne2 b e) (fun b hlt hy => by
          rcases hy with hy | hy
          · exact Or.inl hy
          · right
            simp only [Value.ownBlock, Option.some.injEq] at hy
            subst hy
            rcases hat7 with h | h
            · exact h
            · exfalso; simp at hlt h; omega))
        have HNE7 := hid (show ∀ b, (Value.slice (some ⟨g6, 0, none⟩) (kids.length + 1) cap6).ownBlock = some b → nv2.ownBlock ≠ some b from fun b e => by
          simp only [Value.ownBlock, Option.some.injEq] at e
          subst e
          rcases hat7 with h | h
          · exact hne2 _ h
          · intro e2
            have h9 := (hn8.lt _ e2).2
            simp at h h9
            omega)
        have HKA := hid (show ∀ k ∈ kids ++ [kid], k ≤ 100000 from fun q hq => by
          rcases List.mem_append.1 hq with hq | hq
          · exact HK1.out q hq
          · rw [List.mem_singleton.1 hq]; exact hkb)
        skip
        clear hb8 hn8 hk8 hne2 hown7 hgrow7 hng
        go_wp2
        go_roundw
        case rel => exact ⟨ns2, nv2, kids ++ [kid], k, c, p, Hb7.out, HN7.out, by rw [ints_ints, List.length_append]; exact HO7.out, HNE7.out, hro7, HK7.out, h8, HKA.out, by rw [List.length_append]; show kids.length + 1 ≤ _; omega, Or.inr ⟨hc0, HRE.out, by rw [List.length_append]; show 0 < kids.length + 1; omega, h7⟩⟩
        case measure =>
          rw [meaS_er (blk6c Hb7.out).1.2.2.1 hc0, meaS_ok (blk6c HBR.out).1.2.2.1 (blk6c HBR.out).1.2.1]
          omega
    · have hz1 : ((c : Int) == 0) = false := by rw [beq_eq_false_iff_ne]; omega
      have hz2 : ¬ (c : Int) = 0 := by omega
      clear hbr hkr
      go_wp2_with fail
      go_quiet (fail)
      have HW : Qt wr (wr.drewN nq) := Qt.one _ _
      rcases kids with _ | ⟨k1, _ | ⟨k2, rest⟩⟩
      · exact absurd hkn (by simp)
      · simp only [List.length_cons, List.length_nil, Nat.zero_add] at *
        obtain ⟨b, rfl, hcb⟩ := row_one HROW.out
        go_wp2
        go_ret
        exact ⟨Or.inr ⟨c, q, k1, j, nvj, nsj, hRe, rfl, hc0, HW.at HBR.out, (HNS.out.mono (fun b h => Or.inl h)).qt HW, HRO.out, by omega, hj4, HK1.out k1 (by simp)⟩, HKR.out.trans HW.kp HRO.out⟩
      · simp only [List.length_cons] at *
        have q0 : (((rest.length : Int) + 1 + 1) == 0) = false := by rw [beq_eq_false_iff_ne]; omega
        have q1 : (((rest.length : Int) + 1 + 1) == 1) = false := by rw [beq_eq_false_iff_ne]; omega
        have q2 : ¬ ((rest.length : Int) + 1 + 1) = 0 := by omega
        have q3 : ¬ ((rest.length : Int) + 1 + 1) = 1 := by omega
        have q4 : ¬ ((rest.length : Int) + 1) = 0 := by omega
        have q5 : (((rest.length : Int) + 1) == 0) = false := by rw [beq_eq_false_iff_ne]; omega
        have hrk0 := rd_own_ints (S := Beside X g nvj.ownBlock wr) (by simpa [ints] using HROW.out) HKP.out (fun b hb h1 h2 => ⟨by omega, h2, HNK.out b hb, fun h => by have := HX.out b h; omega⟩)
        have hrk := Rd.same (fun b hb => by rw [HW.heap]) (Rd.mono (T := Beside X g nvj.ownBlock (wr.drewN nq)) (fun b hb => hb) hrk0)
        have CADD := hid (specPutAt (X := X) ⟨7, 0, 0, false, [], ints (k1 :: k2 :: rest)⟩ _ (HW.at HBR.out) ((HNS.out.mono (fun b h => Or.inl h)).qt HW) (by omega) (by dsimp only; omega) (by dsimp only; omega) (by dsimp only; omega) rd_noInts hrk)
        dsimp only at CADD
        go_wp2_with fail
        refine CADD.out.mono ?_
        rintro e w9 ⟨nv', rfl, h1, h2, h3, h4⟩
        have hkk := (HKR.out.trans HW.kp HRO.out).trans h4 HRO.out
        have hrr := HRO.out.trans (h3.up (w := wr) (by rw [HW.heap]; exact Nat.le_refl _)) hws
        have H1 := hid h1
        clear h1
        go_wp2
        go_ret
        exact ⟨Or.inr ⟨c, q, nsj.length, j, nv', _, hRe, rfl, hc0, H1.out, h2, hrr, by rw [List.length_append]; show nsj.length + 1 ≤ M + 1; omega, hj4, by omega⟩, hkk⟩
end Go.Proofs.YtomcoilmpkpoeaaGreatDoor

namespace Go.Proofs.YtomcoilmpkpoeaaGreatDoor
open Go.RowKit
set_option linter.unusedVariables false
set_option linter.unusedSimpArgs false

theorem NodeS.both {X : Nat → Prop} {w w' : World} {g cap d M : Nat} {a : Option Addr} {l : List Nat} {nv : Value} {r : RR} {e : Ending} (h : NodeS X w w' g cap d a l nv M r e) : ∃ (kid j c q : Nat) (nv' : Value) (ns' : List RxNode), e = .returned (.int .i64 ((kid : Nat) : Int)) ∧ w'.heap[g]? = some (.cells #[.slice a l.length cap, .int .i64 ((j : Nat) : Int), .int .i64 ((c : Nat) : Int), .int .i64 ((q : Nat) : Int), .int .i64 ((d : Nat) : Int), nv'] 87 (0, 0)) ∧ RxNs X g nv' w' ns' ∧ RowOn w nv.ownBlock nv'.ownBlock ∧ ((c = 0 ∧ q = 0 ∧ r = .ok kid j ns') ∨ (c ≠ 0 ∧ r = .er c q ∧ ns'.length ≤ M ∧ j ≤ 4000 ∧ kid ≤ 100000)) := by
  rcases h with ⟨kid, j, ns', nv', h1, h2, h3, h4, h5⟩ | ⟨c, q, x, j, nv', ns', h1, h2, h3, h4, h5, h6, h7, h8, h9⟩
  · exact ⟨kid, j, 0, 0, nv', ns', h2, h3, h4, h5, Or.inl ⟨rfl, rfl, h1⟩⟩
  · exact ⟨x, j, c, q, nv', ns', h2, h4, h5, h6, Or.inr ⟨h3, h1, h7, h8, h9⟩⟩
theorem rowS_in {l : List Nat} {grp : Nat → List RxNode → RR} {top : Bool} (hg : Fwd1 l grp) {i : Nat} {ns ns1 : List RxNode} {kid j : Nat} (hi : i ≤ l.length) (h : rowS l grp top i ns = .ok kid j ns1) :
    i ≤ j ∧ j ≤ l.length ∧ kid < ns1.length ∧ ns.length ≤ ns1.length ∧ ns1.length + 4 * i ≤ ns.length + 4 * j + 1 := by
  have hp : rowP l grp i ns = .ok kid j ns1 := by
    cases top with
    | false => rw [← rowS_inner]; exact h
    | true =>
      rw [rowS_top] at h
      unfold topS at h
      cases hr : rowP l grp i ns with
      | er c p => rw [hr] at h; cases h
      | ok kid1 j1 ns2 =>
        rw [hr] at h
        simp only at h
        split at h
        · cases h
        · exact h
  have := rowP_in hg hi hp
  exact ⟨this.1, this.2.1, this.2.2.1, this.2.2.2.1, this.2.2.2.2.1⟩
/-- what is left of alternatives behind one of them -/
def altN (l : List Nat) (grp : Nat → List RxNode → RR) (top : Bool) (f j : Nat) (ns : List RxNode) (kids : List Nat) : RR := if gN l j = 124 then altsGoS l grp top f (j + 1) ns kids else endAlt kids j ns
theorem altsGoS_er {l : List Nat} {grp : Nat → List RxNode → RR} {top : Bool} {f i c p : Nat} {ns : List RxNode} {kids : List Nat} (h : rowS l grp top i ns = .er c p) : altsGoS l grp top (f + 1) i ns kids = .er c p := by
  rw [altsGoS, h]
theorem altsGoS_ok {l : List Nat} {grp : Nat → List RxNode → RR} {top : Bool} {f i kid j : Nat} {ns ns1 : List RxNode} {kids : List Nat} (h : rowS l grp top i ns = .ok kid j ns1) : altsGoS l grp top (f + 1) i ns kids = altN l grp top f j ns1 (kids ++ [kid]) := by
  rw [altsGoS, h]; rfl
def AltI (X : Nat → Prop) (w wr : World) (g cap d : Nat) (a : Option Addr) (l : List Nat) (nv : Value) (i M : Nat) (F : Nat → Nat → List RxNode → List Nat → RR) (R : RR) (kv : Value) : Prop :=
  ∃ (nsj : List RxNode) (nvj : Value) (kids : List Nat) (j c q : Nat), wr.heap[g]? = some (.cells #[.slice a l.length cap, .int .i64 ((j : Nat) : Int), .int .i64 ((c : Nat) : Int), .int .i64 ((q : Nat) : Int), .int .i64 ((d : Nat) : Int), nvj] 87 (0, 0)) ∧ RxNs (fun b => X b ∨ kv.ownBlock = some b) g nvj wr nsj ∧ wr.ownsRow w.heap.size 3 1 kv kids.length (ints' (ints kids)) ∧ (∀ b, kv.ownBlock = some b → nvj.ownBlock ≠ some b)
    ∧ RowOn w nv.ownBlock nvj.ownBlock ∧ Kp g nv.ownBlock w wr ∧ j ≤ 4000 ∧ (∀ k ∈ kids, k ≤ 100000) ∧ kids.length ≤ 1990 ∧ 0 < kids.length
    ∧ ((c = 0 ∧ q = 0 ∧ i ≤ j ∧ j ≤ l.length ∧ nsj.length ≤ 4 * j + 5 ∧ kids.length ≤ j + 1 ∧ ∃ f, l.length ≤ f + j ∧ F f j nsj kids = R) ∨ (c ≠ 0 ∧ R = .er c q ∧ nsj.length ≤ M))
set_option maxHeartbeats 16000000 in
set_option maxRecDepth 100000 in
theorem specAlts {g cap d M : Nat} {a : Option Addr} {l : List Nat} {grp : Nat → List RxNode → RR} (hM : 5000 ≤ M) (hM9 : M ≤ 90000) (HP : NodeCS 114 (rowS l grp (decide (d = 0))) (l.length + 1) M g cap d a l) (hfw : Fwd1 l grp) : NodeCS 68 (altsS l grp (decide (d = 0))) (l.length + 1) (M + 1) g cap d a l := by
  intro X w i nv ns hX hb hL hi hn hlen2
  have hlen := hL.len
  have hg : g < w.heap.size := (Array.getElem?_eq_some_iff.1 hb).1
  have CX2 := hid (fun (w' : World) (j : Nat) (nv' : Value) (hk : Kp g nv.ownBlock w w') (hb' : w'.heap[g]? = some (.cells #[.slice a l.length cap, .int .i64 ((j : Nat) : Int), .int .i64 ((0 : Nat) : Int), .int .i64 ((0 : Nat) : Int), .int .i64 ((d : Nat) : Int), nv'] 87 (0, 0))) (hj : j ≤ 4000) => specPeek w' hb' (hL.kp hn hk hg) hj)
  have HLL := hid (fun (w' : World) (hk : Kp g nv.ownBlock w w') => hL.kp hn hk hg)
  have C0 := hid (HP X w i nv ns hX hb hL hi hn hlen2)
  obtain ⟨top, htop⟩ : ∃ b, decide (d = 0) = b := ⟨_, rfl⟩
  rw [htop] at HP C0 ⊢
  obtain ⟨R, hR⟩ : ∃ r, altsS l grp top i ns = r := ⟨_, rfl⟩
  rw [hR]
  have HR := hid (show altsGoS l grp top (l.length - i + 1) i ns [] = R by rw [← hR]; unfold altsS; rw [show l.length + 1 - i = l.length - i + 1 by omega])
  have HX := hid hX
  have HP := hid HP
  have HFW := hid hfw
  have hszn := hlen2
  obtain ⟨ii, hii, hz0, hz1, hz2⟩ := info_parts info_int
  clear hb hR hn hL hlen2 hfw hX htop
  unfold NodeS
  go_enter Tryz.func68, Tryz.ntmps68
  go_wp2_with fail
  refine C0.out.mono ?_
  rintro e w3 ⟨he, hk3⟩
  obtain ⟨kid, j0, c, q, nv2, ns2, rfl, h3, h4, h5, hm⟩ := he.both
  have hb3 := ((ext_alloc w3 (.cells #[.int .i64 (kid : Int)] 3)).block g (Nat.lt_of_lt_of_le hg hk3.size)).trans h3
  have hkd : kid ≤ 100000 ∧ j0 ≤ 4000 := by
    rcases hm with ⟨rfl, rfl, h⟩ | ⟨_, _, h7, h8, h9⟩
    · have := rowS_in HFW.out (by omega) h; omega
    · exact ⟨h9, h8⟩
  have HB3 := hid hb3
  have HN3 := hid ((h4.grow (Y := fun b => X b ∨ (Value.slice (some ⟨w3.heap.size, 0, none⟩) 1 1).ownBlock = some b) (r := none) (grown_none w3) (fun b e => by cases e) (fun b e => by cases e) (fun b hlt h => by
    rcases h with h | h
    · exact h
    · simp only [Value.ownBlock, Option.some.injEq] at h; omega)).kp ((Kp.refl g none w3).alloc (.cells #[.int .i64 (kid : Int)] 3)))
  have H4 := hid h4
  have H5 := hid h5
  have HM := hid hm
  have HK3 := hid hk3
  clear he hb3 h3 h4 h5 hm
  go_wp2
  go_loopw [3] (fun kv wr => AltI X w wr g cap d a l nv i M (altN l grp top) R kv) (fun _ wr => meaS g wr)
  case atStart =>
    refine ⟨ns2, nv2, [kid], j0, c, q, HB3.out, HN3.out, ⟨by simp [ints', ints], Or.inr ⟨w3.heap.size, 1, #[.int .i64 (kid : Int)], rfl, HK3.out.size, heap_alloc_new _ _, Nat.le_refl _, by decide, by simp, by simp [ints', ints]⟩⟩, ?_, H5.out, HK3.out.alloc _, hkd.2, by simp; exact hkd.1, by simp, by simp, ?_⟩
    · intro b h e
      simp only [Value.ownBlock, Option.some.injEq] at h
      have := (H4.out.lt b e).2
      omega
    · rcases HM.out with ⟨rfl, rfl, h⟩ | ⟨hc0, h, h7, h8, h9⟩
      · have hin := rowS_in HFW.out (by omega) h
        exact Or.inl ⟨rfl, rfl, hin.1, hin.2.1, by omega, by simp, l.length - i, by omega, by rw [← HR.out, altsGoS_ok h]; rfl⟩
      · exact Or.inr ⟨hc0, by rw [← HR.out, altsGoS_er h], h7⟩
  case round =>
    obtain ⟨nsj, nvj, kids, j, c, q, hbr, hns, hrow, hnk, hro, hkr, hj4, hk1, hk2, hkn, hmode⟩ := hrel
    obtain ⟨sa, sc, rfl⟩ := row_shape hrow
    obtain ⟨⟨c0, c1, c2, c3, c4, c5⟩, ⟨y1, y2, y3, y4, y5⟩, hgr⟩ := blk6c hbr
    have HBR := hid hbr
    have HNS := hid hns
    have HROW := hid hrow
    have HNK := hid hnk
    have HRO := hid hro
    have HKR := hid hkr
    have HK1 := hid hk1
    have hkp : ∀ x ∈ ints kids, ptI x := by
      intro x hx
      obtain ⟨k, hk, rfl⟩ := List.mem_map.1 hx
      have := hk1 k hk
      unfold ptI; omega
    have HKP := hid hkp
    have hws := hkr.size
    clear hns hrow hnk hro hk1 hkp
    rcases hmode with ⟨rfl, rfl, hij, hjl, hnl, hkj, f, hf, hgo⟩ | ⟨hc0, hRe, hnM⟩
    · have CXJ := hid (fun (w' : World) (hq : Qt wr w') => CX2.out w' j nvj (hkr.trans hq.kp HRO.out) (hq.at hbr) (by omega))
      obtain ⟨u, hu⟩ : ∃ c, gN l j = c := ⟨_, rfl⟩
      rw [hu] at CXJ
      unfold altN at hgo
      rw [hu] at hgo
      have HU := hid hu
      clear hbr hkr hu
      by_cases h124 : u = 124
      · subst h124
        have hjlt := gN_lt (l := l) (i := j) (by rw [HU.out]; decide)
        obtain ⟨f, rfl⟩ : ∃ m, f = m + 1 := ⟨f - 1, by omega⟩
        rw [if_pos rfl] at hgo
        have HGO := hid hgo
        clear hgo
        go_wp2_with fail
        refine (CXJ.out _ (Qt.refl _)).mono ?_
        rintro e wq ⟨rfl, hqq⟩
        have hbq := hqq.at HBR.out
        clear c0 c1 c2 c3 c4 c5 y1 y2 y3 y4 y5
        obtain ⟨⟨c0, c1, c2, c3, c4, c5⟩, ⟨y1, y2, y3, y4, y5⟩, hgq⟩ := blk6c hbq
        have hwq : IntKind.i64.wrap ((j : Int) + 1) = (j : Int) + 1 := IntWalk.i64_in _ (by omega)
        have hcj : ((j + 1 : Nat) : Int) = (j : Int) + 1 := by omega
        have hb9 := blk6_set (o := 1) (.int .i64 ((j + 1 : Nat) : Int)) hbq
        have hkq := (hqq.kp (g := g) (r := none)).set 1 (.int .i64 ((j + 1 : Nat) : Int))
        have CR := hid (HP.out (fun b => X b ∨ (Value.slice sa kids.length sc).ownBlock = some b) (wq.setCell ⟨g, 1, none⟩ (.int .i64 ((j + 1 : Nat) : Int))) (j + 1) nvj nsj (fun b h => by
          have h9 : b < wr.heap.size := h.elim (fun h => Nat.lt_of_lt_of_le (HX.out b h) hws) (fun h => (HROW.out.lt b h).2)
          exact Nat.lt_of_lt_of_le h9 hkq.size) hb9 (HLL.out _ (HKR.out.trans hkq.weak HRO.out)) (by omega) (HNS.out.kp hkq) (by omega))
        have HKQ := hid hkq
        rw [hcj] at CR HKQ
        clear hbq hb9 hkq
        go_wp2_with fail
        refine CR.out.mono ?_
        rintro e w3 ⟨he, hk3⟩
        have hk3 : Kp g nvj.ownBlock wr w3 := HKQ.out.weak.trans hk3 (RowOn.refl _ _)
        have he := he.up (w := wr) (nv := nvj) (M' := M) (RowOn.refl _ _) HKQ.out.size (Nat.le_refl _)
        obtain ⟨kid, k, c, p, nv2, ns2, rfl, h3, h4, h5, hm⟩ := he.both
        have h1 : True := trivial
        have hkd : kid ≤ 100000 ∧ k ≤ 4000 := by
          rcases hm with ⟨rfl, rfl, h⟩ | ⟨_, _, h7, h8, h9⟩
          · have := rowS_in HFW.out (by omega) h; omega
          · exact ⟨h9, h8⟩
        have hkb := hkd.1
        have HMM := hid hm
        clear he hm
        have hro7 := HRO.out.trans h5 hws
        have hk7a := HKR.out.trans hk3 HRO.out
        have hne2 : ∀ b, (Value.slice sa kids.length sc).ownBlock = some b → nv2.ownBlock ≠ some b := fun b hb => h5.ne (HROW.out.lt b hb).2 (HNK.out b hb)
        have row3 := (row_kp HROW.out hk3 (by omega) (fun b hb => HNK.out b hb)).alloc (.cells #[.int .i64 (kid : Int)] 3)
        have hb8 := ((ext_alloc w3 (.cells #[.int .i64 (kid : Int)] 3)).block g (by have := hk3.size; omega)).trans h3
        have hn8 := h4.kp ((Kp.refl g none w3).alloc (.cells #[.int .i64 (kid : Int)] 3))
        have hk8 := hk7a.alloc (.cells #[.int .i64 (kid : Int)] 3)
        have hs3 := hk3.size
        have a1 : ([Value.int .i64 (kid : Int)] : List Value).length = 1 * 1 := rfl
        have a2 : ∀ u ∈ ([Value.int .i64 (kid : Int)] : List Value), u.oneCell' = true := by
          intro u hu
          simp only [List.mem_singleton] at hu
          subst hu
          rfl
        have a3 : kids.length + 1 ≤ maxLen := by unfold maxLen; omega
        have a4 : (kids.length + 1) * 8 ≤ 140737488355328 := by omega
        have a5 : w.heap.size ≤ (w3.alloc (.cells #[.int .i64 (kid : Int)] 3)).heap.size := by simp; omega
        have a6 := World.news_of_block (show (w3.alloc (.cells #[.int .i64 (kid : Int)] 3)).heap[w3.heap.size]? = some (.cells ([Value.int .i64 (kid : Int)] : List Value).toArray 3 (0, 0)) from heap_alloc_new _ _)
        have A := hid (And.intro a1 (And.intro a2 (And.intro a3 (And.intro a4 (And.intro a5 (And.intro a6 row3))))))
        have H358 := hid (And.intro hb8 (And.intro hn8 (And.intro hk8 hne2)))
        clear a1 a2 a3 a4 a5 a6 row3 hb8 hn8 hk8 hne2 h1 h3 h4 h5 hk7a
        go_wp2_with ((at_builtin; refine wpList_append_lies _ rfl (.tmp 24) (.tmp 27) 78 rfl w.heap.size 3 ii (.int .i64 0) 1 8 Tryz.underlying78 hii hz0 hz1 hz2 rfl (by decide) (.slice sa kids.length sc) kids.length (ints' (ints kids)) rfl A.out.2.2.2.2.2.2 ⟨w3.heap.size, 0, none⟩ 1 1 [.int .i64 (kid : Int)] rfl A.out.1 A.out.2.2.2.2.2.1 A.out.2.1 (by decide) A.out.2.2.1 A.out.2.2.2.1 A.out.2.2.2.2.1 _ rfl ?_))
        intro g6 cap6 w7 hown7 hgrow7 hat7 hlt7
        obtain ⟨hb8, hn8, hk8, hne2⟩ := H358.out
        have hng := fun b (e : some b = Value.ownBlock (.slice sa kids.length sc)) => (A.out.2.2.2.2.2.2.lt b e.symm).1
        have Hb7 := hid ((hgrow7.block g (by simp; omega) (fun e => by have := hng _ e; omega)).trans hb8)
        have HK7 := hid (hk8.grownNew hgrow7 (fun b e => hng b e.symm))
        have HO7 := hid hown7
        have HN7 := hid (hn8.grow (Y := fun b => X b ∨ (Value.slice (some ⟨g6, 0, none⟩) (kids.length + 1) cap6).ownBlock = some b) hgrow7 (fun b e => Or.inr e) (fun b e => hne2 b e) (fun b hlt hy => by
          rcases hy with hy | hy
          · exact Or.inl hy
          · right
            simp only [Value.ownBlock, Option.some.injEq] at hy
            subst hy
            rcases hat7 with h | h
            · exact h
            · exfalso; simp at hlt h; omega))
        have HNE7 := hid (show ∀ b, (Value.slice (some ⟨g6, 0, none⟩) (kids.length + 1) cap6).ownBlock = some b → nv2.ownBlock ≠ some b from fun b e => by
          simp only [Value.ownBlock, Option.some.injEq] at e
          subst e
          rcases hat7 with h | h
          · exact hne2 _ h
          · intro e2
            have h9 := (hn8.lt _ e2).2
            simp at h h9
            omega)
        have HKA := hid (show ∀ k ∈ kids ++ [kid], k ≤ 100000 from fun q hq => by
          rcases List.mem_append.1 hq with hq | hq
          · exact HK1.out q hq
          · rw [List.mem_singleton.1 hq]; exact hkb)
        skip
        clear hb8 hn8 hk8 hne2 hown7 hgrow7 hng
        go_wp2
        go_roundw
        case rel =>
          refine ⟨ns2, nv2, kids ++ [kid], k, c, p, Hb7.out, HN7.out, by rw [ints_ints, List.length_append]; exact HO7.out, HNE7.out, hro7, HK7.out, hkd.2, HKA.out, by rw [List.length_append]; show kids.length + 1 ≤ _; omega, by rw [List.length_append]; show 0 < kids.length + 1; omega, ?_⟩
          rcases HMM.out with ⟨rfl, rfl, h⟩ | ⟨hc0, h, h7, h8, h9⟩
          · have hin := rowS_in HFW.out (by omega) h
            exact Or.inl ⟨rfl, rfl, by omega, hin.2.1, by omega, by rw [List.length_append]; show kids.length + 1 ≤ k + 1; omega, f, by omega, by rw [← HGO.out, altsGoS_ok h]⟩
          · exact Or.inr ⟨hc0, by rw [← HGO.out, altsGoS_er h], h7⟩
        case measure =>
          rcases HMM.out with ⟨rfl, rfl, h⟩ | ⟨hc0, h, h7, h8, h9⟩
          · have hin := rowS_in HFW.out (by omega) h
            rw [meaS_ok (blk6c Hb7.out).1.2.2.1 (blk6c Hb7.out).1.2.1, meaS_ok (blk6c HBR.out).1.2.2.1 (blk6c HBR.out).1.2.1]
            omega
          · rw [meaS_er (blk6c Hb7.out).1.2.2.1 hc0, meaS_ok (blk6c HBR.out).1.2.2.1 (blk6c HBR.out).1.2.1]
            omega
      · have e124 : ((u : Int) == 124) = false := by rw [beq_eq_false_iff_ne]; omega
        rw [if_neg h124] at hgo
        have HF := hid (show endAlt kids j nsj = R from hgo)
        clear hgo
        go_wp2_with fail
        refine (CXJ.out _ (Qt.refl _)).mono ?_
        rintro e wq ⟨rfl, ⟨m6, rfl⟩⟩
        have HW : Qt wr (wr.drewN m6) := Qt.one _ _
        rcases kids with _ | ⟨k1, _ | ⟨k2, rest⟩⟩
        · exact absurd hkn (by simp)
        · simp only [List.length_cons, List.length_nil, Nat.zero_add] at *
          obtain ⟨b, rfl, hcb⟩ := row_one HROW.out
          go_wp2
          go_ret
          exact ⟨Or.inl ⟨k1, j, nsj, nvj, HF.out.symm, rfl, HW.at HBR.out, (HNS.out.mono (fun b h => Or.inl h)).qt HW, HRO.out⟩, HKR.out.trans HW.kp HRO.out⟩
        · simp only [List.length_cons] at *
          have q0 : (((rest.length : Int) + 1 + 1) == 0) = false := by rw [beq_eq_false_iff_ne]; omega
          have q1 : (((rest.length : Int) + 1 + 1) == 1) = false := by rw [beq_eq_false_iff_ne]; omega
          have q2 : ¬ ((rest.length : Int) + 1 + 1) = 0 := by omega
          have q3 : ¬ ((rest.length : Int) + 1 + 1) = 1 := by omega
          have q4 : ¬ ((rest.length : Int) + 1) = 0 := by omega
          have q5 : (((rest.length : Int) + 1) == 0) = false := by rw [beq_eq_false_iff_ne]; omega
          have hrk0 := rd_own_ints (S := Beside X g nvj.ownBlock wr) (by simpa [ints] using HROW.out) HKP.out (fun b hb h1 h2 => ⟨by omega, h2, HNK.out b hb, fun h => by have := HX.out b h; omega⟩)
          have hrk := Rd.same (fun b hb => by rw [HW.heap]) (Rd.mono (T := Beside X g nvj.ownBlock (wr.drewN m6)) (fun b hb => hb) hrk0)
          have CADD := hid (specPutAt (X := X) ⟨8, 0, 0, false, [], ints (k1 :: k2 :: rest)⟩ _ (HW.at HBR.out) ((HNS.out.mono (fun b h => Or.inl h)).qt HW) (by omega) (by dsimp only; omega) (by dsimp only; omega) (by dsimp only; omega) rd_noInts hrk)
          dsimp only at CADD
          go_wp2_with fail
          refine CADD.out.mono ?_
          rintro e w9 ⟨nv', rfl, h1, h2, h3, h4⟩
          have hkk := (HKR.out.trans HW.kp HRO.out).trans h4 HRO.out
          have hrr := HRO.out.trans (h3.up (w := wr) (by rw [HW.heap]; exact Nat.le_refl _)) hws
          have H1 := hid h1
          clear h1
          go_wp2
          go_ret
          exact ⟨Or.inl ⟨_, _, _, nv', HF.out.symm, rfl, H1.out, h2, hrr⟩, hkk⟩
    · have hz1 : ((c : Int) == 0) = false := by rw [beq_eq_false_iff_ne]; omega
      have hz2 : ¬ (c : Int) = 0 := by omega
      clear hbr hkr
      have HW : Qt wr wr := Qt.refl _
      rcases kids with _ | ⟨k1, _ | ⟨k2, rest⟩⟩
      · exact absurd hkn (by simp)
      · simp only [List.length_cons, List.length_nil, Nat.zero_add] at *
        obtain ⟨b, rfl, hcb⟩ := row_one HROW.out
        go_wp2
        go_ret
        exact ⟨Or.inr ⟨c, q, k1, j, nvj, nsj, hRe, rfl, hc0, HW.at HBR.out, (HNS.out.mono (fun b h => Or.inl h)).qt HW, HRO.out, by omega, hj4, HK1.out k1 (by simp)⟩, HKR.out.trans HW.kp HRO.out⟩
      · simp only [List.length_cons] at *
        have q0 : (((rest.length : Int) + 1 + 1) == 0) = false := by rw [beq_eq_false_iff_ne]; omega
        have q1 : (((rest.length : Int) + 1 + 1) == 1) = false := by rw [beq_eq_false_iff_ne]; omega
        have q2 : ¬ ((rest.length : Int) + 1 + 1) = 0 := by omega
        have q3 : ¬ ((rest.length : Int) + 1 + 1) = 1 := by omega
        have q4 : ¬ ((rest.length : Int) + 1) = 0 := by omega
        have q5 : (((rest.length : Int) + 1) == 0) = false := by rw [beq_eq_false_iff_ne]; omega
        have hrk0 := rd_own_ints (S := Beside X g nvj.ownBlock wr) (by simpa [ints] using HROW.out) HKP.out (fun b hb h1 h2 => ⟨by omega, h2, HNK.out b hb, fun h => by have := HX.out b h; omega⟩)
        have hrk := Rd.same (fun b hb => by rw [HW.heap]) (Rd.mono (T := Beside X g nvj.ownBlock wr) (fun b hb => hb) hrk0)
        have CADD := hid (specPutAt (X := X) ⟨8, 0, 0, false, [], ints (k1 :: k2 :: rest)⟩ _ (HW.at HBR.out) ((HNS.out.mono (fun b h => Or.inl h)).qt HW) (by omega) (by dsimp only; omega) (by dsimp only; omega) (by dsimp only; omega) rd_noInts hrk)
        dsimp only at CADD
        go_wp2_with fail
        refine CADD.out.mono ?_
        rintro e w9 ⟨nv', rfl, h1, h2, h3, h4⟩
        have hkk := (HKR.out.trans HW.kp HRO.out).trans h4 HRO.out
        have hrr := HRO.out.trans (h3.up (w := wr) (by rw [HW.heap]; exact Nat.le_refl _)) hws
        have H1 := hid h1
        clear h1
        go_wp2
        go_ret
        exact ⟨Or.inr ⟨c, q, nsj.length, j, nv', _, hRe, rfl, hc0, H1.out, h2, hrr, by rw [List.length_append]; show nsj.length + 1 ≤ M + 1; omega, hj4, by omega⟩, hkk⟩
end Go.Proofs.YtomcoilmpkpoeaaGreatDoor

namespace Go.Proofs.YtomcoilmpkpoeaaGreatDoor
open Go.RowKit
set_option linter.unusedVariables false
set_option linter.unusedSimpArgs false

theorem NodeCS.of {fn n M M' g cap d : Nat} {p p' : Nat → List RxNode → RR} {a : Option Addr} {l : List Nat} (h : NodeCS fn p n M g cap d a l) (hp : ∀ i ns, p i ns = p' i ns) (hM : M ≤ M') : NodeCS fn p' n M' g cap d a l := by
  intro X w i nv ns h1 h2 h3 h4 h5 h6
  refine (h X w i nv ns h1 h2 h3 h4 h5 h6).mono ?_
  rintro e w' ⟨he, hk⟩
  rw [← hp]
  exact ⟨he.up (RowOn.refl _ _) (Nat.le_refl _) hM, hk⟩
theorem specAtomV {g cap : Nat} {a : Option Addr} {l : List Nat} : ∀ v d, d + v = 6 → NodeCS 183 (atomS l (grpP l v)) l.length (5000 + 10 * v) g cap d a l
  | 0, d, h => specAtom (M := 5000) (by omega) (by omega) (Or.inl ⟨by omega, rfl⟩)
  | v + 1, d, h => by
    have ha := specAtomV v (d + 1) (by omega) (g := g) (cap := cap) (a := a) (l := l)
    have hp := specPiece (by omega) ha (atomP_in (grpP_in l v))
    have hr := specRow (by omega) (by omega) hp (pieceP_in (grpP_in l v)) (by omega)
    have hal := specAlts (by omega) (by omega) hr (grpP_in l v)
    have hal' := hal.of (p' := altsP l (grpP l v)) (fun i ns => by rw [decide_eq_false (by omega), altsS_inner]) (Nat.le_refl _)
    exact specAtom (M := 5000 + 10 * v + 1 + 1) (by omega) (by omega) (Or.inr ⟨by omega, v, rfl, hal'⟩)
theorem specAltsTop {g cap : Nat} {a : Option Addr} {l : List Nat} : NodeCS 68 (altsS l (grpP l 6) true) (l.length + 1) 6000 g cap 0 a l := by
  have ha := specAtomV 6 0 rfl (g := g) (cap := cap) (a := a) (l := l)
  have hp := specPiece (by omega) ha (atomP_in (grpP_in l 6))
  have hr := specRow (by omega) (by omega) hp (pieceP_in (grpP_in l 6)) (by omega)
  have hal := specAlts (by omega) (by omega) hr (grpP_in l 6)
  exact hal.of (fun i ns => rfl) (by omega)
theorem readP_top {l : List Nat} (hp : ∀ c ∈ l, 1 ≤ c ∧ c ≤ 1114111) : altsS l (grpP l 6) true 0 [] = readP l := by
  rw [altsS_top]
  unfold topS readP
  cases h : altsP l (grpP l 6) 0 [] with
  | er c p => rfl
  | ok kid j ns =>
    have hin := altsP_in (grpP_in l 6) (Nat.zero_le _) h
    simp only
    by_cases hj : j < l.length
    · have hn : ¬ gN l j = 0 := fun h0 => by have := gN_pt hp h0; omega
      have h41 : gN l j = 41 := by
        rcases hin.2.2.2.2.2 with h1 | h1
        · exact absurd h1 hn
        · exact h1
      rw [if_pos h41, if_pos hj]
    · have h0 : gN l j = 0 := gN_end (by omega)
      rw [if_neg (by omega), if_neg hj]
theorem readP_end {l : List Nat} {kid j : Nat} {ns : List RxNode} (h : readP l = .ok kid j ns) : j = l.length := by
  unfold readP at h
  cases ha : altsP l (grpP l 6) 0 [] with
  | er c p => rw [ha] at h; cases h
  | ok kid1 j1 ns1 =>
    have h1 := altsP_in (grpP_in l 6) (Nat.zero_le _) ha
    rw [ha] at h
    simp only at h
    split at h
    · cases h
    · injection h with h2 h3 h4
      omega
end Go.Proofs.YtomcoilmpkpoeaaGreatDoor
