/-
  What is proved here: the reference's pattern reader: how often, the classes. No condition but that the reader and its list lie in memory.
-/
import Derived.Test.YtomcoilmpkpoeaaGreatDoorQRxS2
namespace Go.Proofs.YtomcoilmpkpoeaaGreatDoor
open Go.RowKit
set_option linter.unusedVariables false
set_option linter.unusedSimpArgs false

theorem tA_eq {l : List Nat} {i : Nat} (h0 : gN l i = 123) : timesAt l i = timesB l i := by unfold timesAt; rw [if_neg (by omega), if_neg (by omega), if_neg (by omega)]; rfl
theorem tA_none {l : List Nat} {i : Nat} (h0 : gN l i = 123) (h : numAt l (i + 1) = none) : timesAt l i = none := by rw [tA_eq h0]; unfold timesB; rw [h]
theorem tA_open {l : List Nat} {i lo k : Nat} (h0 : gN l i = 123) (h : numAt l (i + 1) = some (lo, k)) (h1 : gN l k = 44) (h2 : gN l (k + 1) = 125) : timesAt l i = some ((lo : Int), -1, k + 2) := by
  rw [tA_eq h0]; unfold timesB; rw [h]; simp only; rw [if_pos h1, if_pos h2]
theorem tA_hiN {l : List Nat} {i lo k : Nat} (h0 : gN l i = 123) (h : numAt l (i + 1) = some (lo, k)) (h1 : gN l k = 44) (h2 : ¬ gN l (k + 1) = 125) (h3 : numAt l (k + 1) = none) : timesAt l i = none := by
  rw [tA_eq h0]; unfold timesB; rw [h]; simp only; rw [if_pos h1, if_neg h2, h3]
theorem tA_less {l : List Nat} {i lo k hi m : Nat} (h0 : gN l i = 123) (h : numAt l (i + 1) = some (lo, k)) (h1 : gN l k = 44) (h2 : ¬ gN l (k + 1) = 125) (h3 : numAt l (k + 1) = some (hi, m)) (h4 : hi < lo) : timesAt l i = none := by
  rw [tA_eq h0]; unfold timesB; rw [h]; simp only; rw [if_pos h1, if_neg h2, h3]; simp only; rw [if_pos h4]
theorem tA_ok {l : List Nat} {i lo k hi m : Nat} (h0 : gN l i = 123) (h : numAt l (i + 1) = some (lo, k)) (h1 : gN l k = 44) (h2 : ¬ gN l (k + 1) = 125) (h3 : numAt l (k + 1) = some (hi, m)) (h4 : ¬ hi < lo) (h5 : gN l m = 125) : timesAt l i = some ((lo : Int), (hi : Int), m + 1) := by
  rw [tA_eq h0]; unfold timesB; rw [h]; simp only; rw [if_pos h1, if_neg h2, h3]; simp only; rw [if_neg h4, if_pos h5]
theorem tA_bad {l : List Nat} {i lo k hi m : Nat} (h0 : gN l i = 123) (h : numAt l (i + 1) = some (lo, k)) (h1 : gN l k = 44) (h2 : ¬ gN l (k + 1) = 125) (h3 : numAt l (k + 1) = some (hi, m)) (h5 : ¬ gN l m = 125) : timesAt l i = none := by
  rw [tA_eq h0]; unfold timesB; rw [h]; simp only; rw [if_pos h1, if_neg h2, h3]; simp only
  split
  · rfl
  · first | rfl | rw [if_neg h5]
theorem tA_one {l : List Nat} {i lo k : Nat} (h0 : gN l i = 123) (h : numAt l (i + 1) = some (lo, k)) (h1 : gN l k = 125) : timesAt l i = some ((lo : Int), (lo : Int), k + 1) := by
  rw [tA_eq h0]; unfold timesB; rw [h]; simp only; rw [if_neg (by omega), if_pos h1]
theorem tA_no {l : List Nat} {i lo k : Nat} (h0 : gN l i = 123) (h : numAt l (i + 1) = some (lo, k)) (h1 : ¬ gN l k = 44) (h2 : ¬ gN l k = 125) : timesAt l i = none := by
  rw [tA_eq h0]; unfold timesB; rw [h]; simp only; rw [if_neg h1, if_neg h2]
def TimesS (w' : World) (g cap d : Nat) (a : Option Addr) (l : List Nat) (nv : Value) (i : Nat) (e : Ending) : Prop :=
  (∃ (lo hi : Int) (j : Nat), timesAt l i = some (lo, hi, j) ∧ e = .returned (.tuple #[.int .i64 lo, .int .i64 hi, .bool true]) ∧ w'.heap[g]? = some (.cells #[.slice a l.length cap, .int .i64 ((j : Nat) : Int), .int .i64 ((0 : Nat) : Int), .int .i64 ((0 : Nat) : Int), .int .i64 ((d : Nat) : Int), nv] 87 (0, 0))) ∨ (∃ j, timesAt l i = none ∧ e = .returned (.tuple #[.int .i64 0, .int .i64 0, .bool false]) ∧ j ≤ 3000 ∧ w'.heap[g]? = some (.cells #[.slice a l.length cap, .int .i64 ((j : Nat) : Int), .int .i64 ((0 : Nat) : Int), .int .i64 ((0 : Nat) : Int), .int .i64 ((d : Nat) : Int), nv] 87 (0, 0)))
set_option maxHeartbeats 16000000 in
set_option maxRecDepth 100000 in
theorem specTimes {g cap i d : Nat} {a : Option Addr} {l : List Nat} {nv : Value} (w : World) (hb : w.heap[g]? = some (.cells #[.slice a l.length cap, .int .i64 ((i : Nat) : Int), .int .i64 ((0 : Nat) : Int), .int .i64 ((0 : Nat) : Int), .int .i64 ((d : Nat) : Int), nv] 87 (0, 0))) (hL : RxL w g a l) (hi : i < l.length) (h0 : gN l i = 123) :
    Calls Tryz.prog 184 #[.pointer (some ⟨g, 0, none⟩)] w fun e w' => TimesS w' g cap d a l nv i e ∧ Kp g none w w' := by
  have hlen := hL.len
  have hg : g < w.heap.size := (Array.getElem?_eq_some_iff.1 hb).1
  have CP := hid (fun (w' : World) (j : Nat) (hk : Kp g none w w') (hb' : w'.heap[g]? = some (.cells #[.slice a l.length cap, .int .i64 ((j : Nat) : Int), .int .i64 ((0 : Nat) : Int), .int .i64 ((0 : Nat) : Int), .int .i64 ((d : Nat) : Int), nv] 87 (0, 0))) (hj : j ≤ 4000) => specPeek w' hb' (hL.below (hk.base hg)) hj)
  have CN := hid (fun (w' : World) (j : Nat) (hk : Kp g none w w') (hb' : w'.heap[g]? = some (.cells #[.slice a l.length cap, .int .i64 ((j : Nat) : Int), .int .i64 ((0 : Nat) : Int), .int .i64 ((0 : Nat) : Int), .int .i64 ((d : Nat) : Int), nv] 87 (0, 0))) (hj : j ≤ 1200) => specNumber w' hb' (hL.below (hk.base hg)) hj)
  obtain ⟨⟨c0, c1, c2, c3, c4, c5⟩, ⟨y1, y2, y3, y4, y5⟩, hl⟩ := blk6c hb
  have hw : IntKind.i64.wrap ((i : Int) + 1) = (i : Int) + 1 := IntWalk.i64_in _ (by omega)
  have hc1 : ((i + 1 : Nat) : Int) = (i : Int) + 1 := by omega
  have hb1 := blk6_set (o := 1) (.int .i64 ((i + 1 : Nat) : Int)) hb
  have hk1 := (Kp.refl g none w).set 1 (.int .i64 ((i + 1 : Nat) : Int))
  have CN1 := hid (CN.out _ (i + 1) hk1 hb1 (by omega))
  have HK1 := hid hk1
  rw [hc1] at CN1 HK1
  have HZ := hid h0
  clear hb hL hb1 hk1 h0
  unfold NumS at CN CN1
  unfold TimesS
  go_enter Tryz.func184, Tryz.ntmps184
  go_wp2_with fail
  refine CN1.out.mono ?_
  rintro e w1 ⟨he, hk1⟩
  have hk1 := HK1.out.trans hk1 (RowOn.refl _ _)
  rcases he with ⟨lo, k, h1, rfl, h3⟩ | ⟨lo, k, h1, rfl, h2, h3⟩
  · have HN := hid h1
    have hkl := numAt_in h1
    have H3 := hid h3
    have CPK := hid (fun (w' : World) (hq : Qt w1 w') => CP.out w' k (hk1.trans hq.kp (RowOn.refl _ _)) (hq.at h3) (by omega))
    clear h1 h3
    obtain ⟨u, hu⟩ : ∃ c, gN l k = c := ⟨_, rfl⟩
    rw [hu] at CPK
    have HU := hid hu
    clear hu
    go_wp2_with fail
    refine (CPK.out _ (Qt.refl _)).mono ?_
    rintro e w2 ⟨rfl, hq2⟩
    by_cases h44 : u = 44
    · subst h44
      have hb2 := hq2.at H3.out
      obtain ⟨⟨c0, c1, c2, c3, c4, c5⟩, ⟨y1, y2, y3, y4, y5⟩, hl2⟩ := blk6c hb2
      have hw2 : IntKind.i64.wrap ((k : Int) + 1) = (k : Int) + 1 := IntWalk.i64_in _ (by omega)
      have hc2 : ((k + 1 : Nat) : Int) = (k : Int) + 1 := by omega
      have hb3 := blk6_set (o := 1) (.int .i64 ((k + 1 : Nat) : Int)) hb2
      have hk3 := (hk1.trans hq2.kp (RowOn.refl _ _)).set 1 (.int .i64 ((k + 1 : Nat) : Int))
      have CP3 := hid (fun (w' : World) (hq : Qt (w2.setCell ⟨g, 1, none⟩ (.int .i64 ((k + 1 : Nat) : Int))) w') => CP.out w' (k + 1) (hk3.trans hq.kp (RowOn.refl _ _)) (hq.at hb3) (by omega))
      have CN3 := hid (fun (w' : World) (hq : Qt (w2.setCell ⟨g, 1, none⟩ (.int .i64 ((k + 1 : Nat) : Int))) w') => CN.out w' (k + 1) (hk3.trans hq.kp (RowOn.refl _ _)) (hq.at hb3) (by omega))
      have HB3 := hid hb3
      have HK3 := hid hk3
      rw [hc2] at CP3 CN3 HK3
      clear hb2 hb3 hk3
      obtain ⟨z, hz⟩ : ∃ c, gN l (k + 1) = c := ⟨_, rfl⟩
      rw [hz] at CP3
      have HZ2 := hid hz
      clear hz
      go_wp2_with fail
      refine (CP3.out _ (Qt.refl _)).mono ?_
      rintro e w4 ⟨rfl, hq4⟩
      by_cases h125 : z = 125
      · subst h125
        have HF := hid (tA_open HZ.out HN.out HU.out HZ2.out)
        go_wp2_with fail
        refine (CP3.out _ hq4).mono ?_
        rintro e w5 ⟨rfl, hq5⟩
        have hq45 := hq4.trans hq5
        have hb5 := hq45.at HB3.out
        obtain ⟨⟨c0, c1, c2, c3, c4, c5⟩, ⟨y1, y2, y3, y4, y5⟩, hl5⟩ := blk6c hb5
        have hw5 : IntKind.i64.wrap (((k + 1 : Nat) : Int) + 1) = ((k + 1 + 1 : Nat) : Int) := by rw [IntWalk.i64_in _ (by omega)]; omega
        have hwk : IntKind.i64.wrap (((k : Int) + 1) + 1) = ((k : Int) + 1) + 1 := IntWalk.i64_in _ (by omega)
        have hc5 : ((k + 1 + 1 : Nat) : Int) = ((k : Int) + 1) + 1 := by omega
        have HB5 := hid (blk6_set (o := 1) (.int .i64 (((k : Int) + 1) + 1)) hb5)
        have hk9 := (HK3.out.trans hq45.kp (RowOn.refl _ _)).set 1 (.int .i64 (((k : Int) + 1) + 1))
        clear hb5
        go_wp2
        go_ret3
        exact ⟨Or.inl ⟨_, _, k + 1 + 1, HF.out, rfl, by rw [hc5]; exact HB5.out⟩, hk9⟩
      · have e125 : ((z : Int) == 125) = false := by rw [beq_eq_false_iff_ne]; omega
        have f125 : ¬ (z : Int) = 125 := by omega
        go_wp2_with fail
        refine (CN3.out _ hq4).mono ?_
        rintro e w5 ⟨he, hk5⟩
        have hk5 := (HK3.out.trans hq4.kp (RowOn.refl _ _)).trans hk5 (RowOn.refl _ _)
        rcases he with ⟨hi9, m, g1, rfl, g3⟩ | ⟨hi9, m, g1, rfl, g2, g3⟩
        · have hml := numAt_in g1
          have HG := hid g1
          have HG3 := hid g3
          have CPM := hid (fun (w' : World) (hq : Qt w5 w') => CP.out w' m (hk5.trans hq.kp (RowOn.refl _ _)) (hq.at g3) (by omega))
          clear g1 g3
          obtain ⟨v, hv⟩ : ∃ c, gN l m = c := ⟨_, rfl⟩
          rw [hv] at CPM
          have HV := hid hv
          clear hv
          by_cases hlt : hi9 < lo
          · have HF := hid (tA_less HZ.out HN.out HU.out (by rw [HZ2.out]; exact h125) HG.out hlt)
            have hle : ¬ (lo : Int) ≤ (hi9 : Int) := by omega
            have hle2 : ¬ lo ≤ hi9 := by omega
            go_wp2
            go_ret3
            exact ⟨Or.inr ⟨m, HF.out, rfl, by omega, HG3.out⟩, hk5⟩
          · have hle : (lo : Int) ≤ (hi9 : Int) := by omega
            have hle2 : lo ≤ hi9 := by omega
            go_wp2_with fail
            refine (CPM.out _ (Qt.refl _)).mono ?_
            rintro e w6 ⟨rfl, hq6⟩
            by_cases h5 : v = 125
            · subst h5
              have HF := hid (tA_ok HZ.out HN.out HU.out (by rw [HZ2.out]; exact h125) HG.out hlt HV.out)
              have hb5 := hq6.at HG3.out
              obtain ⟨⟨c0, c1, c2, c3, c4, c5⟩, ⟨y1, y2, y3, y4, y5⟩, hl5⟩ := blk6c hb5
              have hw5 : IntKind.i64.wrap (((m : Nat) : Int) + 1) = ((m + 1 : Nat) : Int) := by rw [IntWalk.i64_in _ (by omega)]; omega
              have hwk : IntKind.i64.wrap ((m : Int) + 1) = (m : Int) + 1 := IntWalk.i64_in _ (by omega)
              have hc5 : ((m + 1 : Nat) : Int) = (m : Int) + 1 := by omega
              have HB5 := hid (blk6_set (o := 1) (.int .i64 ((m : Int) + 1)) hb5)
              have hk9 := (hk5.trans hq6.kp (RowOn.refl _ _)).set 1 (.int .i64 ((m : Int) + 1))
              clear hb5
              go_wp2
              go_ret3
              exact ⟨Or.inl ⟨_, _, m + 1, HF.out, rfl, by rw [hc5]; exact HB5.out⟩, hk9⟩
            · have HF := hid (tA_bad HZ.out HN.out HU.out (by rw [HZ2.out]; exact h125) HG.out (by rw [HV.out]; exact h5))
              have e5 : ((v : Int) == 125) = false := by rw [beq_eq_false_iff_ne]; omega
              have f5 : ¬ (v : Int) = 125 := by omega
              have n5 : ((v : Int) != 125) = true := by rw [bne_iff_ne]; omega
              go_wp2
              go_ret3
              exact ⟨Or.inr ⟨m, HF.out, rfl, by omega, hq6.at HG3.out⟩, hk5.trans hq6.kp (RowOn.refl _ _)⟩
        · have HF := hid (tA_hiN HZ.out HN.out HU.out (by rw [HZ2.out]; exact h125) g1)
          have HG3 := hid g3
          clear g1 g3
          go_wp2
          go_ret3
          exact ⟨Or.inr ⟨m, HF.out, rfl, by omega, HG3.out⟩, hk5⟩
    · have e44 : ((u : Int) == 44) = false := by rw [beq_eq_false_iff_ne]; omega
      have f44 : ¬ (u : Int) = 44 := by omega
      go_wp2_with fail
      refine (CPK.out _ hq2).mono ?_
      rintro e w5 ⟨rfl, hq5⟩
      have hq25 := hq2.trans hq5
      by_cases h5 : u = 125
      · subst h5
        have HF := hid (tA_one HZ.out HN.out HU.out)
        have hb5 := hq25.at H3.out
        obtain ⟨⟨c0, c1, c2, c3, c4, c5⟩, ⟨y1, y2, y3, y4, y5⟩, hl5⟩ := blk6c hb5
        have hw5 : IntKind.i64.wrap (((k : Nat) : Int) + 1) = ((k + 1 : Nat) : Int) := by rw [IntWalk.i64_in _ (by omega)]; omega
        have hwk : IntKind.i64.wrap ((k : Int) + 1) = (k : Int) + 1 := IntWalk.i64_in _ (by omega)
        have hc5 : ((k + 1 : Nat) : Int) = (k : Int) + 1 := by omega
        have HB5 := hid (blk6_set (o := 1) (.int .i64 ((k : Int) + 1)) hb5)
        have hk9 := (hk1.trans hq25.kp (RowOn.refl _ _)).set 1 (.int .i64 ((k : Int) + 1))
        clear hb5
        go_wp2
        go_ret3
        exact ⟨Or.inl ⟨_, _, k + 1, HF.out, rfl, by rw [hc5]; exact HB5.out⟩, hk9⟩
      · have HF := hid (tA_no HZ.out HN.out (by rw [HU.out]; exact h44) (by rw [HU.out]; exact h5))
        have e5 : ((u : Int) == 125) = false := by rw [beq_eq_false_iff_ne]; omega
        have f5 : ¬ (u : Int) = 125 := by omega
        have n5 : ((u : Int) != 125) = true := by rw [bne_iff_ne]; omega
        go_wp2
        go_ret3
        exact ⟨Or.inr ⟨k, HF.out, rfl, by omega, hq25.at H3.out⟩, hk1.trans hq25.kp (RowOn.refl _ _)⟩
  · have HF := hid (tA_none HZ.out h1)
    have HG3 := hid h3
    clear h1 h3
    go_wp2
    go_ret3
    exact ⟨Or.inr ⟨k, HF.out, rfl, by omega, HG3.out⟩, hk1⟩
end Go.Proofs.YtomcoilmpkpoeaaGreatDoor
