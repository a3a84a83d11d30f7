/-
  What is proved here: the walk of FnFinds: the law returns true at every code. The condition 'Tabs' says that the library's tables for UTF-8 lie in the world; 'Mx', that a variable of the library holds some int.
-/
import Derived.Test.YtojonbdkijnbnaaDoorWTextBack
import Derived.Test.YtojonbdkijnbnaaDoorPartS
import Derived.Test.YtojonbdkijnbnaaDoorFindLaw
import Derived.Laws.Slices
namespace Go.Proofs.YtojonbdkijnbnaaDoor
open Go.RowKit
set_option linter.unusedVariables false
set_option linter.unusedSimpArgs false

def Mx (w : World) : Prop := ∃ m : Int, w.cell? ⟨2, 0, none⟩ = some (.int .i64 m)
theorem mx_below {w w' : World} (h : Mx w) (hb : Below w.heap.size w w') : Mx w' := by
  obtain ⟨m, hm⟩ := h
  exact ⟨m, keeps_cells hb _ _ hm⟩
set_option maxHeartbeats 4000000 in
set_option maxRecDepth 100000 in
theorem implFind (s t : ByteArray) (w : World) (hT : Tabs w) (hM : Mx w) :
    Calls Tryd.prog 37 #[.string s, .string t] w fun e w' => e = .returned (.int .i64 (findT s t)) ∧ Below w.heap.size w w' := by
  obtain ⟨o1, h1⟩ : ∃ o, okText s = o := ⟨_, rfl⟩
  obtain ⟨o2, h2⟩ : ∃ o, okText t = o := ⟨_, rfl⟩
  cases o1 with
  | false =>
    have HR := hid (show findT s t = 0 by unfold findT; rw [if_neg (by rw [h1]; simp)])
    have H1 := hid h1
    clear h1 h2
    go_enter Tryd.func37, Tryd.ntmps37
    go_wp2_with fail
    refine (implTextOk s _ hT).mono ?_
    rintro e w1 ⟨rfl, hb1⟩
    rw [H1.out]
    go_wp2
    go_ret
    rw [HR.out]
    exact ⟨rfl, hb1⟩
  | true =>
    have H1 := hid h1
    have H2 := hid h2
    cases o2 with
    | false =>
      have HR := hid (show findT s t = 0 by unfold findT; rw [if_neg (by rw [h2]; simp)])
      clear h1 h2
      go_enter Tryd.func37, Tryd.ntmps37
      go_wp2_with fail
      refine (implTextOk s _ hT).mono ?_
      rintro e w1 ⟨rfl, hb1⟩
      rw [H1.out]
      go_wp2_with fail
      refine (implTextOk t _ (tabs_below hT hb1)).mono ?_
      rintro e w2 ⟨rfl, hb2⟩
      rw [H2.out]
      go_wp2
      go_ret
      rw [HR.out]
      exact ⟨rfl, ext_trans hb1 hb2⟩
    | true =>
      by_cases hz : t.size = 0
      · have HR := hid (show findT s t = 0 by unfold findT; rw [if_neg (by simp [hz])])
        have htl := ba_nil hz
        subst htl
        clear h1 h2 hz
        go_enter Tryd.func37, Tryd.ntmps37
        go_wp2_with fail
        refine (implTextOk s _ hT).mono ?_
        rintro e w1 ⟨rfl, hb1⟩
        rw [H1.out]
        go_wp2_with fail
        refine (implTextOk _ _ (tabs_below hT hb1)).mono ?_
        rintro e w2 ⟨rfl, hb2⟩
        rw [H2.out]
        go_wp2
        go_ret
        rw [HR.out]
        exact ⟨rfl, ext_trans hb1 hb2⟩
      · have hbq := ba_nil_beq hz
        have hr0 : findT s t = if Lib.index s.data.toList t.data.toList < 0 then 0 else lenOf (s.extract 0 (Lib.index s.data.toList t.data.toList).toNat) + 1 := by unfold findT; rw [if_pos ⟨h1, h2, hz⟩]
        have hsz := ok_size h1
        have hge := Lib.index_ge s.data.toList t.data.toList
        have hle := Lib.index_le s.data.toList t.data.toList
        rw [← Lib.size_eq] at hle
        have CI : ∀ w, Mx w → Calls Tryd.prog 67 #[.string s, .string t] w fun e w' => e = .returned (.int .i64 (Lib.index s.data.toList t.data.toList)) ∧ w' = w := fun w h => by
          obtain ⟨m, hm⟩ := h
          exact Tryd.strings_Index s t m w (by omega) hm
        obtain ⟨r, hr⟩ : ∃ r, Lib.index s.data.toList t.data.toList = r := ⟨_, rfl⟩
        rw [hr] at hr0 hge hle
        have HRR := hid hr
        have HR0 := hid hr0
        clear h1 h2 hz hr hr0
        by_cases hneg : r < 0
        · have HR := hid (show findT s t = 0 by rw [HR0.out, if_pos hneg])
          go_enter Tryd.func37, Tryd.ntmps37
          go_wp2_with fail
          refine (implTextOk s _ hT).mono ?_
          rintro e w1 ⟨rfl, hb1⟩
          rw [H1.out]
          go_wp2_with fail
          refine (implTextOk _ _ (tabs_below hT hb1)).mono ?_
          rintro e w2 ⟨rfl, hb2⟩
          rw [H2.out]
          go_wp2_with fail
          refine (CI _ (mx_below hM (ext_trans hb1 hb2))).mono ?_
          rintro e w3 ⟨rfl, rfl⟩
          rw [HRR.out]
          go_wp2
          go_ret
          rw [HR.out]
          exact ⟨rfl, ext_trans hb1 hb2⟩
        · have HR := hid (show findT s t = lenOf (s.extract 0 r.toNat) + 1 by rw [HR0.out, if_neg hneg])
          have hr1 : 0 ≤ r := by omega
          have hlo : lenOf (s.extract 0 r.toNat) ≤ 1000 ∧ -1 ≤ lenOf (s.extract 0 r.toNat) := by
            unfold lenOf
            split
            · rename_i hok
              have := (ok_pts hok).2
              omega
            · omega
          go_enter Tryd.func37, Tryd.ntmps37
          go_wp2_with fail
          refine (implTextOk s _ hT).mono ?_
          rintro e w1 ⟨rfl, hb1⟩
          rw [H1.out]
          go_wp2_with fail
          refine (implTextOk _ _ (tabs_below hT hb1)).mono ?_
          rintro e w2 ⟨rfl, hb2⟩
          rw [H2.out]
          go_wp2_with fail
          refine (CI _ (mx_below hM (ext_trans hb1 hb2))).mono ?_
          rintro e w3 ⟨rfl, rfl⟩
          rw [HRR.out]
          go_wp2_with fail
          refine (implLength (s.extract 0 r.toNat) _ (tabs_below hT (ext_trans hb1 hb2))).mono ?_
          rintro e w4 ⟨rfl, hb4⟩
          go_wp2
          go_ret
          rw [HR.out]
          exact ⟨rfl, ext_trans (ext_trans hb1 hb2) hb4⟩
theorem partT_size (s : ByteArray) (f c : Int) : (partT s f c).size ≤ 4000 := by
  unfold partT
  split
  · rename_i h
    rw [mkB_size]
    have h1 := texts_le (partL (runesN s.data.toList) f c)
    have h2 := partK_len (runesN s.data.toList) f c (runesN s.data.toList).length
    have h3 := (ok_pts h).2
    unfold partL at *
    omega
  · exact Nat.zero_le _
set_option maxHeartbeats 4000000 in
theorem drawFind {v : Value} {c : List UInt8} (w : World) (h : Rd.rd (Old w) w [v] c) (hn : c.length ≤ 1048576) :
    Calls Tryd.prog 36 #[v] w fun e w' => ∃ s t : ByteArray, e = .returned (.tuple #[.string s, .string t]) ∧ s.size ≤ 5000 ∧ t.size ≤ 5000 ∧ Below w.heap.size w w' := by
  obtain ⟨a, cap, rfl, h1, h2, hc⟩ := rdBytes h
  have CO := fun w' (e : w = w') => curOpen (a := a) (cap := cap) w hn hc
  clear hc h h1 h2
  go_enter Tryd.func36, Tryd.ntmps36
  go_wp2_with fail
  refine (CO _ rfl).mono ?_
  rintro e w1 ⟨rfl, hc1, hb1⟩
  go_wp2_with fail
  refine (curAny 12 _ hc1 (by omega) (by omega)).mono ?_
  rintro e w2 ⟨s, rfl, hs, k2, hk2, hc2, hg2⟩
  go_wp2_with fail
  refine (curAny 2 _ hc2 (by omega) (by omega)).mono ?_
  rintro e w3 ⟨t, rfl, ht, k3, hk3, hc3, hg3⟩
  go_wp2_with fail
  refine (curPick 2 _ hc3 (by omega) (by omega)).mono ?_
  rintro e w4 ⟨r, rfl, hr, k4, hk4, hc4, hg4⟩
  by_cases hr0 : r = 0
  · subst hr0
    go_wp2_with fail
    refine (curPick 6 _ hc4 (by omega) (by omega)).mono ?_
    rintro e w5 ⟨r5, rfl, hr5, k5, hk5, hc5, hg5⟩
    have hq5 : (r5 : Int) < 6 := by omega
    go_wp2_with fail
    refine (curPick 3 _ hc5 (by omega) (by omega)).mono ?_
    rintro e w6 ⟨r6, rfl, hr6, k6, hk6, hc6, hg6⟩
    have hq6 : (r6 : Int) < 3 := by omega
    go_wp2_with fail
    refine (specPart s (1 + r5) (1 + r6) _ (by omega) (by omega)).mono ?_
    rintro e w7 ⟨rfl, hb7⟩
    go_wp2
    go_ret2
    exact ⟨s, _, rfl, by omega, Nat.le_trans (partT_size _ _ _) (by omega), ext_trans (drawn_below hb1 (grown_trans (grown_trans (grown_trans (grown_trans hg2 hg3) hg4) hg5) hg6)) hb7⟩
  · have g0 : ((r : Int) == 0) = false := by rw [beq_eq_false_iff_ne]; omega
    go_wp2
    go_ret2
    exact ⟨s, t, rfl, by omega, by omega, drawn_below hb1 (grown_trans (grown_trans hg2 hg3) hg4)⟩
set_option maxHeartbeats 4000000 in
set_option maxRecDepth 100000 in
theorem fnFinds_walk (W : World) (hT : Tabs W) (hM : Mx W) {v0 : Value} {x0 : List UInt8} (h0 : Rd.rd (Old W) W [v0] x0) :
    Calls Tryd.prog 9 #[v0] W fun e W' => e = .returned (.bool true) ∧ Below W.heap.size W W' := by
  by_cases hb : 1048576 < (x0.length : Int)
  · go_enter Tryd.func9, Tryd.ntmps9
    go_wp2_with fail
    refine (lawBig _ h0).mono ?_
    rintro e w1 ⟨rfl, rfl⟩
    rw [decide_eq_true hb]
    go_wp2
    go_ret
    exact ⟨rfl, Below.refl _ _⟩
  have HB := hid (decide_eq_false hb)
  have hn : x0.length ≤ 1048576 := by omega
  clear hb
  go_enter Tryd.func9, Tryd.ntmps9
  go_wp2_with fail
  refine (lawBig _ h0).mono ?_
  rintro e w1 ⟨rfl, rfl⟩
  rw [HB.out]
  go_wp2_with fail
  refine (drawFind _ h0 hn).mono ?_
  rintro e w1 ⟨s, t, rfl, hs, ht, hb1⟩
  go_wp2_with fail
  refine (implFind s t _ (tabs_below hT hb1) (mx_below hM hb1)).mono ?_
  rintro e w2 ⟨rfl, hb2⟩
  have hB2 := ext_trans hb1 hb2
  obtain ⟨o1, h1⟩ : ∃ o, okText s = o := ⟨_, rfl⟩
  obtain ⟨o2, h2⟩ : ∃ o, okText t = o := ⟨_, rfl⟩
  have H1 := hid h1
  have H2 := hid h2
  cases o1 with
  | false =>
    have HR := hid (show findT s t = 0 by unfold findT; rw [if_neg (by rw [h1]; simp)])
    rw [HR.out]
    clear h1 h2
    go_wp2_with fail
    refine (specTextOk s _).mono ?_
    rintro e w3 ⟨rfl, hb3⟩
    rw [H1.out]
    go_wp2
    go_ret
    exact ⟨rfl, ext_trans hB2 hb3⟩
  | true =>
    cases o2 with
    | false =>
      have HR := hid (show findT s t = 0 by unfold findT; rw [if_neg (by rw [h2]; simp)])
      rw [HR.out]
      clear h1 h2
      go_wp2_with fail
      refine (specTextOk s _).mono ?_
      rintro e w3 ⟨rfl, hb3⟩
      rw [H1.out]
      go_wp2_with fail
      refine (specTextOk t _).mono ?_
      rintro e w4 ⟨rfl, hb4⟩
      rw [H2.out]
      go_wp2
      go_ret
      exact ⟨rfl, ext_trans (ext_trans hB2 hb3) hb4⟩
    | true =>
      by_cases hz : t.size = 0
      · have HR := hid (show findT s t = 0 by unfold findT; rw [if_neg (by simp [hz])])
        have htl := ba_nil hz
        subst htl
        rw [HR.out]
        clear h1 h2 hz
        go_wp2_with fail
        refine (specTextOk s _).mono ?_
        rintro e w3 ⟨rfl, hb3⟩
        rw [H1.out]
        go_wp2_with fail
        refine (specTextOk _ _).mono ?_
        rintro e w4 ⟨rfl, hb4⟩
        rw [H2.out]
        go_wp2
        go_ret
        exact ⟨rfl, ext_trans (ext_trans hB2 hb3) hb4⟩
      · have hbq := ba_nil_beq hz
        obtain ⟨hf0, hf1, hf2⟩ := find_law h1 h2 hz
        have hls := lenOf_ok h1
        have hlt := lenOf_ok h2
        have hp1 := (ok_pts h1).2
        have hp2 := (ok_pts h2).2
        obtain ⟨f, hf⟩ : ∃ f, findT s t = f := ⟨_, rfl⟩
        rw [hf] at hf0 hf1 hf2 ⊢
        obtain ⟨n, hn1⟩ : ∃ n, lenOf s = n := ⟨_, rfl⟩
        obtain ⟨m, hm1⟩ : ∃ m, lenOf t = m := ⟨_, rfl⟩
        rw [hn1] at hf1 hf2 hls
        rw [hm1] at hf2 hlt
        have HN := hid hn1
        have HM1 := hid hm1
        have HF2 := hid hf2
        have hn0 : 0 ≤ n ∧ n ≤ 1000 := by omega
        have hm0 : 0 ≤ m ∧ m ≤ 1000 := by omega
        clear h1 h2 hz hf hn1 hm1 hls hlt hp1 hp2 hf2
        go_wp2_with fail
        refine (specTextOk s _).mono ?_
        rintro e w3 ⟨rfl, hb3⟩
        rw [H1.out]
        go_wp2_with fail
        refine (specTextOk t _).mono ?_
        rintro e w4 ⟨rfl, hb4⟩
        rw [H2.out]
        go_wp2_with fail
        refine (specLength t _).mono ?_
        rintro e w5 ⟨rfl, hb5⟩
        rw [HM1.out]
        have hB5 := ext_trans (ext_trans (ext_trans hB2 hb3) hb4) hb5
        go_wp2
        go_loopw [7] (fun i wr => ∃ k : Nat, (k : Int) ≤ n ∧ i = .int .i64 ((k : Int) + 1) ∧ Below W.heap.size W wr) (fun i _ => (n + 1 - intOf i).toNat)
        case atStart => exact ⟨0, by omega, rfl, hB5⟩
        case round =>
          obtain ⟨k, hk, rfl, hbw⟩ := hrel
          go_wp2_with fail
          refine (specLength s _).mono ?_
          rintro e w6 ⟨rfl, hb6⟩
          rw [HN.out]
          by_cases hlt : (k : Int) < n
          · have hle : (k : Int) + 1 ≤ n := by omega
            go_wp2_with fail
            refine (specPart s ((k : Int) + 1) m _ (by omega) (by omega)).mono ?_
            rintro e w7 ⟨rfl, hb7⟩
            obtain ⟨q1, q2⟩ := HF2.out k hlt
            by_cases hst : partT s ((k : Int) + 1) m = t
            · obtain ⟨q3, q4⟩ := q1 hst
              rw [hst]
              clear hst q1 q2
              have g1 : (f == 0) = false := by rw [beq_eq_false_iff_ne]; exact q3
              have g2 : ¬ (k : Int) + 1 < f := by omega
              obtain ⟨bb, g3⟩ : ∃ bb, ((k : Int) + 1 == f) = bb := ⟨_, rfl⟩
              cases bb with
              | true =>
                go_wp2
                go_roundw
                case rel => exact ⟨k + 1, by omega, by first | go_num | (congr 1; omega), ext_trans (ext_trans hbw hb6) hb7⟩
                case measure => simp [intOf]; omega
              | false =>
                go_wp2
                go_roundw
                case rel => exact ⟨k + 1, by omega, by first | go_num | (congr 1; omega), ext_trans (ext_trans hbw hb6) hb7⟩
                case measure => simp [intOf]; omega
            · have hne : ((partT s ((k : Int) + 1) m).toList == t.toList) = false := ba_ne hst
              have g3 : ((k : Int) + 1 == f) = false := by rw [beq_eq_false_iff_ne]; exact fun e => hst (q2 e.symm)
              clear hst q1 q2
              go_wp2
              go_roundw
              case rel => exact ⟨k + 1, by omega, by first | go_num | (congr 1; omega), ext_trans (ext_trans hbw hb6) hb7⟩
              case measure => simp [intOf]; omega
          · have hle : ¬ (k : Int) + 1 ≤ n := by omega
            go_wp2_with fail
            refine (specLength s _).mono ?_
            rintro e w7 ⟨rfl, hb7⟩
            rw [HN.out]
            go_wp2
            go_ret
            exact ⟨rfl, ext_trans (ext_trans hbw hb6) hb7⟩
end Go.Proofs.YtojonbdkijnbnaaDoor
