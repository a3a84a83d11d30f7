/-
  What is proved here: the draw of a text that is nearly in the form. No condition but that the cursor lies in memory.
-/
import Derived.Test.YtommldonooicjaaDoorCsvDraw
import Derived.Test.YtommldonooicjaaDoorCsvS2
import Derived.Deep.Cut
namespace Go.Proofs.YtommldonooicjaaDoor
open Go.RowKit
set_option linter.unusedVariables false
set_option linter.unusedSimpArgs false

theorem csvT_le {rs : List (List (List UInt8))} {t : List UInt8} (h : csvT rs = some t) : t.length ≤ 4000 := by
  unfold csvT at h
  split at h
  · rename_i hc
    injection h with h
    rw [← h]
    exact hc.2
  · cases h
theorem textRes_le {rs : List (List (List UInt8))} {e : Ending} (h : TextRes (csvT rs) e) : ∃ (s : ByteArray) (b : Bool), e = .returned (.tuple #[.string s, .bool b]) ∧ s.size ≤ 4000 := by
  cases ho : csvT rs with
  | none =>
    rw [ho] at h
    exact ⟨_, _, h, by rw [mkB_size]; exact Nat.zero_le _⟩
  | some t =>
    rw [ho] at h
    exact ⟨_, _, h, by rw [mkB_size]; exact csvT_le ho⟩
set_option maxHeartbeats 16000000 in
set_option maxRecDepth 100000 in
theorem curCommas {B p k : Nat} (w : World) (hc : Cur B w p k) (hk : k ≤ 500000000000) :
    Calls Tryd.prog 48 #[.pointer (some ⟨p, 0, none⟩)] w fun e w' => ∃ s : ByteArray, e = .returned (.string s) ∧ s.size ≤ 10000 ∧ ∃ k', k' ≤ k + 20000 ∧ Cur B w' p k' ∧ w.grownBy w' (some p) := by
  go_enter Tryd.func48, Tryd.ntmps48
  go_wp2_with fail
  refine (curRows _ hc (by omega)).mono ?_
  rintro e w1 ⟨u, xs, rfl, hr, hx, k1, hk1, hc1, hg1⟩
  have hr1 : Rd.rd (Old w1) w1 [u] xs := Rd.mono (fun b hb => hb.2) hr
  have HG1 := hid hg1
  clear hr hg1 hc
  go_wp2_with fail
  refine (specCsvText w1 hr1 (by omega)).mono ?_
  rintro e w2 ⟨he, hb2⟩
  obtain ⟨s0, b0, rfl, hs0⟩ := textRes_le he
  have HC2 := hid (hc1.later hb2)
  have HG2 := hid (grown_trans HG1.out (below_grown hb2))
  clear hr1 he hb2 hc1 HG1
  go_wp2_with fail
  refine (curPick 3 _ HC2.out (by omega) (by omega)).mono ?_
  rintro e w3 ⟨q, rfl, hq, k3, hk3, hc3, hg3⟩
  have HC3 := hid hc3
  have HG3 := hid (grown_trans HG2.out hg3)
  clear hc3 hg3 HC2 HG2
  go_upto_if 16 with fail
  go_cut [3, 5] from 8 (fun v3 _ wx => ∃ (s : ByteArray) (k' : Nat), v3 = .string s ∧ s.size ≤ 4000 ∧ k' ≤ k + 11000 ∧ Cur B wx p k' ∧ w.grownBy wx (some p))
  case first =>
    by_cases hq0 : q = 0
    · have hqb : ((q : Int) == 0) = true := by rw [hq0]; rfl
      clear hq0
      go_wp2_with fail
      refine (curSize 12 _ HC3.out (by omega) (by omega) (by omega)).mono ?_
      rintro e w4 ⟨r, rfl, hr, k4, hk4, hc4, hg4⟩
      have hrn : r ≤ 12 := by omega
      have HC4 := hid hc4
      have HG4 := hid (grown_trans HG3.out hg4)
      clear hr hc4 hg4
      go_wp2
      go_loopw [3, 5] (fun out kk wr => ∃ (j : Nat) (o : ByteArray) (k2 : Nat), out = .string o ∧ kk = .int .i64 (j : Int) ∧ j ≤ r ∧ o.size ≤ 5 * (r - j) ∧ k2 ≤ k4 + (r - j) ∧ Cur B wr p k2 ∧ w.grownBy wr (some p)) (fun _ kk _ => (intOf kk).toNat)
      case atStart => exact ⟨r, ⟨#[]⟩, k4, rfl, rfl, Nat.le_refl _, Nat.zero_le _, by omega, HC4.out, HG4.out⟩
      case round =>
        obtain ⟨j, o, k2, rfl, rfl, hj, ho, hk2, hc2, hg2⟩ := hrel
        by_cases hz : (0 : Int) < (j : Int)
        · go_wp2_with fail
          refine (curPick 12 _ (hc2.alloc _) (by omega) (by omega)).mono ?_
          rintro e w5 ⟨q5, rfl, hq5, k5, hk5, hc5, hg5⟩
          have hq1 : (q5 : Int) < 12 := by omega
          have hq0 : (0 : Int) ≤ (q5 : Int) := by omega
          have hlt := hc2.lt
          obtain ⟨t, ht, htc⟩ := lit_str' (m := 5) (r := q5) hg5 hlt.2 (by decide) (by show q5 < 12; omega)
          have hsum : ¬ 9223372036854775807 < o.size + t.size := by omega
          go_wp2
          go_roundw
          case rel => exact ⟨j - 1, o ++ t, k5, rfl, by first | go_num | (congr 1; omega), by omega, by rw [ByteArray.size_append]; omega, by omega, hc5, grown_trans (grown_alloc hg2 _) hg5⟩
          case measure => simp [intOf]; omega
        · go_wp2
          go_meet
          case rel => exact ⟨o, k2, rfl, by omega, by omega, hc2, hg2⟩
    · have hqb : ((q : Int) == 0) = false := by rw [beq_eq_false_iff_ne]; omega
      go_wp2
      go_meet
      case rel => exact ⟨s0, k3, rfl, hs0, by omega, HC3.out, HG3.out⟩
  case rest =>
  obtain ⟨s, k5, rfl, hs, hk5, hc5, hg5⟩ := hcut
  have HC5 := hid hc5
  have HG5 := hid hg5
  clear hc5 hg5 HC3 HG3 hq hs0
  go_upto_region 8 with fail
  go_cut [36] from 8 (fun v wx => ∃ (b : Bool) (k' : Nat), v = .bool b ∧ Hid (b = true → 0 < s.size) ∧ k' ≤ k + 11001 ∧ Cur B wx p k' ∧ w.grownBy wx (some p))
  case first =>
    go_wp2_with fail
    refine (curOnce 16 _ HC5.out (by omega) (by omega) (by omega)).mono ?_
    rintro e w6 ⟨b, rfl, k6, hk6, hc6, hg6⟩
    have HC6 := hid hc6
    have HG6 := hid (grown_trans HG5.out hg6)
    clear hc6 hg6 HC5 HG5
    cases b with
    | false =>
      go_wp2
      go_meet
      case rel => exact ⟨false, k6, rfl, hid (fun h => by cases h), by omega, HC6.out, HG6.out⟩
    | true =>
      by_cases h0 : 0 < s.size
      · have h0i : (0 : Int) < (s.size : Int) := by omega
        have HS0 := hid h0
        go_wp2
        go_meet
        case rel => exact ⟨true, k6, rfl, hid (fun _ => HS0.out), by omega, HC6.out, HG6.out⟩
      · have h0i : ¬ (0 : Int) < (s.size : Int) := by omega
        go_wp2
        go_meet
        case rel => exact ⟨false, k6, rfl, hid (fun h => by cases h), by omega, HC6.out, HG6.out⟩
  case rest =>
  obtain ⟨b, k6, rfl, HSZ0, hk6, hc6, hg6⟩ := hcut
  have HC6 := hid hc6
  have HG6 := hid hg6
  clear hc6 hg6 HC5 HG5
  go_upto_if 36 with fail
  go_cut [3, 6] from 8 (fun v3 _ wx => ∃ (s : ByteArray) (k' : Nat), v3 = .string s ∧ s.size ≤ 4001 ∧ k' ≤ k + 11010 ∧ Cur B wx p k' ∧ w.grownBy wx (some p))
  case first =>
    cases b with
    | false =>
      go_wp2
      go_meet
      case rel => exact ⟨s, k6, rfl, by omega, by omega, HC6.out, HG6.out⟩
    | true =>
      have h0 := HSZ0.out rfl
      have h0i : (0 : Int) < (s.size : Int) := by omega
      go_wp2_with fail
      refine (curPick (s.size : Int) _ HC6.out (by omega) (by omega)).mono ?_
      rintro e w7 ⟨z, rfl, hz, k7, hk7, hc7, hg7⟩
      have hz1 : z < s.size := by omega
      have hz2 : (z : Int) ≤ (s.size : Int) := by omega
      have hz0 : (0 : Int) ≤ (z : Int) := by omega
      have HC7 := hid hc7
      have HG7 := hid (grown_trans HG6.out hg7)
      obtain ⟨PRE, hPRE⟩ : ∃ x, s.extract 0 z = x := ⟨_, rfl⟩
      obtain ⟨SUF, hSUF⟩ : ∃ x, s.extract z s.size = x := ⟨_, rfl⟩
      have hps : PRE.size = z := by rw [← hPRE, ByteArray.size_extract]; omega
      have hss : SUF.size = s.size - z := by rw [← hSUF, ByteArray.size_extract]; omega
      have HSZ := hid (show PRE.size + SUF.size ≤ 4000 by omega)
      have hpl : PRE.size ≤ 4000 := by omega
      have hsl : SUF.size ≤ 4000 := by omega
      clear hps hss hz hc7 hg7 HC6 HG6 hz1
      go_upto_region 10 with fail
      refine wp_region_held_drew (S := fun w' => True) (by kernel_rfl) ?_ (fun hHeld => ?_)
      · trivial
      refine wpAnyH_take (i := 0) (v := ?_) rfl (by kernel_rfl) (by kernel_rfl) (by kernel_rfl) (fun _ _ _ h => h) (Or.inl ⟨by rfl, ?_⟩) (by assumption) ?_
      rotate_left
      · (intro w' hSw; (try dsimp only at hSw); go_simp; try (with_reducible rfl))
      change wpAnyH _ _ _ _ _ _ _ (Act.put _ (some 41) _) _
      try simp only [Act.put, List.setIfInBounds_toArray, List.set_cons_zero, List.set_cons_succ]
      refine wpAnyH_take (i := 1) (v := ?_) rfl (by kernel_rfl) (by kernel_rfl) (by kernel_rfl) (fun _ _ _ h => h) (Or.inl ⟨by rfl, ?_⟩) (by assumption) ?_
      rotate_left
      · (intro w' hSw; (try dsimp only at hSw); go_simp; try (with_reducible rfl))
      change wpAnyH _ _ _ _ _ _ _ (Act.put _ (some 42) _) _
      try simp only [Act.put, List.setIfInBounds_toArray, List.set_cons_zero, List.set_cons_succ]
      refine wpAnyH_take (i := 2) (v := ?_) rfl (by kernel_rfl) (by kernel_rfl) (by kernel_rfl) (fun _ _ _ h => h) (Or.inl ⟨by rfl, ?_⟩) (by assumption) ?_
      rotate_left
      · (intro w' hSw; (try dsimp only at hSw); go_simp; try (with_reducible rfl))
      change wpAnyH _ _ _ _ _ _ _ (Act.put _ (some 43) _) _
      try simp only [Act.put, List.setIfInBounds_toArray, List.set_cons_zero, List.set_cons_succ]
      refine wpAnyH_take (i := 4) (v := ?_) rfl (by kernel_rfl) (by kernel_rfl) (by kernel_rfl) (fun _ _ _ h => h) (Or.inl ⟨by rfl, ?_⟩) (by assumption) ?_
      rotate_left
      · (intro w' hSw; (try dsimp only at hSw); go_simp; try (with_reducible rfl))
      change wpAnyH _ _ _ _ _ _ _ (Act.put _ (some 45) _) _
      try simp only [Act.put, List.setIfInBounds_toArray, List.set_cons_zero, List.set_cons_succ]
      refine wpAnyH_take (i := 9) (v := ?_) rfl (by kernel_rfl) (by kernel_rfl) (by kernel_rfl) (fun _ _ _ h => h) (Or.inl ⟨by rfl, ?_⟩) (by assumption) ?_
      rotate_left
      · (intro w' hSw; (try dsimp only at hSw); go_simp; try (with_reducible rfl))
      change wpAnyH _ _ _ _ _ _ _ (Act.put _ (some 50) _) _
      try simp only [Act.put, List.setIfInBounds_toArray, List.set_cons_zero, List.set_cons_succ]
      refine wpAnyH_take (i := 10) (v := ?_) rfl (by kernel_rfl) (by kernel_rfl) (by kernel_rfl) (fun _ _ _ h => h) (Or.inl ⟨by rfl, ?_⟩) (by assumption) ?_
      rotate_left
      · (intro w' hSw; (try dsimp only at hSw); go_simp; try (with_reducible rfl))
      change wpAnyH _ _ _ _ _ _ _ (Act.put _ (some 51) _) _
      try simp only [Act.put, List.setIfInBounds_toArray, List.set_cons_zero, List.set_cons_succ]
      refine wpAnyH_take (i := 11) (v := ?_) rfl (by kernel_rfl) (by kernel_rfl) (by kernel_rfl) (fun _ _ _ h => h) (Or.inl ⟨by rfl, ?_⟩) (by assumption) ?_
      rotate_left
      · (intro w' hSw; (try dsimp only at hSw); go_simp; try (with_reducible rfl))
      change wpAnyH _ _ _ _ _ _ _ (Act.put _ (some 52) _) _
      try simp only [Act.put, List.setIfInBounds_toArray, List.set_cons_zero, List.set_cons_succ]
      refine wpAnyH_ready (rs := [3, 5]) (by kernel_rfl) (by simp) ?_
      refine AllReadyH.cons (i := 3) rfl (fun K hK => ?_) ?_
      · simp only [List.getElem_toArray, List.getElem_cons_succ, List.getElem_cons_zero]
        rw [if_pos (by rfl)]
        go_simp
        have hb_3 := (Cur.drew HC7.out).lt.2
        refine hK.out _ _ ?_ (fun hHeld => ?_)
        · first | trivial | ((try dsimp only); trivial)
        clear hK K
        try simp only [Act.put, List.setIfInBounds_toArray, List.set_cons_zero, List.set_cons_succ]
        refine wpAnyH_ready (rs := [5]) (by kernel_rfl) (by simp) ?_
        refine AllReadyH.cons (i := 5) rfl (fun K hK => ?_) AllReadyH.nil
        simp only [List.getElem_toArray, List.getElem_cons_succ, List.getElem_cons_zero]
        rw [if_pos (by rfl)]
        go_simp
        (go_at_call 53; refine (curPick 4 _ (Cur.alloc (Cur.drew HC7.out) _) (by omega) (by omega)).mono ?_; rintro e w_5 ⟨r_5, rfl, hr_5, k_5, hk_5, hc_5, hg_5⟩; go_wp2_with fail)
        have hq_5 : (r_5 : Int) < 4 := by omega
        have hz_5 : (0 : Int) ≤ (r_5 : Int) := by omega
        refine hK.out _ _ ?_ (fun hHeld => ?_)
        · first | trivial | ((try dsimp only); trivial)
        clear hK K
        try simp only [Act.put, List.setIfInBounds_toArray, List.set_cons_zero, List.set_cons_succ]
        have hxc0 := lit_str' (m := 1) (r := r_5) hg_5 hb_3 (by decide) (by show r_5 < 4; omega)
        dsimp only [World.drew, World.drewN] at hxc0
        obtain ⟨t, ht, hxc⟩ := hxc0
        have hsum1 : ¬ 9223372036854775807 < PRE.size + t.size := by omega
        have hsum2 : ¬ 9223372036854775807 < PRE.size + t.size + SUF.size := by omega
        refine wpAnyH_cell hxc hHeld ?_
        intro hHeld
        refine wpAnyH_take (i := 6) (v := ?_) rfl (by kernel_rfl) (by kernel_rfl) (by kernel_rfl) (fun _ _ _ h => h) (Or.inl ⟨by rfl, ?_⟩) (by assumption) ?_
        rotate_left
        · (intro w' hSw; (try dsimp only at hSw); go_simp; try (with_reducible rfl))
        change wpAnyH _ _ _ _ _ _ _ (Act.put _ (some 47) _) _
        try simp only [Act.put, List.setIfInBounds_toArray, List.set_cons_zero, List.set_cons_succ]
        refine wpAnyH_take (i := 7) (v := ?_) rfl (by kernel_rfl) (by kernel_rfl) (by kernel_rfl) (fun _ _ _ h => h) (Or.inl ⟨by rfl, ?_⟩) (by assumption) ?_
        rotate_left
        · (intro w' hSw; (try dsimp only at hSw); go_simp; try (with_reducible rfl))
        change wpAnyH _ _ _ _ _ _ _ (Act.put _ (some 48) _) _
        try simp only [Act.put, List.setIfInBounds_toArray, List.set_cons_zero, List.set_cons_succ]
        refine wpAnyH_take (i := 8) (v := ?_) rfl (by kernel_rfl) (by kernel_rfl) (by kernel_rfl) (fun _ _ _ h => h) (Or.inl ⟨by rfl, ?_⟩) (by assumption) ?_
        rotate_left
        · (intro w' hSw; (try dsimp only at hSw); go_simp; try (with_reducible rfl))
        change wpAnyH _ _ _ _ _ _ _ (Act.put _ (some 49) _) _
        try simp only [Act.put, List.setIfInBounds_toArray, List.set_cons_zero, List.set_cons_succ]
        refine wpAnyH_take (i := 12) (v := ?_) rfl (by kernel_rfl) (by kernel_rfl) (by kernel_rfl) (fun _ _ _ h => h) (Or.inl ⟨by rfl, ?_⟩) (by assumption) ?_
        rotate_left
        · (intro w' hSw; (try dsimp only at hSw); go_simp; try (with_reducible rfl))
        change wpAnyH _ _ _ _ _ _ _ (Act.put _ (some 53) _) _
        try simp only [Act.put, List.setIfInBounds_toArray, List.set_cons_zero, List.set_cons_succ]
        refine wpAnyH_take (i := 13) (v := ?_) rfl (by kernel_rfl) (by kernel_rfl) (by kernel_rfl) (fun _ _ _ h => h) (Or.inl ⟨by rfl, ?_⟩) (by assumption) ?_
        rotate_left
        · (intro w' hSw; (try dsimp only at hSw); go_simp; try (with_reducible rfl))
        change wpAnyH _ _ _ _ _ _ _ (Act.put _ (some 3) _) _
        try simp only [Act.put, List.setIfInBounds_toArray, List.set_cons_zero, List.set_cons_succ]
        refine wpAnyH_done (by kernel_rfl) ?_ _
        go_wp2
        go_meet
        case rel => exact ⟨PRE ++ t ++ SUF, k_5, rfl, by rw [ByteArray.size_append, ByteArray.size_append]; have := HSZ.out; omega, by omega, hc_5, grown_trans (grown_alloc (grown_drew HG7.out) _) hg_5⟩
      refine AllReadyH.cons (i := 5) rfl (fun K hK => ?_) ?_
      · simp only [List.getElem_toArray, List.getElem_cons_succ, List.getElem_cons_zero]
        rw [if_pos (by rfl)]
        go_simp
        (go_at_call 53; refine (curPick 4 _ (Cur.drew HC7.out) (by omega) (by omega)).mono ?_; rintro e w_5 ⟨r_5, rfl, hr_5, k_5, hk_5, hc_5, hg_5⟩; go_wp2_with fail)
        have hq_5 : (r_5 : Int) < 4 := by omega
        have hz_5 : (0 : Int) ≤ (r_5 : Int) := by omega
        refine hK.out _ _ ?_ (fun hHeld => ?_)
        · first | trivial | ((try dsimp only); trivial)
        clear hK K
        try simp only [Act.put, List.setIfInBounds_toArray, List.set_cons_zero, List.set_cons_succ]
        refine wpAnyH_ready (rs := [3]) (by kernel_rfl) (by simp) ?_
        refine AllReadyH.cons (i := 3) rfl (fun K hK => ?_) AllReadyH.nil
        simp only [List.getElem_toArray, List.getElem_cons_succ, List.getElem_cons_zero]
        rw [if_pos (by rfl)]
        go_simp
        have hb_3 := (hc_5).lt.2
        refine hK.out _ _ ?_ (fun hHeld => ?_)
        · first | trivial | ((try dsimp only); trivial)
        clear hK K
        try simp only [Act.put, List.setIfInBounds_toArray, List.set_cons_zero, List.set_cons_succ]
        obtain ⟨t, ht, hxc⟩ := lit_str (m := 1) (r := r_5) (heap_alloc_new w_5 (.cells #[.string ⟨#[34]⟩, .string ⟨#[13]⟩, .string ⟨#[]⟩, .string ⟨#[255]⟩] 9)) (by decide) (by show r_5 < 4; omega)
        have hsum1 : ¬ 9223372036854775807 < PRE.size + t.size := by omega
        have hsum2 : ¬ 9223372036854775807 < PRE.size + t.size + SUF.size := by omega
        refine wpAnyH_cell hxc hHeld ?_
        intro hHeld
        refine wpAnyH_take (i := 6) (v := ?_) rfl (by kernel_rfl) (by kernel_rfl) (by kernel_rfl) (fun _ _ _ h => h) (Or.inl ⟨by rfl, ?_⟩) (by assumption) ?_
        rotate_left
        · (intro w' hSw; (try dsimp only at hSw); go_simp; try (with_reducible rfl))
        change wpAnyH _ _ _ _ _ _ _ (Act.put _ (some 47) _) _
        try simp only [Act.put, List.setIfInBounds_toArray, List.set_cons_zero, List.set_cons_succ]
        refine wpAnyH_take (i := 7) (v := ?_) rfl (by kernel_rfl) (by kernel_rfl) (by kernel_rfl) (fun _ _ _ h => h) (Or.inl ⟨by rfl, ?_⟩) (by assumption) ?_
        rotate_left
        · (intro w' hSw; (try dsimp only at hSw); go_simp; try (with_reducible rfl))
        change wpAnyH _ _ _ _ _ _ _ (Act.put _ (some 48) _) _
        try simp only [Act.put, List.setIfInBounds_toArray, List.set_cons_zero, List.set_cons_succ]
        refine wpAnyH_take (i := 8) (v := ?_) rfl (by kernel_rfl) (by kernel_rfl) (by kernel_rfl) (fun _ _ _ h => h) (Or.inl ⟨by rfl, ?_⟩) (by assumption) ?_
        rotate_left
        · (intro w' hSw; (try dsimp only at hSw); go_simp; try (with_reducible rfl))
        change wpAnyH _ _ _ _ _ _ _ (Act.put _ (some 49) _) _
        try simp only [Act.put, List.setIfInBounds_toArray, List.set_cons_zero, List.set_cons_succ]
        refine wpAnyH_take (i := 12) (v := ?_) rfl (by kernel_rfl) (by kernel_rfl) (by kernel_rfl) (fun _ _ _ h => h) (Or.inl ⟨by rfl, ?_⟩) (by assumption) ?_
        rotate_left
        · (intro w' hSw; (try dsimp only at hSw); go_simp; try (with_reducible rfl))
        change wpAnyH _ _ _ _ _ _ _ (Act.put _ (some 53) _) _
        try simp only [Act.put, List.setIfInBounds_toArray, List.set_cons_zero, List.set_cons_succ]
        refine wpAnyH_take (i := 13) (v := ?_) rfl (by kernel_rfl) (by kernel_rfl) (by kernel_rfl) (fun _ _ _ h => h) (Or.inl ⟨by rfl, ?_⟩) (by assumption) ?_
        rotate_left
        · (intro w' hSw; (try dsimp only at hSw); go_simp; try (with_reducible rfl))
        change wpAnyH _ _ _ _ _ _ _ (Act.put _ (some 3) _) _
        try simp only [Act.put, List.setIfInBounds_toArray, List.set_cons_zero, List.set_cons_succ]
        refine wpAnyH_done (by kernel_rfl) ?_ _
        go_wp2
        go_meet
        case rel => exact ⟨PRE ++ t ++ SUF, k_5, rfl, by rw [ByteArray.size_append, ByteArray.size_append]; have := HSZ.out; omega, by omega, Cur.alloc (hc_5) _, grown_alloc (grown_trans (grown_drew HG7.out) hg_5) _⟩
      exact AllReadyH.nil
  case rest =>
  clear HC6 HG6 hs HSZ0
  obtain ⟨s1, k8, rfl, hs1, hk8, hc8, hg8⟩ := hcut
  have HC8 := hid hc8
  have HG8 := hid hg8
  clear hc8 hg8
  go_wp2_with fail
  refine (curOnce 30 _ HC8.out (by omega) (by omega) (by omega)).mono ?_
  rintro e w9 ⟨b9, rfl, k9, hk9, hc9, hg9⟩
  have HC9 := hid hc9
  have HG9 := hid (grown_trans HG8.out hg9)
  clear hc9 hg9 HC8 HG8
  cases b9 with
  | false =>
    go_wp2
    go_ret
    exact ⟨s1, rfl, by omega, k9, by omega, HC9.out, HG9.out⟩
  | true =>
    go_wp2
    go_loopw [3, 7] (fun out i wr => ∃ (j : Nat) (o : ByteArray), out = .string o ∧ i = .int .i64 (j : Int) ∧ j ≤ 1001 ∧ o.size ≤ 4001 + j ∧ wr = w9) (fun _ i _ => 1001 - (intOf i).toNat)
    case atStart => exact ⟨0, s1, rfl, rfl, by omega, by omega, by first | rfl | trivial⟩
    case round =>
      obtain ⟨j, o, rfl, rfl, hj, ho, rfl⟩ := hrel
      by_cases hlt : j < 1001
      · have hlti : (j : Int) < 1001 := by omega
        have hsum : ¬ 9223372036854775807 < o.size + 1 := by omega
        go_wp2
        go_roundw
        case rel => exact ⟨j + 1, o ++ ⟨#[122]⟩, rfl, by go_num, by omega, by rw [ByteArray.size_append, show (⟨#[122]⟩ : ByteArray).size = 1 from rfl]; omega, by first | rfl | trivial⟩
        case measure => simp [intOf]; omega
      · have hlti : ¬ (j : Int) < 1001 := by omega
        go_wp2
        go_ret
        exact ⟨o, rfl, by omega, k9, by omega, HC9.out, HG9.out⟩
set_option maxHeartbeats 1000000 in
theorem drawCsvRead {v : Value} {c : List UInt8} (w : World) (h : Rd.rd (Old w) w [v] c) (hn : c.length ≤ 1048576) :
    Calls Tryd.prog 23 #[v] w fun e w' => ∃ s : ByteArray, e = .returned (.string s) ∧ Below w.heap.size w w' := by
  obtain ⟨a, cap, rfl, h1, h2, hc⟩ := rdBytes h
  have CO := fun w' (e : w = w') => curOpen (a := a) (cap := cap) w hn hc
  clear hc h h1 h2
  go_enter Tryd.func23, Tryd.ntmps23
  go_wp2_with fail
  refine (CO _ rfl).mono ?_
  rintro e w1 ⟨rfl, hc1, hb1⟩
  go_wp2_with fail
  refine (curCommas _ hc1 (by omega)).mono ?_
  rintro e w2 ⟨s, rfl, hs, k, hk, hc2, hg2⟩
  have HB := hid (drawn_below hb1 hg2)
  clear hc1 hb1 hc2 hg2
  go_wp2
  go_ret
  exact ⟨s, rfl, HB.out⟩
end Go.Proofs.YtommldonooicjaaDoor
