/-
  What is proved here: the draw of an array. No condition but that the cursor lies in memory.
-/
import Derived.Test.YtommldonooicjaaDoorAkA
import Derived.Deep.RegionHeld3
namespace Go.Proofs.YtommldonooicjaaDoor
open Go.RowKit
set_option linter.unusedVariables false
set_option linter.unusedSimpArgs false

/-- an array is returned, in blocks of the call's own -/
def ArrRes (w w' : World) (B p k : Nat) (e : Ending) : Prop := ∃ (u v : Value) (x : Arr), e = .returned (.agg #[u, v]) ∧ Rd.rd (New w.heap.size w') w' #[u, v].toList x ∧ AllOk x ∧ x.keys.length ≤ 300 ∧ x.vals.length ≤ 300 ∧ ∃ k', k' ≤ k + 30000 ∧ Cur B w' p k' ∧ w.grownBy w' (some p)
set_option maxHeartbeats 32000000 in
set_option maxRecDepth 100000 in
theorem curArr {B p k : Nat} (w : World) (hc : Cur B w p k) (hk : k ≤ 400000000000) :
    Calls Tryd.prog 26 #[.pointer (some ⟨p, 0, none⟩)] w fun e w' => ArrRes w w' B p k e := by
  obtain ⟨iS, hiS, hs0, hs1, hs2⟩ := info_parts infoS
  obtain ⟨iV, hiV, hv0, hv1, hv2⟩ := info_parts infoV
  have hp := hc.lt.2
  obtain ⟨w2, hw2⟩ : ∃ y, (w.alloc (.cells #[.slice none 0 0, .slice none 0 0] 27)).alloc (.cells #[.slice none 0 0, .slice none 0 0] 27) = y := ⟨_, rfl⟩
  have HA0 := hid (show AS w w2 B p k ⟨[], []⟩ (.slice none 0 0) (.slice none 0 0) by
    have hb2 : Below w.heap.size w w2 := by rw [← hw2]; exact ext_trans (ext_alloc _ _) (ext_alloc _ _)
    refine ⟨?_, ?_, ⟨rfl, Or.inl ⟨rfl, rfl⟩⟩, ⟨rfl, Or.inl ⟨rfl, rfl⟩⟩, (fun q h => by cases h), (fun h => by cases h), (fun h => by cases h), ⟨fun s h => absurd h (by simp), fun s h => absurd h (by simp)⟩, hc.later hb2, below_grown hb2, hp⟩
    · rw [← hw2]; exact ((ext_alloc _ _).block w.heap.size (by simp)).trans (heap_alloc_new w _)
    · rw [← hw2]
      have := heap_alloc_new (w.alloc (.cells #[.slice none 0 0, .slice none 0 0] 27)) (.cells #[.slice none 0 0, .slice none 0 0] 27)
      rw [show (w.alloc (.cells #[.slice none 0 0, .slice none 0 0] 27)).heap.size = w.heap.size + 1 by simp] at this
      exact this)
  have HQX := hid hw2
  clear hw2 hc
  go_enter Tryd.func26, Tryd.ntmps26
  go_upto_region 2 with fail
  try rw [HQX.out]
  clear HQX
  go_wp2_with fail
  refine (curSize 8 _ HA0.out.cur (by omega) (by omega) (by omega)).mono ?_
  rintro e w1 ⟨r, rfl, hr, k1, hk1, hc1, hg1⟩
  have HA1 := hid (HA0.out.call hg1 hc1)
  have hr8 : r ≤ 8 := by omega
  clear hr hc1 hg1 HA0
  go_wp2
  go_loopw [4] (fun kk wr => ∃ (j k2 : Nat) (x : Arr) (u v : Value), kk = .int .i64 (j : Int) ∧ j ≤ 8 ∧ x.keys.length + j ≤ 8 ∧ x.vals.length ≤ 8 ∧ k2 + 2010 * j ≤ k + 17000 ∧ AS w wr B p k2 x u v) (fun kk _ => (intOf kk).toNat)
  case atStart => exact ⟨r, k1, ⟨[], []⟩, _, _, rfl, hr8, by simpa using hr8, by simp, by omega, HA1.out⟩
  case round =>
    obtain ⟨j, k2, x, u, v, rfl, hj, hkl, hvl, hk2, hA⟩ := hrel
    have HA := hid hA
    have HOK := hid hA.ok
    clear hA HA1
    by_cases hz : (0 : Int) < (j : Int)
    · have hj1 : 1 ≤ j := by omega
      obtain ⟨⟨a0, a1, ay0, ay1, al⟩, ⟨b0, b1, by0, by1, bl⟩⟩ := HA.out.drew.cells
      obtain ⟨⟨a0w, a1w, ay0w, ay1w, alw⟩, ⟨b0w, b1w, by0w, by1w, blw⟩⟩ := HA.out.cells
      have hpw := HA.out.hp
      go_upto_region 5 with fail
      refine wp_region_held_drew (S := fun w' => True) (by kernel_rfl) ?_ (fun hHeld => ?_)
      · trivial
      refine wpAnyH_take (i := 2) (v := ?_) rfl (by kernel_rfl) (by kernel_rfl) (by kernel_rfl) (fun _ _ _ h => h) (Or.inl ⟨by rfl, ?_⟩) (by assumption) ?_
      rotate_left
      · (intro w' hSw; (try dsimp only at hSw); go_simp; try (with_reducible rfl))
      change wpAnyH _ _ _ _ _ _ _ (Act.put _ (some 16) _) _
      try simp only [Act.put, List.setIfInBounds_toArray, List.set_cons_zero, List.set_cons_succ]
      refine wpAnyH_take (i := 6) (v := ?_) rfl (by kernel_rfl) (by kernel_rfl) (by kernel_rfl) (fun _ _ _ h => h) (Or.inl ⟨by rfl, ?_⟩) (by assumption) ?_
      rotate_left
      · (intro w' hSw; (try dsimp only at hSw); go_simp; try (with_reducible rfl))
      change wpAnyH _ _ _ _ _ _ _ (Act.put _ (some 20) _) _
      try simp only [Act.put, List.setIfInBounds_toArray, List.set_cons_zero, List.set_cons_succ]
      refine wpAnyH_ready (rs := [0, 1, 3]) (by kernel_rfl) (by simp) ?_
      refine AllReadyH.cons (i := 0) rfl (fun K hK => ?_) ?_
      · simp only [List.getElem_toArray, List.getElem_cons_succ, List.getElem_cons_zero]
        rw [if_pos (by rfl)]
        go_simp
        refine hK.out _ _ ?_ (fun hHeld => ?_)
        · first | trivial | ((try dsimp only); trivial)
        clear hK K
        try simp only [Act.put, List.setIfInBounds_toArray, List.set_cons_zero, List.set_cons_succ]
        refine wpAnyH_ready (rs := [1, 3]) (by kernel_rfl) (by simp) ?_
        refine AllReadyH.cons (i := 1) rfl (fun K hK => ?_) ?_
        · simp only [List.getElem_toArray, List.getElem_cons_succ, List.getElem_cons_zero]
          rw [if_pos (by rfl)]
          go_simp
          have hbl := HA.out.drew.lt
          have hbl2 := HA.out.lt
          obtain ⟨⟨a0_1, a1_1, ay0_1, ay1_1, al_1⟩, ⟨b0_1, b1_1, by0_1, by1_1, bl_1⟩⟩ := (HA.out.drew.alloc (.cells #[.string ⟨#[97]⟩, .string ⟨#[98]⟩, .string ⟨#[49, 48]⟩, .string ⟨#[57]⟩, .string ⟨#[49]⟩, .string ⟨#[48, 49]⟩, .string ⟨#[32, 50]⟩, .string ⟨#[120]⟩, .string ⟨#[195, 169]⟩, .string ⟨#[]⟩, .string ⟨#[49, 46, 48]⟩, .string ⟨#[45, 51]⟩, .string ⟨#[98, 50]⟩] 9)).cells
          refine hK.out _ _ ?_ (fun hHeld => ?_)
          · first | trivial | ((try dsimp only); trivial)
          clear hK K
          try simp only [Act.put, List.setIfInBounds_toArray, List.set_cons_zero, List.set_cons_succ]
          refine wpAnyH_row (heap_alloc_new _ _) hHeld ?_
          intro hHeld
          refine wpAnyH_ready (rs := [3]) (by kernel_rfl) (by simp) ?_
          refine AllReadyH.cons (i := 3) rfl (fun K hK => ?_) AllReadyH.nil
          simp only [List.getElem_toArray, List.getElem_cons_succ, List.getElem_cons_zero]
          rw [if_pos (by rfl)]
          go_simp
          (go_at_call 53; refine (curPick 13 _ (HA.out.drew.alloc (.cells #[.string ⟨#[97]⟩, .string ⟨#[98]⟩, .string ⟨#[49, 48]⟩, .string ⟨#[57]⟩, .string ⟨#[49]⟩, .string ⟨#[48, 49]⟩, .string ⟨#[32, 50]⟩, .string ⟨#[120]⟩, .string ⟨#[195, 169]⟩, .string ⟨#[]⟩, .string ⟨#[49, 46, 48]⟩, .string ⟨#[45, 51]⟩, .string ⟨#[98, 50]⟩] 9)).cur (by omega) (by omega)).mono ?_; rintro e w_3 ⟨r_3, rfl, hr_3, k_3, hk_3, hc_3, hg_3⟩; go_wp2_with fail)
          have hA_3 := (HA.out.drew.alloc (.cells #[.string ⟨#[97]⟩, .string ⟨#[98]⟩, .string ⟨#[49, 48]⟩, .string ⟨#[57]⟩, .string ⟨#[49]⟩, .string ⟨#[48, 49]⟩, .string ⟨#[32, 50]⟩, .string ⟨#[120]⟩, .string ⟨#[195, 169]⟩, .string ⟨#[]⟩, .string ⟨#[49, 46, 48]⟩, .string ⟨#[45, 51]⟩, .string ⟨#[98, 50]⟩] 9)).call hg_3 hc_3
          have hq_3 : (r_3 : Int) < 13 := by omega
          have hz_3 : (0 : Int) ≤ (r_3 : Int) := by omega
          obtain ⟨t_3, ht_3, hT_3⟩ := lit_pure (m := 4) (r := r_3) (cs := (#[.string ⟨#[97]⟩, .string ⟨#[98]⟩, .string ⟨#[49, 48]⟩, .string ⟨#[57]⟩, .string ⟨#[49]⟩, .string ⟨#[48, 49]⟩, .string ⟨#[32, 50]⟩, .string ⟨#[120]⟩, .string ⟨#[195, 169]⟩, .string ⟨#[]⟩, .string ⟨#[49, 46, 48]⟩, .string ⟨#[45, 51]⟩, .string ⟨#[98, 50]⟩] : Array Value)) (by decide) (by show r_3 < 13; omega)
          obtain ⟨⟨a0_3, a1_3, ay0_3, ay1_3, al_3⟩, ⟨b0_3, b1_3, by0_3, by1_3, bl_3⟩⟩ := hA_3.cells
          refine hK.out _ _ ?_ (fun hHeld => ?_)
          · first | trivial | ((try dsimp only); exact ⟨trivial, (hg_3.block _ (Array.getElem?_eq_some_iff.1 hHeld.2).1 (fun e => absurd (Option.some.inj e) (by first | omega | (simp; omega)))).trans hHeld.2⟩)
          clear hK K
          try simp only [Act.put, List.setIfInBounds_toArray, List.set_cons_zero, List.set_cons_succ]
          refine wpAnyH_take (i := 4) (v := ?_) rfl (by kernel_rfl) (by kernel_rfl) (by kernel_rfl) (fun _ _ _ h => h) (Or.inl ⟨by rfl, ?_⟩) (by assumption) ?_
          rotate_left
          · (intro w' hSw; (try dsimp only at hSw); go_simp; try (with_reducible rfl))
          change wpAnyH _ _ _ _ _ _ _ (Act.put _ (some 18) _) _
          try simp only [Act.put, List.setIfInBounds_toArray, List.set_cons_zero, List.set_cons_succ]
          refine wpAnyH_take (i := 5) (v := ?_) rfl (by kernel_rfl) (by kernel_rfl) (by kernel_rfl) (fun _ _ _ h => h) (Or.inl ⟨by rfl, ?_⟩) (by assumption) ?_
          rotate_left
          · (intro w' hSw; (try dsimp only at hSw); have hcx := (cell_of_row _ _ r_3 _ _ _ hSw.2).trans hT_3; (try simp only [World.size_alloc] at hcx); go_simp; try (with_reducible rfl))
          change wpAnyH _ _ _ _ _ _ _ (Act.put _ (some 19) _) _
          try simp only [Act.put, List.setIfInBounds_toArray, List.set_cons_zero, List.set_cons_succ]
          refine wpAnyH_ready (rs := [7]) (by kernel_rfl) (by simp) ?_
          refine AllReadyH.cons (i := 7) rfl (fun K hK => ?_) AllReadyH.nil
          simp only [List.getElem_toArray, List.getElem_cons_succ, List.getElem_cons_zero]
          rw [if_pos (by rfl)]
          go_simp
          (go_at_call 28; refine (curVal _ hA_3.cur (by omega)).mono ?_; rintro e w_7 ⟨y, hy, he_7, k_7, hk_7, hc_7, hg_7⟩; obtain rfl : e = _ := he_7; go_wp2_with fail)
          have hA_7 := hA_3.call hg_7 hc_7
          obtain ⟨⟨a0_7, a1_7, ay0_7, ay1_7, al_7⟩, ⟨b0_7, b1_7, by0_7, by1_7, bl_7⟩⟩ := hA_7.cells
          refine hK.out _ _ ?_ (fun hHeld => ?_)
          · first | trivial | ((try dsimp only); exact ⟨trivial, (hg_7.block _ (Array.getElem?_eq_some_iff.1 hHeld.2).1 (fun e => absurd (Option.some.inj e) (by first | omega | (simp; omega)))).trans hHeld.2⟩)
          clear hK K
          try simp only [Act.put, List.setIfInBounds_toArray, List.set_cons_zero, List.set_cons_succ]
          refine wpAnyH_ready (rs := [8]) (by kernel_rfl) (by simp) ?_
          refine AllReadyH.cons (i := 8) rfl (fun K hK => ?_) AllReadyH.nil
          simp only [List.getElem_toArray, List.getElem_cons_succ, List.getElem_cons_zero]
          rw [if_pos (by rfl)]
          go_simp
          (go_at_call 9; refine (specPutO (cs := #[u, v]) (x := x) (y := y) t_3 _ (by exact hA_7.old) (by exact vS_rd hy (by decide)) (by omega) (hid (by omega))).mono ?_; rintro e w_8 ⟨cs_8, rfl, hr_8, ⟨u8, v8, rfl, ho1, ho2, ho3⟩, hb_8⟩; obtain ⟨ua8, uc8, rfl⟩ := own_sl ho1; obtain ⟨va8, vc8, rfl⟩ := own_sl ho2; go_wp2_with fail)
          have hA_8 := hA_7.later hb_8
          have HN := hid (hA_7.put hb_8 ⟨_, _, rfl, ho1, ho2, ho3⟩ (put_all HOK.out (by omega) hy))
          obtain ⟨⟨a0_8, a1_8, ay0_8, ay1_8, al_8⟩, ⟨b0_8, b1_8, by0_8, by1_8, bl_8⟩⟩ := hA_8.cells
          refine hK.out _ _ ?_ (fun hHeld => ?_)
          · first | trivial | ((try dsimp only); exact ⟨trivial, (hb_8.block _ (Array.getElem?_eq_some_iff.1 hHeld.2).1).trans hHeld.2⟩)
          clear hK K
          try simp only [Act.put, List.setIfInBounds_toArray, List.set_cons_zero, List.set_cons_succ]
          refine wpAnyH_take (i := 9) (v := ?_) rfl (by kernel_rfl) (by kernel_rfl) (by kernel_rfl) (fun _ _ _ h => h) (Or.inl ⟨by rfl, ?_⟩) (by assumption) ?_
          rotate_left
          · (intro w' hSw; (try dsimp only at hSw); go_simp; try (with_reducible rfl))
          change wpAnyH _ _ _ _ _ _ _ (Act.put _ (some 13) _) _
          try simp only [Act.put, List.setIfInBounds_toArray, List.set_cons_zero, List.set_cons_succ]
          refine wpAnyH_take (i := 10) (v := ?_) rfl (by kernel_rfl) (by kernel_rfl) (by kernel_rfl) (fun _ _ _ h => h) (Or.inl ⟨by rfl, ?_⟩) (by assumption) ?_
          rotate_left
          · (intro w' hSw; (try dsimp only at hSw); go_simp; try (with_reducible rfl))
          change wpAnyH _ _ _ _ _ _ _ (Act.put _ (some 23) _) _
          try simp only [Act.put, List.setIfInBounds_toArray, List.set_cons_zero, List.set_cons_succ]
          refine wpAnyH_take (i := 11) (v := ?_) rfl (by kernel_rfl) (by kernel_rfl) (by kernel_rfl) (fun _ _ _ h => h) (Or.inl ⟨by rfl, ?_⟩) (by assumption) ?_
          rotate_left
          · (intro w' hSw; (try dsimp only at hSw); go_simp; try (with_reducible rfl))
          change wpAnyH _ _ _ _ _ _ _ (Act.put _ (some 24) _) _
          try simp only [Act.put, List.setIfInBounds_toArray, List.set_cons_zero, List.set_cons_succ]
          refine wpAnyH_ready (rs := [12]) (by kernel_rfl) (by simp) ?_
          refine AllReadyH.cons (i := 12) rfl (fun K hK => ?_) AllReadyH.nil
          simp only [List.getElem_toArray, List.getElem_cons_succ, List.getElem_cons_zero]
          rw [if_pos (by rfl)]
          go_simp
          refine hK.out _ _ ?_ (fun hHeld => ?_)
          · first | trivial | ((try dsimp only); exact ⟨trivial, (heap_setCell_other _ _ _ _ (by first | exact (Nat.ne_of_gt hbl) | (simp; omega))).trans ((heap_setCell_other _ _ _ _ (by first | exact (Nat.ne_of_gt hbl) | (simp; omega))).trans hHeld.2)⟩)
          clear hK K
          try simp only [Act.put, List.setIfInBounds_toArray, List.set_cons_zero, List.set_cons_succ]
          refine wpAnyH_done (by kernel_rfl) ?_ _
          obtain ⟨W9, hW9⟩ : ∃ z, (w_8.setCell ⟨w.heap.size + 1, 0, none⟩ (.slice ua8 (arrPut x t_3 y).keys.length uc8)).setCell ⟨w.heap.size + 1, 1, none⟩ (.slice va8 (arrPut x t_3 y).vals.length vc8) = z := ⟨_, rfl⟩
          rw [hW9] at HN
          try rw [hW9]
          clear hW9
          have hpl := put_len x t_3 y
          obtain ⟨x9, hx9⟩ : ∃ z, arrPut x t_3 y = z := ⟨_, rfl⟩
          rw [hx9] at HN hpl
          clear hx9
          go_wp2
          go_roundw
          case rel => exact ⟨j - 1, k_7, x9, _, _, by first | go_num | (congr 1; omega), by omega, by omega, by omega, by omega, HN.out⟩
          case measure => simp [intOf]; omega
        refine AllReadyH.cons (i := 3) rfl (fun K hK => ?_) ?_
        · simp only [List.getElem_toArray, List.getElem_cons_succ, List.getElem_cons_zero]
          rw [if_pos (by rfl)]
          go_simp
          (go_at_call 53; refine (curPick 13 _ HA.out.drew.cur (by omega) (by omega)).mono ?_; rintro e w_3 ⟨r_3, rfl, hr_3, k_3, hk_3, hc_3, hg_3⟩; go_wp2_with fail)
          have hA_3 := HA.out.drew.call hg_3 hc_3
          have hq_3 : (r_3 : Int) < 13 := by omega
          have hz_3 : (0 : Int) ≤ (r_3 : Int) := by omega
          obtain ⟨t_3, ht_3, hT_3⟩ := lit_pure (m := 4) (r := r_3) (cs := (#[.string ⟨#[97]⟩, .string ⟨#[98]⟩, .string ⟨#[49, 48]⟩, .string ⟨#[57]⟩, .string ⟨#[49]⟩, .string ⟨#[48, 49]⟩, .string ⟨#[32, 50]⟩, .string ⟨#[120]⟩, .string ⟨#[195, 169]⟩, .string ⟨#[]⟩, .string ⟨#[49, 46, 48]⟩, .string ⟨#[45, 51]⟩, .string ⟨#[98, 50]⟩] : Array Value)) (by decide) (by show r_3 < 13; omega)
          obtain ⟨⟨a0_3, a1_3, ay0_3, ay1_3, al_3⟩, ⟨b0_3, b1_3, by0_3, by1_3, bl_3⟩⟩ := hA_3.cells
          refine hK.out _ _ ?_ (fun hHeld => ?_)
          · first | trivial | ((try dsimp only); trivial)
          clear hK K
          try simp only [Act.put, List.setIfInBounds_toArray, List.set_cons_zero, List.set_cons_succ]
          refine wpAnyH_ready (rs := [1, 7]) (by kernel_rfl) (by simp) ?_
          refine AllReadyH.cons (i := 1) rfl (fun K hK => ?_) ?_
          · simp only [List.getElem_toArray, List.getElem_cons_succ, List.getElem_cons_zero]
            rw [if_pos (by rfl)]
            go_simp
            have hbl := hA_3.lt
            have hbl2 := HA.out.lt
            obtain ⟨⟨a0_1, a1_1, ay0_1, ay1_1, al_1⟩, ⟨b0_1, b1_1, by0_1, by1_1, bl_1⟩⟩ := (hA_3.alloc (.cells #[.string ⟨#[97]⟩, .string ⟨#[98]⟩, .string ⟨#[49, 48]⟩, .string ⟨#[57]⟩, .string ⟨#[49]⟩, .string ⟨#[48, 49]⟩, .string ⟨#[32, 50]⟩, .string ⟨#[120]⟩, .string ⟨#[195, 169]⟩, .string ⟨#[]⟩, .string ⟨#[49, 46, 48]⟩, .string ⟨#[45, 51]⟩, .string ⟨#[98, 50]⟩] 9)).cells
            refine hK.out _ _ ?_ (fun hHeld => ?_)
            · first | trivial | ((try dsimp only); trivial)
            clear hK K
            try simp only [Act.put, List.setIfInBounds_toArray, List.set_cons_zero, List.set_cons_succ]
            refine wpAnyH_row (heap_alloc_new _ _) hHeld ?_
            intro hHeld
            refine wpAnyH_take (i := 4) (v := ?_) rfl (by kernel_rfl) (by kernel_rfl) (by kernel_rfl) (fun _ _ _ h => h) (Or.inl ⟨by rfl, ?_⟩) (by assumption) ?_
            rotate_left
            · (intro w' hSw; (try dsimp only at hSw); go_simp; try (with_reducible rfl))
            change wpAnyH _ _ _ _ _ _ _ (Act.put _ (some 18) _) _
            try simp only [Act.put, List.setIfInBounds_toArray, List.set_cons_zero, List.set_cons_succ]
            refine wpAnyH_take (i := 5) (v := ?_) rfl (by kernel_rfl) (by kernel_rfl) (by kernel_rfl) (fun _ _ _ h => h) (Or.inl ⟨by rfl, ?_⟩) (by assumption) ?_
            rotate_left
            · (intro w' hSw; (try dsimp only at hSw); have hcx := (cell_of_row _ _ r_3 _ _ _ hSw.2).trans hT_3; (try simp only [World.size_alloc] at hcx); go_simp; try (with_reducible rfl))
            change wpAnyH _ _ _ _ _ _ _ (Act.put _ (some 19) _) _
            try simp only [Act.put, List.setIfInBounds_toArray, List.set_cons_zero, List.set_cons_succ]
            refine wpAnyH_ready (rs := [7]) (by kernel_rfl) (by simp) ?_
            refine AllReadyH.cons (i := 7) rfl (fun K hK => ?_) AllReadyH.nil
            simp only [List.getElem_toArray, List.getElem_cons_succ, List.getElem_cons_zero]
            rw [if_pos (by rfl)]
            go_simp
            (go_at_call 28; refine (curVal _ (hA_3.alloc (.cells #[.string ⟨#[97]⟩, .string ⟨#[98]⟩, .string ⟨#[49, 48]⟩, .string ⟨#[57]⟩, .string ⟨#[49]⟩, .string ⟨#[48, 49]⟩, .string ⟨#[32, 50]⟩, .string ⟨#[120]⟩, .string ⟨#[195, 169]⟩, .string ⟨#[]⟩, .string ⟨#[49, 46, 48]⟩, .string ⟨#[45, 51]⟩, .string ⟨#[98, 50]⟩] 9)).cur (by omega)).mono ?_; rintro e w_7 ⟨y, hy, he_7, k_7, hk_7, hc_7, hg_7⟩; obtain rfl : e = _ := he_7; go_wp2_with fail)
            have hA_7 := (hA_3.alloc (.cells #[.string ⟨#[97]⟩, .string ⟨#[98]⟩, .string ⟨#[49, 48]⟩, .string ⟨#[57]⟩, .string ⟨#[49]⟩, .string ⟨#[48, 49]⟩, .string ⟨#[32, 50]⟩, .string ⟨#[120]⟩, .string ⟨#[195, 169]⟩, .string ⟨#[]⟩, .string ⟨#[49, 46, 48]⟩, .string ⟨#[45, 51]⟩, .string ⟨#[98, 50]⟩] 9)).call hg_7 hc_7
            obtain ⟨⟨a0_7, a1_7, ay0_7, ay1_7, al_7⟩, ⟨b0_7, b1_7, by0_7, by1_7, bl_7⟩⟩ := hA_7.cells
            refine hK.out _ _ ?_ (fun hHeld => ?_)
            · first | trivial | ((try dsimp only); exact ⟨trivial, (hg_7.block _ (Array.getElem?_eq_some_iff.1 hHeld.2).1 (fun e => absurd (Option.some.inj e) (by first | omega | (simp; omega)))).trans hHeld.2⟩)
            clear hK K
            try simp only [Act.put, List.setIfInBounds_toArray, List.set_cons_zero, List.set_cons_succ]
            refine wpAnyH_ready (rs := [8]) (by kernel_rfl) (by simp) ?_
            refine AllReadyH.cons (i := 8) rfl (fun K hK => ?_) AllReadyH.nil
            simp only [List.getElem_toArray, List.getElem_cons_succ, List.getElem_cons_zero]
            rw [if_pos (by rfl)]
            go_simp
            (go_at_call 9; refine (specPutO (cs := #[u, v]) (x := x) (y := y) t_3 _ (by exact hA_7.old) (by exact vS_rd hy (by decide)) (by omega) (hid (by omega))).mono ?_; rintro e w_8 ⟨cs_8, rfl, hr_8, ⟨u8, v8, rfl, ho1, ho2, ho3⟩, hb_8⟩; obtain ⟨ua8, uc8, rfl⟩ := own_sl ho1; obtain ⟨va8, vc8, rfl⟩ := own_sl ho2; go_wp2_with fail)
            have hA_8 := hA_7.later hb_8
            have HN := hid (hA_7.put hb_8 ⟨_, _, rfl, ho1, ho2, ho3⟩ (put_all HOK.out (by omega) hy))
            obtain ⟨⟨a0_8, a1_8, ay0_8, ay1_8, al_8⟩, ⟨b0_8, b1_8, by0_8, by1_8, bl_8⟩⟩ := hA_8.cells
            refine hK.out _ _ ?_ (fun hHeld => ?_)
            · first | trivial | ((try dsimp only); exact ⟨trivial, (hb_8.block _ (Array.getElem?_eq_some_iff.1 hHeld.2).1).trans hHeld.2⟩)
            clear hK K
            try simp only [Act.put, List.setIfInBounds_toArray, List.set_cons_zero, List.set_cons_succ]
            refine wpAnyH_take (i := 9) (v := ?_) rfl (by kernel_rfl) (by kernel_rfl) (by kernel_rfl) (fun _ _ _ h => h) (Or.inl ⟨by rfl, ?_⟩) (by assumption) ?_
            rotate_left
            · (intro w' hSw; (try dsimp only at hSw); go_simp; try (with_reducible rfl))
            change wpAnyH _ _ _ _ _ _ _ (Act.put _ (some 13) _) _
            try simp only [Act.put, List.setIfInBounds_toArray, List.set_cons_zero, List.set_cons_succ]
            refine wpAnyH_take (i := 10) (v := ?_) rfl (by kernel_rfl) (by kernel_rfl) (by kernel_rfl) (fun _ _ _ h => h) (Or.inl ⟨by rfl, ?_⟩) (by assumption) ?_
            rotate_left
            · (intro w' hSw; (try dsimp only at hSw); go_simp; try (with_reducible rfl))
            change wpAnyH _ _ _ _ _ _ _ (Act.put _ (some 23) _) _
            try simp only [Act.put, List.setIfInBounds_toArray, List.set_cons_zero, List.set_cons_succ]
            refine wpAnyH_take (i := 11) (v := ?_) rfl (by kernel_rfl) (by kernel_rfl) (by kernel_rfl) (fun _ _ _ h => h) (Or.inl ⟨by rfl, ?_⟩) (by assumption) ?_
            rotate_left
            · (intro w' hSw; (try dsimp only at hSw); go_simp; try (with_reducible rfl))
            change wpAnyH _ _ _ _ _ _ _ (Act.put _ (some 24) _) _
            try simp only [Act.put, List.setIfInBounds_toArray, List.set_cons_zero, List.set_cons_succ]
            refine wpAnyH_ready (rs := [12]) (by kernel_rfl) (by simp) ?_
            refine AllReadyH.cons (i := 12) rfl (fun K hK => ?_) AllReadyH.nil
            simp only [List.getElem_toArray, List.getElem_cons_succ, List.getElem_cons_zero]
            rw [if_pos (by rfl)]
            go_simp
            refine hK.out _ _ ?_ (fun hHeld => ?_)
            · first | trivial | ((try dsimp only); exact ⟨trivial, (heap_setCell_other _ _ _ _ (by first | exact (Nat.ne_of_gt hbl) | (simp; omega))).trans ((heap_setCell_other _ _ _ _ (by first | exact (Nat.ne_of_gt hbl) | (simp; omega))).trans hHeld.2)⟩)
            clear hK K
            try simp only [Act.put, List.setIfInBounds_toArray, List.set_cons_zero, List.set_cons_succ]
            refine wpAnyH_done (by kernel_rfl) ?_ _
            obtain ⟨W9, hW9⟩ : ∃ z, (w_8.setCell ⟨w.heap.size + 1, 0, none⟩ (.slice ua8 (arrPut x t_3 y).keys.length uc8)).setCell ⟨w.heap.size + 1, 1, none⟩ (.slice va8 (arrPut x t_3 y).vals.length vc8) = z := ⟨_, rfl⟩
            rw [hW9] at HN
            try rw [hW9]
            clear hW9
            have hpl := put_len x t_3 y
            obtain ⟨x9, hx9⟩ : ∃ z, arrPut x t_3 y = z := ⟨_, rfl⟩
            rw [hx9] at HN hpl
            clear hx9
            go_wp2
            go_roundw
            case rel => exact ⟨j - 1, k_7, x9, _, _, by first | go_num | (congr 1; omega), by omega, by omega, by omega, by omega, HN.out⟩
            case measure => simp [intOf]; omega
          refine AllReadyH.cons (i := 7) rfl (fun K hK => ?_) ?_
          · simp only [List.getElem_toArray, List.getElem_cons_succ, List.getElem_cons_zero]
            rw [if_pos (by rfl)]
            go_simp
            (go_at_call 28; refine (curVal _ hA_3.cur (by omega)).mono ?_; rintro e w_7 ⟨y, hy, he_7, k_7, hk_7, hc_7, hg_7⟩; obtain rfl : e = _ := he_7; go_wp2_with fail)
            have hA_7 := hA_3.call hg_7 hc_7
            obtain ⟨⟨a0_7, a1_7, ay0_7, ay1_7, al_7⟩, ⟨b0_7, b1_7, by0_7, by1_7, bl_7⟩⟩ := hA_7.cells
            refine hK.out _ _ ?_ (fun hHeld => ?_)
            · first | trivial | ((try dsimp only); trivial)
            clear hK K
            try simp only [Act.put, List.setIfInBounds_toArray, List.set_cons_zero, List.set_cons_succ]
            refine wpAnyH_ready (rs := [1]) (by kernel_rfl) (by simp) ?_
            refine AllReadyH.cons (i := 1) rfl (fun K hK => ?_) AllReadyH.nil
            simp only [List.getElem_toArray, List.getElem_cons_succ, List.getElem_cons_zero]
            rw [if_pos (by rfl)]
            go_simp
            have hbl := hA_7.lt
            have hbl2 := HA.out.lt
            obtain ⟨⟨a0_1, a1_1, ay0_1, ay1_1, al_1⟩, ⟨b0_1, b1_1, by0_1, by1_1, bl_1⟩⟩ := (hA_7.alloc (.cells #[.string ⟨#[97]⟩, .string ⟨#[98]⟩, .string ⟨#[49, 48]⟩, .string ⟨#[57]⟩, .string ⟨#[49]⟩, .string ⟨#[48, 49]⟩, .string ⟨#[32, 50]⟩, .string ⟨#[120]⟩, .string ⟨#[195, 169]⟩, .string ⟨#[]⟩, .string ⟨#[49, 46, 48]⟩, .string ⟨#[45, 51]⟩, .string ⟨#[98, 50]⟩] 9)).cells
            refine hK.out _ _ ?_ (fun hHeld => ?_)
            · first | trivial | ((try dsimp only); trivial)
            clear hK K
            try simp only [Act.put, List.setIfInBounds_toArray, List.set_cons_zero, List.set_cons_succ]
            refine wpAnyH_row (heap_alloc_new _ _) hHeld ?_
            intro hHeld
            refine wpAnyH_take (i := 4) (v := ?_) rfl (by kernel_rfl) (by kernel_rfl) (by kernel_rfl) (fun _ _ _ h => h) (Or.inl ⟨by rfl, ?_⟩) (by assumption) ?_
            rotate_left
            · (intro w' hSw; (try dsimp only at hSw); go_simp; try (with_reducible rfl))
            change wpAnyH _ _ _ _ _ _ _ (Act.put _ (some 18) _) _
            try simp only [Act.put, List.setIfInBounds_toArray, List.set_cons_zero, List.set_cons_succ]
            refine wpAnyH_take (i := 5) (v := ?_) rfl (by kernel_rfl) (by kernel_rfl) (by kernel_rfl) (fun _ _ _ h => h) (Or.inl ⟨by rfl, ?_⟩) (by assumption) ?_
            rotate_left
            · (intro w' hSw; (try dsimp only at hSw); have hcx := (cell_of_row _ _ r_3 _ _ _ hSw.2).trans hT_3; (try simp only [World.size_alloc] at hcx); go_simp; try (with_reducible rfl))
            change wpAnyH _ _ _ _ _ _ _ (Act.put _ (some 19) _) _
            try simp only [Act.put, List.setIfInBounds_toArray, List.set_cons_zero, List.set_cons_succ]
            refine wpAnyH_ready (rs := [8]) (by kernel_rfl) (by simp) ?_
            refine AllReadyH.cons (i := 8) rfl (fun K hK => ?_) AllReadyH.nil
            simp only [List.getElem_toArray, List.getElem_cons_succ, List.getElem_cons_zero]
            rw [if_pos (by rfl)]
            go_simp
            (go_at_call 9; refine (specPutO (cs := #[u, v]) (x := x) (y := y) t_3 _ (by exact (hA_7.alloc (.cells #[.string ⟨#[97]⟩, .string ⟨#[98]⟩, .string ⟨#[49, 48]⟩, .string ⟨#[57]⟩, .string ⟨#[49]⟩, .string ⟨#[48, 49]⟩, .string ⟨#[32, 50]⟩, .string ⟨#[120]⟩, .string ⟨#[195, 169]⟩, .string ⟨#[]⟩, .string ⟨#[49, 46, 48]⟩, .string ⟨#[45, 51]⟩, .string ⟨#[98, 50]⟩] 9)).old) (by exact vS_rd hy (by decide)) (by omega) (hid (by omega))).mono ?_; rintro e w_8 ⟨cs_8, rfl, hr_8, ⟨u8, v8, rfl, ho1, ho2, ho3⟩, hb_8⟩; obtain ⟨ua8, uc8, rfl⟩ := own_sl ho1; obtain ⟨va8, vc8, rfl⟩ := own_sl ho2; go_wp2_with fail)
            have hA_8 := (hA_7.alloc (.cells #[.string ⟨#[97]⟩, .string ⟨#[98]⟩, .string ⟨#[49, 48]⟩, .string ⟨#[57]⟩, .string ⟨#[49]⟩, .string ⟨#[48, 49]⟩, .string ⟨#[32, 50]⟩, .string ⟨#[120]⟩, .string ⟨#[195, 169]⟩, .string ⟨#[]⟩, .string ⟨#[49, 46, 48]⟩, .string ⟨#[45, 51]⟩, .string ⟨#[98, 50]⟩] 9)).later hb_8
            have HN := hid ((hA_7.alloc (.cells #[.string ⟨#[97]⟩, .string ⟨#[98]⟩, .string ⟨#[49, 48]⟩, .string ⟨#[57]⟩, .string ⟨#[49]⟩, .string ⟨#[48, 49]⟩, .string ⟨#[32, 50]⟩, .string ⟨#[120]⟩, .string ⟨#[195, 169]⟩, .string ⟨#[]⟩, .string ⟨#[49, 46, 48]⟩, .string ⟨#[45, 51]⟩, .string ⟨#[98, 50]⟩] 9)).put hb_8 ⟨_, _, rfl, ho1, ho2, ho3⟩ (put_all HOK.out (by omega) hy))
            obtain ⟨⟨a0_8, a1_8, ay0_8, ay1_8, al_8⟩, ⟨b0_8, b1_8, by0_8, by1_8, bl_8⟩⟩ := hA_8.cells
            refine hK.out _ _ ?_ (fun hHeld => ?_)
            · first | trivial | ((try dsimp only); exact ⟨trivial, (hb_8.block _ (Array.getElem?_eq_some_iff.1 hHeld.2).1).trans hHeld.2⟩)
            clear hK K
            try simp only [Act.put, List.setIfInBounds_toArray, List.set_cons_zero, List.set_cons_succ]
            refine wpAnyH_take (i := 9) (v := ?_) rfl (by kernel_rfl) (by kernel_rfl) (by kernel_rfl) (fun _ _ _ h => h) (Or.inl ⟨by rfl, ?_⟩) (by assumption) ?_
            rotate_left
            · (intro w' hSw; (try dsimp only at hSw); go_simp; try (with_reducible rfl))
            change wpAnyH _ _ _ _ _ _ _ (Act.put _ (some 13) _) _
            try simp only [Act.put, List.setIfInBounds_toArray, List.set_cons_zero, List.set_cons_succ]
            refine wpAnyH_take (i := 10) (v := ?_) rfl (by kernel_rfl) (by kernel_rfl) (by kernel_rfl) (fun _ _ _ h => h) (Or.inl ⟨by rfl, ?_⟩) (by assumption) ?_
            rotate_left
            · (intro w' hSw; (try dsimp only at hSw); go_simp; try (with_reducible rfl))
            change wpAnyH _ _ _ _ _ _ _ (Act.put _ (some 23) _) _
            try simp only [Act.put, List.setIfInBounds_toArray, List.set_cons_zero, List.set_cons_succ]
            refine wpAnyH_take (i := 11) (v := ?_) rfl (by kernel_rfl) (by kernel_rfl) (by kernel_rfl) (fun _ _ _ h => h) (Or.inl ⟨by rfl, ?_⟩) (by assumption) ?_
            rotate_left
            · (intro w' hSw; (try dsimp only at hSw); go_simp; try (with_reducible rfl))
            change wpAnyH _ _ _ _ _ _ _ (Act.put _ (some 24) _) _
            try simp only [Act.put, List.setIfInBounds_toArray, List.set_cons_zero, List.set_cons_succ]
            refine wpAnyH_ready (rs := [12]) (by kernel_rfl) (by simp) ?_
            refine AllReadyH.cons (i := 12) rfl (fun K hK => ?_) AllReadyH.nil
            simp only [List.getElem_toArray, List.getElem_cons_succ, List.getElem_cons_zero]
            rw [if_pos (by rfl)]
            go_simp
            refine hK.out _ _ ?_ (fun hHeld => ?_)
            · first | trivial | ((try dsimp only); exact ⟨trivial, (heap_setCell_other _ _ _ _ (by first | exact (Nat.ne_of_gt hbl) | (simp; omega))).trans ((heap_setCell_other _ _ _ _ (by first | exact (Nat.ne_of_gt hbl) | (simp; omega))).trans hHeld.2)⟩)
            clear hK K
            try simp only [Act.put, List.setIfInBounds_toArray, List.set_cons_zero, List.set_cons_succ]
            refine wpAnyH_done (by kernel_rfl) ?_ _
            obtain ⟨W9, hW9⟩ : ∃ z, (w_8.setCell ⟨w.heap.size + 1, 0, none⟩ (.slice ua8 (arrPut x t_3 y).keys.length uc8)).setCell ⟨w.heap.size + 1, 1, none⟩ (.slice va8 (arrPut x t_3 y).vals.length vc8) = z := ⟨_, rfl⟩
            rw [hW9] at HN
            try rw [hW9]
            clear hW9
            have hpl := put_len x t_3 y
            obtain ⟨x9, hx9⟩ : ∃ z, arrPut x t_3 y = z := ⟨_, rfl⟩
            rw [hx9] at HN hpl
            clear hx9
            go_wp2
            go_roundw
            case rel => exact ⟨j - 1, k_7, x9, _, _, by first | go_num | (congr 1; omega), by omega, by omega, by omega, by omega, HN.out⟩
            case measure => simp [intOf]; omega
          exact AllReadyH.nil
        exact AllReadyH.nil
      refine AllReadyH.cons (i := 1) rfl (fun K hK => ?_) ?_
      · simp only [List.getElem_toArray, List.getElem_cons_succ, List.getElem_cons_zero]
        rw [if_pos (by rfl)]
        go_simp
        have hbl := HA.out.drew.lt
        have hbl2 := HA.out.lt
        obtain ⟨⟨a0_1, a1_1, ay0_1, ay1_1, al_1⟩, ⟨b0_1, b1_1, by0_1, by1_1, bl_1⟩⟩ := (HA.out.drew.alloc (.cells #[.string ⟨#[97]⟩, .string ⟨#[98]⟩, .string ⟨#[49, 48]⟩, .string ⟨#[57]⟩, .string ⟨#[49]⟩, .string ⟨#[48, 49]⟩, .string ⟨#[32, 50]⟩, .string ⟨#[120]⟩, .string ⟨#[195, 169]⟩, .string ⟨#[]⟩, .string ⟨#[49, 46, 48]⟩, .string ⟨#[45, 51]⟩, .string ⟨#[98, 50]⟩] 9)).cells
        refine hK.out _ _ ?_ (fun hHeld => ?_)
        · first | trivial | ((try dsimp only); trivial)
        clear hK K
        try simp only [Act.put, List.setIfInBounds_toArray, List.set_cons_zero, List.set_cons_succ]
        refine wpAnyH_row (heap_alloc_new _ _) hHeld ?_
        intro hHeld
        refine wpAnyH_ready (rs := [0, 3]) (by kernel_rfl) (by simp) ?_
        refine AllReadyH.cons (i := 0) rfl (fun K hK => ?_) ?_
        · simp only [List.getElem_toArray, List.getElem_cons_succ, List.getElem_cons_zero]
          rw [if_pos (by rfl)]
          go_simp
          refine hK.out _ _ ?_ (fun hHeld => ?_)
          · first | trivial | ((try dsimp only); exact ⟨trivial, hHeld.2⟩)
          clear hK K
          try simp only [Act.put, List.setIfInBounds_toArray, List.set_cons_zero, List.set_cons_succ]
          refine wpAnyH_ready (rs := [3]) (by kernel_rfl) (by simp) ?_
          refine AllReadyH.cons (i := 3) rfl (fun K hK => ?_) AllReadyH.nil
          simp only [List.getElem_toArray, List.getElem_cons_succ, List.getElem_cons_zero]
          rw [if_pos (by rfl)]
          go_simp
          (go_at_call 53; refine (curPick 13 _ (HA.out.drew.alloc (.cells #[.string ⟨#[97]⟩, .string ⟨#[98]⟩, .string ⟨#[49, 48]⟩, .string ⟨#[57]⟩, .string ⟨#[49]⟩, .string ⟨#[48, 49]⟩, .string ⟨#[32, 50]⟩, .string ⟨#[120]⟩, .string ⟨#[195, 169]⟩, .string ⟨#[]⟩, .string ⟨#[49, 46, 48]⟩, .string ⟨#[45, 51]⟩, .string ⟨#[98, 50]⟩] 9)).cur (by omega) (by omega)).mono ?_; rintro e w_3 ⟨r_3, rfl, hr_3, k_3, hk_3, hc_3, hg_3⟩; go_wp2_with fail)
          have hA_3 := (HA.out.drew.alloc (.cells #[.string ⟨#[97]⟩, .string ⟨#[98]⟩, .string ⟨#[49, 48]⟩, .string ⟨#[57]⟩, .string ⟨#[49]⟩, .string ⟨#[48, 49]⟩, .string ⟨#[32, 50]⟩, .string ⟨#[120]⟩, .string ⟨#[195, 169]⟩, .string ⟨#[]⟩, .string ⟨#[49, 46, 48]⟩, .string ⟨#[45, 51]⟩, .string ⟨#[98, 50]⟩] 9)).call hg_3 hc_3
          have hq_3 : (r_3 : Int) < 13 := by omega
          have hz_3 : (0 : Int) ≤ (r_3 : Int) := by omega
          obtain ⟨t_3, ht_3, hT_3⟩ := lit_pure (m := 4) (r := r_3) (cs := (#[.string ⟨#[97]⟩, .string ⟨#[98]⟩, .string ⟨#[49, 48]⟩, .string ⟨#[57]⟩, .string ⟨#[49]⟩, .string ⟨#[48, 49]⟩, .string ⟨#[32, 50]⟩, .string ⟨#[120]⟩, .string ⟨#[195, 169]⟩, .string ⟨#[]⟩, .string ⟨#[49, 46, 48]⟩, .string ⟨#[45, 51]⟩, .string ⟨#[98, 50]⟩] : Array Value)) (by decide) (by show r_3 < 13; omega)
          obtain ⟨⟨a0_3, a1_3, ay0_3, ay1_3, al_3⟩, ⟨b0_3, b1_3, by0_3, by1_3, bl_3⟩⟩ := hA_3.cells
          refine hK.out _ _ ?_ (fun hHeld => ?_)
          · first | trivial | ((try dsimp only); exact ⟨trivial, (hg_3.block _ (Array.getElem?_eq_some_iff.1 hHeld.2).1 (fun e => absurd (Option.some.inj e) (by first | omega | (simp; omega)))).trans hHeld.2⟩)
          clear hK K
          try simp only [Act.put, List.setIfInBounds_toArray, List.set_cons_zero, List.set_cons_succ]
          refine wpAnyH_take (i := 4) (v := ?_) rfl (by kernel_rfl) (by kernel_rfl) (by kernel_rfl) (fun _ _ _ h => h) (Or.inl ⟨by rfl, ?_⟩) (by assumption) ?_
          rotate_left
          · (intro w' hSw; (try dsimp only at hSw); go_simp; try (with_reducible rfl))
          change wpAnyH _ _ _ _ _ _ _ (Act.put _ (some 18) _) _
          try simp only [Act.put, List.setIfInBounds_toArray, List.set_cons_zero, List.set_cons_succ]
          refine wpAnyH_take (i := 5) (v := ?_) rfl (by kernel_rfl) (by kernel_rfl) (by kernel_rfl) (fun _ _ _ h => h) (Or.inl ⟨by rfl, ?_⟩) (by assumption) ?_
          rotate_left
          · (intro w' hSw; (try dsimp only at hSw); have hcx := (cell_of_row _ _ r_3 _ _ _ hSw.2).trans hT_3; (try simp only [World.size_alloc] at hcx); go_simp; try (with_reducible rfl))
          change wpAnyH _ _ _ _ _ _ _ (Act.put _ (some 19) _) _
          try simp only [Act.put, List.setIfInBounds_toArray, List.set_cons_zero, List.set_cons_succ]
          refine wpAnyH_ready (rs := [7]) (by kernel_rfl) (by simp) ?_
          refine AllReadyH.cons (i := 7) rfl (fun K hK => ?_) AllReadyH.nil
          simp only [List.getElem_toArray, List.getElem_cons_succ, List.getElem_cons_zero]
          rw [if_pos (by rfl)]
          go_simp
          (go_at_call 28; refine (curVal _ hA_3.cur (by omega)).mono ?_; rintro e w_7 ⟨y, hy, he_7, k_7, hk_7, hc_7, hg_7⟩; obtain rfl : e = _ := he_7; go_wp2_with fail)
          have hA_7 := hA_3.call hg_7 hc_7
          obtain ⟨⟨a0_7, a1_7, ay0_7, ay1_7, al_7⟩, ⟨b0_7, b1_7, by0_7, by1_7, bl_7⟩⟩ := hA_7.cells
          refine hK.out _ _ ?_ (fun hHeld => ?_)
          · first | trivial | ((try dsimp only); exact ⟨trivial, (hg_7.block _ (Array.getElem?_eq_some_iff.1 hHeld.2).1 (fun e => absurd (Option.some.inj e) (by first | omega | (simp; omega)))).trans hHeld.2⟩)
          clear hK K
          try simp only [Act.put, List.setIfInBounds_toArray, List.set_cons_zero, List.set_cons_succ]
          refine wpAnyH_ready (rs := [8]) (by kernel_rfl) (by simp) ?_
          refine AllReadyH.cons (i := 8) rfl (fun K hK => ?_) AllReadyH.nil
          simp only [List.getElem_toArray, List.getElem_cons_succ, List.getElem_cons_zero]
          rw [if_pos (by rfl)]
          go_simp
          (go_at_call 9; refine (specPutO (cs := #[u, v]) (x := x) (y := y) t_3 _ (by exact hA_7.old) (by exact vS_rd hy (by decide)) (by omega) (hid (by omega))).mono ?_; rintro e w_8 ⟨cs_8, rfl, hr_8, ⟨u8, v8, rfl, ho1, ho2, ho3⟩, hb_8⟩; obtain ⟨ua8, uc8, rfl⟩ := own_sl ho1; obtain ⟨va8, vc8, rfl⟩ := own_sl ho2; go_wp2_with fail)
          have hA_8 := hA_7.later hb_8
          have HN := hid (hA_7.put hb_8 ⟨_, _, rfl, ho1, ho2, ho3⟩ (put_all HOK.out (by omega) hy))
          obtain ⟨⟨a0_8, a1_8, ay0_8, ay1_8, al_8⟩, ⟨b0_8, b1_8, by0_8, by1_8, bl_8⟩⟩ := hA_8.cells
          refine hK.out _ _ ?_ (fun hHeld => ?_)
          · first | trivial | ((try dsimp only); exact ⟨trivial, (hb_8.block _ (Array.getElem?_eq_some_iff.1 hHeld.2).1).trans hHeld.2⟩)
          clear hK K
          try simp only [Act.put, List.setIfInBounds_toArray, List.set_cons_zero, List.set_cons_succ]
          refine wpAnyH_take (i := 9) (v := ?_) rfl (by kernel_rfl) (by kernel_rfl) (by kernel_rfl) (fun _ _ _ h => h) (Or.inl ⟨by rfl, ?_⟩) (by assumption) ?_
          rotate_left
          · (intro w' hSw; (try dsimp only at hSw); go_simp; try (with_reducible rfl))
          change wpAnyH _ _ _ _ _ _ _ (Act.put _ (some 13) _) _
          try simp only [Act.put, List.setIfInBounds_toArray, List.set_cons_zero, List.set_cons_succ]
          refine wpAnyH_take (i := 10) (v := ?_) rfl (by kernel_rfl) (by kernel_rfl) (by kernel_rfl) (fun _ _ _ h => h) (Or.inl ⟨by rfl, ?_⟩) (by assumption) ?_
          rotate_left
          · (intro w' hSw; (try dsimp only at hSw); go_simp; try (with_reducible rfl))
          change wpAnyH _ _ _ _ _ _ _ (Act.put _ (some 23) _) _
          try simp only [Act.put, List.setIfInBounds_toArray, List.set_cons_zero, List.set_cons_succ]
          refine wpAnyH_take (i := 11) (v := ?_) rfl (by kernel_rfl) (by kernel_rfl) (by kernel_rfl) (fun _ _ _ h => h) (Or.inl ⟨by rfl, ?_⟩) (by assumption) ?_
          rotate_left
          · (intro w' hSw; (try dsimp only at hSw); go_simp; try (with_reducible rfl))
          change wpAnyH _ _ _ _ _ _ _ (Act.put _ (some 24) _) _
          try simp only [Act.put, List.setIfInBounds_toArray, List.set_cons_zero, List.set_cons_succ]
          refine wpAnyH_ready (rs := [12]) (by kernel_rfl) (by simp) ?_
          refine AllReadyH.cons (i := 12) rfl (fun K hK => ?_) AllReadyH.nil
          simp only [List.getElem_toArray, List.getElem_cons_succ, List.getElem_cons_zero]
          rw [if_pos (by rfl)]
          go_simp
          refine hK.out _ _ ?_ (fun hHeld => ?_)
          · first | trivial | ((try dsimp only); exact ⟨trivial, (heap_setCell_other _ _ _ _ (by first | exact (Nat.ne_of_gt hbl) | (simp; omega))).trans ((heap_setCell_other _ _ _ _ (by first | exact (Nat.ne_of_gt hbl) | (simp; omega))).trans hHeld.2)⟩)
          clear hK K
          try simp only [Act.put, List.setIfInBounds_toArray, List.set_cons_zero, List.set_cons_succ]
          refine wpAnyH_done (by kernel_rfl) ?_ _
          obtain ⟨W9, hW9⟩ : ∃ z, (w_8.setCell ⟨w.heap.size + 1, 0, none⟩ (.slice ua8 (arrPut x t_3 y).keys.length uc8)).setCell ⟨w.heap.size + 1, 1, none⟩ (.slice va8 (arrPut x t_3 y).vals.length vc8) = z := ⟨_, rfl⟩
          rw [hW9] at HN
          try rw [hW9]
          clear hW9
          have hpl := put_len x t_3 y
          obtain ⟨x9, hx9⟩ : ∃ z, arrPut x t_3 y = z := ⟨_, rfl⟩
          rw [hx9] at HN hpl
          clear hx9
          go_wp2
          go_roundw
          case rel => exact ⟨j - 1, k_7, x9, _, _, by first | go_num | (congr 1; omega), by omega, by omega, by omega, by omega, HN.out⟩
          case measure => simp [intOf]; omega
        refine AllReadyH.cons (i := 3) rfl (fun K hK => ?_) ?_
        · simp only [List.getElem_toArray, List.getElem_cons_succ, List.getElem_cons_zero]
          rw [if_pos (by rfl)]
          go_simp
          (go_at_call 53; refine (curPick 13 _ (HA.out.drew.alloc (.cells #[.string ⟨#[97]⟩, .string ⟨#[98]⟩, .string ⟨#[49, 48]⟩, .string ⟨#[57]⟩, .string ⟨#[49]⟩, .string ⟨#[48, 49]⟩, .string ⟨#[32, 50]⟩, .string ⟨#[120]⟩, .string ⟨#[195, 169]⟩, .string ⟨#[]⟩, .string ⟨#[49, 46, 48]⟩, .string ⟨#[45, 51]⟩, .string ⟨#[98, 50]⟩] 9)).cur (by omega) (by omega)).mono ?_; rintro e w_3 ⟨r_3, rfl, hr_3, k_3, hk_3, hc_3, hg_3⟩; go_wp2_with fail)
          have hA_3 := (HA.out.drew.alloc (.cells #[.string ⟨#[97]⟩, .string ⟨#[98]⟩, .string ⟨#[49, 48]⟩, .string ⟨#[57]⟩, .string ⟨#[49]⟩, .string ⟨#[48, 49]⟩, .string ⟨#[32, 50]⟩, .string ⟨#[120]⟩, .string ⟨#[195, 169]⟩, .string ⟨#[]⟩, .string ⟨#[49, 46, 48]⟩, .string ⟨#[45, 51]⟩, .string ⟨#[98, 50]⟩] 9)).call hg_3 hc_3
          have hq_3 : (r_3 : Int) < 13 := by omega
          have hz_3 : (0 : Int) ≤ (r_3 : Int) := by omega
          obtain ⟨t_3, ht_3, hT_3⟩ := lit_pure (m := 4) (r := r_3) (cs := (#[.string ⟨#[97]⟩, .string ⟨#[98]⟩, .string ⟨#[49, 48]⟩, .string ⟨#[57]⟩, .string ⟨#[49]⟩, .string ⟨#[48, 49]⟩, .string ⟨#[32, 50]⟩, .string ⟨#[120]⟩, .string ⟨#[195, 169]⟩, .string ⟨#[]⟩, .string ⟨#[49, 46, 48]⟩, .string ⟨#[45, 51]⟩, .string ⟨#[98, 50]⟩] : Array Value)) (by decide) (by show r_3 < 13; omega)
          obtain ⟨⟨a0_3, a1_3, ay0_3, ay1_3, al_3⟩, ⟨b0_3, b1_3, by0_3, by1_3, bl_3⟩⟩ := hA_3.cells
          refine hK.out _ _ ?_ (fun hHeld => ?_)
          · first | trivial | ((try dsimp only); exact ⟨trivial, (hg_3.block _ (Array.getElem?_eq_some_iff.1 hHeld.2).1 (fun e => absurd (Option.some.inj e) (by first | omega | (simp; omega)))).trans hHeld.2⟩)
          clear hK K
          try simp only [Act.put, List.setIfInBounds_toArray, List.set_cons_zero, List.set_cons_succ]
          refine wpAnyH_take (i := 4) (v := ?_) rfl (by kernel_rfl) (by kernel_rfl) (by kernel_rfl) (fun _ _ _ h => h) (Or.inl ⟨by rfl, ?_⟩) (by assumption) ?_
          rotate_left
          · (intro w' hSw; (try dsimp only at hSw); go_simp; try (with_reducible rfl))
          change wpAnyH _ _ _ _ _ _ _ (Act.put _ (some 18) _) _
          try simp only [Act.put, List.setIfInBounds_toArray, List.set_cons_zero, List.set_cons_succ]
          refine wpAnyH_take (i := 5) (v := ?_) rfl (by kernel_rfl) (by kernel_rfl) (by kernel_rfl) (fun _ _ _ h => h) (Or.inl ⟨by rfl, ?_⟩) (by assumption) ?_
          rotate_left
          · (intro w' hSw; (try dsimp only at hSw); have hcx := (cell_of_row _ _ r_3 _ _ _ hSw.2).trans hT_3; (try simp only [World.size_alloc] at hcx); go_simp; try (with_reducible rfl))
          change wpAnyH _ _ _ _ _ _ _ (Act.put _ (some 19) _) _
          try simp only [Act.put, List.setIfInBounds_toArray, List.set_cons_zero, List.set_cons_succ]
          refine wpAnyH_ready (rs := [0, 7]) (by kernel_rfl) (by simp) ?_
          refine AllReadyH.cons (i := 0) rfl (fun K hK => ?_) ?_
          · simp only [List.getElem_toArray, List.getElem_cons_succ, List.getElem_cons_zero]
            rw [if_pos (by rfl)]
            go_simp
            refine hK.out _ _ ?_ (fun hHeld => ?_)
            · first | trivial | ((try dsimp only); exact ⟨trivial, (hg_3.block _ (Array.getElem?_eq_some_iff.1 hHeld.2).1 (fun e => absurd (Option.some.inj e) (by first | omega | (simp; omega)))).trans hHeld.2⟩)
            clear hK K
            try simp only [Act.put, List.setIfInBounds_toArray, List.set_cons_zero, List.set_cons_succ]
            refine wpAnyH_ready (rs := [7]) (by kernel_rfl) (by simp) ?_
            refine AllReadyH.cons (i := 7) rfl (fun K hK => ?_) AllReadyH.nil
            simp only [List.getElem_toArray, List.getElem_cons_succ, List.getElem_cons_zero]
            rw [if_pos (by rfl)]
            go_simp
            (go_at_call 28; refine (curVal _ hA_3.cur (by omega)).mono ?_; rintro e w_7 ⟨y, hy, he_7, k_7, hk_7, hc_7, hg_7⟩; obtain rfl : e = _ := he_7; go_wp2_with fail)
            have hA_7 := hA_3.call hg_7 hc_7
            obtain ⟨⟨a0_7, a1_7, ay0_7, ay1_7, al_7⟩, ⟨b0_7, b1_7, by0_7, by1_7, bl_7⟩⟩ := hA_7.cells
            refine hK.out _ _ ?_ (fun hHeld => ?_)
            · first | trivial | ((try dsimp only); exact ⟨trivial, (hg_7.block _ (Array.getElem?_eq_some_iff.1 hHeld.2).1 (fun e => absurd (Option.some.inj e) (by first | omega | (simp; omega)))).trans hHeld.2⟩)
            clear hK K
            try simp only [Act.put, List.setIfInBounds_toArray, List.set_cons_zero, List.set_cons_succ]
            refine wpAnyH_ready (rs := [8]) (by kernel_rfl) (by simp) ?_
            refine AllReadyH.cons (i := 8) rfl (fun K hK => ?_) AllReadyH.nil
            simp only [List.getElem_toArray, List.getElem_cons_succ, List.getElem_cons_zero]
            rw [if_pos (by rfl)]
            go_simp
            (go_at_call 9; refine (specPutO (cs := #[u, v]) (x := x) (y := y) t_3 _ (by exact hA_7.old) (by exact vS_rd hy (by decide)) (by omega) (hid (by omega))).mono ?_; rintro e w_8 ⟨cs_8, rfl, hr_8, ⟨u8, v8, rfl, ho1, ho2, ho3⟩, hb_8⟩; obtain ⟨ua8, uc8, rfl⟩ := own_sl ho1; obtain ⟨va8, vc8, rfl⟩ := own_sl ho2; go_wp2_with fail)
            have hA_8 := hA_7.later hb_8
            have HN := hid (hA_7.put hb_8 ⟨_, _, rfl, ho1, ho2, ho3⟩ (put_all HOK.out (by omega) hy))
            obtain ⟨⟨a0_8, a1_8, ay0_8, ay1_8, al_8⟩, ⟨b0_8, b1_8, by0_8, by1_8, bl_8⟩⟩ := hA_8.cells
            refine hK.out _ _ ?_ (fun hHeld => ?_)
            · first | trivial | ((try dsimp only); exact ⟨trivial, (hb_8.block _ (Array.getElem?_eq_some_iff.1 hHeld.2).1).trans hHeld.2⟩)
            clear hK K
            try simp only [Act.put, List.setIfInBounds_toArray, List.set_cons_zero, List.set_cons_succ]
            refine wpAnyH_take (i := 9) (v := ?_) rfl (by kernel_rfl) (by kernel_rfl) (by kernel_rfl) (fun _ _ _ h => h) (Or.inl ⟨by rfl, ?_⟩) (by assumption) ?_
            rotate_left
            · (intro w' hSw; (try dsimp only at hSw); go_simp; try (with_reducible rfl))
            change wpAnyH _ _ _ _ _ _ _ (Act.put _ (some 13) _) _
            try simp only [Act.put, List.setIfInBounds_toArray, List.set_cons_zero, List.set_cons_succ]
            refine wpAnyH_take (i := 10) (v := ?_) rfl (by kernel_rfl) (by kernel_rfl) (by kernel_rfl) (fun _ _ _ h => h) (Or.inl ⟨by rfl, ?_⟩) (by assumption) ?_
            rotate_left
            · (intro w' hSw; (try dsimp only at hSw); go_simp; try (with_reducible rfl))
            change wpAnyH _ _ _ _ _ _ _ (Act.put _ (some 23) _) _
            try simp only [Act.put, List.setIfInBounds_toArray, List.set_cons_zero, List.set_cons_succ]
            refine wpAnyH_take (i := 11) (v := ?_) rfl (by kernel_rfl) (by kernel_rfl) (by kernel_rfl) (fun _ _ _ h => h) (Or.inl ⟨by rfl, ?_⟩) (by assumption) ?_
            rotate_left
            · (intro w' hSw; (try dsimp only at hSw); go_simp; try (with_reducible rfl))
            change wpAnyH _ _ _ _ _ _ _ (Act.put _ (some 24) _) _
            try simp only [Act.put, List.setIfInBounds_toArray, List.set_cons_zero, List.set_cons_succ]
            refine wpAnyH_ready (rs := [12]) (by kernel_rfl) (by simp) ?_
            refine AllReadyH.cons (i := 12) rfl (fun K hK => ?_) AllReadyH.nil
            simp only [List.getElem_toArray, List.getElem_cons_succ, List.getElem_cons_zero]
            rw [if_pos (by rfl)]
            go_simp
            refine hK.out _ _ ?_ (fun hHeld => ?_)
            · first | trivial | ((try dsimp only); exact ⟨trivial, (heap_setCell_other _ _ _ _ (by first | exact (Nat.ne_of_gt hbl) | (simp; omega))).trans ((heap_setCell_other _ _ _ _ (by first | exact (Nat.ne_of_gt hbl) | (simp; omega))).trans hHeld.2)⟩)
            clear hK K
            try simp only [Act.put, List.setIfInBounds_toArray, List.set_cons_zero, List.set_cons_succ]
            refine wpAnyH_done (by kernel_rfl) ?_ _
            obtain ⟨W9, hW9⟩ : ∃ z, (w_8.setCell ⟨w.heap.size + 1, 0, none⟩ (.slice ua8 (arrPut x t_3 y).keys.length uc8)).setCell ⟨w.heap.size + 1, 1, none⟩ (.slice va8 (arrPut x t_3 y).vals.length vc8) = z := ⟨_, rfl⟩
            rw [hW9] at HN
            try rw [hW9]
            clear hW9
            have hpl := put_len x t_3 y
            obtain ⟨x9, hx9⟩ : ∃ z, arrPut x t_3 y = z := ⟨_, rfl⟩
            rw [hx9] at HN hpl
            clear hx9
            go_wp2
            go_roundw
            case rel => exact ⟨j - 1, k_7, x9, _, _, by first | go_num | (congr 1; omega), by omega, by omega, by omega, by omega, HN.out⟩
            case measure => simp [intOf]; omega
          refine AllReadyH.cons (i := 7) rfl (fun K hK => ?_) ?_
          · simp only [List.getElem_toArray, List.getElem_cons_succ, List.getElem_cons_zero]
            rw [if_pos (by rfl)]
            go_simp
            (go_at_call 28; refine (curVal _ hA_3.cur (by omega)).mono ?_; rintro e w_7 ⟨y, hy, he_7, k_7, hk_7, hc_7, hg_7⟩; obtain rfl : e = _ := he_7; go_wp2_with fail)
            have hA_7 := hA_3.call hg_7 hc_7
            obtain ⟨⟨a0_7, a1_7, ay0_7, ay1_7, al_7⟩, ⟨b0_7, b1_7, by0_7, by1_7, bl_7⟩⟩ := hA_7.cells
            refine hK.out _ _ ?_ (fun hHeld => ?_)
            · first | trivial | ((try dsimp only); exact ⟨trivial, (hg_7.block _ (Array.getElem?_eq_some_iff.1 hHeld.2).1 (fun e => absurd (Option.some.inj e) (by first | omega | (simp; omega)))).trans hHeld.2⟩)
            clear hK K
            try simp only [Act.put, List.setIfInBounds_toArray, List.set_cons_zero, List.set_cons_succ]
            refine wpAnyH_ready (rs := [0]) (by kernel_rfl) (by simp) ?_
            refine AllReadyH.cons (i := 0) rfl (fun K hK => ?_) AllReadyH.nil
            simp only [List.getElem_toArray, List.getElem_cons_succ, List.getElem_cons_zero]
            rw [if_pos (by rfl)]
            go_simp
            refine hK.out _ _ ?_ (fun hHeld => ?_)
            · first | trivial | ((try dsimp only); exact ⟨trivial, (hg_7.block _ (Array.getElem?_eq_some_iff.1 hHeld.2).1 (fun e => absurd (Option.some.inj e) (by first | omega | (simp; omega)))).trans hHeld.2⟩)
            clear hK K
            try simp only [Act.put, List.setIfInBounds_toArray, List.set_cons_zero, List.set_cons_succ]
            refine wpAnyH_ready (rs := [8]) (by kernel_rfl) (by simp) ?_
            refine AllReadyH.cons (i := 8) rfl (fun K hK => ?_) AllReadyH.nil
            simp only [List.getElem_toArray, List.getElem_cons_succ, List.getElem_cons_zero]
            rw [if_pos (by rfl)]
            go_simp
            (go_at_call 9; refine (specPutO (cs := #[u, v]) (x := x) (y := y) t_3 _ (by exact hA_7.old) (by exact vS_rd hy (by decide)) (by omega) (hid (by omega))).mono ?_; rintro e w_8 ⟨cs_8, rfl, hr_8, ⟨u8, v8, rfl, ho1, ho2, ho3⟩, hb_8⟩; obtain ⟨ua8, uc8, rfl⟩ := own_sl ho1; obtain ⟨va8, vc8, rfl⟩ := own_sl ho2; go_wp2_with fail)
            have hA_8 := hA_7.later hb_8
            have HN := hid (hA_7.put hb_8 ⟨_, _, rfl, ho1, ho2, ho3⟩ (put_all HOK.out (by omega) hy))
            obtain ⟨⟨a0_8, a1_8, ay0_8, ay1_8, al_8⟩, ⟨b0_8, b1_8, by0_8, by1_8, bl_8⟩⟩ := hA_8.cells
            refine hK.out _ _ ?_ (fun hHeld => ?_)
            · first | trivial | ((try dsimp only); exact ⟨trivial, (hb_8.block _ (Array.getElem?_eq_some_iff.1 hHeld.2).1).trans hHeld.2⟩)
            clear hK K
            try simp only [Act.put, List.setIfInBounds_toArray, List.set_cons_zero, List.set_cons_succ]
            refine wpAnyH_take (i := 9) (v := ?_) rfl (by kernel_rfl) (by kernel_rfl) (by kernel_rfl) (fun _ _ _ h => h) (Or.inl ⟨by rfl, ?_⟩) (by assumption) ?_
            rotate_left
            · (intro w' hSw; (try dsimp only at hSw); go_simp; try (with_reducible rfl))
            change wpAnyH _ _ _ _ _ _ _ (Act.put _ (some 13) _) _
            try simp only [Act.put, List.setIfInBounds_toArray, List.set_cons_zero, List.set_cons_succ]
            refine wpAnyH_take (i := 10) (v := ?_) rfl (by kernel_rfl) (by kernel_rfl) (by kernel_rfl) (fun _ _ _ h => h) (Or.inl ⟨by rfl, ?_⟩) (by assumption) ?_
            rotate_left
            · (intro w' hSw; (try dsimp only at hSw); go_simp; try (with_reducible rfl))
            change wpAnyH _ _ _ _ _ _ _ (Act.put _ (some 23) _) _
            try simp only [Act.put, List.setIfInBounds_toArray, List.set_cons_zero, List.set_cons_succ]
            refine wpAnyH_take (i := 11) (v := ?_) rfl (by kernel_rfl) (by kernel_rfl) (by kernel_rfl) (fun _ _ _ h => h) (Or.inl ⟨by rfl, ?_⟩) (by assumption) ?_
            rotate_left
            · (intro w' hSw; (try dsimp only at hSw); go_simp; try (with_reducible rfl))
            change wpAnyH _ _ _ _ _ _ _ (Act.put _ (some 24) _) _
            try simp only [Act.put, List.setIfInBounds_toArray, List.set_cons_zero, List.set_cons_succ]
            refine wpAnyH_ready (rs := [12]) (by kernel_rfl) (by simp) ?_
            refine AllReadyH.cons (i := 12) rfl (fun K hK => ?_) AllReadyH.nil
            simp only [List.getElem_toArray, List.getElem_cons_succ, List.getElem_cons_zero]
            rw [if_pos (by rfl)]
            go_simp
            refine hK.out _ _ ?_ (fun hHeld => ?_)
            · first | trivial | ((try dsimp only); exact ⟨trivial, (heap_setCell_other _ _ _ _ (by first | exact (Nat.ne_of_gt hbl) | (simp; omega))).trans ((heap_setCell_other _ _ _ _ (by first | exact (Nat.ne_of_gt hbl) | (simp; omega))).trans hHeld.2)⟩)
            clear hK K
            try simp only [Act.put, List.setIfInBounds_toArray, List.set_cons_zero, List.set_cons_succ]
            refine wpAnyH_done (by kernel_rfl) ?_ _
            obtain ⟨W9, hW9⟩ : ∃ z, (w_8.setCell ⟨w.heap.size + 1, 0, none⟩ (.slice ua8 (arrPut x t_3 y).keys.length uc8)).setCell ⟨w.heap.size + 1, 1, none⟩ (.slice va8 (arrPut x t_3 y).vals.length vc8) = z := ⟨_, rfl⟩
            rw [hW9] at HN
            try rw [hW9]
            clear hW9
            have hpl := put_len x t_3 y
            obtain ⟨x9, hx9⟩ : ∃ z, arrPut x t_3 y = z := ⟨_, rfl⟩
            rw [hx9] at HN hpl
            clear hx9
            go_wp2
            go_roundw
            case rel => exact ⟨j - 1, k_7, x9, _, _, by first | go_num | (congr 1; omega), by omega, by omega, by omega, by omega, HN.out⟩
            case measure => simp [intOf]; omega
          exact AllReadyH.nil
        exact AllReadyH.nil
      refine AllReadyH.cons (i := 3) rfl (fun K hK => ?_) ?_
      · simp only [List.getElem_toArray, List.getElem_cons_succ, List.getElem_cons_zero]
        rw [if_pos (by rfl)]
        go_simp
        (go_at_call 53; refine (curPick 13 _ HA.out.drew.cur (by omega) (by omega)).mono ?_; rintro e w_3 ⟨r_3, rfl, hr_3, k_3, hk_3, hc_3, hg_3⟩; go_wp2_with fail)
        have hA_3 := HA.out.drew.call hg_3 hc_3
        have hq_3 : (r_3 : Int) < 13 := by omega
        have hz_3 : (0 : Int) ≤ (r_3 : Int) := by omega
        obtain ⟨t_3, ht_3, hT_3⟩ := lit_pure (m := 4) (r := r_3) (cs := (#[.string ⟨#[97]⟩, .string ⟨#[98]⟩, .string ⟨#[49, 48]⟩, .string ⟨#[57]⟩, .string ⟨#[49]⟩, .string ⟨#[48, 49]⟩, .string ⟨#[32, 50]⟩, .string ⟨#[120]⟩, .string ⟨#[195, 169]⟩, .string ⟨#[]⟩, .string ⟨#[49, 46, 48]⟩, .string ⟨#[45, 51]⟩, .string ⟨#[98, 50]⟩] : Array Value)) (by decide) (by show r_3 < 13; omega)
        obtain ⟨⟨a0_3, a1_3, ay0_3, ay1_3, al_3⟩, ⟨b0_3, b1_3, by0_3, by1_3, bl_3⟩⟩ := hA_3.cells
        refine hK.out _ _ ?_ (fun hHeld => ?_)
        · first | trivial | ((try dsimp only); trivial)
        clear hK K
        try simp only [Act.put, List.setIfInBounds_toArray, List.set_cons_zero, List.set_cons_succ]
        refine wpAnyH_ready (rs := [0, 1, 7]) (by kernel_rfl) (by simp) ?_
        refine AllReadyH.cons (i := 0) rfl (fun K hK => ?_) ?_
        · simp only [List.getElem_toArray, List.getElem_cons_succ, List.getElem_cons_zero]
          rw [if_pos (by rfl)]
          go_simp
          refine hK.out _ _ ?_ (fun hHeld => ?_)
          · first | trivial | ((try dsimp only); trivial)
          clear hK K
          try simp only [Act.put, List.setIfInBounds_toArray, List.set_cons_zero, List.set_cons_succ]
          refine wpAnyH_ready (rs := [1, 7]) (by kernel_rfl) (by simp) ?_
          refine AllReadyH.cons (i := 1) rfl (fun K hK => ?_) ?_
          · simp only [List.getElem_toArray, List.getElem_cons_succ, List.getElem_cons_zero]
            rw [if_pos (by rfl)]
            go_simp
            have hbl := hA_3.lt
            have hbl2 := HA.out.lt
            obtain ⟨⟨a0_1, a1_1, ay0_1, ay1_1, al_1⟩, ⟨b0_1, b1_1, by0_1, by1_1, bl_1⟩⟩ := (hA_3.alloc (.cells #[.string ⟨#[97]⟩, .string ⟨#[98]⟩, .string ⟨#[49, 48]⟩, .string ⟨#[57]⟩, .string ⟨#[49]⟩, .string ⟨#[48, 49]⟩, .string ⟨#[32, 50]⟩, .string ⟨#[120]⟩, .string ⟨#[195, 169]⟩, .string ⟨#[]⟩, .string ⟨#[49, 46, 48]⟩, .string ⟨#[45, 51]⟩, .string ⟨#[98, 50]⟩] 9)).cells
            refine hK.out _ _ ?_ (fun hHeld => ?_)
            · first | trivial | ((try dsimp only); trivial)
            clear hK K
            try simp only [Act.put, List.setIfInBounds_toArray, List.set_cons_zero, List.set_cons_succ]
            refine wpAnyH_row (heap_alloc_new _ _) hHeld ?_
            intro hHeld
            refine wpAnyH_take (i := 4) (v := ?_) rfl (by kernel_rfl) (by kernel_rfl) (by kernel_rfl) (fun _ _ _ h => h) (Or.inl ⟨by rfl, ?_⟩) (by assumption) ?_
            rotate_left
            · (intro w' hSw; (try dsimp only at hSw); go_simp; try (with_reducible rfl))
            change wpAnyH _ _ _ _ _ _ _ (Act.put _ (some 18) _) _
            try simp only [Act.put, List.setIfInBounds_toArray, List.set_cons_zero, List.set_cons_succ]
            refine wpAnyH_take (i := 5) (v := ?_) rfl (by kernel_rfl) (by kernel_rfl) (by kernel_rfl) (fun _ _ _ h => h) (Or.inl ⟨by rfl, ?_⟩) (by assumption) ?_
            rotate_left
            · (intro w' hSw; (try dsimp only at hSw); have hcx := (cell_of_row _ _ r_3 _ _ _ hSw.2).trans hT_3; (try simp only [World.size_alloc] at hcx); go_simp; try (with_reducible rfl))
            change wpAnyH _ _ _ _ _ _ _ (Act.put _ (some 19) _) _
            try simp only [Act.put, List.setIfInBounds_toArray, List.set_cons_zero, List.set_cons_succ]
            refine wpAnyH_ready (rs := [7]) (by kernel_rfl) (by simp) ?_
            refine AllReadyH.cons (i := 7) rfl (fun K hK => ?_) AllReadyH.nil
            simp only [List.getElem_toArray, List.getElem_cons_succ, List.getElem_cons_zero]
            rw [if_pos (by rfl)]
            go_simp
            (go_at_call 28; refine (curVal _ (hA_3.alloc (.cells #[.string ⟨#[97]⟩, .string ⟨#[98]⟩, .string ⟨#[49, 48]⟩, .string ⟨#[57]⟩, .string ⟨#[49]⟩, .string ⟨#[48, 49]⟩, .string ⟨#[32, 50]⟩, .string ⟨#[120]⟩, .string ⟨#[195, 169]⟩, .string ⟨#[]⟩, .string ⟨#[49, 46, 48]⟩, .string ⟨#[45, 51]⟩, .string ⟨#[98, 50]⟩] 9)).cur (by omega)).mono ?_; rintro e w_7 ⟨y, hy, he_7, k_7, hk_7, hc_7, hg_7⟩; obtain rfl : e = _ := he_7; go_wp2_with fail)
            have hA_7 := (hA_3.alloc (.cells #[.string ⟨#[97]⟩, .string ⟨#[98]⟩, .string ⟨#[49, 48]⟩, .string ⟨#[57]⟩, .string ⟨#[49]⟩, .string ⟨#[48, 49]⟩, .string ⟨#[32, 50]⟩, .string ⟨#[120]⟩, .string ⟨#[195, 169]⟩, .string ⟨#[]⟩, .string ⟨#[49, 46, 48]⟩, .string ⟨#[45, 51]⟩, .string ⟨#[98, 50]⟩] 9)).call hg_7 hc_7
            obtain ⟨⟨a0_7, a1_7, ay0_7, ay1_7, al_7⟩, ⟨b0_7, b1_7, by0_7, by1_7, bl_7⟩⟩ := hA_7.cells
            refine hK.out _ _ ?_ (fun hHeld => ?_)
            · first | trivial | ((try dsimp only); exact ⟨trivial, (hg_7.block _ (Array.getElem?_eq_some_iff.1 hHeld.2).1 (fun e => absurd (Option.some.inj e) (by first | omega | (simp; omega)))).trans hHeld.2⟩)
            clear hK K
            try simp only [Act.put, List.setIfInBounds_toArray, List.set_cons_zero, List.set_cons_succ]
            refine wpAnyH_ready (rs := [8]) (by kernel_rfl) (by simp) ?_
            refine AllReadyH.cons (i := 8) rfl (fun K hK => ?_) AllReadyH.nil
            simp only [List.getElem_toArray, List.getElem_cons_succ, List.getElem_cons_zero]
            rw [if_pos (by rfl)]
            go_simp
            (go_at_call 9; refine (specPutO (cs := #[u, v]) (x := x) (y := y) t_3 _ (by exact hA_7.old) (by exact vS_rd hy (by decide)) (by omega) (hid (by omega))).mono ?_; rintro e w_8 ⟨cs_8, rfl, hr_8, ⟨u8, v8, rfl, ho1, ho2, ho3⟩, hb_8⟩; obtain ⟨ua8, uc8, rfl⟩ := own_sl ho1; obtain ⟨va8, vc8, rfl⟩ := own_sl ho2; go_wp2_with fail)
            have hA_8 := hA_7.later hb_8
            have HN := hid (hA_7.put hb_8 ⟨_, _, rfl, ho1, ho2, ho3⟩ (put_all HOK.out (by omega) hy))
            obtain ⟨⟨a0_8, a1_8, ay0_8, ay1_8, al_8⟩, ⟨b0_8, b1_8, by0_8, by1_8, bl_8⟩⟩ := hA_8.cells
            refine hK.out _ _ ?_ (fun hHeld => ?_)
            · first | trivial | ((try dsimp only); exact ⟨trivial, (hb_8.block _ (Array.getElem?_eq_some_iff.1 hHeld.2).1).trans hHeld.2⟩)
            clear hK K
            try simp only [Act.put, List.setIfInBounds_toArray, List.set_cons_zero, List.set_cons_succ]
            refine wpAnyH_take (i := 9) (v := ?_) rfl (by kernel_rfl) (by kernel_rfl) (by kernel_rfl) (fun _ _ _ h => h) (Or.inl ⟨by rfl, ?_⟩) (by assumption) ?_
            rotate_left
            · (intro w' hSw; (try dsimp only at hSw); go_simp; try (with_reducible rfl))
            change wpAnyH _ _ _ _ _ _ _ (Act.put _ (some 13) _) _
            try simp only [Act.put, List.setIfInBounds_toArray, List.set_cons_zero, List.set_cons_succ]
            refine wpAnyH_take (i := 10) (v := ?_) rfl (by kernel_rfl) (by kernel_rfl) (by kernel_rfl) (fun _ _ _ h => h) (Or.inl ⟨by rfl, ?_⟩) (by assumption) ?_
            rotate_left
            · (intro w' hSw; (try dsimp only at hSw); go_simp; try (with_reducible rfl))
            change wpAnyH _ _ _ _ _ _ _ (Act.put _ (some 23) _) _
            try simp only [Act.put, List.setIfInBounds_toArray, List.set_cons_zero, List.set_cons_succ]
            refine wpAnyH_take (i := 11) (v := ?_) rfl (by kernel_rfl) (by kernel_rfl) (by kernel_rfl) (fun _ _ _ h => h) (Or.inl ⟨by rfl, ?_⟩) (by assumption) ?_
            rotate_left
            · (intro w' hSw; (try dsimp only at hSw); go_simp; try (with_reducible rfl))
            change wpAnyH _ _ _ _ _ _ _ (Act.put _ (some 24) _) _
            try simp only [Act.put, List.setIfInBounds_toArray, List.set_cons_zero, List.set_cons_succ]
            refine wpAnyH_ready (rs := [12]) (by kernel_rfl) (by simp) ?_
            refine AllReadyH.cons (i := 12) rfl (fun K hK => ?_) AllReadyH.nil
            simp only [List.getElem_toArray, List.getElem_cons_succ, List.getElem_cons_zero]
            rw [if_pos (by rfl)]
            go_simp
            refine hK.out _ _ ?_ (fun hHeld => ?_)
            · first | trivial | ((try dsimp only); exact ⟨trivial, (heap_setCell_other _ _ _ _ (by first | exact (Nat.ne_of_gt hbl) | (simp; omega))).trans ((heap_setCell_other _ _ _ _ (by first | exact (Nat.ne_of_gt hbl) | (simp; omega))).trans hHeld.2)⟩)
            clear hK K
            try simp only [Act.put, List.setIfInBounds_toArray, List.set_cons_zero, List.set_cons_succ]
            refine wpAnyH_done (by kernel_rfl) ?_ _
            obtain ⟨W9, hW9⟩ : ∃ z, (w_8.setCell ⟨w.heap.size + 1, 0, none⟩ (.slice ua8 (arrPut x t_3 y).keys.length uc8)).setCell ⟨w.heap.size + 1, 1, none⟩ (.slice va8 (arrPut x t_3 y).vals.length vc8) = z := ⟨_, rfl⟩
            rw [hW9] at HN
            try rw [hW9]
            clear hW9
            have hpl := put_len x t_3 y
            obtain ⟨x9, hx9⟩ : ∃ z, arrPut x t_3 y = z := ⟨_, rfl⟩
            rw [hx9] at HN hpl
            clear hx9
            go_wp2
            go_roundw
            case rel => exact ⟨j - 1, k_7, x9, _, _, by first | go_num | (congr 1; omega), by omega, by omega, by omega, by omega, HN.out⟩
            case measure => simp [intOf]; omega
          refine AllReadyH.cons (i := 7) rfl (fun K hK => ?_) ?_
          · simp only [List.getElem_toArray, List.getElem_cons_succ, List.getElem_cons_zero]
            rw [if_pos (by rfl)]
            go_simp
            (go_at_call 28; refine (curVal _ hA_3.cur (by omega)).mono ?_; rintro e w_7 ⟨y, hy, he_7, k_7, hk_7, hc_7, hg_7⟩; obtain rfl : e = _ := he_7; go_wp2_with fail)
            have hA_7 := hA_3.call hg_7 hc_7
            obtain ⟨⟨a0_7, a1_7, ay0_7, ay1_7, al_7⟩, ⟨b0_7, b1_7, by0_7, by1_7, bl_7⟩⟩ := hA_7.cells
            refine hK.out _ _ ?_ (fun hHeld => ?_)
            · first | trivial | ((try dsimp only); trivial)
            clear hK K
            try simp only [Act.put, List.setIfInBounds_toArray, List.set_cons_zero, List.set_cons_succ]
            refine wpAnyH_ready (rs := [1]) (by kernel_rfl) (by simp) ?_
            refine AllReadyH.cons (i := 1) rfl (fun K hK => ?_) AllReadyH.nil
            simp only [List.getElem_toArray, List.getElem_cons_succ, List.getElem_cons_zero]
            rw [if_pos (by rfl)]
            go_simp
            have hbl := hA_7.lt
            have hbl2 := HA.out.lt
            obtain ⟨⟨a0_1, a1_1, ay0_1, ay1_1, al_1⟩, ⟨b0_1, b1_1, by0_1, by1_1, bl_1⟩⟩ := (hA_7.alloc (.cells #[.string ⟨#[97]⟩, .string ⟨#[98]⟩, .string ⟨#[49, 48]⟩, .string ⟨#[57]⟩, .string ⟨#[49]⟩, .string ⟨#[48, 49]⟩, .string ⟨#[32, 50]⟩, .string ⟨#[120]⟩, .string ⟨#[195, 169]⟩, .string ⟨#[]⟩, .string ⟨#[49, 46, 48]⟩, .string ⟨#[45, 51]⟩, .string ⟨#[98, 50]⟩] 9)).cells
            refine hK.out _ _ ?_ (fun hHeld => ?_)
            · first | trivial | ((try dsimp only); trivial)
            clear hK K
            try simp only [Act.put, List.setIfInBounds_toArray, List.set_cons_zero, List.set_cons_succ]
            refine wpAnyH_row (heap_alloc_new _ _) hHeld ?_
            intro hHeld
            refine wpAnyH_take (i := 4) (v := ?_) rfl (by kernel_rfl) (by kernel_rfl) (by kernel_rfl) (fun _ _ _ h => h) (Or.inl ⟨by rfl, ?_⟩) (by assumption) ?_
            rotate_left
            · (intro w' hSw; (try dsimp only at hSw); go_simp; try (with_reducible rfl))
            change wpAnyH _ _ _ _ _ _ _ (Act.put _ (some 18) _) _
            try simp only [Act.put, List.setIfInBounds_toArray, List.set_cons_zero, List.set_cons_succ]
            refine wpAnyH_take (i := 5) (v := ?_) rfl (by kernel_rfl) (by kernel_rfl) (by kernel_rfl) (fun _ _ _ h => h) (Or.inl ⟨by rfl, ?_⟩) (by assumption) ?_
            rotate_left
            · (intro w' hSw; (try dsimp only at hSw); have hcx := (cell_of_row _ _ r_3 _ _ _ hSw.2).trans hT_3; (try simp only [World.size_alloc] at hcx); go_simp; try (with_reducible rfl))
            change wpAnyH _ _ _ _ _ _ _ (Act.put _ (some 19) _) _
            try simp only [Act.put, List.setIfInBounds_toArray, List.set_cons_zero, List.set_cons_succ]
            refine wpAnyH_ready (rs := [8]) (by kernel_rfl) (by simp) ?_
            refine AllReadyH.cons (i := 8) rfl (fun K hK => ?_) AllReadyH.nil
            simp only [List.getElem_toArray, List.getElem_cons_succ, List.getElem_cons_zero]
            rw [if_pos (by rfl)]
            go_simp
            (go_at_call 9; refine (specPutO (cs := #[u, v]) (x := x) (y := y) t_3 _ (by exact (hA_7.alloc (.cells #[.string ⟨#[97]⟩, .string ⟨#[98]⟩, .string ⟨#[49, 48]⟩, .string ⟨#[57]⟩, .string ⟨#[49]⟩, .string ⟨#[48, 49]⟩, .string ⟨#[32, 50]⟩, .string ⟨#[120]⟩, .string ⟨#[195, 169]⟩, .string ⟨#[]⟩, .string ⟨#[49, 46, 48]⟩, .string ⟨#[45, 51]⟩, .string ⟨#[98, 50]⟩] 9)).old) (by exact vS_rd hy (by decide)) (by omega) (hid (by omega))).mono ?_; rintro e w_8 ⟨cs_8, rfl, hr_8, ⟨u8, v8, rfl, ho1, ho2, ho3⟩, hb_8⟩; obtain ⟨ua8, uc8, rfl⟩ := own_sl ho1; obtain ⟨va8, vc8, rfl⟩ := own_sl ho2; go_wp2_with fail)
            have hA_8 := (hA_7.alloc (.cells #[.string ⟨#[97]⟩, .string ⟨#[98]⟩, .string ⟨#[49, 48]⟩, .string ⟨#[57]⟩, .string ⟨#[49]⟩, .string ⟨#[48, 49]⟩, .string ⟨#[32, 50]⟩, .string ⟨#[120]⟩, .string ⟨#[195, 169]⟩, .string ⟨#[]⟩, .string ⟨#[49, 46, 48]⟩, .string ⟨#[45, 51]⟩, .string ⟨#[98, 50]⟩] 9)).later hb_8
            have HN := hid ((hA_7.alloc (.cells #[.string ⟨#[97]⟩, .string ⟨#[98]⟩, .string ⟨#[49, 48]⟩, .string ⟨#[57]⟩, .string ⟨#[49]⟩, .string ⟨#[48, 49]⟩, .string ⟨#[32, 50]⟩, .string ⟨#[120]⟩, .string ⟨#[195, 169]⟩, .string ⟨#[]⟩, .string ⟨#[49, 46, 48]⟩, .string ⟨#[45, 51]⟩, .string ⟨#[98, 50]⟩] 9)).put hb_8 ⟨_, _, rfl, ho1, ho2, ho3⟩ (put_all HOK.out (by omega) hy))
            obtain ⟨⟨a0_8, a1_8, ay0_8, ay1_8, al_8⟩, ⟨b0_8, b1_8, by0_8, by1_8, bl_8⟩⟩ := hA_8.cells
            refine hK.out _ _ ?_ (fun hHeld => ?_)
            · first | trivial | ((try dsimp only); exact ⟨trivial, (hb_8.block _ (Array.getElem?_eq_some_iff.1 hHeld.2).1).trans hHeld.2⟩)
            clear hK K
            try simp only [Act.put, List.setIfInBounds_toArray, List.set_cons_zero, List.set_cons_succ]
            refine wpAnyH_take (i := 9) (v := ?_) rfl (by kernel_rfl) (by kernel_rfl) (by kernel_rfl) (fun _ _ _ h => h) (Or.inl ⟨by rfl, ?_⟩) (by assumption) ?_
            rotate_left
            · (intro w' hSw; (try dsimp only at hSw); go_simp; try (with_reducible rfl))
            change wpAnyH _ _ _ _ _ _ _ (Act.put _ (some 13) _) _
            try simp only [Act.put, List.setIfInBounds_toArray, List.set_cons_zero, List.set_cons_succ]
            refine wpAnyH_take (i := 10) (v := ?_) rfl (by kernel_rfl) (by kernel_rfl) (by kernel_rfl) (fun _ _ _ h => h) (Or.inl ⟨by rfl, ?_⟩) (by assumption) ?_
            rotate_left
            · (intro w' hSw; (try dsimp only at hSw); go_simp; try (with_reducible rfl))
            change wpAnyH _ _ _ _ _ _ _ (Act.put _ (some 23) _) _
            try simp only [Act.put, List.setIfInBounds_toArray, List.set_cons_zero, List.set_cons_succ]
            refine wpAnyH_take (i := 11) (v := ?_) rfl (by kernel_rfl) (by kernel_rfl) (by kernel_rfl) (fun _ _ _ h => h) (Or.inl ⟨by rfl, ?_⟩) (by assumption) ?_
            rotate_left
            · (intro w' hSw; (try dsimp only at hSw); go_simp; try (with_reducible rfl))
            change wpAnyH _ _ _ _ _ _ _ (Act.put _ (some 24) _) _
            try simp only [Act.put, List.setIfInBounds_toArray, List.set_cons_zero, List.set_cons_succ]
            refine wpAnyH_ready (rs := [12]) (by kernel_rfl) (by simp) ?_
            refine AllReadyH.cons (i := 12) rfl (fun K hK => ?_) AllReadyH.nil
            simp only [List.getElem_toArray, List.getElem_cons_succ, List.getElem_cons_zero]
            rw [if_pos (by rfl)]
            go_simp
            refine hK.out _ _ ?_ (fun hHeld => ?_)
            · first | trivial | ((try dsimp only); exact ⟨trivial, (heap_setCell_other _ _ _ _ (by first | exact (Nat.ne_of_gt hbl) | (simp; omega))).trans ((heap_setCell_other _ _ _ _ (by first | exact (Nat.ne_of_gt hbl) | (simp; omega))).trans hHeld.2)⟩)
            clear hK K
            try simp only [Act.put, List.setIfInBounds_toArray, List.set_cons_zero, List.set_cons_succ]
            refine wpAnyH_done (by kernel_rfl) ?_ _
            obtain ⟨W9, hW9⟩ : ∃ z, (w_8.setCell ⟨w.heap.size + 1, 0, none⟩ (.slice ua8 (arrPut x t_3 y).keys.length uc8)).setCell ⟨w.heap.size + 1, 1, none⟩ (.slice va8 (arrPut x t_3 y).vals.length vc8) = z := ⟨_, rfl⟩
            rw [hW9] at HN
            try rw [hW9]
            clear hW9
            have hpl := put_len x t_3 y
            obtain ⟨x9, hx9⟩ : ∃ z, arrPut x t_3 y = z := ⟨_, rfl⟩
            rw [hx9] at HN hpl
            clear hx9
            go_wp2
            go_roundw
            case rel => exact ⟨j - 1, k_7, x9, _, _, by first | go_num | (congr 1; omega), by omega, by omega, by omega, by omega, HN.out⟩
            case measure => simp [intOf]; omega
          exact AllReadyH.nil
        refine AllReadyH.cons (i := 1) rfl (fun K hK => ?_) ?_
        · simp only [List.getElem_toArray, List.getElem_cons_succ, List.getElem_cons_zero]
          rw [if_pos (by rfl)]
          go_simp
          have hbl := hA_3.lt
          have hbl2 := HA.out.lt
          obtain ⟨⟨a0_1, a1_1, ay0_1, ay1_1, al_1⟩, ⟨b0_1, b1_1, by0_1, by1_1, bl_1⟩⟩ := (hA_3.alloc (.cells #[.string ⟨#[97]⟩, .string ⟨#[98]⟩, .string ⟨#[49, 48]⟩, .string ⟨#[57]⟩, .string ⟨#[49]⟩, .string ⟨#[48, 49]⟩, .string ⟨#[32, 50]⟩, .string ⟨#[120]⟩, .string ⟨#[195, 169]⟩, .string ⟨#[]⟩, .string ⟨#[49, 46, 48]⟩, .string ⟨#[45, 51]⟩, .string ⟨#[98, 50]⟩] 9)).cells
          refine hK.out _ _ ?_ (fun hHeld => ?_)
          · first | trivial | ((try dsimp only); trivial)
          clear hK K
          try simp only [Act.put, List.setIfInBounds_toArray, List.set_cons_zero, List.set_cons_succ]
          refine wpAnyH_row (heap_alloc_new _ _) hHeld ?_
          intro hHeld
          refine wpAnyH_take (i := 4) (v := ?_) rfl (by kernel_rfl) (by kernel_rfl) (by kernel_rfl) (fun _ _ _ h => h) (Or.inl ⟨by rfl, ?_⟩) (by assumption) ?_
          rotate_left
          · (intro w' hSw; (try dsimp only at hSw); go_simp; try (with_reducible rfl))
          change wpAnyH _ _ _ _ _ _ _ (Act.put _ (some 18) _) _
          try simp only [Act.put, List.setIfInBounds_toArray, List.set_cons_zero, List.set_cons_succ]
          refine wpAnyH_take (i := 5) (v := ?_) rfl (by kernel_rfl) (by kernel_rfl) (by kernel_rfl) (fun _ _ _ h => h) (Or.inl ⟨by rfl, ?_⟩) (by assumption) ?_
          rotate_left
          · (intro w' hSw; (try dsimp only at hSw); have hcx := (cell_of_row _ _ r_3 _ _ _ hSw.2).trans hT_3; (try simp only [World.size_alloc] at hcx); go_simp; try (with_reducible rfl))
          change wpAnyH _ _ _ _ _ _ _ (Act.put _ (some 19) _) _
          try simp only [Act.put, List.setIfInBounds_toArray, List.set_cons_zero, List.set_cons_succ]
          refine wpAnyH_ready (rs := [0, 7]) (by kernel_rfl) (by simp) ?_
          refine AllReadyH.cons (i := 0) rfl (fun K hK => ?_) ?_
          · simp only [List.getElem_toArray, List.getElem_cons_succ, List.getElem_cons_zero]
            rw [if_pos (by rfl)]
            go_simp
            refine hK.out _ _ ?_ (fun hHeld => ?_)
            · first | trivial | ((try dsimp only); exact ⟨trivial, hHeld.2⟩)
            clear hK K
            try simp only [Act.put, List.setIfInBounds_toArray, List.set_cons_zero, List.set_cons_succ]
            refine wpAnyH_ready (rs := [7]) (by kernel_rfl) (by simp) ?_
            refine AllReadyH.cons (i := 7) rfl (fun K hK => ?_) AllReadyH.nil
            simp only [List.getElem_toArray, List.getElem_cons_succ, List.getElem_cons_zero]
            rw [if_pos (by rfl)]
            go_simp
            (go_at_call 28; refine (curVal _ (hA_3.alloc (.cells #[.string ⟨#[97]⟩, .string ⟨#[98]⟩, .string ⟨#[49, 48]⟩, .string ⟨#[57]⟩, .string ⟨#[49]⟩, .string ⟨#[48, 49]⟩, .string ⟨#[32, 50]⟩, .string ⟨#[120]⟩, .string ⟨#[195, 169]⟩, .string ⟨#[]⟩, .string ⟨#[49, 46, 48]⟩, .string ⟨#[45, 51]⟩, .string ⟨#[98, 50]⟩] 9)).cur (by omega)).mono ?_; rintro e w_7 ⟨y, hy, he_7, k_7, hk_7, hc_7, hg_7⟩; obtain rfl : e = _ := he_7; go_wp2_with fail)
            have hA_7 := (hA_3.alloc (.cells #[.string ⟨#[97]⟩, .string ⟨#[98]⟩, .string ⟨#[49, 48]⟩, .string ⟨#[57]⟩, .string ⟨#[49]⟩, .string ⟨#[48, 49]⟩, .string ⟨#[32, 50]⟩, .string ⟨#[120]⟩, .string ⟨#[195, 169]⟩, .string ⟨#[]⟩, .string ⟨#[49, 46, 48]⟩, .string ⟨#[45, 51]⟩, .string ⟨#[98, 50]⟩] 9)).call hg_7 hc_7
            obtain ⟨⟨a0_7, a1_7, ay0_7, ay1_7, al_7⟩, ⟨b0_7, b1_7, by0_7, by1_7, bl_7⟩⟩ := hA_7.cells
            refine hK.out _ _ ?_ (fun hHeld => ?_)
            · first | trivial | ((try dsimp only); exact ⟨trivial, (hg_7.block _ (Array.getElem?_eq_some_iff.1 hHeld.2).1 (fun e => absurd (Option.some.inj e) (by first | omega | (simp; omega)))).trans hHeld.2⟩)
            clear hK K
            try simp only [Act.put, List.setIfInBounds_toArray, List.set_cons_zero, List.set_cons_succ]
            refine wpAnyH_ready (rs := [8]) (by kernel_rfl) (by simp) ?_
            refine AllReadyH.cons (i := 8) rfl (fun K hK => ?_) AllReadyH.nil
            simp only [List.getElem_toArray, List.getElem_cons_succ, List.getElem_cons_zero]
            rw [if_pos (by rfl)]
            go_simp
            (go_at_call 9; refine (specPutO (cs := #[u, v]) (x := x) (y := y) t_3 _ (by exact hA_7.old) (by exact vS_rd hy (by decide)) (by omega) (hid (by omega))).mono ?_; rintro e w_8 ⟨cs_8, rfl, hr_8, ⟨u8, v8, rfl, ho1, ho2, ho3⟩, hb_8⟩; obtain ⟨ua8, uc8, rfl⟩ := own_sl ho1; obtain ⟨va8, vc8, rfl⟩ := own_sl ho2; go_wp2_with fail)
            have hA_8 := hA_7.later hb_8
            have HN := hid (hA_7.put hb_8 ⟨_, _, rfl, ho1, ho2, ho3⟩ (put_all HOK.out (by omega) hy))
            obtain ⟨⟨a0_8, a1_8, ay0_8, ay1_8, al_8⟩, ⟨b0_8, b1_8, by0_8, by1_8, bl_8⟩⟩ := hA_8.cells
            refine hK.out _ _ ?_ (fun hHeld => ?_)
            · first | trivial | ((try dsimp only); exact ⟨trivial, (hb_8.block _ (Array.getElem?_eq_some_iff.1 hHeld.2).1).trans hHeld.2⟩)
            clear hK K
            try simp only [Act.put, List.setIfInBounds_toArray, List.set_cons_zero, List.set_cons_succ]
            refine wpAnyH_take (i := 9) (v := ?_) rfl (by kernel_rfl) (by kernel_rfl) (by kernel_rfl) (fun _ _ _ h => h) (Or.inl ⟨by rfl, ?_⟩) (by assumption) ?_
            rotate_left
            · (intro w' hSw; (try dsimp only at hSw); go_simp; try (with_reducible rfl))
            change wpAnyH _ _ _ _ _ _ _ (Act.put _ (some 13) _) _
            try simp only [Act.put, List.setIfInBounds_toArray, List.set_cons_zero, List.set_cons_succ]
            refine wpAnyH_take (i := 10) (v := ?_) rfl (by kernel_rfl) (by kernel_rfl) (by kernel_rfl) (fun _ _ _ h => h) (Or.inl ⟨by rfl, ?_⟩) (by assumption) ?_
            rotate_left
            · (intro w' hSw; (try dsimp only at hSw); go_simp; try (with_reducible rfl))
            change wpAnyH _ _ _ _ _ _ _ (Act.put _ (some 23) _) _
            try simp only [Act.put, List.setIfInBounds_toArray, List.set_cons_zero, List.set_cons_succ]
            refine wpAnyH_take (i := 11) (v := ?_) rfl (by kernel_rfl) (by kernel_rfl) (by kernel_rfl) (fun _ _ _ h => h) (Or.inl ⟨by rfl, ?_⟩) (by assumption) ?_
            rotate_left
            · (intro w' hSw; (try dsimp only at hSw); go_simp; try (with_reducible rfl))
            change wpAnyH _ _ _ _ _ _ _ (Act.put _ (some 24) _) _
            try simp only [Act.put, List.setIfInBounds_toArray, List.set_cons_zero, List.set_cons_succ]
            refine wpAnyH_ready (rs := [12]) (by kernel_rfl) (by simp) ?_
            refine AllReadyH.cons (i := 12) rfl (fun K hK => ?_) AllReadyH.nil
            simp only [List.getElem_toArray, List.getElem_cons_succ, List.getElem_cons_zero]
            rw [if_pos (by rfl)]
            go_simp
            refine hK.out _ _ ?_ (fun hHeld => ?_)
            · first | trivial | ((try dsimp only); exact ⟨trivial, (heap_setCell_other _ _ _ _ (by first | exact (Nat.ne_of_gt hbl) | (simp; omega))).trans ((heap_setCell_other _ _ _ _ (by first | exact (Nat.ne_of_gt hbl) | (simp; omega))).trans hHeld.2)⟩)
            clear hK K
            try simp only [Act.put, List.setIfInBounds_toArray, List.set_cons_zero, List.set_cons_succ]
            refine wpAnyH_done (by kernel_rfl) ?_ _
            obtain ⟨W9, hW9⟩ : ∃ z, (w_8.setCell ⟨w.heap.size + 1, 0, none⟩ (.slice ua8 (arrPut x t_3 y).keys.length uc8)).setCell ⟨w.heap.size + 1, 1, none⟩ (.slice va8 (arrPut x t_3 y).vals.length vc8) = z := ⟨_, rfl⟩
            rw [hW9] at HN
            try rw [hW9]
            clear hW9
            have hpl := put_len x t_3 y
            obtain ⟨x9, hx9⟩ : ∃ z, arrPut x t_3 y = z := ⟨_, rfl⟩
            rw [hx9] at HN hpl
            clear hx9
            go_wp2
            go_roundw
            case rel => exact ⟨j - 1, k_7, x9, _, _, by first | go_num | (congr 1; omega), by omega, by omega, by omega, by omega, HN.out⟩
            case measure => simp [intOf]; omega
          refine AllReadyH.cons (i := 7) rfl (fun K hK => ?_) ?_
          · simp only [List.getElem_toArray, List.getElem_cons_succ, List.getElem_cons_zero]
            rw [if_pos (by rfl)]
            go_simp
            (go_at_call 28; refine (curVal _ (hA_3.alloc (.cells #[.string ⟨#[97]⟩, .string ⟨#[98]⟩, .string ⟨#[49, 48]⟩, .string ⟨#[57]⟩, .string ⟨#[49]⟩, .string ⟨#[48, 49]⟩, .string ⟨#[32, 50]⟩, .string ⟨#[120]⟩, .string ⟨#[195, 169]⟩, .string ⟨#[]⟩, .string ⟨#[49, 46, 48]⟩, .string ⟨#[45, 51]⟩, .string ⟨#[98, 50]⟩] 9)).cur (by omega)).mono ?_; rintro e w_7 ⟨y, hy, he_7, k_7, hk_7, hc_7, hg_7⟩; obtain rfl : e = _ := he_7; go_wp2_with fail)
            have hA_7 := (hA_3.alloc (.cells #[.string ⟨#[97]⟩, .string ⟨#[98]⟩, .string ⟨#[49, 48]⟩, .string ⟨#[57]⟩, .string ⟨#[49]⟩, .string ⟨#[48, 49]⟩, .string ⟨#[32, 50]⟩, .string ⟨#[120]⟩, .string ⟨#[195, 169]⟩, .string ⟨#[]⟩, .string ⟨#[49, 46, 48]⟩, .string ⟨#[45, 51]⟩, .string ⟨#[98, 50]⟩] 9)).call hg_7 hc_7
            obtain ⟨⟨a0_7, a1_7, ay0_7, ay1_7, al_7⟩, ⟨b0_7, b1_7, by0_7, by1_7, bl_7⟩⟩ := hA_7.cells
            refine hK.out _ _ ?_ (fun hHeld => ?_)
            · first | trivial | ((try dsimp only); exact ⟨trivial, (hg_7.block _ (Array.getElem?_eq_some_iff.1 hHeld.2).1 (fun e => absurd (Option.some.inj e) (by first | omega | (simp; omega)))).trans hHeld.2⟩)
            clear hK K
            try simp only [Act.put, List.setIfInBounds_toArray, List.set_cons_zero, List.set_cons_succ]
            refine wpAnyH_ready (rs := [0]) (by kernel_rfl) (by simp) ?_
            refine AllReadyH.cons (i := 0) rfl (fun K hK => ?_) AllReadyH.nil
            simp only [List.getElem_toArray, List.getElem_cons_succ, List.getElem_cons_zero]
            rw [if_pos (by rfl)]
            go_simp
            refine hK.out _ _ ?_ (fun hHeld => ?_)
            · first | trivial | ((try dsimp only); exact ⟨trivial, (hg_7.block _ (Array.getElem?_eq_some_iff.1 hHeld.2).1 (fun e => absurd (Option.some.inj e) (by first | omega | (simp; omega)))).trans hHeld.2⟩)
            clear hK K
            try simp only [Act.put, List.setIfInBounds_toArray, List.set_cons_zero, List.set_cons_succ]
            refine wpAnyH_ready (rs := [8]) (by kernel_rfl) (by simp) ?_
            refine AllReadyH.cons (i := 8) rfl (fun K hK => ?_) AllReadyH.nil
            simp only [List.getElem_toArray, List.getElem_cons_succ, List.getElem_cons_zero]
            rw [if_pos (by rfl)]
            go_simp
            (go_at_call 9; refine (specPutO (cs := #[u, v]) (x := x) (y := y) t_3 _ (by exact hA_7.old) (by exact vS_rd hy (by decide)) (by omega) (hid (by omega))).mono ?_; rintro e w_8 ⟨cs_8, rfl, hr_8, ⟨u8, v8, rfl, ho1, ho2, ho3⟩, hb_8⟩; obtain ⟨ua8, uc8, rfl⟩ := own_sl ho1; obtain ⟨va8, vc8, rfl⟩ := own_sl ho2; go_wp2_with fail)
            have hA_8 := hA_7.later hb_8
            have HN := hid (hA_7.put hb_8 ⟨_, _, rfl, ho1, ho2, ho3⟩ (put_all HOK.out (by omega) hy))
            obtain ⟨⟨a0_8, a1_8, ay0_8, ay1_8, al_8⟩, ⟨b0_8, b1_8, by0_8, by1_8, bl_8⟩⟩ := hA_8.cells
            refine hK.out _ _ ?_ (fun hHeld => ?_)
            · first | trivial | ((try dsimp only); exact ⟨trivial, (hb_8.block _ (Array.getElem?_eq_some_iff.1 hHeld.2).1).trans hHeld.2⟩)
            clear hK K
            try simp only [Act.put, List.setIfInBounds_toArray, List.set_cons_zero, List.set_cons_succ]
            refine wpAnyH_take (i := 9) (v := ?_) rfl (by kernel_rfl) (by kernel_rfl) (by kernel_rfl) (fun _ _ _ h => h) (Or.inl ⟨by rfl, ?_⟩) (by assumption) ?_
            rotate_left
            · (intro w' hSw; (try dsimp only at hSw); go_simp; try (with_reducible rfl))
            change wpAnyH _ _ _ _ _ _ _ (Act.put _ (some 13) _) _
            try simp only [Act.put, List.setIfInBounds_toArray, List.set_cons_zero, List.set_cons_succ]
            refine wpAnyH_take (i := 10) (v := ?_) rfl (by kernel_rfl) (by kernel_rfl) (by kernel_rfl) (fun _ _ _ h => h) (Or.inl ⟨by rfl, ?_⟩) (by assumption) ?_
            rotate_left
            · (intro w' hSw; (try dsimp only at hSw); go_simp; try (with_reducible rfl))
            change wpAnyH _ _ _ _ _ _ _ (Act.put _ (some 23) _) _
            try simp only [Act.put, List.setIfInBounds_toArray, List.set_cons_zero, List.set_cons_succ]
            refine wpAnyH_take (i := 11) (v := ?_) rfl (by kernel_rfl) (by kernel_rfl) (by kernel_rfl) (fun _ _ _ h => h) (Or.inl ⟨by rfl, ?_⟩) (by assumption) ?_
            rotate_left
            · (intro w' hSw; (try dsimp only at hSw); go_simp; try (with_reducible rfl))
            change wpAnyH _ _ _ _ _ _ _ (Act.put _ (some 24) _) _
            try simp only [Act.put, List.setIfInBounds_toArray, List.set_cons_zero, List.set_cons_succ]
            refine wpAnyH_ready (rs := [12]) (by kernel_rfl) (by simp) ?_
            refine AllReadyH.cons (i := 12) rfl (fun K hK => ?_) AllReadyH.nil
            simp only [List.getElem_toArray, List.getElem_cons_succ, List.getElem_cons_zero]
            rw [if_pos (by rfl)]
            go_simp
            refine hK.out _ _ ?_ (fun hHeld => ?_)
            · first | trivial | ((try dsimp only); exact ⟨trivial, (heap_setCell_other _ _ _ _ (by first | exact (Nat.ne_of_gt hbl) | (simp; omega))).trans ((heap_setCell_other _ _ _ _ (by first | exact (Nat.ne_of_gt hbl) | (simp; omega))).trans hHeld.2)⟩)
            clear hK K
            try simp only [Act.put, List.setIfInBounds_toArray, List.set_cons_zero, List.set_cons_succ]
            refine wpAnyH_done (by kernel_rfl) ?_ _
            obtain ⟨W9, hW9⟩ : ∃ z, (w_8.setCell ⟨w.heap.size + 1, 0, none⟩ (.slice ua8 (arrPut x t_3 y).keys.length uc8)).setCell ⟨w.heap.size + 1, 1, none⟩ (.slice va8 (arrPut x t_3 y).vals.length vc8) = z := ⟨_, rfl⟩
            rw [hW9] at HN
            try rw [hW9]
            clear hW9
            have hpl := put_len x t_3 y
            obtain ⟨x9, hx9⟩ : ∃ z, arrPut x t_3 y = z := ⟨_, rfl⟩
            rw [hx9] at HN hpl
            clear hx9
            go_wp2
            go_roundw
            case rel => exact ⟨j - 1, k_7, x9, _, _, by first | go_num | (congr 1; omega), by omega, by omega, by omega, by omega, HN.out⟩
            case measure => simp [intOf]; omega
          exact AllReadyH.nil
        refine AllReadyH.cons (i := 7) rfl (fun K hK => ?_) ?_
        · simp only [List.getElem_toArray, List.getElem_cons_succ, List.getElem_cons_zero]
          rw [if_pos (by rfl)]
          go_simp
          (go_at_call 28; refine (curVal _ hA_3.cur (by omega)).mono ?_; rintro e w_7 ⟨y, hy, he_7, k_7, hk_7, hc_7, hg_7⟩; obtain rfl : e = _ := he_7; go_wp2_with fail)
          have hA_7 := hA_3.call hg_7 hc_7
          obtain ⟨⟨a0_7, a1_7, ay0_7, ay1_7, al_7⟩, ⟨b0_7, b1_7, by0_7, by1_7, bl_7⟩⟩ := hA_7.cells
          refine hK.out _ _ ?_ (fun hHeld => ?_)
          · first | trivial | ((try dsimp only); trivial)
          clear hK K
          try simp only [Act.put, List.setIfInBounds_toArray, List.set_cons_zero, List.set_cons_succ]
          refine wpAnyH_ready (rs := [0, 1]) (by kernel_rfl) (by simp) ?_
          refine AllReadyH.cons (i := 0) rfl (fun K hK => ?_) ?_
          · simp only [List.getElem_toArray, List.getElem_cons_succ, List.getElem_cons_zero]
            rw [if_pos (by rfl)]
            go_simp
            refine hK.out _ _ ?_ (fun hHeld => ?_)
            · first | trivial | ((try dsimp only); trivial)
            clear hK K
            try simp only [Act.put, List.setIfInBounds_toArray, List.set_cons_zero, List.set_cons_succ]
            refine wpAnyH_ready (rs := [1]) (by kernel_rfl) (by simp) ?_
            refine AllReadyH.cons (i := 1) rfl (fun K hK => ?_) AllReadyH.nil
            simp only [List.getElem_toArray, List.getElem_cons_succ, List.getElem_cons_zero]
            rw [if_pos (by rfl)]
            go_simp
            have hbl := hA_7.lt
            have hbl2 := HA.out.lt
            obtain ⟨⟨a0_1, a1_1, ay0_1, ay1_1, al_1⟩, ⟨b0_1, b1_1, by0_1, by1_1, bl_1⟩⟩ := (hA_7.alloc (.cells #[.string ⟨#[97]⟩, .string ⟨#[98]⟩, .string ⟨#[49, 48]⟩, .string ⟨#[57]⟩, .string ⟨#[49]⟩, .string ⟨#[48, 49]⟩, .string ⟨#[32, 50]⟩, .string ⟨#[120]⟩, .string ⟨#[195, 169]⟩, .string ⟨#[]⟩, .string ⟨#[49, 46, 48]⟩, .string ⟨#[45, 51]⟩, .string ⟨#[98, 50]⟩] 9)).cells
            refine hK.out _ _ ?_ (fun hHeld => ?_)
            · first | trivial | ((try dsimp only); trivial)
            clear hK K
            try simp only [Act.put, List.setIfInBounds_toArray, List.set_cons_zero, List.set_cons_succ]
            refine wpAnyH_row (heap_alloc_new _ _) hHeld ?_
            intro hHeld
            refine wpAnyH_take (i := 4) (v := ?_) rfl (by kernel_rfl) (by kernel_rfl) (by kernel_rfl) (fun _ _ _ h => h) (Or.inl ⟨by rfl, ?_⟩) (by assumption) ?_
            rotate_left
            · (intro w' hSw; (try dsimp only at hSw); go_simp; try (with_reducible rfl))
            change wpAnyH _ _ _ _ _ _ _ (Act.put _ (some 18) _) _
            try simp only [Act.put, List.setIfInBounds_toArray, List.set_cons_zero, List.set_cons_succ]
            refine wpAnyH_take (i := 5) (v := ?_) rfl (by kernel_rfl) (by kernel_rfl) (by kernel_rfl) (fun _ _ _ h => h) (Or.inl ⟨by rfl, ?_⟩) (by assumption) ?_
            rotate_left
            · (intro w' hSw; (try dsimp only at hSw); have hcx := (cell_of_row _ _ r_3 _ _ _ hSw.2).trans hT_3; (try simp only [World.size_alloc] at hcx); go_simp; try (with_reducible rfl))
            change wpAnyH _ _ _ _ _ _ _ (Act.put _ (some 19) _) _
            try simp only [Act.put, List.setIfInBounds_toArray, List.set_cons_zero, List.set_cons_succ]
            refine wpAnyH_ready (rs := [8]) (by kernel_rfl) (by simp) ?_
            refine AllReadyH.cons (i := 8) rfl (fun K hK => ?_) AllReadyH.nil
            simp only [List.getElem_toArray, List.getElem_cons_succ, List.getElem_cons_zero]
            rw [if_pos (by rfl)]
            go_simp
            (go_at_call 9; refine (specPutO (cs := #[u, v]) (x := x) (y := y) t_3 _ (by exact (hA_7.alloc (.cells #[.string ⟨#[97]⟩, .string ⟨#[98]⟩, .string ⟨#[49, 48]⟩, .string ⟨#[57]⟩, .string ⟨#[49]⟩, .string ⟨#[48, 49]⟩, .string ⟨#[32, 50]⟩, .string ⟨#[120]⟩, .string ⟨#[195, 169]⟩, .string ⟨#[]⟩, .string ⟨#[49, 46, 48]⟩, .string ⟨#[45, 51]⟩, .string ⟨#[98, 50]⟩] 9)).old) (by exact vS_rd hy (by decide)) (by omega) (hid (by omega))).mono ?_; rintro e w_8 ⟨cs_8, rfl, hr_8, ⟨u8, v8, rfl, ho1, ho2, ho3⟩, hb_8⟩; obtain ⟨ua8, uc8, rfl⟩ := own_sl ho1; obtain ⟨va8, vc8, rfl⟩ := own_sl ho2; go_wp2_with fail)
            have hA_8 := (hA_7.alloc (.cells #[.string ⟨#[97]⟩, .string ⟨#[98]⟩, .string ⟨#[49, 48]⟩, .string ⟨#[57]⟩, .string ⟨#[49]⟩, .string ⟨#[48, 49]⟩, .string ⟨#[32, 50]⟩, .string ⟨#[120]⟩, .string ⟨#[195, 169]⟩, .string ⟨#[]⟩, .string ⟨#[49, 46, 48]⟩, .string ⟨#[45, 51]⟩, .string ⟨#[98, 50]⟩] 9)).later hb_8
            have HN := hid ((hA_7.alloc (.cells #[.string ⟨#[97]⟩, .string ⟨#[98]⟩, .string ⟨#[49, 48]⟩, .string ⟨#[57]⟩, .string ⟨#[49]⟩, .string ⟨#[48, 49]⟩, .string ⟨#[32, 50]⟩, .string ⟨#[120]⟩, .string ⟨#[195, 169]⟩, .string ⟨#[]⟩, .string ⟨#[49, 46, 48]⟩, .string ⟨#[45, 51]⟩, .string ⟨#[98, 50]⟩] 9)).put hb_8 ⟨_, _, rfl, ho1, ho2, ho3⟩ (put_all HOK.out (by omega) hy))
            obtain ⟨⟨a0_8, a1_8, ay0_8, ay1_8, al_8⟩, ⟨b0_8, b1_8, by0_8, by1_8, bl_8⟩⟩ := hA_8.cells
            refine hK.out _ _ ?_ (fun hHeld => ?_)
            · first | trivial | ((try dsimp only); exact ⟨trivial, (hb_8.block _ (Array.getElem?_eq_some_iff.1 hHeld.2).1).trans hHeld.2⟩)
            clear hK K
            try simp only [Act.put, List.setIfInBounds_toArray, List.set_cons_zero, List.set_cons_succ]
            refine wpAnyH_take (i := 9) (v := ?_) rfl (by kernel_rfl) (by kernel_rfl) (by kernel_rfl) (fun _ _ _ h => h) (Or.inl ⟨by rfl, ?_⟩) (by assumption) ?_
            rotate_left
            · (intro w' hSw; (try dsimp only at hSw); go_simp; try (with_reducible rfl))
            change wpAnyH _ _ _ _ _ _ _ (Act.put _ (some 13) _) _
            try simp only [Act.put, List.setIfInBounds_toArray, List.set_cons_zero, List.set_cons_succ]
            refine wpAnyH_take (i := 10) (v := ?_) rfl (by kernel_rfl) (by kernel_rfl) (by kernel_rfl) (fun _ _ _ h => h) (Or.inl ⟨by rfl, ?_⟩) (by assumption) ?_
            rotate_left
            · (intro w' hSw; (try dsimp only at hSw); go_simp; try (with_reducible rfl))
            change wpAnyH _ _ _ _ _ _ _ (Act.put _ (some 23) _) _
            try simp only [Act.put, List.setIfInBounds_toArray, List.set_cons_zero, List.set_cons_succ]
            refine wpAnyH_take (i := 11) (v := ?_) rfl (by kernel_rfl) (by kernel_rfl) (by kernel_rfl) (fun _ _ _ h => h) (Or.inl ⟨by rfl, ?_⟩) (by assumption) ?_
            rotate_left
            · (intro w' hSw; (try dsimp only at hSw); go_simp; try (with_reducible rfl))
            change wpAnyH _ _ _ _ _ _ _ (Act.put _ (some 24) _) _
            try simp only [Act.put, List.setIfInBounds_toArray, List.set_cons_zero, List.set_cons_succ]
            refine wpAnyH_ready (rs := [12]) (by kernel_rfl) (by simp) ?_
            refine AllReadyH.cons (i := 12) rfl (fun K hK => ?_) AllReadyH.nil
            simp only [List.getElem_toArray, List.getElem_cons_succ, List.getElem_cons_zero]
            rw [if_pos (by rfl)]
            go_simp
            refine hK.out _ _ ?_ (fun hHeld => ?_)
            · first | trivial | ((try dsimp only); exact ⟨trivial, (heap_setCell_other _ _ _ _ (by first | exact (Nat.ne_of_gt hbl) | (simp; omega))).trans ((heap_setCell_other _ _ _ _ (by first | exact (Nat.ne_of_gt hbl) | (simp; omega))).trans hHeld.2)⟩)
            clear hK K
            try simp only [Act.put, List.setIfInBounds_toArray, List.set_cons_zero, List.set_cons_succ]
            refine wpAnyH_done (by kernel_rfl) ?_ _
            obtain ⟨W9, hW9⟩ : ∃ z, (w_8.setCell ⟨w.heap.size + 1, 0, none⟩ (.slice ua8 (arrPut x t_3 y).keys.length uc8)).setCell ⟨w.heap.size + 1, 1, none⟩ (.slice va8 (arrPut x t_3 y).vals.length vc8) = z := ⟨_, rfl⟩
            rw [hW9] at HN
            try rw [hW9]
            clear hW9
            have hpl := put_len x t_3 y
            obtain ⟨x9, hx9⟩ : ∃ z, arrPut x t_3 y = z := ⟨_, rfl⟩
            rw [hx9] at HN hpl
            clear hx9
            go_wp2
            go_roundw
            case rel => exact ⟨j - 1, k_7, x9, _, _, by first | go_num | (congr 1; omega), by omega, by omega, by omega, by omega, HN.out⟩
            case measure => simp [intOf]; omega
          refine AllReadyH.cons (i := 1) rfl (fun K hK => ?_) ?_
          · simp only [List.getElem_toArray, List.getElem_cons_succ, List.getElem_cons_zero]
            rw [if_pos (by rfl)]
            go_simp
            have hbl := hA_7.lt
            have hbl2 := HA.out.lt
            obtain ⟨⟨a0_1, a1_1, ay0_1, ay1_1, al_1⟩, ⟨b0_1, b1_1, by0_1, by1_1, bl_1⟩⟩ := (hA_7.alloc (.cells #[.string ⟨#[97]⟩, .string ⟨#[98]⟩, .string ⟨#[49, 48]⟩, .string ⟨#[57]⟩, .string ⟨#[49]⟩, .string ⟨#[48, 49]⟩, .string ⟨#[32, 50]⟩, .string ⟨#[120]⟩, .string ⟨#[195, 169]⟩, .string ⟨#[]⟩, .string ⟨#[49, 46, 48]⟩, .string ⟨#[45, 51]⟩, .string ⟨#[98, 50]⟩] 9)).cells
            refine hK.out _ _ ?_ (fun hHeld => ?_)
            · first | trivial | ((try dsimp only); trivial)
            clear hK K
            try simp only [Act.put, List.setIfInBounds_toArray, List.set_cons_zero, List.set_cons_succ]
            refine wpAnyH_row (heap_alloc_new _ _) hHeld ?_
            intro hHeld
            refine wpAnyH_take (i := 4) (v := ?_) rfl (by kernel_rfl) (by kernel_rfl) (by kernel_rfl) (fun _ _ _ h => h) (Or.inl ⟨by rfl, ?_⟩) (by assumption) ?_
            rotate_left
            · (intro w' hSw; (try dsimp only at hSw); go_simp; try (with_reducible rfl))
            change wpAnyH _ _ _ _ _ _ _ (Act.put _ (some 18) _) _
            try simp only [Act.put, List.setIfInBounds_toArray, List.set_cons_zero, List.set_cons_succ]
            refine wpAnyH_take (i := 5) (v := ?_) rfl (by kernel_rfl) (by kernel_rfl) (by kernel_rfl) (fun _ _ _ h => h) (Or.inl ⟨by rfl, ?_⟩) (by assumption) ?_
            rotate_left
            · (intro w' hSw; (try dsimp only at hSw); have hcx := (cell_of_row _ _ r_3 _ _ _ hSw.2).trans hT_3; (try simp only [World.size_alloc] at hcx); go_simp; try (with_reducible rfl))
            change wpAnyH _ _ _ _ _ _ _ (Act.put _ (some 19) _) _
            try simp only [Act.put, List.setIfInBounds_toArray, List.set_cons_zero, List.set_cons_succ]
            refine wpAnyH_ready (rs := [0]) (by kernel_rfl) (by simp) ?_
            refine AllReadyH.cons (i := 0) rfl (fun K hK => ?_) AllReadyH.nil
            simp only [List.getElem_toArray, List.getElem_cons_succ, List.getElem_cons_zero]
            rw [if_pos (by rfl)]
            go_simp
            refine hK.out _ _ ?_ (fun hHeld => ?_)
            · first | trivial | ((try dsimp only); exact ⟨trivial, hHeld.2⟩)
            clear hK K
            try simp only [Act.put, List.setIfInBounds_toArray, List.set_cons_zero, List.set_cons_succ]
            refine wpAnyH_ready (rs := [8]) (by kernel_rfl) (by simp) ?_
            refine AllReadyH.cons (i := 8) rfl (fun K hK => ?_) AllReadyH.nil
            simp only [List.getElem_toArray, List.getElem_cons_succ, List.getElem_cons_zero]
            rw [if_pos (by rfl)]
            go_simp
            (go_at_call 9; refine (specPutO (cs := #[u, v]) (x := x) (y := y) t_3 _ (by exact (hA_7.alloc (.cells #[.string ⟨#[97]⟩, .string ⟨#[98]⟩, .string ⟨#[49, 48]⟩, .string ⟨#[57]⟩, .string ⟨#[49]⟩, .string ⟨#[48, 49]⟩, .string ⟨#[32, 50]⟩, .string ⟨#[120]⟩, .string ⟨#[195, 169]⟩, .string ⟨#[]⟩, .string ⟨#[49, 46, 48]⟩, .string ⟨#[45, 51]⟩, .string ⟨#[98, 50]⟩] 9)).old) (by exact vS_rd hy (by decide)) (by omega) (hid (by omega))).mono ?_; rintro e w_8 ⟨cs_8, rfl, hr_8, ⟨u8, v8, rfl, ho1, ho2, ho3⟩, hb_8⟩; obtain ⟨ua8, uc8, rfl⟩ := own_sl ho1; obtain ⟨va8, vc8, rfl⟩ := own_sl ho2; go_wp2_with fail)
            have hA_8 := (hA_7.alloc (.cells #[.string ⟨#[97]⟩, .string ⟨#[98]⟩, .string ⟨#[49, 48]⟩, .string ⟨#[57]⟩, .string ⟨#[49]⟩, .string ⟨#[48, 49]⟩, .string ⟨#[32, 50]⟩, .string ⟨#[120]⟩, .string ⟨#[195, 169]⟩, .string ⟨#[]⟩, .string ⟨#[49, 46, 48]⟩, .string ⟨#[45, 51]⟩, .string ⟨#[98, 50]⟩] 9)).later hb_8
            have HN := hid ((hA_7.alloc (.cells #[.string ⟨#[97]⟩, .string ⟨#[98]⟩, .string ⟨#[49, 48]⟩, .string ⟨#[57]⟩, .string ⟨#[49]⟩, .string ⟨#[48, 49]⟩, .string ⟨#[32, 50]⟩, .string ⟨#[120]⟩, .string ⟨#[195, 169]⟩, .string ⟨#[]⟩, .string ⟨#[49, 46, 48]⟩, .string ⟨#[45, 51]⟩, .string ⟨#[98, 50]⟩] 9)).put hb_8 ⟨_, _, rfl, ho1, ho2, ho3⟩ (put_all HOK.out (by omega) hy))
            obtain ⟨⟨a0_8, a1_8, ay0_8, ay1_8, al_8⟩, ⟨b0_8, b1_8, by0_8, by1_8, bl_8⟩⟩ := hA_8.cells
            refine hK.out _ _ ?_ (fun hHeld => ?_)
            · first | trivial | ((try dsimp only); exact ⟨trivial, (hb_8.block _ (Array.getElem?_eq_some_iff.1 hHeld.2).1).trans hHeld.2⟩)
            clear hK K
            try simp only [Act.put, List.setIfInBounds_toArray, List.set_cons_zero, List.set_cons_succ]
            refine wpAnyH_take (i := 9) (v := ?_) rfl (by kernel_rfl) (by kernel_rfl) (by kernel_rfl) (fun _ _ _ h => h) (Or.inl ⟨by rfl, ?_⟩) (by assumption) ?_
            rotate_left
            · (intro w' hSw; (try dsimp only at hSw); go_simp; try (with_reducible rfl))
            change wpAnyH _ _ _ _ _ _ _ (Act.put _ (some 13) _) _
            try simp only [Act.put, List.setIfInBounds_toArray, List.set_cons_zero, List.set_cons_succ]
            refine wpAnyH_take (i := 10) (v := ?_) rfl (by kernel_rfl) (by kernel_rfl) (by kernel_rfl) (fun _ _ _ h => h) (Or.inl ⟨by rfl, ?_⟩) (by assumption) ?_
            rotate_left
            · (intro w' hSw; (try dsimp only at hSw); go_simp; try (with_reducible rfl))
            change wpAnyH _ _ _ _ _ _ _ (Act.put _ (some 23) _) _
            try simp only [Act.put, List.setIfInBounds_toArray, List.set_cons_zero, List.set_cons_succ]
            refine wpAnyH_take (i := 11) (v := ?_) rfl (by kernel_rfl) (by kernel_rfl) (by kernel_rfl) (fun _ _ _ h => h) (Or.inl ⟨by rfl, ?_⟩) (by assumption) ?_
            rotate_left
            · (intro w' hSw; (try dsimp only at hSw); go_simp; try (with_reducible rfl))
            change wpAnyH _ _ _ _ _ _ _ (Act.put _ (some 24) _) _
            try simp only [Act.put, List.setIfInBounds_toArray, List.set_cons_zero, List.set_cons_succ]
            refine wpAnyH_ready (rs := [12]) (by kernel_rfl) (by simp) ?_
            refine AllReadyH.cons (i := 12) rfl (fun K hK => ?_) AllReadyH.nil
            simp only [List.getElem_toArray, List.getElem_cons_succ, List.getElem_cons_zero]
            rw [if_pos (by rfl)]
            go_simp
            refine hK.out _ _ ?_ (fun hHeld => ?_)
            · first | trivial | ((try dsimp only); exact ⟨trivial, (heap_setCell_other _ _ _ _ (by first | exact (Nat.ne_of_gt hbl) | (simp; omega))).trans ((heap_setCell_other _ _ _ _ (by first | exact (Nat.ne_of_gt hbl) | (simp; omega))).trans hHeld.2)⟩)
            clear hK K
            try simp only [Act.put, List.setIfInBounds_toArray, List.set_cons_zero, List.set_cons_succ]
            refine wpAnyH_done (by kernel_rfl) ?_ _
            obtain ⟨W9, hW9⟩ : ∃ z, (w_8.setCell ⟨w.heap.size + 1, 0, none⟩ (.slice ua8 (arrPut x t_3 y).keys.length uc8)).setCell ⟨w.heap.size + 1, 1, none⟩ (.slice va8 (arrPut x t_3 y).vals.length vc8) = z := ⟨_, rfl⟩
            rw [hW9] at HN
            try rw [hW9]
            clear hW9
            have hpl := put_len x t_3 y
            obtain ⟨x9, hx9⟩ : ∃ z, arrPut x t_3 y = z := ⟨_, rfl⟩
            rw [hx9] at HN hpl
            clear hx9
            go_wp2
            go_roundw
            case rel => exact ⟨j - 1, k_7, x9, _, _, by first | go_num | (congr 1; omega), by omega, by omega, by omega, by omega, HN.out⟩
            case measure => simp [intOf]; omega
          exact AllReadyH.nil
        exact AllReadyH.nil
      exact AllReadyH.nil
    · have hj0 : j = 0 := by omega
      have hkx : x.keys.length ≤ 8 := by omega
      have hkk : k2 ≤ k + 17000 := by omega
      clear hkl hk2 hj hj0
      go_wp2_with fail
      refine (curOnce 20 _ HA.out.cur (by omega) (by omega) (by omega)).mono ?_
      rintro e w3 ⟨b, rfl, k3, hk3, hc3, hg3⟩
      have HA3 := hid (HA.out.call hg3 hc3)
      clear hc3 hg3
      go_upto_if 26 with fail
      go_cut [5] from 6 (fun _ wx => ∃ (k2 : Nat) (x : Arr) (u v : Value), x.keys.length ≤ 230 ∧ x.vals.length ≤ 230 ∧ k2 ≤ k + 17300 ∧ AS w wx B p k2 x u v)
      case first =>
        cases b with
        | false =>
          go_wp2
          go_meet
          case rel => exact ⟨k3, x, u, v, by omega, by omega, by omega, HA3.out⟩
        | true =>
          go_wp2
          go_loopw [5] (fun ii wr => ∃ (i k2 : Nat) (x : Arr) (u v : Value), ii = .int .i64 (i : Int) ∧ i ≤ 201 ∧ x.keys.length ≤ 9 + i ∧ x.vals.length ≤ 9 + i ∧ k2 ≤ k3 + i ∧ AS w wr B p k2 x u v) (fun ii _ => 202 - (intOf ii).toNat)
          case atStart => exact ⟨0, k3, x, u, v, rfl, by omega, by omega, by omega, by omega, HA3.out⟩
          case round =>
            obtain ⟨i, k2, x, u, v, rfl, hi, hkl, hvl, hk2, hA⟩ := hrel
            have HA8 := hid hA
            clear hA HA HA3 HOK
            go_wp2_with fail
            refine (curPick 2 _ HA8.out.cur (by omega) (by omega)).mono ?_
            rintro e w9 ⟨z, rfl, hz9, k_9, hk_9, hc9, hg9⟩
            have HA9 := hid (HA8.out.call hg9 hc9)
            have HOK := hid HA9.out.ok
            have hz1 : z ≤ 1 := by omega
            have hzw : IntKind.i64.wrap (200 - (z : Int)) = ((200 - z : Nat) : Int) := by rw [IntWalk.i64_in _ (by omega)]; omega
            clear hz9 hc9 hg9 HA8
            by_cases hlt : i < 200 - z
            · have hlti : (i : Int) < ((200 - z : Nat) : Int) := by omega
              have hiw : IntKind.i64.wrap ((i : Int) + 100) = (i : Int) + 100 := IntWalk.i64_in _ (by omega)
              obtain ⟨⟨a0, a1, ay0, ay1, al⟩, ⟨b0, b1, by0, by1, bl⟩⟩ := HA9.out.drew.cells
              have hpw := HA9.out.hp
              go_upto_region 10 with fail
              refine wp_region_held_drew (S := fun w' => True) (by kernel_rfl) ?_ (fun hHeld => ?_)
              · trivial
              refine wpAnyH_take (i := 1) (v := ?_) rfl (by kernel_rfl) (by kernel_rfl) (by kernel_rfl) (fun _ _ _ h => h) (Or.inl ⟨by rfl, ?_⟩) (by assumption) ?_
              rotate_left
              · (intro w' hSw; (try dsimp only at hSw); go_simp; try (with_reducible rfl))
              change wpAnyH _ _ _ _ _ _ _ (Act.put _ (some 36) _) _
              try simp only [Act.put, List.setIfInBounds_toArray, List.set_cons_zero, List.set_cons_succ]
              refine wpAnyH_take (i := 2) (v := ?_) rfl (by kernel_rfl) (by kernel_rfl) (by kernel_rfl) (fun _ _ _ h => h) (Or.inl ⟨by rfl, ?_⟩) (by assumption) ?_
              rotate_left
              · (intro w' hSw; (try dsimp only at hSw); go_simp; try (with_reducible rfl))
              change wpAnyH _ _ _ _ _ _ _ (Act.put _ (some 37) _) _
              try simp only [Act.put, List.setIfInBounds_toArray, List.set_cons_zero, List.set_cons_succ]
              refine wpAnyH_take (i := 4) (v := ?_) rfl (by kernel_rfl) (by kernel_rfl) (by kernel_rfl) (fun _ _ _ h => h) (Or.inl ⟨by rfl, ?_⟩) (by assumption) ?_
              rotate_left
              · (intro w' hSw; (try dsimp only at hSw); go_simp; try (with_reducible rfl))
              change wpAnyH _ _ _ _ _ _ _ (Act.put _ (some 39) _) _
              try simp only [Act.put, List.setIfInBounds_toArray, List.set_cons_zero, List.set_cons_succ]
              refine wpAnyH_ready (rs := [0, 3]) (by kernel_rfl) (by simp) ?_
              refine AllReadyH.cons (i := 0) rfl (fun K hK => ?_) ?_
              · simp only [List.getElem_toArray, List.getElem_cons_succ, List.getElem_cons_zero]
                rw [if_pos (by rfl)]
                go_simp
                refine hK.out _ _ ?_ (fun hHeld => ?_)
                · first | trivial | ((try dsimp only); trivial)
                clear hK K
                try simp only [Act.put, List.setIfInBounds_toArray, List.set_cons_zero, List.set_cons_succ]
                refine wpAnyH_ready (rs := [3]) (by kernel_rfl) (by simp) ?_
                refine AllReadyH.cons (i := 3) rfl (fun K hK => ?_) AllReadyH.nil
                simp only [List.getElem_toArray, List.getElem_cons_succ, List.getElem_cons_zero]
                rw [if_pos (by rfl)]
                go_simp
                (go_at_call 55; refine (specNumText (i + 100 : Int) _ (by omega)).mono ?_; rintro e w_3 ⟨rfl, hb_3⟩; go_wp2_with fail)
                have hA_3 := HA9.out.drew.later hb_3
                have hNS := numB_size (n := (i + 100 : Int)) (by omega)
                obtain ⟨⟨a0_3, a1_3, ay0_3, ay1_3, al_3⟩, ⟨b0_3, b1_3, by0_3, by1_3, bl_3⟩⟩ := hA_3.cells
                refine hK.out _ _ ?_ (fun hHeld => ?_)
                · first | trivial | ((try dsimp only); trivial)
                clear hK K
                try simp only [Act.put, List.setIfInBounds_toArray, List.set_cons_zero, List.set_cons_succ]
                refine wpAnyH_ready (rs := [5]) (by kernel_rfl) (by simp) ?_
                refine AllReadyH.cons (i := 5) rfl (fun K hK => ?_) AllReadyH.nil
                simp only [List.getElem_toArray, List.getElem_cons_succ, List.getElem_cons_zero]
                rw [if_pos (by rfl)]
                go_simp
                (go_at_call 9; refine (specPutO (cs := #[u, v]) (x := x) (y := val0) (numB (i + 100 : Int)) _ (by exact hA_3.old) (by exact rd_val0) (by omega) (hid (by omega))).mono ?_; rintro e w_8 ⟨cs_8, rfl, hr_8, ⟨u8, v8, rfl, ho1, ho2, ho3⟩, hb_8⟩; obtain ⟨ua8, uc8, rfl⟩ := own_sl ho1; obtain ⟨va8, vc8, rfl⟩ := own_sl ho2; go_wp2_with fail)
                have hA_8 := hA_3.later hb_8
                have HN := hid (hA_3.put hb_8 ⟨_, _, rfl, ho1, ho2, ho3⟩ (put_all HOK.out (by omega) vS0))
                obtain ⟨⟨a0_8, a1_8, ay0_8, ay1_8, al_8⟩, ⟨b0_8, b1_8, by0_8, by1_8, bl_8⟩⟩ := hA_8.cells
                refine hK.out _ _ ?_ (fun hHeld => ?_)
                · first | trivial | ((try dsimp only); trivial)
                clear hK K
                try simp only [Act.put, List.setIfInBounds_toArray, List.set_cons_zero, List.set_cons_succ]
                refine wpAnyH_take (i := 6) (v := ?_) rfl (by kernel_rfl) (by kernel_rfl) (by kernel_rfl) (fun _ _ _ h => h) (Or.inl ⟨by rfl, ?_⟩) (by assumption) ?_
                rotate_left
                · (intro w' hSw; (try dsimp only at hSw); go_simp; try (with_reducible rfl))
                change wpAnyH _ _ _ _ _ _ _ (Act.put _ (some 34) _) _
                try simp only [Act.put, List.setIfInBounds_toArray, List.set_cons_zero, List.set_cons_succ]
                refine wpAnyH_take (i := 7) (v := ?_) rfl (by kernel_rfl) (by kernel_rfl) (by kernel_rfl) (fun _ _ _ h => h) (Or.inl ⟨by rfl, ?_⟩) (by assumption) ?_
                rotate_left
                · (intro w' hSw; (try dsimp only at hSw); go_simp; try (with_reducible rfl))
                change wpAnyH _ _ _ _ _ _ _ (Act.put _ (some 41) _) _
                try simp only [Act.put, List.setIfInBounds_toArray, List.set_cons_zero, List.set_cons_succ]
                refine wpAnyH_take (i := 8) (v := ?_) rfl (by kernel_rfl) (by kernel_rfl) (by kernel_rfl) (fun _ _ _ h => h) (Or.inl ⟨by rfl, ?_⟩) (by assumption) ?_
                rotate_left
                · (intro w' hSw; (try dsimp only at hSw); go_simp; try (with_reducible rfl))
                change wpAnyH _ _ _ _ _ _ _ (Act.put _ (some 42) _) _
                try simp only [Act.put, List.setIfInBounds_toArray, List.set_cons_zero, List.set_cons_succ]
                refine wpAnyH_ready (rs := [9]) (by kernel_rfl) (by simp) ?_
                refine AllReadyH.cons (i := 9) rfl (fun K hK => ?_) AllReadyH.nil
                simp only [List.getElem_toArray, List.getElem_cons_succ, List.getElem_cons_zero]
                rw [if_pos (by rfl)]
                go_simp
                refine hK.out _ _ ?_ (fun hHeld => ?_)
                · first | trivial | ((try dsimp only); trivial)
                clear hK K
                try simp only [Act.put, List.setIfInBounds_toArray, List.set_cons_zero, List.set_cons_succ]
                refine wpAnyH_done (by kernel_rfl) ?_ _
                obtain ⟨W9, hW9⟩ : ∃ z, (w_8.setCell ⟨w.heap.size + 1, 0, none⟩ (.slice ua8 (arrPut x (numB (i + 100 : Int)) val0).keys.length uc8)).setCell ⟨w.heap.size + 1, 1, none⟩ (.slice va8 (arrPut x (numB (i + 100 : Int)) val0).vals.length vc8) = z := ⟨_, rfl⟩
                rw [hW9] at HN
                try rw [hW9]
                clear hW9
                have hpl := put_len x (numB (i + 100 : Int)) val0
                obtain ⟨x9, hx9⟩ : ∃ z, arrPut x (numB (i + 100 : Int)) val0 = z := ⟨_, rfl⟩
                rw [hx9] at HN hpl
                clear hx9
                go_wp2
                go_roundw
                case rel => exact ⟨i + 1, k_9, x9, _, _, by first | go_num | (congr 1; omega), by omega, by omega, by omega, by omega, HN.out⟩
                case measure => simp [intOf]; omega
              refine AllReadyH.cons (i := 3) rfl (fun K hK => ?_) ?_
              · simp only [List.getElem_toArray, List.getElem_cons_succ, List.getElem_cons_zero]
                rw [if_pos (by rfl)]
                go_simp
                (go_at_call 55; refine (specNumText (i + 100 : Int) _ (by omega)).mono ?_; rintro e w_3 ⟨rfl, hb_3⟩; go_wp2_with fail)
                have hA_3 := HA9.out.drew.later hb_3
                have hNS := numB_size (n := (i + 100 : Int)) (by omega)
                obtain ⟨⟨a0_3, a1_3, ay0_3, ay1_3, al_3⟩, ⟨b0_3, b1_3, by0_3, by1_3, bl_3⟩⟩ := hA_3.cells
                refine hK.out _ _ ?_ (fun hHeld => ?_)
                · first | trivial | ((try dsimp only); trivial)
                clear hK K
                try simp only [Act.put, List.setIfInBounds_toArray, List.set_cons_zero, List.set_cons_succ]
                refine wpAnyH_ready (rs := [0]) (by kernel_rfl) (by simp) ?_
                refine AllReadyH.cons (i := 0) rfl (fun K hK => ?_) AllReadyH.nil
                simp only [List.getElem_toArray, List.getElem_cons_succ, List.getElem_cons_zero]
                rw [if_pos (by rfl)]
                go_simp
                refine hK.out _ _ ?_ (fun hHeld => ?_)
                · first | trivial | ((try dsimp only); trivial)
                clear hK K
                try simp only [Act.put, List.setIfInBounds_toArray, List.set_cons_zero, List.set_cons_succ]
                refine wpAnyH_ready (rs := [5]) (by kernel_rfl) (by simp) ?_
                refine AllReadyH.cons (i := 5) rfl (fun K hK => ?_) AllReadyH.nil
                simp only [List.getElem_toArray, List.getElem_cons_succ, List.getElem_cons_zero]
                rw [if_pos (by rfl)]
                go_simp
                (go_at_call 9; refine (specPutO (cs := #[u, v]) (x := x) (y := val0) (numB (i + 100 : Int)) _ (by exact hA_3.old) (by exact rd_val0) (by omega) (hid (by omega))).mono ?_; rintro e w_8 ⟨cs_8, rfl, hr_8, ⟨u8, v8, rfl, ho1, ho2, ho3⟩, hb_8⟩; obtain ⟨ua8, uc8, rfl⟩ := own_sl ho1; obtain ⟨va8, vc8, rfl⟩ := own_sl ho2; go_wp2_with fail)
                have hA_8 := hA_3.later hb_8
                have HN := hid (hA_3.put hb_8 ⟨_, _, rfl, ho1, ho2, ho3⟩ (put_all HOK.out (by omega) vS0))
                obtain ⟨⟨a0_8, a1_8, ay0_8, ay1_8, al_8⟩, ⟨b0_8, b1_8, by0_8, by1_8, bl_8⟩⟩ := hA_8.cells
                refine hK.out _ _ ?_ (fun hHeld => ?_)
                · first | trivial | ((try dsimp only); trivial)
                clear hK K
                try simp only [Act.put, List.setIfInBounds_toArray, List.set_cons_zero, List.set_cons_succ]
                refine wpAnyH_take (i := 6) (v := ?_) rfl (by kernel_rfl) (by kernel_rfl) (by kernel_rfl) (fun _ _ _ h => h) (Or.inl ⟨by rfl, ?_⟩) (by assumption) ?_
                rotate_left
                · (intro w' hSw; (try dsimp only at hSw); go_simp; try (with_reducible rfl))
                change wpAnyH _ _ _ _ _ _ _ (Act.put _ (some 34) _) _
                try simp only [Act.put, List.setIfInBounds_toArray, List.set_cons_zero, List.set_cons_succ]
                refine wpAnyH_take (i := 7) (v := ?_) rfl (by kernel_rfl) (by kernel_rfl) (by kernel_rfl) (fun _ _ _ h => h) (Or.inl ⟨by rfl, ?_⟩) (by assumption) ?_
                rotate_left
                · (intro w' hSw; (try dsimp only at hSw); go_simp; try (with_reducible rfl))
                change wpAnyH _ _ _ _ _ _ _ (Act.put _ (some 41) _) _
                try simp only [Act.put, List.setIfInBounds_toArray, List.set_cons_zero, List.set_cons_succ]
                refine wpAnyH_take (i := 8) (v := ?_) rfl (by kernel_rfl) (by kernel_rfl) (by kernel_rfl) (fun _ _ _ h => h) (Or.inl ⟨by rfl, ?_⟩) (by assumption) ?_
                rotate_left
                · (intro w' hSw; (try dsimp only at hSw); go_simp; try (with_reducible rfl))
                change wpAnyH _ _ _ _ _ _ _ (Act.put _ (some 42) _) _
                try simp only [Act.put, List.setIfInBounds_toArray, List.set_cons_zero, List.set_cons_succ]
                refine wpAnyH_ready (rs := [9]) (by kernel_rfl) (by simp) ?_
                refine AllReadyH.cons (i := 9) rfl (fun K hK => ?_) AllReadyH.nil
                simp only [List.getElem_toArray, List.getElem_cons_succ, List.getElem_cons_zero]
                rw [if_pos (by rfl)]
                go_simp
                refine hK.out _ _ ?_ (fun hHeld => ?_)
                · first | trivial | ((try dsimp only); trivial)
                clear hK K
                try simp only [Act.put, List.setIfInBounds_toArray, List.set_cons_zero, List.set_cons_succ]
                refine wpAnyH_done (by kernel_rfl) ?_ _
                obtain ⟨W9, hW9⟩ : ∃ z, (w_8.setCell ⟨w.heap.size + 1, 0, none⟩ (.slice ua8 (arrPut x (numB (i + 100 : Int)) val0).keys.length uc8)).setCell ⟨w.heap.size + 1, 1, none⟩ (.slice va8 (arrPut x (numB (i + 100 : Int)) val0).vals.length vc8) = z := ⟨_, rfl⟩
                rw [hW9] at HN
                try rw [hW9]
                clear hW9
                have hpl := put_len x (numB (i + 100 : Int)) val0
                obtain ⟨x9, hx9⟩ : ∃ z, arrPut x (numB (i + 100 : Int)) val0 = z := ⟨_, rfl⟩
                rw [hx9] at HN hpl
                clear hx9
                go_wp2
                go_roundw
                case rel => exact ⟨i + 1, k_9, x9, _, _, by first | go_num | (congr 1; omega), by omega, by omega, by omega, by omega, HN.out⟩
                case measure => simp [intOf]; omega
              exact AllReadyH.nil
            · have hlti : ¬ (i : Int) < ((200 - z : Nat) : Int) := by omega
              go_wp2
              go_meet
              case rel => exact ⟨k_9, x, u, v, by omega, by omega, by omega, HA9.out⟩
      case rest =>
      clear HA HA3 HOK hkx hkk hvl hk3
      obtain ⟨k4, x, u, v, hkl, hvl, hk4, hA4⟩ := hcut
      obtain ⟨ua, uc, rfl⟩ := own_sl hA4.hu
      obtain ⟨va, vc, rfl⟩ := own_sl hA4.hv
      have HA4 := hid hA4
      clear hA4
      go_wp2_with fail
      refine (curOnce 14 _ HA4.out.cur (by omega) (by omega) (by omega)).mono ?_
      rintro e w5 ⟨b, rfl, k5, hk5, hc5, hg5⟩
      have HA5 := hid (HA4.out.call hg5 hc5)
      clear hc5 hg5 HA4
      cases b with
      | false =>
        obtain ⟨⟨a0, a1, ay0, ay1, al⟩, ⟨b0, b1, by0, by1, bl⟩⟩ := HA5.out.cells
        have hl9 : (x : Arr).keys.length ≤ 300 ∧ (x : Arr).vals.length ≤ 300 := by exact ⟨by omega, by omega⟩
        go_wp2
        refine bodyPost_ret (v := .agg #[(.slice ua x.keys.length uc), (.slice va x.vals.length vc)]) (by simp [results, Tryd.results26, go_sem, a0, a1, ay0, ay1, al, b0, b1, by0, by1, bl]) rfl ⟨(.slice ua x.keys.length uc), (.slice va x.vals.length vc), x, rfl, ?_, HA5.out.ok, hl9.1, hl9.2, k5, by omega, ?_, ?_⟩
        · exact Rd.mono (fun b hb => ⟨by have := hb.1; omega, hb.2⟩) (rdArr_own (A := w.heap.size + 1) (e1 := 9) (e2 := 31) (ownsRow_setCell_below (ownsRow_setCell_below HA5.out.hu (Nat.lt_succ_self w.heap.size) _) (Nat.lt_succ_self w.heap.size) _) (ownsRow_setCell_below (ownsRow_setCell_below HA5.out.hv (Nat.lt_succ_self w.heap.size) _) (Nat.lt_succ_self w.heap.size) _) (Nat.le_refl _) (Nat.le_refl _) HA5.out.ok.strs HA5.out.ok.vals)
        · repeat' (first | (with_reducible exact HA5.out.cur) | (with_reducible refine Cur.far ?_ ?_ _) | omega)
        · repeat' (first | (with_reducible exact HA5.out.gr) | (with_reducible refine grown_new ?_ ?_ _) | omega)
      | true =>
      go_wp2_with fail
      refine (curPick 4 _ HA5.out.cur (by omega) (by omega)).mono ?_
      rintro e wq ⟨q, rfl, hq4, kq, hkq, hcq, hgq⟩
      have HAq := hid (HA5.out.call hgq hcq)
      have hq3 : q = 0 ∨ q = 1 ∨ q = 2 ∨ q = 3 := by omega
      clear hq4 hcq hgq HA5
      rcases hq3 with hm | hm | hm | hm
      · have f0q : ((q : Int) == 0) = true := by simp [hm]
        have f1q : ((q : Int) == 1) = false := by simp [hm]
        have f2q : ((q : Int) == 2) = false := by simp [hm]
        clear hm
        obtain ⟨⟨a0, a1, ay0, ay1, al⟩, ⟨b0, b1, by0, by1, bl⟩⟩ := HAq.out.drew.cells
        have hpw := HAq.out.hp
        go_upto_region 16 with fail
        refine wp_region_held_drew (S := fun w' => True) (by kernel_rfl) ?_ (fun hHeld => ?_)
        · trivial
        refine wpAnyH_take (i := 0) (v := ?_) rfl (by kernel_rfl) (by kernel_rfl) (by kernel_rfl) (fun _ _ _ h => h) (Or.inl ⟨by rfl, ?_⟩) (by assumption) ?_
        rotate_left
        · (intro w' hSw; (try dsimp only at hSw); go_simp; try (with_reducible rfl))
        change wpAnyH _ _ _ _ _ _ _ (Act.put _ (some 60) _) _
        try simp only [Act.put, List.setIfInBounds_toArray, List.set_cons_zero, List.set_cons_succ]
        refine wpAnyH_take (i := 2) (v := ?_) rfl (by kernel_rfl) (by kernel_rfl) (by kernel_rfl) (fun _ _ _ h => h) (Or.inl ⟨by rfl, ?_⟩) (by assumption) ?_
        rotate_left
        · (intro w' hSw; (try dsimp only at hSw); go_simp; try (with_reducible rfl))
        change wpAnyH _ _ _ _ _ _ _ (Act.put _ (some 62) _) _
        try simp only [Act.put, List.setIfInBounds_toArray, List.set_cons_zero, List.set_cons_succ]
        refine wpAnyH_ready (rs := [1, 3]) (by kernel_rfl) (by simp) ?_
        refine AllReadyH.cons (i := 1) rfl (fun K hK => ?_) ?_
        · simp only [List.getElem_toArray, List.getElem_cons_succ, List.getElem_cons_zero]
          rw [if_pos (by rfl)]
          go_simp
          refine hK.out _ _ ?_ (fun hHeld => ?_)
          · first | trivial | ((try dsimp only); trivial)
          clear hK K
          try simp only [Act.put, List.setIfInBounds_toArray, List.set_cons_zero, List.set_cons_succ]
          refine wpAnyH_ready (rs := [3]) (by kernel_rfl) (by simp) ?_
          refine AllReadyH.cons (i := 3) rfl (fun K hK => ?_) AllReadyH.nil
          simp only [List.getElem_toArray, List.getElem_cons_succ, List.getElem_cons_zero]
          rw [if_pos (by rfl)]
          go_simp
          (go_at_call 56; refine (curWord 2 _ HAq.out.drew.cur (by omega) (by omega)).mono ?_; rintro e w_3 ⟨s_3, rfl, hs_3, k_3, hk_3, hc_3, hg_3⟩; go_wp2_with fail)
          have hA_3 := HAq.out.drew.call hg_3 hc_3
          obtain ⟨⟨a0_3, a1_3, ay0_3, ay1_3, al_3⟩, ⟨b0_3, b1_3, by0_3, by1_3, bl_3⟩⟩ := hA_3.cells
          refine hK.out _ _ ?_ (fun hHeld => ?_)
          · first | trivial | ((try dsimp only); trivial)
          clear hK K
          try simp only [Act.put, List.setIfInBounds_toArray, List.set_cons_zero, List.set_cons_succ]
          refine wpAnyH_ready (rs := [4]) (by kernel_rfl) (by simp) ?_
          refine AllReadyH.cons (i := 4) rfl (fun K hK => ?_) AllReadyH.nil
          simp only [List.getElem_toArray, List.getElem_cons_succ, List.getElem_cons_zero]
          rw [if_pos (by rfl)]
          go_simp
          have ST0 := hA_3.pst
          have ST1 := ST0.alloc (.cells #[.string s_3] 9)
          have BA := ST0.blk #[.string s_3] 9
          refine hK.out _ _ ?_ (fun hHeld => ?_)
          · first | trivial | ((try dsimp only); trivial)
          clear hK K
          try simp only [Act.put, List.setIfInBounds_toArray, List.set_cons_zero, List.set_cons_succ]
          refine wpAnyH_ready (rs := [5]) (by kernel_rfl) (by simp) ?_
          refine AllReadyH.cons (i := 5) rfl (fun K hK => ?_) AllReadyH.nil
          simp only [List.getElem_toArray, List.getElem_cons_succ, List.getElem_cons_zero]
          rw [if_pos (by rfl)]
          refine wp_append_lies _ (.tmp 61) (.tmp 64) 24 rfl (w.heap.size + 1) 9 iS (.string ⟨#[]⟩) 1 16 Tryd.underlying24 hiS hs0 hs1 hs2 rfl (by decide) (.slice ua x.keys.length uc) x.keys.length (strCellsL x.keys) (by first | rfl | simp [Act.eval, Act.put]) ST1.hu ⟨w_3.heap.size, 0, none⟩ 1 1 [.string s_3] (by first | rfl | simp [Act.eval, Act.put]) rfl (World.news_of_block (cs := #[.string s_3]) (t := 9) (fr := (0, 0)) BA.hp) (by intro u hu; simp at hu; subst hu; rfl) (by decide) (by unfold maxLen; omega) (by omega) ST1.hB _ rfl ?_
          intro g cap w6 how hgw haw hlw
          have ST2 := ST1.apU (by first | rfl | simp) how hgw haw
          have ha6 := (ST1.box_u hgw).trans (((ext_alloc w_3 (.cells #[.string s_3] 9)).block _ hA_3.lt).trans hA_3.a)
          have f0 := cell_of_row _ _ 0 _ _ _ ha6
          have f1 := cell_of_row _ _ 1 _ _ _ ha6
          have fy0 := frozen_of_row _ _ 0 _ _ ha6
          have fy1 := frozen_of_row _ _ 1 _ _ ha6
          have fl := ST2.h9
          refine hK.out _ _ ?_ (fun hHeld => ?_)
          · first | trivial | ((try dsimp only); trivial)
          clear hK K
          try simp only [Act.put, List.setIfInBounds_toArray, List.set_cons_zero, List.set_cons_succ]
          refine wpAnyH_take (i := 6) (v := ?_) rfl (by kernel_rfl) (by kernel_rfl) (by kernel_rfl) (fun _ _ _ h => h) (Or.inl ⟨by rfl, ?_⟩) (by assumption) ?_
          rotate_left
          · (intro w' hSw; (try dsimp only at hSw); go_simp; try (with_reducible rfl))
          change wpAnyH _ _ _ _ _ _ _ (Act.put _ (some 66) _) _
          try simp only [Act.put, List.setIfInBounds_toArray, List.set_cons_zero, List.set_cons_succ]
          refine wpAnyH_ready (rs := [7]) (by kernel_rfl) (by simp) ?_
          refine AllReadyH.cons (i := 7) rfl (fun K hK => ?_) AllReadyH.nil
          simp only [List.getElem_toArray, List.getElem_cons_succ, List.getElem_cons_zero]
          rw [if_pos (by rfl)]
          go_simp
          refine hK.out _ _ ?_ (fun hHeld => ?_)
          · first | trivial | ((try dsimp only); trivial)
          clear hK K
          try simp only [Act.put, List.setIfInBounds_toArray, List.set_cons_zero, List.set_cons_succ]
          refine wpAnyH_done (by kernel_rfl) ?_ _
          obtain ⟨W7, hW7⟩ : ∃ z, w6.setCell ⟨w.heap.size + 1, 0, none⟩ (.slice (some ⟨g, 0, none⟩) (x.keys.length + 1) cap) = z := ⟨_, rfl⟩
          have HA7 := hid (show AS w W7 B p k_3 ⟨x.keys ++ [s_3], x.vals⟩ (.slice (some ⟨g, 0, none⟩) (x.keys.length + 1) cap) (.slice va x.vals.length vc) from hA_3.of_pst (by rw [← hW7, List.length_append, strCells_append]; exact ST2.set9 (o := 0) _) (by rw [← hW7]; exact set_of ha6 rfl) ⟨fun t ht => by rcases List.mem_append.1 ht with h | h; exact hA_3.ok.1 t h; (rw [List.mem_singleton.1 h]; omega), hA_3.ok.2⟩)
          go_upto_region 22 with fail
          try rw [hW7]
          clear hW7 f0 f1 fy0 fy1 fl ST0 ST1 ST2 BA ha6 how hgw haw hlw hA_3
          obtain ⟨⟨a0, a1, ay0, ay1, al⟩, ⟨b0, b1, by0, by1, bl⟩⟩ := HA7.out.cells
          have hl9 : (⟨x.keys ++ [s_3], x.vals⟩ : Arr).keys.length ≤ 300 ∧ (⟨x.keys ++ [s_3], x.vals⟩ : Arr).vals.length ≤ 300 := by simp; omega
          go_wp2
          refine bodyPost_ret (v := .agg #[(.slice (some ⟨g, 0, none⟩) (x.keys.length + 1) cap), (.slice va x.vals.length vc)]) (by simp [results, Tryd.results26, go_sem, a0, a1, ay0, ay1, al, b0, b1, by0, by1, bl]) rfl ⟨(.slice (some ⟨g, 0, none⟩) (x.keys.length + 1) cap), (.slice va x.vals.length vc), ⟨x.keys ++ [s_3], x.vals⟩, rfl, ?_, HA7.out.ok, hl9.1, hl9.2, k_3, by omega, ?_, ?_⟩
          · exact Rd.mono (fun b hb => ⟨by have := hb.1; omega, hb.2⟩) (rdArr_own (A := w.heap.size + 1) (e1 := 9) (e2 := 31) (ownsRow_setCell_below (ownsRow_setCell_below HA7.out.hu (Nat.lt_succ_self w.heap.size) _) (Nat.lt_succ_self w.heap.size) _) (ownsRow_setCell_below (ownsRow_setCell_below HA7.out.hv (Nat.lt_succ_self w.heap.size) _) (Nat.lt_succ_self w.heap.size) _) (Nat.le_refl _) (Nat.le_refl _) HA7.out.ok.strs HA7.out.ok.vals)
          · repeat' (first | (with_reducible exact HA7.out.cur) | (with_reducible refine Cur.far ?_ ?_ _) | omega)
          · repeat' (first | (with_reducible exact HA7.out.gr) | (with_reducible refine grown_new ?_ ?_ _) | omega)
        refine AllReadyH.cons (i := 3) rfl (fun K hK => ?_) ?_
        · simp only [List.getElem_toArray, List.getElem_cons_succ, List.getElem_cons_zero]
          rw [if_pos (by rfl)]
          go_simp
          (go_at_call 56; refine (curWord 2 _ HAq.out.drew.cur (by omega) (by omega)).mono ?_; rintro e w_3 ⟨s_3, rfl, hs_3, k_3, hk_3, hc_3, hg_3⟩; go_wp2_with fail)
          have hA_3 := HAq.out.drew.call hg_3 hc_3
          obtain ⟨⟨a0_3, a1_3, ay0_3, ay1_3, al_3⟩, ⟨b0_3, b1_3, by0_3, by1_3, bl_3⟩⟩ := hA_3.cells
          refine hK.out _ _ ?_ (fun hHeld => ?_)
          · first | trivial | ((try dsimp only); trivial)
          clear hK K
          try simp only [Act.put, List.setIfInBounds_toArray, List.set_cons_zero, List.set_cons_succ]
          refine wpAnyH_ready (rs := [1, 4]) (by kernel_rfl) (by simp) ?_
          refine AllReadyH.cons (i := 1) rfl (fun K hK => ?_) ?_
          · simp only [List.getElem_toArray, List.getElem_cons_succ, List.getElem_cons_zero]
            rw [if_pos (by rfl)]
            go_simp
            refine hK.out _ _ ?_ (fun hHeld => ?_)
            · first | trivial | ((try dsimp only); trivial)
            clear hK K
            try simp only [Act.put, List.setIfInBounds_toArray, List.set_cons_zero, List.set_cons_succ]
            refine wpAnyH_ready (rs := [4]) (by kernel_rfl) (by simp) ?_
            refine AllReadyH.cons (i := 4) rfl (fun K hK => ?_) AllReadyH.nil
            simp only [List.getElem_toArray, List.getElem_cons_succ, List.getElem_cons_zero]
            rw [if_pos (by rfl)]
            go_simp
            have ST0 := hA_3.pst
            have ST1 := ST0.alloc (.cells #[.string s_3] 9)
            have BA := ST0.blk #[.string s_3] 9
            refine hK.out _ _ ?_ (fun hHeld => ?_)
            · first | trivial | ((try dsimp only); trivial)
            clear hK K
            try simp only [Act.put, List.setIfInBounds_toArray, List.set_cons_zero, List.set_cons_succ]
            refine wpAnyH_ready (rs := [5]) (by kernel_rfl) (by simp) ?_
            refine AllReadyH.cons (i := 5) rfl (fun K hK => ?_) AllReadyH.nil
            simp only [List.getElem_toArray, List.getElem_cons_succ, List.getElem_cons_zero]
            rw [if_pos (by rfl)]
            refine wp_append_lies _ (.tmp 61) (.tmp 64) 24 rfl (w.heap.size + 1) 9 iS (.string ⟨#[]⟩) 1 16 Tryd.underlying24 hiS hs0 hs1 hs2 rfl (by decide) (.slice ua x.keys.length uc) x.keys.length (strCellsL x.keys) (by first | rfl | simp [Act.eval, Act.put]) ST1.hu ⟨w_3.heap.size, 0, none⟩ 1 1 [.string s_3] (by first | rfl | simp [Act.eval, Act.put]) rfl (World.news_of_block (cs := #[.string s_3]) (t := 9) (fr := (0, 0)) BA.hp) (by intro u hu; simp at hu; subst hu; rfl) (by decide) (by unfold maxLen; omega) (by omega) ST1.hB _ rfl ?_
            intro g cap w6 how hgw haw hlw
            have ST2 := ST1.apU (by first | rfl | simp) how hgw haw
            have ha6 := (ST1.box_u hgw).trans (((ext_alloc w_3 (.cells #[.string s_3] 9)).block _ hA_3.lt).trans hA_3.a)
            have f0 := cell_of_row _ _ 0 _ _ _ ha6
            have f1 := cell_of_row _ _ 1 _ _ _ ha6
            have fy0 := frozen_of_row _ _ 0 _ _ ha6
            have fy1 := frozen_of_row _ _ 1 _ _ ha6
            have fl := ST2.h9
            refine hK.out _ _ ?_ (fun hHeld => ?_)
            · first | trivial | ((try dsimp only); trivial)
            clear hK K
            try simp only [Act.put, List.setIfInBounds_toArray, List.set_cons_zero, List.set_cons_succ]
            refine wpAnyH_take (i := 6) (v := ?_) rfl (by kernel_rfl) (by kernel_rfl) (by kernel_rfl) (fun _ _ _ h => h) (Or.inl ⟨by rfl, ?_⟩) (by assumption) ?_
            rotate_left
            · (intro w' hSw; (try dsimp only at hSw); go_simp; try (with_reducible rfl))
            change wpAnyH _ _ _ _ _ _ _ (Act.put _ (some 66) _) _
            try simp only [Act.put, List.setIfInBounds_toArray, List.set_cons_zero, List.set_cons_succ]
            refine wpAnyH_ready (rs := [7]) (by kernel_rfl) (by simp) ?_
            refine AllReadyH.cons (i := 7) rfl (fun K hK => ?_) AllReadyH.nil
            simp only [List.getElem_toArray, List.getElem_cons_succ, List.getElem_cons_zero]
            rw [if_pos (by rfl)]
            go_simp
            refine hK.out _ _ ?_ (fun hHeld => ?_)
            · first | trivial | ((try dsimp only); trivial)
            clear hK K
            try simp only [Act.put, List.setIfInBounds_toArray, List.set_cons_zero, List.set_cons_succ]
            refine wpAnyH_done (by kernel_rfl) ?_ _
            obtain ⟨W7, hW7⟩ : ∃ z, w6.setCell ⟨w.heap.size + 1, 0, none⟩ (.slice (some ⟨g, 0, none⟩) (x.keys.length + 1) cap) = z := ⟨_, rfl⟩
            have HA7 := hid (show AS w W7 B p k_3 ⟨x.keys ++ [s_3], x.vals⟩ (.slice (some ⟨g, 0, none⟩) (x.keys.length + 1) cap) (.slice va x.vals.length vc) from hA_3.of_pst (by rw [← hW7, List.length_append, strCells_append]; exact ST2.set9 (o := 0) _) (by rw [← hW7]; exact set_of ha6 rfl) ⟨fun t ht => by rcases List.mem_append.1 ht with h | h; exact hA_3.ok.1 t h; (rw [List.mem_singleton.1 h]; omega), hA_3.ok.2⟩)
            go_upto_region 22 with fail
            try rw [hW7]
            clear hW7 f0 f1 fy0 fy1 fl ST0 ST1 ST2 BA ha6 how hgw haw hlw hA_3
            obtain ⟨⟨a0, a1, ay0, ay1, al⟩, ⟨b0, b1, by0, by1, bl⟩⟩ := HA7.out.cells
            have hl9 : (⟨x.keys ++ [s_3], x.vals⟩ : Arr).keys.length ≤ 300 ∧ (⟨x.keys ++ [s_3], x.vals⟩ : Arr).vals.length ≤ 300 := by simp; omega
            go_wp2
            refine bodyPost_ret (v := .agg #[(.slice (some ⟨g, 0, none⟩) (x.keys.length + 1) cap), (.slice va x.vals.length vc)]) (by simp [results, Tryd.results26, go_sem, a0, a1, ay0, ay1, al, b0, b1, by0, by1, bl]) rfl ⟨(.slice (some ⟨g, 0, none⟩) (x.keys.length + 1) cap), (.slice va x.vals.length vc), ⟨x.keys ++ [s_3], x.vals⟩, rfl, ?_, HA7.out.ok, hl9.1, hl9.2, k_3, by omega, ?_, ?_⟩
            · exact Rd.mono (fun b hb => ⟨by have := hb.1; omega, hb.2⟩) (rdArr_own (A := w.heap.size + 1) (e1 := 9) (e2 := 31) (ownsRow_setCell_below (ownsRow_setCell_below HA7.out.hu (Nat.lt_succ_self w.heap.size) _) (Nat.lt_succ_self w.heap.size) _) (ownsRow_setCell_below (ownsRow_setCell_below HA7.out.hv (Nat.lt_succ_self w.heap.size) _) (Nat.lt_succ_self w.heap.size) _) (Nat.le_refl _) (Nat.le_refl _) HA7.out.ok.strs HA7.out.ok.vals)
            · repeat' (first | (with_reducible exact HA7.out.cur) | (with_reducible refine Cur.far ?_ ?_ _) | omega)
            · repeat' (first | (with_reducible exact HA7.out.gr) | (with_reducible refine grown_new ?_ ?_ _) | omega)
          refine AllReadyH.cons (i := 4) rfl (fun K hK => ?_) ?_
          · simp only [List.getElem_toArray, List.getElem_cons_succ, List.getElem_cons_zero]
            rw [if_pos (by rfl)]
            go_simp
            have ST0 := hA_3.pst
            have ST1 := ST0.alloc (.cells #[.string s_3] 9)
            have BA := ST0.blk #[.string s_3] 9
            refine hK.out _ _ ?_ (fun hHeld => ?_)
            · first | trivial | ((try dsimp only); trivial)
            clear hK K
            try simp only [Act.put, List.setIfInBounds_toArray, List.set_cons_zero, List.set_cons_succ]
            refine wpAnyH_ready (rs := [1]) (by kernel_rfl) (by simp) ?_
            refine AllReadyH.cons (i := 1) rfl (fun K hK => ?_) AllReadyH.nil
            simp only [List.getElem_toArray, List.getElem_cons_succ, List.getElem_cons_zero]
            rw [if_pos (by rfl)]
            go_simp
            refine hK.out _ _ ?_ (fun hHeld => ?_)
            · first | trivial | ((try dsimp only); trivial)
            clear hK K
            try simp only [Act.put, List.setIfInBounds_toArray, List.set_cons_zero, List.set_cons_succ]
            refine wpAnyH_ready (rs := [5]) (by kernel_rfl) (by simp) ?_
            refine AllReadyH.cons (i := 5) rfl (fun K hK => ?_) AllReadyH.nil
            simp only [List.getElem_toArray, List.getElem_cons_succ, List.getElem_cons_zero]
            rw [if_pos (by rfl)]
            refine wp_append_lies _ (.tmp 61) (.tmp 64) 24 rfl (w.heap.size + 1) 9 iS (.string ⟨#[]⟩) 1 16 Tryd.underlying24 hiS hs0 hs1 hs2 rfl (by decide) (.slice ua x.keys.length uc) x.keys.length (strCellsL x.keys) (by first | rfl | simp [Act.eval, Act.put]) ST1.hu ⟨w_3.heap.size, 0, none⟩ 1 1 [.string s_3] (by first | rfl | simp [Act.eval, Act.put]) rfl (World.news_of_block (cs := #[.string s_3]) (t := 9) (fr := (0, 0)) BA.hp) (by intro u hu; simp at hu; subst hu; rfl) (by decide) (by unfold maxLen; omega) (by omega) ST1.hB _ rfl ?_
            intro g cap w6 how hgw haw hlw
            have ST2 := ST1.apU (by first | rfl | simp) how hgw haw
            have ha6 := (ST1.box_u hgw).trans (((ext_alloc w_3 (.cells #[.string s_3] 9)).block _ hA_3.lt).trans hA_3.a)
            have f0 := cell_of_row _ _ 0 _ _ _ ha6
            have f1 := cell_of_row _ _ 1 _ _ _ ha6
            have fy0 := frozen_of_row _ _ 0 _ _ ha6
            have fy1 := frozen_of_row _ _ 1 _ _ ha6
            have fl := ST2.h9
            refine hK.out _ _ ?_ (fun hHeld => ?_)
            · first | trivial | ((try dsimp only); trivial)
            clear hK K
            try simp only [Act.put, List.setIfInBounds_toArray, List.set_cons_zero, List.set_cons_succ]
            refine wpAnyH_take (i := 6) (v := ?_) rfl (by kernel_rfl) (by kernel_rfl) (by kernel_rfl) (fun _ _ _ h => h) (Or.inl ⟨by rfl, ?_⟩) (by assumption) ?_
            rotate_left
            · (intro w' hSw; (try dsimp only at hSw); go_simp; try (with_reducible rfl))
            change wpAnyH _ _ _ _ _ _ _ (Act.put _ (some 66) _) _
            try simp only [Act.put, List.setIfInBounds_toArray, List.set_cons_zero, List.set_cons_succ]
            refine wpAnyH_ready (rs := [7]) (by kernel_rfl) (by simp) ?_
            refine AllReadyH.cons (i := 7) rfl (fun K hK => ?_) AllReadyH.nil
            simp only [List.getElem_toArray, List.getElem_cons_succ, List.getElem_cons_zero]
            rw [if_pos (by rfl)]
            go_simp
            refine hK.out _ _ ?_ (fun hHeld => ?_)
            · first | trivial | ((try dsimp only); trivial)
            clear hK K
            try simp only [Act.put, List.setIfInBounds_toArray, List.set_cons_zero, List.set_cons_succ]
            refine wpAnyH_done (by kernel_rfl) ?_ _
            obtain ⟨W7, hW7⟩ : ∃ z, w6.setCell ⟨w.heap.size + 1, 0, none⟩ (.slice (some ⟨g, 0, none⟩) (x.keys.length + 1) cap) = z := ⟨_, rfl⟩
            have HA7 := hid (show AS w W7 B p k_3 ⟨x.keys ++ [s_3], x.vals⟩ (.slice (some ⟨g, 0, none⟩) (x.keys.length + 1) cap) (.slice va x.vals.length vc) from hA_3.of_pst (by rw [← hW7, List.length_append, strCells_append]; exact ST2.set9 (o := 0) _) (by rw [← hW7]; exact set_of ha6 rfl) ⟨fun t ht => by rcases List.mem_append.1 ht with h | h; exact hA_3.ok.1 t h; (rw [List.mem_singleton.1 h]; omega), hA_3.ok.2⟩)
            go_upto_region 22 with fail
            try rw [hW7]
            clear hW7 f0 f1 fy0 fy1 fl ST0 ST1 ST2 BA ha6 how hgw haw hlw hA_3
            obtain ⟨⟨a0, a1, ay0, ay1, al⟩, ⟨b0, b1, by0, by1, bl⟩⟩ := HA7.out.cells
            have hl9 : (⟨x.keys ++ [s_3], x.vals⟩ : Arr).keys.length ≤ 300 ∧ (⟨x.keys ++ [s_3], x.vals⟩ : Arr).vals.length ≤ 300 := by simp; omega
            go_wp2
            refine bodyPost_ret (v := .agg #[(.slice (some ⟨g, 0, none⟩) (x.keys.length + 1) cap), (.slice va x.vals.length vc)]) (by simp [results, Tryd.results26, go_sem, a0, a1, ay0, ay1, al, b0, b1, by0, by1, bl]) rfl ⟨(.slice (some ⟨g, 0, none⟩) (x.keys.length + 1) cap), (.slice va x.vals.length vc), ⟨x.keys ++ [s_3], x.vals⟩, rfl, ?_, HA7.out.ok, hl9.1, hl9.2, k_3, by omega, ?_, ?_⟩
            · exact Rd.mono (fun b hb => ⟨by have := hb.1; omega, hb.2⟩) (rdArr_own (A := w.heap.size + 1) (e1 := 9) (e2 := 31) (ownsRow_setCell_below (ownsRow_setCell_below HA7.out.hu (Nat.lt_succ_self w.heap.size) _) (Nat.lt_succ_self w.heap.size) _) (ownsRow_setCell_below (ownsRow_setCell_below HA7.out.hv (Nat.lt_succ_self w.heap.size) _) (Nat.lt_succ_self w.heap.size) _) (Nat.le_refl _) (Nat.le_refl _) HA7.out.ok.strs HA7.out.ok.vals)
            · repeat' (first | (with_reducible exact HA7.out.cur) | (with_reducible refine Cur.far ?_ ?_ _) | omega)
            · repeat' (first | (with_reducible exact HA7.out.gr) | (with_reducible refine grown_new ?_ ?_ _) | omega)
          exact AllReadyH.nil
        exact AllReadyH.nil
      · have f0q : ((q : Int) == 0) = false := by simp [hm]
        have f1q : ((q : Int) == 1) = true := by simp [hm]
        have f2q : ((q : Int) == 2) = false := by simp [hm]
        clear hm
        obtain ⟨⟨a0, a1, ay0, ay1, al⟩, ⟨b0, b1, by0, by1, bl⟩⟩ := HAq.out.cells
        have ST0 := HAq.out.pst
        have ST1 := ST0.alloc (.cells #[.int .i64 0, .bool false, .string ⟨#[]⟩, .int .i64 0, .string ⟨#[]⟩] 31)
        have BA := ST0.blk #[.int .i64 0, .bool false, .string ⟨#[]⟩, .int .i64 0, .string ⟨#[]⟩] 31
        go_wp2_with ((at_builtin; refine wpList_append_lies _ rfl (.tmp 70) (.tmp 72) 25 rfl (w.heap.size + 1) 31 iV (.agg #[.int .i64 0, .bool false, .string ⟨#[]⟩, .int .i64 0, .string ⟨#[]⟩]) 5 56 Tryd.underlying25 hiV hv0 hv1 hv2 rfl (by decide) (.slice va x.vals.length vc) x.vals.length (valsCells x.vals) rfl ST1.hv ⟨wq.heap.size, 0, none⟩ 1 1 [.int .i64 0, .bool false, .string ⟨#[]⟩, .int .i64 0, .string ⟨#[]⟩] rfl rfl (World.news_of_block (cs := #[.int .i64 0, .bool false, .string ⟨#[]⟩, .int .i64 0, .string ⟨#[]⟩]) (t := 31) (fr := (0, 0)) BA.hp) (by intro u hu; simp at hu; rcases hu with rfl | rfl | rfl | rfl | rfl <;> rfl) (by decide) (by unfold maxLen; omega) (by omega) ST1.hB _ rfl ?_))
        intro g cap w6 how hgw haw hlw
        have ST2 := ST1.apV (by first | rfl | simp) how hgw haw
        have ha6 := (ST1.box_v hgw).trans (((ext_alloc wq (.cells #[.int .i64 0, .bool false, .string ⟨#[]⟩, .int .i64 0, .string ⟨#[]⟩] 31)).block _ HAq.out.lt).trans HAq.out.a)
        have f0 := cell_of_row _ _ 0 _ _ _ ha6
        have f1 := cell_of_row _ _ 1 _ _ _ ha6
        have fy0 := frozen_of_row _ _ 0 _ _ ha6
        have fy1 := frozen_of_row _ _ 1 _ _ ha6
        have fl := ST2.h9
        obtain ⟨W7, hW7⟩ : ∃ z, w6.setCell ⟨w.heap.size + 1, 1, none⟩ (.slice (some ⟨g, 0, none⟩) (x.vals.length + 1) cap) = z := ⟨_, rfl⟩
        have HA7 := hid (show AS w W7 B p kq ⟨x.keys, x.vals ++ [val0]⟩ (.slice ua x.keys.length uc) (.slice (some ⟨g, 0, none⟩) (x.vals.length + 1) cap) from HAq.out.of_pst (by rw [← hW7, List.length_append, valsCells_append]; exact ST2.set9 (o := 1) _) (by rw [← hW7]; exact set_of ha6 rfl) ⟨HAq.out.ok.1, fun t ht => by rcases List.mem_append.1 ht with h | h; exact HAq.out.ok.2 t h; (simp only [List.mem_cons, List.mem_singleton, List.not_mem_nil, or_false, or_self] at h; subst h; exact vS0)⟩)
        clear ST0 ST1 ST2 BA ha6 how hgw haw hlw a0 a1 ay0 ay1 al b0 b1 by0 by1 bl
        go_upto_region 22 with fail
        try rw [hW7]
        clear hW7 f0 f1 fy0 fy1 fl
        obtain ⟨⟨a0, a1, ay0, ay1, al⟩, ⟨b0, b1, by0, by1, bl⟩⟩ := HA7.out.cells
        have hl9 : (⟨x.keys, x.vals ++ [val0]⟩ : Arr).keys.length ≤ 300 ∧ (⟨x.keys, x.vals ++ [val0]⟩ : Arr).vals.length ≤ 300 := by simp; omega
        go_wp2
        refine bodyPost_ret (v := .agg #[(.slice ua x.keys.length uc), (.slice (some ⟨g, 0, none⟩) (x.vals.length + 1) cap)]) (by simp [results, Tryd.results26, go_sem, a0, a1, ay0, ay1, al, b0, b1, by0, by1, bl]) rfl ⟨(.slice ua x.keys.length uc), (.slice (some ⟨g, 0, none⟩) (x.vals.length + 1) cap), ⟨x.keys, x.vals ++ [val0]⟩, rfl, ?_, HA7.out.ok, hl9.1, hl9.2, kq, by omega, ?_, ?_⟩
        · exact Rd.mono (fun b hb => ⟨by have := hb.1; omega, hb.2⟩) (rdArr_own (A := w.heap.size + 1) (e1 := 9) (e2 := 31) (ownsRow_setCell_below (ownsRow_setCell_below HA7.out.hu (Nat.lt_succ_self w.heap.size) _) (Nat.lt_succ_self w.heap.size) _) (ownsRow_setCell_below (ownsRow_setCell_below HA7.out.hv (Nat.lt_succ_self w.heap.size) _) (Nat.lt_succ_self w.heap.size) _) (Nat.le_refl _) (Nat.le_refl _) HA7.out.ok.strs HA7.out.ok.vals)
        · repeat' (first | (with_reducible exact HA7.out.cur) | (with_reducible refine Cur.far ?_ ?_ _) | omega)
        · repeat' (first | (with_reducible exact HA7.out.gr) | (with_reducible refine grown_new ?_ ?_ _) | omega)
      · have f0q : ((q : Int) == 0) = false := by simp [hm]
        have f1q : ((q : Int) == 1) = false := by simp [hm]
        have f2q : ((q : Int) == 2) = true := by simp [hm]
        clear hm
        obtain ⟨⟨a0, a1, ay0, ay1, al⟩, ⟨b0, b1, by0, by1, bl⟩⟩ := HAq.out.cells
        have ST0 := HAq.out.pst
        have ST1 := ST0.alloc (.cells #[.string ⟨#[97]⟩, .string ⟨#[97]⟩] 9)
        have BA := ST0.blk #[.string ⟨#[97]⟩, .string ⟨#[97]⟩] 9
        go_wp2_with ((at_builtin; refine wpList_append_lies _ rfl (.tmp 78) (.tmp 79) 24 rfl (w.heap.size + 1) 9 iS (.string ⟨#[]⟩) 1 16 Tryd.underlying24 hiS hs0 hs1 hs2 rfl (by decide) (.slice ua x.keys.length uc) x.keys.length (strCellsL x.keys) rfl ST1.hu ⟨wq.heap.size, 0, none⟩ 2 2 [.string ⟨#[97]⟩, .string ⟨#[97]⟩] rfl rfl (World.news_of_block (cs := #[.string ⟨#[97]⟩, .string ⟨#[97]⟩]) (t := 9) (fr := (0, 0)) BA.hp) (by intro u hu; simp at hu; first | (subst hu; rfl) | (rcases hu with rfl | rfl <;> rfl)) (by decide) (by unfold maxLen; omega) (by omega) ST1.hB _ rfl ?_))
        intro g cap w6 how hgw haw hlw
        have ST2 := ST1.apU (by first | rfl | simp) how hgw haw
        have ha6 := (ST1.box_u hgw).trans (((ext_alloc wq (.cells #[.string ⟨#[97]⟩, .string ⟨#[97]⟩] 9)).block _ HAq.out.lt).trans HAq.out.a)
        have f0 := cell_of_row _ _ 0 _ _ _ ha6
        have f1 := cell_of_row _ _ 1 _ _ _ ha6
        have fy0 := frozen_of_row _ _ 0 _ _ ha6
        have fy1 := frozen_of_row _ _ 1 _ _ ha6
        have fl := ST2.h9
        obtain ⟨W7, hW7⟩ : ∃ z, w6.setCell ⟨w.heap.size + 1, 0, none⟩ (.slice (some ⟨g, 0, none⟩) (x.keys.length + 2) cap) = z := ⟨_, rfl⟩
        have HA7 := hid (show AS w W7 B p kq ⟨x.keys ++ [⟨#[97]⟩, ⟨#[97]⟩], x.vals⟩ (.slice (some ⟨g, 0, none⟩) (x.keys.length + 2) cap) (.slice va x.vals.length vc) from HAq.out.of_pst (by rw [← hW7, List.length_append, strCells_append]; exact ST2.set9 (o := 0) _) (by rw [← hW7]; exact set_of ha6 rfl) ⟨fun t ht => by rcases List.mem_append.1 ht with h | h; exact HAq.out.ok.1 t h; (simp only [List.mem_cons, List.mem_singleton, List.not_mem_nil, or_false] at h; first | (subst h; first | decide | omega) | (rcases h with rfl | rfl <;> decide)), HAq.out.ok.2⟩)
        clear ST0 ST1 ST2 BA ha6 how hgw haw hlw a0 a1 ay0 ay1 al b0 b1 by0 by1 bl
        go_upto_region 21 with fail
        try rw [hW7]
        clear hW7 f0 f1 fy0 fy1 fl
        obtain ⟨x2, hx2⟩ : ∃ z, (⟨x.keys ++ [⟨#[97]⟩, ⟨#[97]⟩], x.vals⟩ : Arr) = z := ⟨_, rfl⟩
        have hxl : x2.keys.length ≤ 250 ∧ x2.vals.length ≤ 240 := by rw [← hx2]; simp; omega
        have hxv : x.vals.length = x2.vals.length := by rw [← hx2]
        rw [hx2] at HA7
        clear hx2
        try rw [hxv] at HA7
        try rw [hxv]
        clear hxv
        obtain ⟨⟨a0, a1, ay0, ay1, al⟩, ⟨b0, b1, by0, by1, bl⟩⟩ := HA7.out.cells
        have ST0 := HA7.out.pst
        have ST1 := ST0.alloc (.cells #[.int .i64 0, .bool false, .string ⟨#[]⟩, .int .i64 0, .string ⟨#[]⟩, .int .i64 0, .bool false, .string ⟨#[]⟩, .int .i64 0, .string ⟨#[]⟩] 31)
        have BA := ST0.blk #[.int .i64 0, .bool false, .string ⟨#[]⟩, .int .i64 0, .string ⟨#[]⟩, .int .i64 0, .bool false, .string ⟨#[]⟩, .int .i64 0, .string ⟨#[]⟩] 31
        go_wp2_with ((at_builtin; refine wpList_append_lies _ rfl (.tmp 83) (.tmp 86) 25 rfl (w.heap.size + 1) 31 iV (.agg #[.int .i64 0, .bool false, .string ⟨#[]⟩, .int .i64 0, .string ⟨#[]⟩]) 5 56 Tryd.underlying25 hiV hv0 hv1 hv2 rfl (by decide) (.slice va x2.vals.length vc) x2.vals.length (valsCells x2.vals) rfl ST1.hv ⟨W7.heap.size, 0, none⟩ 2 2 [.int .i64 0, .bool false, .string ⟨#[]⟩, .int .i64 0, .string ⟨#[]⟩, .int .i64 0, .bool false, .string ⟨#[]⟩, .int .i64 0, .string ⟨#[]⟩] rfl rfl (World.news_of_block (cs := #[.int .i64 0, .bool false, .string ⟨#[]⟩, .int .i64 0, .string ⟨#[]⟩, .int .i64 0, .bool false, .string ⟨#[]⟩, .int .i64 0, .string ⟨#[]⟩]) (t := 31) (fr := (0, 0)) BA.hp) (by intro u hu; simp at hu; rcases hu with rfl | rfl | rfl | rfl | rfl | rfl | rfl | rfl | rfl | rfl <;> rfl) (by decide) (by unfold maxLen; omega) (by omega) ST1.hB _ rfl ?_))
        intro g8 cap8 w6 how hgw haw hlw
        have ST2 := ST1.apV (by first | rfl | simp) how hgw haw
        have ha6 := (ST1.box_v hgw).trans (((ext_alloc W7 (.cells #[.int .i64 0, .bool false, .string ⟨#[]⟩, .int .i64 0, .string ⟨#[]⟩, .int .i64 0, .bool false, .string ⟨#[]⟩, .int .i64 0, .string ⟨#[]⟩] 31)).block _ HA7.out.lt).trans HA7.out.a)
        have f0 := cell_of_row _ _ 0 _ _ _ ha6
        have f1 := cell_of_row _ _ 1 _ _ _ ha6
        have fy0 := frozen_of_row _ _ 0 _ _ ha6
        have fy1 := frozen_of_row _ _ 1 _ _ ha6
        have fl := ST2.h9
        obtain ⟨W8, hW7⟩ : ∃ z, w6.setCell ⟨w.heap.size + 1, 1, none⟩ (.slice (some ⟨g8, 0, none⟩) (x2.vals.length + 2) cap8) = z := ⟨_, rfl⟩
        have HA8 := hid (show AS w W8 B p kq ⟨x2.keys, x2.vals ++ [val0, val0]⟩ (.slice (some ⟨g, 0, none⟩) (x.keys.length + 2) cap) (.slice (some ⟨g8, 0, none⟩) (x2.vals.length + 2) cap8) from HA7.out.of_pst (by rw [← hW7, List.length_append, valsCells_append]; exact ST2.set9 (o := 1) _) (by rw [← hW7]; exact set_of ha6 rfl) ⟨HA7.out.ok.1, fun t ht => by rcases List.mem_append.1 ht with h | h; exact HA7.out.ok.2 t h; (simp only [List.mem_cons, List.mem_singleton, List.not_mem_nil, or_false, or_self] at h; subst h; exact vS0)⟩)
        clear ST0 ST1 ST2 BA ha6 how hgw haw hlw a0 a1 ay0 ay1 al b0 b1 by0 by1 bl
        go_upto_region 22 with fail
        try rw [hW7]
        clear hW7 f0 f1 fy0 fy1 fl
        obtain ⟨⟨a0, a1, ay0, ay1, al⟩, ⟨b0, b1, by0, by1, bl⟩⟩ := HA8.out.cells
        have hl9 : (⟨x2.keys, x2.vals ++ [val0, val0]⟩ : Arr).keys.length ≤ 300 ∧ (⟨x2.keys, x2.vals ++ [val0, val0]⟩ : Arr).vals.length ≤ 300 := by simp; omega
        go_wp2
        refine bodyPost_ret (v := .agg #[(.slice (some ⟨g, 0, none⟩) (x.keys.length + 2) cap), (.slice (some ⟨g8, 0, none⟩) (x2.vals.length + 2) cap8)]) (by simp [results, Tryd.results26, go_sem, a0, a1, ay0, ay1, al, b0, b1, by0, by1, bl]) rfl ⟨(.slice (some ⟨g, 0, none⟩) (x.keys.length + 2) cap), (.slice (some ⟨g8, 0, none⟩) (x2.vals.length + 2) cap8), ⟨x2.keys, x2.vals ++ [val0, val0]⟩, rfl, ?_, HA8.out.ok, hl9.1, hl9.2, kq, by omega, ?_, ?_⟩
        · exact Rd.mono (fun b hb => ⟨by have := hb.1; omega, hb.2⟩) (rdArr_own (A := w.heap.size + 1) (e1 := 9) (e2 := 31) (ownsRow_setCell_below (ownsRow_setCell_below HA8.out.hu (Nat.lt_succ_self w.heap.size) _) (Nat.lt_succ_self w.heap.size) _) (ownsRow_setCell_below (ownsRow_setCell_below HA8.out.hv (Nat.lt_succ_self w.heap.size) _) (Nat.lt_succ_self w.heap.size) _) (Nat.le_refl _) (Nat.le_refl _) HA8.out.ok.strs HA8.out.ok.vals)
        · repeat' (first | (with_reducible exact HA8.out.cur) | (with_reducible refine Cur.far ?_ ?_ _) | omega)
        · repeat' (first | (with_reducible exact HA8.out.gr) | (with_reducible refine grown_new ?_ ?_ _) | omega)
      · have f0q : ((q : Int) == 0) = false := by simp [hm]
        have f1q : ((q : Int) == 1) = false := by simp [hm]
        have f2q : ((q : Int) == 2) = false := by simp [hm]
        clear hm
        obtain ⟨⟨a0, a1, ay0, ay1, al⟩, ⟨b0, b1, by0, by1, bl⟩⟩ := HAq.out.cells
        have ST0 := HAq.out.pst
        have ST1 := ST0.alloc (.cells #[.string ⟨#[255]⟩] 9)
        have BA := ST0.blk #[.string ⟨#[255]⟩] 9
        go_wp2_with ((at_builtin; refine wpList_append_lies _ rfl (.tmp 48) (.tmp 49) 24 rfl (w.heap.size + 1) 9 iS (.string ⟨#[]⟩) 1 16 Tryd.underlying24 hiS hs0 hs1 hs2 rfl (by decide) (.slice ua x.keys.length uc) x.keys.length (strCellsL x.keys) rfl ST1.hu ⟨wq.heap.size, 0, none⟩ 1 1 [.string ⟨#[255]⟩] rfl rfl (World.news_of_block (cs := #[.string ⟨#[255]⟩]) (t := 9) (fr := (0, 0)) BA.hp) (by intro u hu; simp at hu; first | (subst hu; rfl) | (rcases hu with rfl | rfl <;> rfl)) (by decide) (by unfold maxLen; omega) (by omega) ST1.hB _ rfl ?_))
        intro g cap w6 how hgw haw hlw
        have ST2 := ST1.apU (by first | rfl | simp) how hgw haw
        have ha6 := (ST1.box_u hgw).trans (((ext_alloc wq (.cells #[.string ⟨#[255]⟩] 9)).block _ HAq.out.lt).trans HAq.out.a)
        have f0 := cell_of_row _ _ 0 _ _ _ ha6
        have f1 := cell_of_row _ _ 1 _ _ _ ha6
        have fy0 := frozen_of_row _ _ 0 _ _ ha6
        have fy1 := frozen_of_row _ _ 1 _ _ ha6
        have fl := ST2.h9
        obtain ⟨W7, hW7⟩ : ∃ z, w6.setCell ⟨w.heap.size + 1, 0, none⟩ (.slice (some ⟨g, 0, none⟩) (x.keys.length + 1) cap) = z := ⟨_, rfl⟩
        have HA7 := hid (show AS w W7 B p kq ⟨x.keys ++ [⟨#[255]⟩], x.vals⟩ (.slice (some ⟨g, 0, none⟩) (x.keys.length + 1) cap) (.slice va x.vals.length vc) from HAq.out.of_pst (by rw [← hW7, List.length_append, strCells_append]; exact ST2.set9 (o := 0) _) (by rw [← hW7]; exact set_of ha6 rfl) ⟨fun t ht => by rcases List.mem_append.1 ht with h | h; exact HAq.out.ok.1 t h; (simp only [List.mem_cons, List.mem_singleton, List.not_mem_nil, or_false] at h; first | (subst h; first | decide | omega) | (rcases h with rfl | rfl <;> decide)), HAq.out.ok.2⟩)
        clear ST0 ST1 ST2 BA ha6 how hgw haw hlw a0 a1 ay0 ay1 al b0 b1 by0 by1 bl
        go_upto_region 14 with fail
        try rw [hW7]
        clear hW7 f0 f1 fy0 fy1 fl
        obtain ⟨x2, hx2⟩ : ∃ z, (⟨x.keys ++ [⟨#[255]⟩], x.vals⟩ : Arr) = z := ⟨_, rfl⟩
        have hxl : x2.keys.length ≤ 250 ∧ x2.vals.length ≤ 240 := by rw [← hx2]; simp; omega
        have hxv : x.vals.length = x2.vals.length := by rw [← hx2]
        rw [hx2] at HA7
        clear hx2
        try rw [hxv] at HA7
        try rw [hxv]
        clear hxv
        obtain ⟨⟨a0, a1, ay0, ay1, al⟩, ⟨b0, b1, by0, by1, bl⟩⟩ := HA7.out.cells
        have ST0 := HA7.out.pst
        have ST1 := ST0.alloc (.cells #[.int .i64 0, .bool false, .string ⟨#[]⟩, .int .i64 0, .string ⟨#[]⟩] 31)
        have BA := ST0.blk #[.int .i64 0, .bool false, .string ⟨#[]⟩, .int .i64 0, .string ⟨#[]⟩] 31
        go_wp2_with ((at_builtin; refine wpList_append_lies _ rfl (.tmp 53) (.tmp 55) 25 rfl (w.heap.size + 1) 31 iV (.agg #[.int .i64 0, .bool false, .string ⟨#[]⟩, .int .i64 0, .string ⟨#[]⟩]) 5 56 Tryd.underlying25 hiV hv0 hv1 hv2 rfl (by decide) (.slice va x2.vals.length vc) x2.vals.length (valsCells x2.vals) rfl ST1.hv ⟨W7.heap.size, 0, none⟩ 1 1 [.int .i64 0, .bool false, .string ⟨#[]⟩, .int .i64 0, .string ⟨#[]⟩] rfl rfl (World.news_of_block (cs := #[.int .i64 0, .bool false, .string ⟨#[]⟩, .int .i64 0, .string ⟨#[]⟩]) (t := 31) (fr := (0, 0)) BA.hp) (by intro u hu; simp at hu; rcases hu with rfl | rfl | rfl | rfl | rfl <;> rfl) (by decide) (by unfold maxLen; omega) (by omega) ST1.hB _ rfl ?_))
        intro g8 cap8 w6 how hgw haw hlw
        have ST2 := ST1.apV (by first | rfl | simp) how hgw haw
        have ha6 := (ST1.box_v hgw).trans (((ext_alloc W7 (.cells #[.int .i64 0, .bool false, .string ⟨#[]⟩, .int .i64 0, .string ⟨#[]⟩] 31)).block _ HA7.out.lt).trans HA7.out.a)
        have f0 := cell_of_row _ _ 0 _ _ _ ha6
        have f1 := cell_of_row _ _ 1 _ _ _ ha6
        have fy0 := frozen_of_row _ _ 0 _ _ ha6
        have fy1 := frozen_of_row _ _ 1 _ _ ha6
        have fl := ST2.h9
        obtain ⟨W8, hW7⟩ : ∃ z, w6.setCell ⟨w.heap.size + 1, 1, none⟩ (.slice (some ⟨g8, 0, none⟩) (x2.vals.length + 1) cap8) = z := ⟨_, rfl⟩
        have HA8 := hid (show AS w W8 B p kq ⟨x2.keys, x2.vals ++ [val0]⟩ (.slice (some ⟨g, 0, none⟩) (x.keys.length + 1) cap) (.slice (some ⟨g8, 0, none⟩) (x2.vals.length + 1) cap8) from HA7.out.of_pst (by rw [← hW7, List.length_append, valsCells_append]; exact ST2.set9 (o := 1) _) (by rw [← hW7]; exact set_of ha6 rfl) ⟨HA7.out.ok.1, fun t ht => by rcases List.mem_append.1 ht with h | h; exact HA7.out.ok.2 t h; (simp only [List.mem_cons, List.mem_singleton, List.not_mem_nil, or_false, or_self] at h; subst h; exact vS0)⟩)
        clear ST0 ST1 ST2 BA ha6 how hgw haw hlw a0 a1 ay0 ay1 al b0 b1 by0 by1 bl
        go_upto_region 22 with fail
        try rw [hW7]
        clear hW7 f0 f1 fy0 fy1 fl
        obtain ⟨⟨a0, a1, ay0, ay1, al⟩, ⟨b0, b1, by0, by1, bl⟩⟩ := HA8.out.cells
        have hl9 : (⟨x2.keys, x2.vals ++ [val0]⟩ : Arr).keys.length ≤ 300 ∧ (⟨x2.keys, x2.vals ++ [val0]⟩ : Arr).vals.length ≤ 300 := by simp; omega
        go_wp2
        refine bodyPost_ret (v := .agg #[(.slice (some ⟨g, 0, none⟩) (x.keys.length + 1) cap), (.slice (some ⟨g8, 0, none⟩) (x2.vals.length + 1) cap8)]) (by simp [results, Tryd.results26, go_sem, a0, a1, ay0, ay1, al, b0, b1, by0, by1, bl]) rfl ⟨(.slice (some ⟨g, 0, none⟩) (x.keys.length + 1) cap), (.slice (some ⟨g8, 0, none⟩) (x2.vals.length + 1) cap8), ⟨x2.keys, x2.vals ++ [val0]⟩, rfl, ?_, HA8.out.ok, hl9.1, hl9.2, kq, by omega, ?_, ?_⟩
        · exact Rd.mono (fun b hb => ⟨by have := hb.1; omega, hb.2⟩) (rdArr_own (A := w.heap.size + 1) (e1 := 9) (e2 := 31) (ownsRow_setCell_below (ownsRow_setCell_below HA8.out.hu (Nat.lt_succ_self w.heap.size) _) (Nat.lt_succ_self w.heap.size) _) (ownsRow_setCell_below (ownsRow_setCell_below HA8.out.hv (Nat.lt_succ_self w.heap.size) _) (Nat.lt_succ_self w.heap.size) _) (Nat.le_refl _) (Nat.le_refl _) HA8.out.ok.strs HA8.out.ok.vals)
        · repeat' (first | (with_reducible exact HA8.out.cur) | (with_reducible refine Cur.far ?_ ?_ _) | omega)
        · repeat' (first | (with_reducible exact HA8.out.gr) | (with_reducible refine grown_new ?_ ?_ _) | omega)
end Go.Proofs.YtommldonooicjaaDoor
