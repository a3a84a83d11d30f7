/-
  What is proved here: the draw of a text that is nearly a number. No condition but that the cursor lies in memory.
-/
import Derived.Test.YtommldonooicjaaDoorDrawNum
namespace Go.Proofs.YtommldonooicjaaDoor
open Go.RowKit
set_option linter.unusedVariables false
set_option linter.unusedSimpArgs false

theorem lit_pure {cs : Array Value} {r m : Nat} (ha : cs.toList.all (strUpTo m) = true) (hr : r < cs.size) : ∃ t : ByteArray, t.size ≤ m ∧ cs[r]? = some (.string t) := by
  have h2 : cs[r]? = some cs[r] := Array.getElem?_eq_getElem hr
  have h3 := List.all_eq_true.1 ha cs[r] (by simp)
  cases hv : cs[r] with
  | string s =>
    rw [hv] at h2 h3
    exact ⟨s, of_decide_eq_true h3, h2⟩
  | _ => rw [hv] at h3; cases h3
theorem wpAnyH_row {P : Program} {ops : Array Oper} {Q : Exit → Act → World → Prop} {md : Region.Mode} {S : World → Prop} {fuel : Nat} {listed : Array Bool} {a : Act} {w : World} {b : Nat} {o : Obj} (hc : w.heap[b]? = some o) (hS : S w)
    (h : (S w ∧ w.heap[b]? = some o) → wpAnyH P md ops Q (fun w' => S w' ∧ w'.heap[b]? = some o) fuel listed a w) : wpAnyH P md ops Q S fuel listed a w :=
  wpAnyH_weaken (fun _ h => h.1) (h ⟨hS, hc⟩)
set_option maxHeartbeats 32000000 in
set_option maxRecDepth 100000 in
theorem curAlmost {B p k : Nat} (w : World) (hc : Cur B w p k) (hk : k ≤ 600000000000) :
    Calls Tryd.prog 62 #[.pointer (some ⟨p, 0, none⟩)] w fun e w' => ∃ s : ByteArray, e = .returned (.string s) ∧ s.size ≤ 10000 ∧ ∃ k', k' ≤ k + 1000 ∧ Cur B w' p k' ∧ w.grownBy w' (some p) := by
  go_enter Tryd.func62, Tryd.ntmps62
  go_upto_region 1 with fail
  go_cut [3] from 4 (fun v3 wx => ∃ (s : ByteArray) (k' : Nat), v3 = .string s ∧ s.size ≤ 104 ∧ k' ≤ k + 60 ∧ Cur B wx p k' ∧ w.grownBy wx (some p))
  case first =>
    refine wp_region_held_drew (S := fun w' => True) (by kernel_rfl) ?_ (fun hHeld => ?_)
    · trivial
    refine wpAnyH_take (i := 1) (v := ?_) rfl (by kernel_rfl) (by kernel_rfl) (by kernel_rfl) (fun _ _ _ h => h) (Or.inl ⟨by rfl, ?_⟩) (by assumption) ?_
    rotate_left
    · (intro w' hSw; (try dsimp only at hSw); go_simp; try (with_reducible rfl))
    change wpAnyH _ _ _ _ _ _ _ (Act.put _ (some 5) _) _
    try simp only [Act.put, List.setIfInBounds_toArray, List.set_cons_zero, List.set_cons_succ]
    refine wpAnyH_take (i := 5) (v := ?_) rfl (by kernel_rfl) (by kernel_rfl) (by kernel_rfl) (fun _ _ _ h => h) (Or.inl ⟨by rfl, ?_⟩) (by assumption) ?_
    rotate_left
    · (intro w' hSw; (try dsimp only at hSw); go_simp; try (with_reducible rfl))
    change wpAnyH _ _ _ _ _ _ _ (Act.put _ (some 9) _) _
    try simp only [Act.put, List.setIfInBounds_toArray, List.set_cons_zero, List.set_cons_succ]
    refine wpAnyH_take (i := 9) (v := ?_) rfl (by kernel_rfl) (by kernel_rfl) (by kernel_rfl) (fun _ _ _ h => h) (Or.inl ⟨by rfl, ?_⟩) (by assumption) ?_
    rotate_left
    · (intro w' hSw; (try dsimp only at hSw); go_simp; try (with_reducible rfl))
    change wpAnyH _ _ _ _ _ _ _ (Act.put _ (some 13) _) _
    try simp only [Act.put, List.setIfInBounds_toArray, List.set_cons_zero, List.set_cons_succ]
    refine wpAnyH_ready (rs := [0, 2, 8]) (by kernel_rfl) (by simp) ?_
    refine AllReadyH.cons (i := 0) rfl (fun K hK => ?_) ?_
    · simp only [List.getElem_toArray, List.getElem_cons_succ, List.getElem_cons_zero]
      rw [if_pos (by rfl)]
      go_simp
      have hb_0 := (Cur.drew hc).lt.2
      refine hK.out _ _ ?_ (fun hHeld => ?_)
      · first | trivial | ((try dsimp only); exact trivial)
      clear hK K
      try simp only [Act.put, List.setIfInBounds_toArray, List.set_cons_zero, List.set_cons_succ]
      refine wpAnyH_row (heap_alloc_new _ _) hHeld ?_
      intro hHeld
      refine wpAnyH_ready (rs := [2, 8]) (by kernel_rfl) (by simp) ?_
      refine AllReadyH.cons (i := 2) rfl (fun K hK => ?_) ?_
      · simp only [List.getElem_toArray, List.getElem_cons_succ, List.getElem_cons_zero]
        rw [if_pos (by rfl)]
        go_simp
        (go_at_call 53; refine (curPick 5 _ (Cur.alloc (Cur.drew hc) (.cells (#[.string ⟨#[]⟩, .string ⟨#[]⟩, .string ⟨#[32]⟩, .string ⟨#[9, 10]⟩, .string ⟨#[13, 32]⟩] : Array Value) 9)) (by omega) (by omega)).mono ?_; rintro e w_2 ⟨r_2, rfl, hr_2, k_2, hk_2, hc_2, hg_2⟩; go_wp2_with fail)
        have hq_2 : (r_2 : Int) < 5 := by omega
        have hz_2 : (0 : Int) ≤ (r_2 : Int) := by omega
        obtain ⟨t_2, ht_2, hT_2⟩ := lit_pure (m := 2) (r := r_2) (cs := (#[.string ⟨#[]⟩, .string ⟨#[]⟩, .string ⟨#[32]⟩, .string ⟨#[9, 10]⟩, .string ⟨#[13, 32]⟩] : Array Value)) (by decide) (by show r_2 < 5; omega)
        refine hK.out _ _ ?_ (fun hHeld => ?_)
        · first | trivial | ((try dsimp only); exact ⟨trivial, (hg_2.block _ (Array.getElem?_eq_some_iff.1 hHeld.2).1 (fun e => absurd (Option.some.inj e) (Nat.ne_of_gt hb_0))).trans hHeld.2⟩)
        clear hK K
        try simp only [Act.put, List.setIfInBounds_toArray, List.set_cons_zero, List.set_cons_succ]
        refine wpAnyH_take (i := 3) (v := ?_) rfl (by kernel_rfl) (by kernel_rfl) (by kernel_rfl) (fun _ _ _ h => h) (Or.inl ⟨by rfl, ?_⟩) (by assumption) ?_
        rotate_left
        · (intro w' hSw; (try dsimp only at hSw); go_simp; try (with_reducible rfl))
        change wpAnyH _ _ _ _ _ _ _ (Act.put _ (some 7) _) _
        try simp only [Act.put, List.setIfInBounds_toArray, List.set_cons_zero, List.set_cons_succ]
        refine wpAnyH_take (i := 4) (v := ?_) rfl (by kernel_rfl) (by kernel_rfl) (by kernel_rfl) (fun _ _ _ h => h) (Or.inl ⟨by rfl, ?_⟩) (by assumption) ?_
        rotate_left
        · (intro w' hSw; (try dsimp only at hSw); have hcx := (cell_of_row _ _ r_2 _ _ _ (hSw.2)).trans hT_2; (try simp only [World.size_alloc] at hcx); go_simp; try (with_reducible rfl))
        change wpAnyH _ _ _ _ _ _ _ (Act.put _ (some 8) _) _
        try simp only [Act.put, List.setIfInBounds_toArray, List.set_cons_zero, List.set_cons_succ]
        refine wpAnyH_ready (rs := [6, 8]) (by kernel_rfl) (by simp) ?_
        refine AllReadyH.cons (i := 6) rfl (fun K hK => ?_) ?_
        · simp only [List.getElem_toArray, List.getElem_cons_succ, List.getElem_cons_zero]
          rw [if_pos (by rfl)]
          go_simp
          (go_at_call 84; refine (curNumText _ (hc_2) (by omega)).mono ?_; rintro e w_6 ⟨s_6, rfl, hs_6, k_6, hk_6, hc_6, hg_6⟩; go_wp2_with fail)
          have hsum1 : ¬ 9223372036854775807 < t_2.size + s_6.size := by omega
          refine hK.out _ _ ?_ (fun hHeld => ?_)
          · first | trivial | ((try dsimp only); exact ⟨trivial, (hg_6.block _ (Array.getElem?_eq_some_iff.1 hHeld.2).1 (fun e => absurd (Option.some.inj e) (Nat.ne_of_gt hb_0))).trans hHeld.2⟩)
          clear hK K
          try simp only [Act.put, List.setIfInBounds_toArray, List.set_cons_zero, List.set_cons_succ]
          refine wpAnyH_take (i := 7) (v := ?_) rfl (by kernel_rfl) (by kernel_rfl) (by kernel_rfl) (fun _ _ _ h => h) (Or.inl ⟨by rfl, ?_⟩) (by assumption) ?_
          rotate_left
          · (intro w' hSw; (try dsimp only at hSw); go_simp; try (with_reducible rfl))
          change wpAnyH _ _ _ _ _ _ _ (Act.put _ (some 11) _) _
          try simp only [Act.put, List.setIfInBounds_toArray, List.set_cons_zero, List.set_cons_succ]
          refine wpAnyH_ready (rs := [8, 10]) (by kernel_rfl) (by simp) ?_
          refine AllReadyH.cons (i := 8) rfl (fun K hK => ?_) ?_
          · simp only [List.getElem_toArray, List.getElem_cons_succ, List.getElem_cons_zero]
            rw [if_pos (by rfl)]
            go_simp
            have hb_8 := (hc_6).lt.2
            refine hK.out _ _ ?_ (fun hHeld => ?_)
            · first | trivial | ((try dsimp only); exact ⟨trivial, ((ext_alloc _ _).block _ (Array.getElem?_eq_some_iff.1 hHeld.2).1).trans hHeld.2⟩)
            clear hK K
            try simp only [Act.put, List.setIfInBounds_toArray, List.set_cons_zero, List.set_cons_succ]
            refine wpAnyH_row (heap_alloc_new _ _) hHeld ?_
            intro hHeld
            refine wpAnyH_ready (rs := [10]) (by kernel_rfl) (by simp) ?_
            refine AllReadyH.cons (i := 10) rfl (fun K hK => ?_) AllReadyH.nil
            simp only [List.getElem_toArray, List.getElem_cons_succ, List.getElem_cons_zero]
            rw [if_pos (by rfl)]
            go_simp
            (go_at_call 53; refine (curPick 9 _ (Cur.alloc (hc_6) (.cells (#[.string ⟨#[]⟩, .string ⟨#[]⟩, .string ⟨#[32]⟩, .string ⟨#[120]⟩, .string ⟨#[101]⟩, .string ⟨#[32, 49]⟩, .string ⟨#[10]⟩, .string ⟨#[46]⟩, .string ⟨#[195, 169]⟩] : Array Value) 9)) (by omega) (by omega)).mono ?_; rintro e w_10 ⟨r_10, rfl, hr_10, k_10, hk_10, hc_10, hg_10⟩; go_wp2_with fail)
            have hq_10 : (r_10 : Int) < 9 := by omega
            have hz_10 : (0 : Int) ≤ (r_10 : Int) := by omega
            obtain ⟨t_10, ht_10, hT_10⟩ := lit_pure (m := 2) (r := r_10) (cs := (#[.string ⟨#[]⟩, .string ⟨#[]⟩, .string ⟨#[32]⟩, .string ⟨#[120]⟩, .string ⟨#[101]⟩, .string ⟨#[32, 49]⟩, .string ⟨#[10]⟩, .string ⟨#[46]⟩, .string ⟨#[195, 169]⟩] : Array Value)) (by decide) (by show r_10 < 9; omega)
            have hsum2 : ¬ 9223372036854775807 < t_2.size + s_6.size + t_10.size := by omega
            refine hK.out _ _ ?_ (fun hHeld => ?_)
            · first | trivial | ((try dsimp only); exact ⟨⟨trivial, (hg_10.block _ (Array.getElem?_eq_some_iff.1 hHeld.1.2).1 (fun e => absurd (Option.some.inj e) (Nat.ne_of_gt hb_0))).trans hHeld.1.2⟩, (hg_10.block _ (Array.getElem?_eq_some_iff.1 hHeld.2).1 (fun e => absurd (Option.some.inj e) (Nat.ne_of_gt hb_8))).trans hHeld.2⟩)
            clear hK K
            try simp only [Act.put, List.setIfInBounds_toArray, List.set_cons_zero, List.set_cons_succ]
            refine wpAnyH_take (i := 11) (v := ?_) rfl (by kernel_rfl) (by kernel_rfl) (by kernel_rfl) (fun _ _ _ h => h) (Or.inl ⟨by rfl, ?_⟩) (by assumption) ?_
            rotate_left
            · (intro w' hSw; (try dsimp only at hSw); go_simp; try (with_reducible rfl))
            change wpAnyH _ _ _ _ _ _ _ (Act.put _ (some 15) _) _
            try simp only [Act.put, List.setIfInBounds_toArray, List.set_cons_zero, List.set_cons_succ]
            refine wpAnyH_take (i := 12) (v := ?_) rfl (by kernel_rfl) (by kernel_rfl) (by kernel_rfl) (fun _ _ _ h => h) (Or.inl ⟨by rfl, ?_⟩) (by assumption) ?_
            rotate_left
            · (intro w' hSw; (try dsimp only at hSw); have hcx := (cell_of_row _ _ r_10 _ _ _ (hSw.2)).trans hT_10; (try simp only [World.size_alloc] at hcx); go_simp; try (with_reducible rfl))
            change wpAnyH _ _ _ _ _ _ _ (Act.put _ (some 16) _) _
            try simp only [Act.put, List.setIfInBounds_toArray, List.set_cons_zero, List.set_cons_succ]
            refine wpAnyH_take (i := 13) (v := ?_) rfl (by kernel_rfl) (by kernel_rfl) (by kernel_rfl) (fun _ _ _ h => h) (Or.inl ⟨by rfl, ?_⟩) (by assumption) ?_
            rotate_left
            · (intro w' hSw; (try dsimp only at hSw); go_simp; try (with_reducible rfl))
            change wpAnyH _ _ _ _ _ _ _ (Act.put _ (some 17) _) _
            try simp only [Act.put, List.setIfInBounds_toArray, List.set_cons_zero, List.set_cons_succ]
            refine wpAnyH_take (i := 14) (v := ?_) rfl (by kernel_rfl) (by kernel_rfl) (by kernel_rfl) (fun _ _ _ h => h) (Or.inl ⟨by rfl, ?_⟩) (by assumption) ?_
            rotate_left
            · (intro w' hSw; (try dsimp only at hSw); go_simp; try (with_reducible rfl))
            change wpAnyH _ _ _ _ _ _ _ (Act.put _ (some 3) _) _
            try simp only [Act.put, List.setIfInBounds_toArray, List.set_cons_zero, List.set_cons_succ]
            refine wpAnyH_done (by kernel_rfl) ?_ _
            go_wp2
            go_meet
            case rel => exact ⟨t_2 ++ s_6 ++ t_10, k_10, rfl, by rw [ByteArray.size_append, ByteArray.size_append]; omega, by omega, hc_10, grown_trans (grown_alloc (grown_trans (grown_trans (grown_alloc (grown_drew (grown_refl w (some p))) _) hg_2) hg_6) _) hg_10⟩
          refine AllReadyH.cons (i := 10) rfl (fun K hK => ?_) ?_
          · simp only [List.getElem_toArray, List.getElem_cons_succ, List.getElem_cons_zero]
            rw [if_pos (by rfl)]
            go_simp
            (go_at_call 53; refine (curPick 9 _ (hc_6) (by omega) (by omega)).mono ?_; rintro e w_10 ⟨r_10, rfl, hr_10, k_10, hk_10, hc_10, hg_10⟩; go_wp2_with fail)
            have hq_10 : (r_10 : Int) < 9 := by omega
            have hz_10 : (0 : Int) ≤ (r_10 : Int) := by omega
            obtain ⟨t_10, ht_10, hT_10⟩ := lit_pure (m := 2) (r := r_10) (cs := (#[.string ⟨#[]⟩, .string ⟨#[]⟩, .string ⟨#[32]⟩, .string ⟨#[120]⟩, .string ⟨#[101]⟩, .string ⟨#[32, 49]⟩, .string ⟨#[10]⟩, .string ⟨#[46]⟩, .string ⟨#[195, 169]⟩] : Array Value)) (by decide) (by show r_10 < 9; omega)
            have hsum2 : ¬ 9223372036854775807 < t_2.size + s_6.size + t_10.size := by omega
            refine hK.out _ _ ?_ (fun hHeld => ?_)
            · first | trivial | ((try dsimp only); exact ⟨trivial, (hg_10.block _ (Array.getElem?_eq_some_iff.1 hHeld.2).1 (fun e => absurd (Option.some.inj e) (Nat.ne_of_gt hb_0))).trans hHeld.2⟩)
            clear hK K
            try simp only [Act.put, List.setIfInBounds_toArray, List.set_cons_zero, List.set_cons_succ]
            refine wpAnyH_ready (rs := [8]) (by kernel_rfl) (by simp) ?_
            refine AllReadyH.cons (i := 8) rfl (fun K hK => ?_) AllReadyH.nil
            simp only [List.getElem_toArray, List.getElem_cons_succ, List.getElem_cons_zero]
            rw [if_pos (by rfl)]
            go_simp
            have hb_8 := (hc_10).lt.2
            refine hK.out _ _ ?_ (fun hHeld => ?_)
            · first | trivial | ((try dsimp only); exact ⟨trivial, ((ext_alloc _ _).block _ (Array.getElem?_eq_some_iff.1 hHeld.2).1).trans hHeld.2⟩)
            clear hK K
            try simp only [Act.put, List.setIfInBounds_toArray, List.set_cons_zero, List.set_cons_succ]
            refine wpAnyH_row (heap_alloc_new _ _) hHeld ?_
            intro hHeld
            refine wpAnyH_take (i := 11) (v := ?_) rfl (by kernel_rfl) (by kernel_rfl) (by kernel_rfl) (fun _ _ _ h => h) (Or.inl ⟨by rfl, ?_⟩) (by assumption) ?_
            rotate_left
            · (intro w' hSw; (try dsimp only at hSw); go_simp; try (with_reducible rfl))
            change wpAnyH _ _ _ _ _ _ _ (Act.put _ (some 15) _) _
            try simp only [Act.put, List.setIfInBounds_toArray, List.set_cons_zero, List.set_cons_succ]
            refine wpAnyH_take (i := 12) (v := ?_) rfl (by kernel_rfl) (by kernel_rfl) (by kernel_rfl) (fun _ _ _ h => h) (Or.inl ⟨by rfl, ?_⟩) (by assumption) ?_
            rotate_left
            · (intro w' hSw; (try dsimp only at hSw); have hcx := (cell_of_row _ _ r_10 _ _ _ (hSw.2)).trans hT_10; (try simp only [World.size_alloc] at hcx); go_simp; try (with_reducible rfl))
            change wpAnyH _ _ _ _ _ _ _ (Act.put _ (some 16) _) _
            try simp only [Act.put, List.setIfInBounds_toArray, List.set_cons_zero, List.set_cons_succ]
            refine wpAnyH_take (i := 13) (v := ?_) rfl (by kernel_rfl) (by kernel_rfl) (by kernel_rfl) (fun _ _ _ h => h) (Or.inl ⟨by rfl, ?_⟩) (by assumption) ?_
            rotate_left
            · (intro w' hSw; (try dsimp only at hSw); go_simp; try (with_reducible rfl))
            change wpAnyH _ _ _ _ _ _ _ (Act.put _ (some 17) _) _
            try simp only [Act.put, List.setIfInBounds_toArray, List.set_cons_zero, List.set_cons_succ]
            refine wpAnyH_take (i := 14) (v := ?_) rfl (by kernel_rfl) (by kernel_rfl) (by kernel_rfl) (fun _ _ _ h => h) (Or.inl ⟨by rfl, ?_⟩) (by assumption) ?_
            rotate_left
            · (intro w' hSw; (try dsimp only at hSw); go_simp; try (with_reducible rfl))
            change wpAnyH _ _ _ _ _ _ _ (Act.put _ (some 3) _) _
            try simp only [Act.put, List.setIfInBounds_toArray, List.set_cons_zero, List.set_cons_succ]
            refine wpAnyH_done (by kernel_rfl) ?_ _
            go_wp2
            go_meet
            case rel => exact ⟨t_2 ++ s_6 ++ t_10, k_10, rfl, by rw [ByteArray.size_append, ByteArray.size_append]; omega, by omega, Cur.alloc (hc_10) (.cells (#[.string ⟨#[]⟩, .string ⟨#[]⟩, .string ⟨#[32]⟩, .string ⟨#[120]⟩, .string ⟨#[101]⟩, .string ⟨#[32, 49]⟩, .string ⟨#[10]⟩, .string ⟨#[46]⟩, .string ⟨#[195, 169]⟩] : Array Value) 9), grown_alloc (grown_trans (grown_trans (grown_trans (grown_alloc (grown_drew (grown_refl w (some p))) _) hg_2) hg_6) hg_10) _⟩
          exact AllReadyH.nil
        refine AllReadyH.cons (i := 8) rfl (fun K hK => ?_) ?_
        · simp only [List.getElem_toArray, List.getElem_cons_succ, List.getElem_cons_zero]
          rw [if_pos (by rfl)]
          go_simp
          have hb_8 := (hc_2).lt.2
          refine hK.out _ _ ?_ (fun hHeld => ?_)
          · first | trivial | ((try dsimp only); exact ⟨trivial, ((ext_alloc _ _).block _ (Array.getElem?_eq_some_iff.1 hHeld.2).1).trans hHeld.2⟩)
          clear hK K
          try simp only [Act.put, List.setIfInBounds_toArray, List.set_cons_zero, List.set_cons_succ]
          refine wpAnyH_row (heap_alloc_new _ _) hHeld ?_
          intro hHeld
          refine wpAnyH_ready (rs := [6]) (by kernel_rfl) (by simp) ?_
          refine AllReadyH.cons (i := 6) rfl (fun K hK => ?_) AllReadyH.nil
          simp only [List.getElem_toArray, List.getElem_cons_succ, List.getElem_cons_zero]
          rw [if_pos (by rfl)]
          go_simp
          (go_at_call 84; refine (curNumText _ (Cur.alloc (hc_2) (.cells (#[.string ⟨#[]⟩, .string ⟨#[]⟩, .string ⟨#[32]⟩, .string ⟨#[120]⟩, .string ⟨#[101]⟩, .string ⟨#[32, 49]⟩, .string ⟨#[10]⟩, .string ⟨#[46]⟩, .string ⟨#[195, 169]⟩] : Array Value) 9)) (by omega)).mono ?_; rintro e w_6 ⟨s_6, rfl, hs_6, k_6, hk_6, hc_6, hg_6⟩; go_wp2_with fail)
          have hsum1 : ¬ 9223372036854775807 < t_2.size + s_6.size := by omega
          refine hK.out _ _ ?_ (fun hHeld => ?_)
          · first | trivial | ((try dsimp only); exact ⟨⟨trivial, (hg_6.block _ (Array.getElem?_eq_some_iff.1 hHeld.1.2).1 (fun e => absurd (Option.some.inj e) (Nat.ne_of_gt hb_0))).trans hHeld.1.2⟩, (hg_6.block _ (Array.getElem?_eq_some_iff.1 hHeld.2).1 (fun e => absurd (Option.some.inj e) (Nat.ne_of_gt hb_8))).trans hHeld.2⟩)
          clear hK K
          try simp only [Act.put, List.setIfInBounds_toArray, List.set_cons_zero, List.set_cons_succ]
          refine wpAnyH_take (i := 7) (v := ?_) rfl (by kernel_rfl) (by kernel_rfl) (by kernel_rfl) (fun _ _ _ h => h) (Or.inl ⟨by rfl, ?_⟩) (by assumption) ?_
          rotate_left
          · (intro w' hSw; (try dsimp only at hSw); go_simp; try (with_reducible rfl))
          change wpAnyH _ _ _ _ _ _ _ (Act.put _ (some 11) _) _
          try simp only [Act.put, List.setIfInBounds_toArray, List.set_cons_zero, List.set_cons_succ]
          refine wpAnyH_ready (rs := [10]) (by kernel_rfl) (by simp) ?_
          refine AllReadyH.cons (i := 10) rfl (fun K hK => ?_) AllReadyH.nil
          simp only [List.getElem_toArray, List.getElem_cons_succ, List.getElem_cons_zero]
          rw [if_pos (by rfl)]
          go_simp
          (go_at_call 53; refine (curPick 9 _ (hc_6) (by omega) (by omega)).mono ?_; rintro e w_10 ⟨r_10, rfl, hr_10, k_10, hk_10, hc_10, hg_10⟩; go_wp2_with fail)
          have hq_10 : (r_10 : Int) < 9 := by omega
          have hz_10 : (0 : Int) ≤ (r_10 : Int) := by omega
          obtain ⟨t_10, ht_10, hT_10⟩ := lit_pure (m := 2) (r := r_10) (cs := (#[.string ⟨#[]⟩, .string ⟨#[]⟩, .string ⟨#[32]⟩, .string ⟨#[120]⟩, .string ⟨#[101]⟩, .string ⟨#[32, 49]⟩, .string ⟨#[10]⟩, .string ⟨#[46]⟩, .string ⟨#[195, 169]⟩] : Array Value)) (by decide) (by show r_10 < 9; omega)
          have hsum2 : ¬ 9223372036854775807 < t_2.size + s_6.size + t_10.size := by omega
          refine hK.out _ _ ?_ (fun hHeld => ?_)
          · first | trivial | ((try dsimp only); exact ⟨⟨trivial, (hg_10.block _ (Array.getElem?_eq_some_iff.1 hHeld.1.2).1 (fun e => absurd (Option.some.inj e) (Nat.ne_of_gt hb_0))).trans hHeld.1.2⟩, (hg_10.block _ (Array.getElem?_eq_some_iff.1 hHeld.2).1 (fun e => absurd (Option.some.inj e) (Nat.ne_of_gt hb_8))).trans hHeld.2⟩)
          clear hK K
          try simp only [Act.put, List.setIfInBounds_toArray, List.set_cons_zero, List.set_cons_succ]
          refine wpAnyH_take (i := 11) (v := ?_) rfl (by kernel_rfl) (by kernel_rfl) (by kernel_rfl) (fun _ _ _ h => h) (Or.inl ⟨by rfl, ?_⟩) (by assumption) ?_
          rotate_left
          · (intro w' hSw; (try dsimp only at hSw); go_simp; try (with_reducible rfl))
          change wpAnyH _ _ _ _ _ _ _ (Act.put _ (some 15) _) _
          try simp only [Act.put, List.setIfInBounds_toArray, List.set_cons_zero, List.set_cons_succ]
          refine wpAnyH_take (i := 12) (v := ?_) rfl (by kernel_rfl) (by kernel_rfl) (by kernel_rfl) (fun _ _ _ h => h) (Or.inl ⟨by rfl, ?_⟩) (by assumption) ?_
          rotate_left
          · (intro w' hSw; (try dsimp only at hSw); have hcx := (cell_of_row _ _ r_10 _ _ _ (hSw.2)).trans hT_10; (try simp only [World.size_alloc] at hcx); go_simp; try (with_reducible rfl))
          change wpAnyH _ _ _ _ _ _ _ (Act.put _ (some 16) _) _
          try simp only [Act.put, List.setIfInBounds_toArray, List.set_cons_zero, List.set_cons_succ]
          refine wpAnyH_take (i := 13) (v := ?_) rfl (by kernel_rfl) (by kernel_rfl) (by kernel_rfl) (fun _ _ _ h => h) (Or.inl ⟨by rfl, ?_⟩) (by assumption) ?_
          rotate_left
          · (intro w' hSw; (try dsimp only at hSw); go_simp; try (with_reducible rfl))
          change wpAnyH _ _ _ _ _ _ _ (Act.put _ (some 17) _) _
          try simp only [Act.put, List.setIfInBounds_toArray, List.set_cons_zero, List.set_cons_succ]
          refine wpAnyH_take (i := 14) (v := ?_) rfl (by kernel_rfl) (by kernel_rfl) (by kernel_rfl) (fun _ _ _ h => h) (Or.inl ⟨by rfl, ?_⟩) (by assumption) ?_
          rotate_left
          · (intro w' hSw; (try dsimp only at hSw); go_simp; try (with_reducible rfl))
          change wpAnyH _ _ _ _ _ _ _ (Act.put _ (some 3) _) _
          try simp only [Act.put, List.setIfInBounds_toArray, List.set_cons_zero, List.set_cons_succ]
          refine wpAnyH_done (by kernel_rfl) ?_ _
          go_wp2
          go_meet
          case rel => exact ⟨t_2 ++ s_6 ++ t_10, k_10, rfl, by rw [ByteArray.size_append, ByteArray.size_append]; omega, by omega, hc_10, grown_trans (grown_trans (grown_alloc (grown_trans (grown_alloc (grown_drew (grown_refl w (some p))) _) hg_2) _) hg_6) hg_10⟩
        exact AllReadyH.nil
      refine AllReadyH.cons (i := 8) rfl (fun K hK => ?_) ?_
      · simp only [List.getElem_toArray, List.getElem_cons_succ, List.getElem_cons_zero]
        rw [if_pos (by rfl)]
        go_simp
        have hb_8 := (Cur.alloc (Cur.drew hc) (.cells (#[.string ⟨#[]⟩, .string ⟨#[]⟩, .string ⟨#[32]⟩, .string ⟨#[9, 10]⟩, .string ⟨#[13, 32]⟩] : Array Value) 9)).lt.2
        refine hK.out _ _ ?_ (fun hHeld => ?_)
        · first | trivial | ((try dsimp only); exact ⟨trivial, ((ext_alloc _ _).block _ (Array.getElem?_eq_some_iff.1 hHeld.2).1).trans hHeld.2⟩)
        clear hK K
        try simp only [Act.put, List.setIfInBounds_toArray, List.set_cons_zero, List.set_cons_succ]
        refine wpAnyH_row (heap_alloc_new _ _) hHeld ?_
        intro hHeld
        refine wpAnyH_ready (rs := [2]) (by kernel_rfl) (by simp) ?_
        refine AllReadyH.cons (i := 2) rfl (fun K hK => ?_) AllReadyH.nil
        simp only [List.getElem_toArray, List.getElem_cons_succ, List.getElem_cons_zero]
        rw [if_pos (by rfl)]
        go_simp
        (go_at_call 53; refine (curPick 5 _ (Cur.alloc (Cur.alloc (Cur.drew hc) (.cells (#[.string ⟨#[]⟩, .string ⟨#[]⟩, .string ⟨#[32]⟩, .string ⟨#[9, 10]⟩, .string ⟨#[13, 32]⟩] : Array Value) 9)) (.cells (#[.string ⟨#[]⟩, .string ⟨#[]⟩, .string ⟨#[32]⟩, .string ⟨#[120]⟩, .string ⟨#[101]⟩, .string ⟨#[32, 49]⟩, .string ⟨#[10]⟩, .string ⟨#[46]⟩, .string ⟨#[195, 169]⟩] : Array Value) 9)) (by omega) (by omega)).mono ?_; rintro e w_2 ⟨r_2, rfl, hr_2, k_2, hk_2, hc_2, hg_2⟩; go_wp2_with fail)
        have hq_2 : (r_2 : Int) < 5 := by omega
        have hz_2 : (0 : Int) ≤ (r_2 : Int) := by omega
        obtain ⟨t_2, ht_2, hT_2⟩ := lit_pure (m := 2) (r := r_2) (cs := (#[.string ⟨#[]⟩, .string ⟨#[]⟩, .string ⟨#[32]⟩, .string ⟨#[9, 10]⟩, .string ⟨#[13, 32]⟩] : Array Value)) (by decide) (by show r_2 < 5; omega)
        refine hK.out _ _ ?_ (fun hHeld => ?_)
        · first | trivial | ((try dsimp only); exact ⟨⟨trivial, (hg_2.block _ (Array.getElem?_eq_some_iff.1 hHeld.1.2).1 (fun e => absurd (Option.some.inj e) (Nat.ne_of_gt hb_0))).trans hHeld.1.2⟩, (hg_2.block _ (Array.getElem?_eq_some_iff.1 hHeld.2).1 (fun e => absurd (Option.some.inj e) (Nat.ne_of_gt hb_8))).trans hHeld.2⟩)
        clear hK K
        try simp only [Act.put, List.setIfInBounds_toArray, List.set_cons_zero, List.set_cons_succ]
        refine wpAnyH_take (i := 3) (v := ?_) rfl (by kernel_rfl) (by kernel_rfl) (by kernel_rfl) (fun _ _ _ h => h) (Or.inl ⟨by rfl, ?_⟩) (by assumption) ?_
        rotate_left
        · (intro w' hSw; (try dsimp only at hSw); go_simp; try (with_reducible rfl))
        change wpAnyH _ _ _ _ _ _ _ (Act.put _ (some 7) _) _
        try simp only [Act.put, List.setIfInBounds_toArray, List.set_cons_zero, List.set_cons_succ]
        refine wpAnyH_take (i := 4) (v := ?_) rfl (by kernel_rfl) (by kernel_rfl) (by kernel_rfl) (fun _ _ _ h => h) (Or.inl ⟨by rfl, ?_⟩) (by assumption) ?_
        rotate_left
        · (intro w' hSw; (try dsimp only at hSw); have hcx := (cell_of_row _ _ r_2 _ _ _ (hSw.1.2)).trans hT_2; (try simp only [World.size_alloc] at hcx); go_simp; try (with_reducible rfl))
        change wpAnyH _ _ _ _ _ _ _ (Act.put _ (some 8) _) _
        try simp only [Act.put, List.setIfInBounds_toArray, List.set_cons_zero, List.set_cons_succ]
        refine wpAnyH_ready (rs := [6]) (by kernel_rfl) (by simp) ?_
        refine AllReadyH.cons (i := 6) rfl (fun K hK => ?_) AllReadyH.nil
        simp only [List.getElem_toArray, List.getElem_cons_succ, List.getElem_cons_zero]
        rw [if_pos (by rfl)]
        go_simp
        (go_at_call 84; refine (curNumText _ (hc_2) (by omega)).mono ?_; rintro e w_6 ⟨s_6, rfl, hs_6, k_6, hk_6, hc_6, hg_6⟩; go_wp2_with fail)
        have hsum1 : ¬ 9223372036854775807 < t_2.size + s_6.size := by omega
        refine hK.out _ _ ?_ (fun hHeld => ?_)
        · first | trivial | ((try dsimp only); exact ⟨⟨trivial, (hg_6.block _ (Array.getElem?_eq_some_iff.1 hHeld.1.2).1 (fun e => absurd (Option.some.inj e) (Nat.ne_of_gt hb_0))).trans hHeld.1.2⟩, (hg_6.block _ (Array.getElem?_eq_some_iff.1 hHeld.2).1 (fun e => absurd (Option.some.inj e) (Nat.ne_of_gt hb_8))).trans hHeld.2⟩)
        clear hK K
        try simp only [Act.put, List.setIfInBounds_toArray, List.set_cons_zero, List.set_cons_succ]
        refine wpAnyH_take (i := 7) (v := ?_) rfl (by kernel_rfl) (by kernel_rfl) (by kernel_rfl) (fun _ _ _ h => h) (Or.inl ⟨by rfl, ?_⟩) (by assumption) ?_
        rotate_left
        · (intro w' hSw; (try dsimp only at hSw); go_simp; try (with_reducible rfl))
        change wpAnyH _ _ _ _ _ _ _ (Act.put _ (some 11) _) _
        try simp only [Act.put, List.setIfInBounds_toArray, List.set_cons_zero, List.set_cons_succ]
        refine wpAnyH_ready (rs := [10]) (by kernel_rfl) (by simp) ?_
        refine AllReadyH.cons (i := 10) rfl (fun K hK => ?_) AllReadyH.nil
        simp only [List.getElem_toArray, List.getElem_cons_succ, List.getElem_cons_zero]
        rw [if_pos (by rfl)]
        go_simp
        (go_at_call 53; refine (curPick 9 _ (hc_6) (by omega) (by omega)).mono ?_; rintro e w_10 ⟨r_10, rfl, hr_10, k_10, hk_10, hc_10, hg_10⟩; go_wp2_with fail)
        have hq_10 : (r_10 : Int) < 9 := by omega
        have hz_10 : (0 : Int) ≤ (r_10 : Int) := by omega
        obtain ⟨t_10, ht_10, hT_10⟩ := lit_pure (m := 2) (r := r_10) (cs := (#[.string ⟨#[]⟩, .string ⟨#[]⟩, .string ⟨#[32]⟩, .string ⟨#[120]⟩, .string ⟨#[101]⟩, .string ⟨#[32, 49]⟩, .string ⟨#[10]⟩, .string ⟨#[46]⟩, .string ⟨#[195, 169]⟩] : Array Value)) (by decide) (by show r_10 < 9; omega)
        have hsum2 : ¬ 9223372036854775807 < t_2.size + s_6.size + t_10.size := by omega
        refine hK.out _ _ ?_ (fun hHeld => ?_)
        · first | trivial | ((try dsimp only); exact ⟨⟨trivial, (hg_10.block _ (Array.getElem?_eq_some_iff.1 hHeld.1.2).1 (fun e => absurd (Option.some.inj e) (Nat.ne_of_gt hb_0))).trans hHeld.1.2⟩, (hg_10.block _ (Array.getElem?_eq_some_iff.1 hHeld.2).1 (fun e => absurd (Option.some.inj e) (Nat.ne_of_gt hb_8))).trans hHeld.2⟩)
        clear hK K
        try simp only [Act.put, List.setIfInBounds_toArray, List.set_cons_zero, List.set_cons_succ]
        refine wpAnyH_take (i := 11) (v := ?_) rfl (by kernel_rfl) (by kernel_rfl) (by kernel_rfl) (fun _ _ _ h => h) (Or.inl ⟨by rfl, ?_⟩) (by assumption) ?_
        rotate_left
        · (intro w' hSw; (try dsimp only at hSw); go_simp; try (with_reducible rfl))
        change wpAnyH _ _ _ _ _ _ _ (Act.put _ (some 15) _) _
        try simp only [Act.put, List.setIfInBounds_toArray, List.set_cons_zero, List.set_cons_succ]
        refine wpAnyH_take (i := 12) (v := ?_) rfl (by kernel_rfl) (by kernel_rfl) (by kernel_rfl) (fun _ _ _ h => h) (Or.inl ⟨by rfl, ?_⟩) (by assumption) ?_
        rotate_left
        · (intro w' hSw; (try dsimp only at hSw); have hcx := (cell_of_row _ _ r_10 _ _ _ (hSw.2)).trans hT_10; (try simp only [World.size_alloc] at hcx); go_simp; try (with_reducible rfl))
        change wpAnyH _ _ _ _ _ _ _ (Act.put _ (some 16) _) _
        try simp only [Act.put, List.setIfInBounds_toArray, List.set_cons_zero, List.set_cons_succ]
        refine wpAnyH_take (i := 13) (v := ?_) rfl (by kernel_rfl) (by kernel_rfl) (by kernel_rfl) (fun _ _ _ h => h) (Or.inl ⟨by rfl, ?_⟩) (by assumption) ?_
        rotate_left
        · (intro w' hSw; (try dsimp only at hSw); go_simp; try (with_reducible rfl))
        change wpAnyH _ _ _ _ _ _ _ (Act.put _ (some 17) _) _
        try simp only [Act.put, List.setIfInBounds_toArray, List.set_cons_zero, List.set_cons_succ]
        refine wpAnyH_take (i := 14) (v := ?_) rfl (by kernel_rfl) (by kernel_rfl) (by kernel_rfl) (fun _ _ _ h => h) (Or.inl ⟨by rfl, ?_⟩) (by assumption) ?_
        rotate_left
        · (intro w' hSw; (try dsimp only at hSw); go_simp; try (with_reducible rfl))
        change wpAnyH _ _ _ _ _ _ _ (Act.put _ (some 3) _) _
        try simp only [Act.put, List.setIfInBounds_toArray, List.set_cons_zero, List.set_cons_succ]
        refine wpAnyH_done (by kernel_rfl) ?_ _
        go_wp2
        go_meet
        case rel => exact ⟨t_2 ++ s_6 ++ t_10, k_10, rfl, by rw [ByteArray.size_append, ByteArray.size_append]; omega, by omega, hc_10, grown_trans (grown_trans (grown_trans (grown_alloc (grown_alloc (grown_drew (grown_refl w (some p))) _) _) hg_2) hg_6) hg_10⟩
      exact AllReadyH.nil
    refine AllReadyH.cons (i := 2) rfl (fun K hK => ?_) ?_
    · simp only [List.getElem_toArray, List.getElem_cons_succ, List.getElem_cons_zero]
      rw [if_pos (by rfl)]
      go_simp
      (go_at_call 53; refine (curPick 5 _ (Cur.drew hc) (by omega) (by omega)).mono ?_; rintro e w_2 ⟨r_2, rfl, hr_2, k_2, hk_2, hc_2, hg_2⟩; go_wp2_with fail)
      have hq_2 : (r_2 : Int) < 5 := by omega
      have hz_2 : (0 : Int) ≤ (r_2 : Int) := by omega
      obtain ⟨t_2, ht_2, hT_2⟩ := lit_pure (m := 2) (r := r_2) (cs := (#[.string ⟨#[]⟩, .string ⟨#[]⟩, .string ⟨#[32]⟩, .string ⟨#[9, 10]⟩, .string ⟨#[13, 32]⟩] : Array Value)) (by decide) (by show r_2 < 5; omega)
      refine hK.out _ _ ?_ (fun hHeld => ?_)
      · first | trivial | ((try dsimp only); exact trivial)
      clear hK K
      try simp only [Act.put, List.setIfInBounds_toArray, List.set_cons_zero, List.set_cons_succ]
      refine wpAnyH_ready (rs := [0, 6, 8]) (by kernel_rfl) (by simp) ?_
      refine AllReadyH.cons (i := 0) rfl (fun K hK => ?_) ?_
      · simp only [List.getElem_toArray, List.getElem_cons_succ, List.getElem_cons_zero]
        rw [if_pos (by rfl)]
        go_simp
        have hb_0 := (hc_2).lt.2
        refine hK.out _ _ ?_ (fun hHeld => ?_)
        · first | trivial | ((try dsimp only); exact trivial)
        clear hK K
        try simp only [Act.put, List.setIfInBounds_toArray, List.set_cons_zero, List.set_cons_succ]
        refine wpAnyH_row (heap_alloc_new _ _) hHeld ?_
        intro hHeld
        refine wpAnyH_take (i := 3) (v := ?_) rfl (by kernel_rfl) (by kernel_rfl) (by kernel_rfl) (fun _ _ _ h => h) (Or.inl ⟨by rfl, ?_⟩) (by assumption) ?_
        rotate_left
        · (intro w' hSw; (try dsimp only at hSw); go_simp; try (with_reducible rfl))
        change wpAnyH _ _ _ _ _ _ _ (Act.put _ (some 7) _) _
        try simp only [Act.put, List.setIfInBounds_toArray, List.set_cons_zero, List.set_cons_succ]
        refine wpAnyH_take (i := 4) (v := ?_) rfl (by kernel_rfl) (by kernel_rfl) (by kernel_rfl) (fun _ _ _ h => h) (Or.inl ⟨by rfl, ?_⟩) (by assumption) ?_
        rotate_left
        · (intro w' hSw; (try dsimp only at hSw); have hcx := (cell_of_row _ _ r_2 _ _ _ (hSw.2)).trans hT_2; (try simp only [World.size_alloc] at hcx); go_simp; try (with_reducible rfl))
        change wpAnyH _ _ _ _ _ _ _ (Act.put _ (some 8) _) _
        try simp only [Act.put, List.setIfInBounds_toArray, List.set_cons_zero, List.set_cons_succ]
        refine wpAnyH_ready (rs := [6, 8]) (by kernel_rfl) (by simp) ?_
        refine AllReadyH.cons (i := 6) rfl (fun K hK => ?_) ?_
        · simp only [List.getElem_toArray, List.getElem_cons_succ, List.getElem_cons_zero]
          rw [if_pos (by rfl)]
          go_simp
          (go_at_call 84; refine (curNumText _ (Cur.alloc (hc_2) (.cells (#[.string ⟨#[]⟩, .string ⟨#[]⟩, .string ⟨#[32]⟩, .string ⟨#[9, 10]⟩, .string ⟨#[13, 32]⟩] : Array Value) 9)) (by omega)).mono ?_; rintro e w_6 ⟨s_6, rfl, hs_6, k_6, hk_6, hc_6, hg_6⟩; go_wp2_with fail)
          have hsum1 : ¬ 9223372036854775807 < t_2.size + s_6.size := by omega
          refine hK.out _ _ ?_ (fun hHeld => ?_)
          · first | trivial | ((try dsimp only); exact ⟨trivial, (hg_6.block _ (Array.getElem?_eq_some_iff.1 hHeld.2).1 (fun e => absurd (Option.some.inj e) (Nat.ne_of_gt hb_0))).trans hHeld.2⟩)
          clear hK K
          try simp only [Act.put, List.setIfInBounds_toArray, List.set_cons_zero, List.set_cons_succ]
          refine wpAnyH_take (i := 7) (v := ?_) rfl (by kernel_rfl) (by kernel_rfl) (by kernel_rfl) (fun _ _ _ h => h) (Or.inl ⟨by rfl, ?_⟩) (by assumption) ?_
          rotate_left
          · (intro w' hSw; (try dsimp only at hSw); go_simp; try (with_reducible rfl))
          change wpAnyH _ _ _ _ _ _ _ (Act.put _ (some 11) _) _
          try simp only [Act.put, List.setIfInBounds_toArray, List.set_cons_zero, List.set_cons_succ]
          refine wpAnyH_ready (rs := [8, 10]) (by kernel_rfl) (by simp) ?_
          refine AllReadyH.cons (i := 8) rfl (fun K hK => ?_) ?_
          · simp only [List.getElem_toArray, List.getElem_cons_succ, List.getElem_cons_zero]
            rw [if_pos (by rfl)]
            go_simp
            have hb_8 := (hc_6).lt.2
            refine hK.out _ _ ?_ (fun hHeld => ?_)
            · first | trivial | ((try dsimp only); exact ⟨trivial, ((ext_alloc _ _).block _ (Array.getElem?_eq_some_iff.1 hHeld.2).1).trans hHeld.2⟩)
            clear hK K
            try simp only [Act.put, List.setIfInBounds_toArray, List.set_cons_zero, List.set_cons_succ]
            refine wpAnyH_row (heap_alloc_new _ _) hHeld ?_
            intro hHeld
            refine wpAnyH_ready (rs := [10]) (by kernel_rfl) (by simp) ?_
            refine AllReadyH.cons (i := 10) rfl (fun K hK => ?_) AllReadyH.nil
            simp only [List.getElem_toArray, List.getElem_cons_succ, List.getElem_cons_zero]
            rw [if_pos (by rfl)]
            go_simp
            (go_at_call 53; refine (curPick 9 _ (Cur.alloc (hc_6) (.cells (#[.string ⟨#[]⟩, .string ⟨#[]⟩, .string ⟨#[32]⟩, .string ⟨#[120]⟩, .string ⟨#[101]⟩, .string ⟨#[32, 49]⟩, .string ⟨#[10]⟩, .string ⟨#[46]⟩, .string ⟨#[195, 169]⟩] : Array Value) 9)) (by omega) (by omega)).mono ?_; rintro e w_10 ⟨r_10, rfl, hr_10, k_10, hk_10, hc_10, hg_10⟩; go_wp2_with fail)
            have hq_10 : (r_10 : Int) < 9 := by omega
            have hz_10 : (0 : Int) ≤ (r_10 : Int) := by omega
            obtain ⟨t_10, ht_10, hT_10⟩ := lit_pure (m := 2) (r := r_10) (cs := (#[.string ⟨#[]⟩, .string ⟨#[]⟩, .string ⟨#[32]⟩, .string ⟨#[120]⟩, .string ⟨#[101]⟩, .string ⟨#[32, 49]⟩, .string ⟨#[10]⟩, .string ⟨#[46]⟩, .string ⟨#[195, 169]⟩] : Array Value)) (by decide) (by show r_10 < 9; omega)
            have hsum2 : ¬ 9223372036854775807 < t_2.size + s_6.size + t_10.size := by omega
            refine hK.out _ _ ?_ (fun hHeld => ?_)
            · first | trivial | ((try dsimp only); exact ⟨⟨trivial, (hg_10.block _ (Array.getElem?_eq_some_iff.1 hHeld.1.2).1 (fun e => absurd (Option.some.inj e) (Nat.ne_of_gt hb_0))).trans hHeld.1.2⟩, (hg_10.block _ (Array.getElem?_eq_some_iff.1 hHeld.2).1 (fun e => absurd (Option.some.inj e) (Nat.ne_of_gt hb_8))).trans hHeld.2⟩)
            clear hK K
            try simp only [Act.put, List.setIfInBounds_toArray, List.set_cons_zero, List.set_cons_succ]
            refine wpAnyH_take (i := 11) (v := ?_) rfl (by kernel_rfl) (by kernel_rfl) (by kernel_rfl) (fun _ _ _ h => h) (Or.inl ⟨by rfl, ?_⟩) (by assumption) ?_
            rotate_left
            · (intro w' hSw; (try dsimp only at hSw); go_simp; try (with_reducible rfl))
            change wpAnyH _ _ _ _ _ _ _ (Act.put _ (some 15) _) _
            try simp only [Act.put, List.setIfInBounds_toArray, List.set_cons_zero, List.set_cons_succ]
            refine wpAnyH_take (i := 12) (v := ?_) rfl (by kernel_rfl) (by kernel_rfl) (by kernel_rfl) (fun _ _ _ h => h) (Or.inl ⟨by rfl, ?_⟩) (by assumption) ?_
            rotate_left
            · (intro w' hSw; (try dsimp only at hSw); have hcx := (cell_of_row _ _ r_10 _ _ _ (hSw.2)).trans hT_10; (try simp only [World.size_alloc] at hcx); go_simp; try (with_reducible rfl))
            change wpAnyH _ _ _ _ _ _ _ (Act.put _ (some 16) _) _
            try simp only [Act.put, List.setIfInBounds_toArray, List.set_cons_zero, List.set_cons_succ]
            refine wpAnyH_take (i := 13) (v := ?_) rfl (by kernel_rfl) (by kernel_rfl) (by kernel_rfl) (fun _ _ _ h => h) (Or.inl ⟨by rfl, ?_⟩) (by assumption) ?_
            rotate_left
            · (intro w' hSw; (try dsimp only at hSw); go_simp; try (with_reducible rfl))
            change wpAnyH _ _ _ _ _ _ _ (Act.put _ (some 17) _) _
            try simp only [Act.put, List.setIfInBounds_toArray, List.set_cons_zero, List.set_cons_succ]
            refine wpAnyH_take (i := 14) (v := ?_) rfl (by kernel_rfl) (by kernel_rfl) (by kernel_rfl) (fun _ _ _ h => h) (Or.inl ⟨by rfl, ?_⟩) (by assumption) ?_
            rotate_left
            · (intro w' hSw; (try dsimp only at hSw); go_simp; try (with_reducible rfl))
            change wpAnyH _ _ _ _ _ _ _ (Act.put _ (some 3) _) _
            try simp only [Act.put, List.setIfInBounds_toArray, List.set_cons_zero, List.set_cons_succ]
            refine wpAnyH_done (by kernel_rfl) ?_ _
            go_wp2
            go_meet
            case rel => exact ⟨t_2 ++ s_6 ++ t_10, k_10, rfl, by rw [ByteArray.size_append, ByteArray.size_append]; omega, by omega, hc_10, grown_trans (grown_alloc (grown_trans (grown_alloc (grown_trans (grown_drew (grown_refl w (some p))) hg_2) _) hg_6) _) hg_10⟩
          refine AllReadyH.cons (i := 10) rfl (fun K hK => ?_) ?_
          · simp only [List.getElem_toArray, List.getElem_cons_succ, List.getElem_cons_zero]
            rw [if_pos (by rfl)]
            go_simp
            (go_at_call 53; refine (curPick 9 _ (hc_6) (by omega) (by omega)).mono ?_; rintro e w_10 ⟨r_10, rfl, hr_10, k_10, hk_10, hc_10, hg_10⟩; go_wp2_with fail)
            have hq_10 : (r_10 : Int) < 9 := by omega
            have hz_10 : (0 : Int) ≤ (r_10 : Int) := by omega
            obtain ⟨t_10, ht_10, hT_10⟩ := lit_pure (m := 2) (r := r_10) (cs := (#[.string ⟨#[]⟩, .string ⟨#[]⟩, .string ⟨#[32]⟩, .string ⟨#[120]⟩, .string ⟨#[101]⟩, .string ⟨#[32, 49]⟩, .string ⟨#[10]⟩, .string ⟨#[46]⟩, .string ⟨#[195, 169]⟩] : Array Value)) (by decide) (by show r_10 < 9; omega)
            have hsum2 : ¬ 9223372036854775807 < t_2.size + s_6.size + t_10.size := by omega
            refine hK.out _ _ ?_ (fun hHeld => ?_)
            · first | trivial | ((try dsimp only); exact ⟨trivial, (hg_10.block _ (Array.getElem?_eq_some_iff.1 hHeld.2).1 (fun e => absurd (Option.some.inj e) (Nat.ne_of_gt hb_0))).trans hHeld.2⟩)
            clear hK K
            try simp only [Act.put, List.setIfInBounds_toArray, List.set_cons_zero, List.set_cons_succ]
            refine wpAnyH_ready (rs := [8]) (by kernel_rfl) (by simp) ?_
            refine AllReadyH.cons (i := 8) rfl (fun K hK => ?_) AllReadyH.nil
            simp only [List.getElem_toArray, List.getElem_cons_succ, List.getElem_cons_zero]
            rw [if_pos (by rfl)]
            go_simp
            have hb_8 := (hc_10).lt.2
            refine hK.out _ _ ?_ (fun hHeld => ?_)
            · first | trivial | ((try dsimp only); exact ⟨trivial, ((ext_alloc _ _).block _ (Array.getElem?_eq_some_iff.1 hHeld.2).1).trans hHeld.2⟩)
            clear hK K
            try simp only [Act.put, List.setIfInBounds_toArray, List.set_cons_zero, List.set_cons_succ]
            refine wpAnyH_row (heap_alloc_new _ _) hHeld ?_
            intro hHeld
            refine wpAnyH_take (i := 11) (v := ?_) rfl (by kernel_rfl) (by kernel_rfl) (by kernel_rfl) (fun _ _ _ h => h) (Or.inl ⟨by rfl, ?_⟩) (by assumption) ?_
            rotate_left
            · (intro w' hSw; (try dsimp only at hSw); go_simp; try (with_reducible rfl))
            change wpAnyH _ _ _ _ _ _ _ (Act.put _ (some 15) _) _
            try simp only [Act.put, List.setIfInBounds_toArray, List.set_cons_zero, List.set_cons_succ]
            refine wpAnyH_take (i := 12) (v := ?_) rfl (by kernel_rfl) (by kernel_rfl) (by kernel_rfl) (fun _ _ _ h => h) (Or.inl ⟨by rfl, ?_⟩) (by assumption) ?_
            rotate_left
            · (intro w' hSw; (try dsimp only at hSw); have hcx := (cell_of_row _ _ r_10 _ _ _ (hSw.2)).trans hT_10; (try simp only [World.size_alloc] at hcx); go_simp; try (with_reducible rfl))
            change wpAnyH _ _ _ _ _ _ _ (Act.put _ (some 16) _) _
            try simp only [Act.put, List.setIfInBounds_toArray, List.set_cons_zero, List.set_cons_succ]
            refine wpAnyH_take (i := 13) (v := ?_) rfl (by kernel_rfl) (by kernel_rfl) (by kernel_rfl) (fun _ _ _ h => h) (Or.inl ⟨by rfl, ?_⟩) (by assumption) ?_
            rotate_left
            · (intro w' hSw; (try dsimp only at hSw); go_simp; try (with_reducible rfl))
            change wpAnyH _ _ _ _ _ _ _ (Act.put _ (some 17) _) _
            try simp only [Act.put, List.setIfInBounds_toArray, List.set_cons_zero, List.set_cons_succ]
            refine wpAnyH_take (i := 14) (v := ?_) rfl (by kernel_rfl) (by kernel_rfl) (by kernel_rfl) (fun _ _ _ h => h) (Or.inl ⟨by rfl, ?_⟩) (by assumption) ?_
            rotate_left
            · (intro w' hSw; (try dsimp only at hSw); go_simp; try (with_reducible rfl))
            change wpAnyH _ _ _ _ _ _ _ (Act.put _ (some 3) _) _
            try simp only [Act.put, List.setIfInBounds_toArray, List.set_cons_zero, List.set_cons_succ]
            refine wpAnyH_done (by kernel_rfl) ?_ _
            go_wp2
            go_meet
            case rel => exact ⟨t_2 ++ s_6 ++ t_10, k_10, rfl, by rw [ByteArray.size_append, ByteArray.size_append]; omega, by omega, Cur.alloc (hc_10) (.cells (#[.string ⟨#[]⟩, .string ⟨#[]⟩, .string ⟨#[32]⟩, .string ⟨#[120]⟩, .string ⟨#[101]⟩, .string ⟨#[32, 49]⟩, .string ⟨#[10]⟩, .string ⟨#[46]⟩, .string ⟨#[195, 169]⟩] : Array Value) 9), grown_alloc (grown_trans (grown_trans (grown_alloc (grown_trans (grown_drew (grown_refl w (some p))) hg_2) _) hg_6) hg_10) _⟩
          exact AllReadyH.nil
        refine AllReadyH.cons (i := 8) rfl (fun K hK => ?_) ?_
        · simp only [List.getElem_toArray, List.getElem_cons_succ, List.getElem_cons_zero]
          rw [if_pos (by rfl)]
          go_simp
          have hb_8 := (Cur.alloc (hc_2) (.cells (#[.string ⟨#[]⟩, .string ⟨#[]⟩, .string ⟨#[32]⟩, .string ⟨#[9, 10]⟩, .string ⟨#[13, 32]⟩] : Array Value) 9)).lt.2
          refine hK.out _ _ ?_ (fun hHeld => ?_)
          · first | trivial | ((try dsimp only); exact ⟨trivial, ((ext_alloc _ _).block _ (Array.getElem?_eq_some_iff.1 hHeld.2).1).trans hHeld.2⟩)
          clear hK K
          try simp only [Act.put, List.setIfInBounds_toArray, List.set_cons_zero, List.set_cons_succ]
          refine wpAnyH_row (heap_alloc_new _ _) hHeld ?_
          intro hHeld
          refine wpAnyH_ready (rs := [6]) (by kernel_rfl) (by simp) ?_
          refine AllReadyH.cons (i := 6) rfl (fun K hK => ?_) AllReadyH.nil
          simp only [List.getElem_toArray, List.getElem_cons_succ, List.getElem_cons_zero]
          rw [if_pos (by rfl)]
          go_simp
          (go_at_call 84; refine (curNumText _ (Cur.alloc (Cur.alloc (hc_2) (.cells (#[.string ⟨#[]⟩, .string ⟨#[]⟩, .string ⟨#[32]⟩, .string ⟨#[9, 10]⟩, .string ⟨#[13, 32]⟩] : Array Value) 9)) (.cells (#[.string ⟨#[]⟩, .string ⟨#[]⟩, .string ⟨#[32]⟩, .string ⟨#[120]⟩, .string ⟨#[101]⟩, .string ⟨#[32, 49]⟩, .string ⟨#[10]⟩, .string ⟨#[46]⟩, .string ⟨#[195, 169]⟩] : Array Value) 9)) (by omega)).mono ?_; rintro e w_6 ⟨s_6, rfl, hs_6, k_6, hk_6, hc_6, hg_6⟩; go_wp2_with fail)
          have hsum1 : ¬ 9223372036854775807 < t_2.size + s_6.size := by omega
          refine hK.out _ _ ?_ (fun hHeld => ?_)
          · first | trivial | ((try dsimp only); exact ⟨⟨trivial, (hg_6.block _ (Array.getElem?_eq_some_iff.1 hHeld.1.2).1 (fun e => absurd (Option.some.inj e) (Nat.ne_of_gt hb_0))).trans hHeld.1.2⟩, (hg_6.block _ (Array.getElem?_eq_some_iff.1 hHeld.2).1 (fun e => absurd (Option.some.inj e) (Nat.ne_of_gt hb_8))).trans hHeld.2⟩)
          clear hK K
          try simp only [Act.put, List.setIfInBounds_toArray, List.set_cons_zero, List.set_cons_succ]
          refine wpAnyH_take (i := 7) (v := ?_) rfl (by kernel_rfl) (by kernel_rfl) (by kernel_rfl) (fun _ _ _ h => h) (Or.inl ⟨by rfl, ?_⟩) (by assumption) ?_
          rotate_left
          · (intro w' hSw; (try dsimp only at hSw); go_simp; try (with_reducible rfl))
          change wpAnyH _ _ _ _ _ _ _ (Act.put _ (some 11) _) _
          try simp only [Act.put, List.setIfInBounds_toArray, List.set_cons_zero, List.set_cons_succ]
          refine wpAnyH_ready (rs := [10]) (by kernel_rfl) (by simp) ?_
          refine AllReadyH.cons (i := 10) rfl (fun K hK => ?_) AllReadyH.nil
          simp only [List.getElem_toArray, List.getElem_cons_succ, List.getElem_cons_zero]
          rw [if_pos (by rfl)]
          go_simp
          (go_at_call 53; refine (curPick 9 _ (hc_6) (by omega) (by omega)).mono ?_; rintro e w_10 ⟨r_10, rfl, hr_10, k_10, hk_10, hc_10, hg_10⟩; go_wp2_with fail)
          have hq_10 : (r_10 : Int) < 9 := by omega
          have hz_10 : (0 : Int) ≤ (r_10 : Int) := by omega
          obtain ⟨t_10, ht_10, hT_10⟩ := lit_pure (m := 2) (r := r_10) (cs := (#[.string ⟨#[]⟩, .string ⟨#[]⟩, .string ⟨#[32]⟩, .string ⟨#[120]⟩, .string ⟨#[101]⟩, .string ⟨#[32, 49]⟩, .string ⟨#[10]⟩, .string ⟨#[46]⟩, .string ⟨#[195, 169]⟩] : Array Value)) (by decide) (by show r_10 < 9; omega)
          have hsum2 : ¬ 9223372036854775807 < t_2.size + s_6.size + t_10.size := by omega
          refine hK.out _ _ ?_ (fun hHeld => ?_)
          · first | trivial | ((try dsimp only); exact ⟨⟨trivial, (hg_10.block _ (Array.getElem?_eq_some_iff.1 hHeld.1.2).1 (fun e => absurd (Option.some.inj e) (Nat.ne_of_gt hb_0))).trans hHeld.1.2⟩, (hg_10.block _ (Array.getElem?_eq_some_iff.1 hHeld.2).1 (fun e => absurd (Option.some.inj e) (Nat.ne_of_gt hb_8))).trans hHeld.2⟩)
          clear hK K
          try simp only [Act.put, List.setIfInBounds_toArray, List.set_cons_zero, List.set_cons_succ]
          refine wpAnyH_take (i := 11) (v := ?_) rfl (by kernel_rfl) (by kernel_rfl) (by kernel_rfl) (fun _ _ _ h => h) (Or.inl ⟨by rfl, ?_⟩) (by assumption) ?_
          rotate_left
          · (intro w' hSw; (try dsimp only at hSw); go_simp; try (with_reducible rfl))
          change wpAnyH _ _ _ _ _ _ _ (Act.put _ (some 15) _) _
          try simp only [Act.put, List.setIfInBounds_toArray, List.set_cons_zero, List.set_cons_succ]
          refine wpAnyH_take (i := 12) (v := ?_) rfl (by kernel_rfl) (by kernel_rfl) (by kernel_rfl) (fun _ _ _ h => h) (Or.inl ⟨by rfl, ?_⟩) (by assumption) ?_
          rotate_left
          · (intro w' hSw; (try dsimp only at hSw); have hcx := (cell_of_row _ _ r_10 _ _ _ (hSw.2)).trans hT_10; (try simp only [World.size_alloc] at hcx); go_simp; try (with_reducible rfl))
          change wpAnyH _ _ _ _ _ _ _ (Act.put _ (some 16) _) _
          try simp only [Act.put, List.setIfInBounds_toArray, List.set_cons_zero, List.set_cons_succ]
          refine wpAnyH_take (i := 13) (v := ?_) rfl (by kernel_rfl) (by kernel_rfl) (by kernel_rfl) (fun _ _ _ h => h) (Or.inl ⟨by rfl, ?_⟩) (by assumption) ?_
          rotate_left
          · (intro w' hSw; (try dsimp only at hSw); go_simp; try (with_reducible rfl))
          change wpAnyH _ _ _ _ _ _ _ (Act.put _ (some 17) _) _
          try simp only [Act.put, List.setIfInBounds_toArray, List.set_cons_zero, List.set_cons_succ]
          refine wpAnyH_take (i := 14) (v := ?_) rfl (by kernel_rfl) (by kernel_rfl) (by kernel_rfl) (fun _ _ _ h => h) (Or.inl ⟨by rfl, ?_⟩) (by assumption) ?_
          rotate_left
          · (intro w' hSw; (try dsimp only at hSw); go_simp; try (with_reducible rfl))
          change wpAnyH _ _ _ _ _ _ _ (Act.put _ (some 3) _) _
          try simp only [Act.put, List.setIfInBounds_toArray, List.set_cons_zero, List.set_cons_succ]
          refine wpAnyH_done (by kernel_rfl) ?_ _
          go_wp2
          go_meet
          case rel => exact ⟨t_2 ++ s_6 ++ t_10, k_10, rfl, by rw [ByteArray.size_append, ByteArray.size_append]; omega, by omega, hc_10, grown_trans (grown_trans (grown_alloc (grown_alloc (grown_trans (grown_drew (grown_refl w (some p))) hg_2) _) _) hg_6) hg_10⟩
        exact AllReadyH.nil
      refine AllReadyH.cons (i := 6) rfl (fun K hK => ?_) ?_
      · simp only [List.getElem_toArray, List.getElem_cons_succ, List.getElem_cons_zero]
        rw [if_pos (by rfl)]
        go_simp
        (go_at_call 84; refine (curNumText _ (hc_2) (by omega)).mono ?_; rintro e w_6 ⟨s_6, rfl, hs_6, k_6, hk_6, hc_6, hg_6⟩; go_wp2_with fail)
        have hsum1 : ¬ 9223372036854775807 < t_2.size + s_6.size := by omega
        refine hK.out _ _ ?_ (fun hHeld => ?_)
        · first | trivial | ((try dsimp only); exact trivial)
        clear hK K
        try simp only [Act.put, List.setIfInBounds_toArray, List.set_cons_zero, List.set_cons_succ]
        refine wpAnyH_ready (rs := [0, 8, 10]) (by kernel_rfl) (by simp) ?_
        refine AllReadyH.cons (i := 0) rfl (fun K hK => ?_) ?_
        · simp only [List.getElem_toArray, List.getElem_cons_succ, List.getElem_cons_zero]
          rw [if_pos (by rfl)]
          go_simp
          have hb_0 := (hc_6).lt.2
          refine hK.out _ _ ?_ (fun hHeld => ?_)
          · first | trivial | ((try dsimp only); exact trivial)
          clear hK K
          try simp only [Act.put, List.setIfInBounds_toArray, List.set_cons_zero, List.set_cons_succ]
          refine wpAnyH_row (heap_alloc_new _ _) hHeld ?_
          intro hHeld
          refine wpAnyH_take (i := 3) (v := ?_) rfl (by kernel_rfl) (by kernel_rfl) (by kernel_rfl) (fun _ _ _ h => h) (Or.inl ⟨by rfl, ?_⟩) (by assumption) ?_
          rotate_left
          · (intro w' hSw; (try dsimp only at hSw); go_simp; try (with_reducible rfl))
          change wpAnyH _ _ _ _ _ _ _ (Act.put _ (some 7) _) _
          try simp only [Act.put, List.setIfInBounds_toArray, List.set_cons_zero, List.set_cons_succ]
          refine wpAnyH_take (i := 4) (v := ?_) rfl (by kernel_rfl) (by kernel_rfl) (by kernel_rfl) (fun _ _ _ h => h) (Or.inl ⟨by rfl, ?_⟩) (by assumption) ?_
          rotate_left
          · (intro w' hSw; (try dsimp only at hSw); have hcx := (cell_of_row _ _ r_2 _ _ _ (hSw.2)).trans hT_2; (try simp only [World.size_alloc] at hcx); go_simp; try (with_reducible rfl))
          change wpAnyH _ _ _ _ _ _ _ (Act.put _ (some 8) _) _
          try simp only [Act.put, List.setIfInBounds_toArray, List.set_cons_zero, List.set_cons_succ]
          refine wpAnyH_take (i := 7) (v := ?_) rfl (by kernel_rfl) (by kernel_rfl) (by kernel_rfl) (fun _ _ _ h => h) (Or.inl ⟨by rfl, ?_⟩) (by assumption) ?_
          rotate_left
          · (intro w' hSw; (try dsimp only at hSw); go_simp; try (with_reducible rfl))
          change wpAnyH _ _ _ _ _ _ _ (Act.put _ (some 11) _) _
          try simp only [Act.put, List.setIfInBounds_toArray, List.set_cons_zero, List.set_cons_succ]
          refine wpAnyH_ready (rs := [8, 10]) (by kernel_rfl) (by simp) ?_
          refine AllReadyH.cons (i := 8) rfl (fun K hK => ?_) ?_
          · simp only [List.getElem_toArray, List.getElem_cons_succ, List.getElem_cons_zero]
            rw [if_pos (by rfl)]
            go_simp
            have hb_8 := (Cur.alloc (hc_6) (.cells (#[.string ⟨#[]⟩, .string ⟨#[]⟩, .string ⟨#[32]⟩, .string ⟨#[9, 10]⟩, .string ⟨#[13, 32]⟩] : Array Value) 9)).lt.2
            refine hK.out _ _ ?_ (fun hHeld => ?_)
            · first | trivial | ((try dsimp only); exact ⟨trivial, ((ext_alloc _ _).block _ (Array.getElem?_eq_some_iff.1 hHeld.2).1).trans hHeld.2⟩)
            clear hK K
            try simp only [Act.put, List.setIfInBounds_toArray, List.set_cons_zero, List.set_cons_succ]
            refine wpAnyH_row (heap_alloc_new _ _) hHeld ?_
            intro hHeld
            refine wpAnyH_ready (rs := [10]) (by kernel_rfl) (by simp) ?_
            refine AllReadyH.cons (i := 10) rfl (fun K hK => ?_) AllReadyH.nil
            simp only [List.getElem_toArray, List.getElem_cons_succ, List.getElem_cons_zero]
            rw [if_pos (by rfl)]
            go_simp
            (go_at_call 53; refine (curPick 9 _ (Cur.alloc (Cur.alloc (hc_6) (.cells (#[.string ⟨#[]⟩, .string ⟨#[]⟩, .string ⟨#[32]⟩, .string ⟨#[9, 10]⟩, .string ⟨#[13, 32]⟩] : Array Value) 9)) (.cells (#[.string ⟨#[]⟩, .string ⟨#[]⟩, .string ⟨#[32]⟩, .string ⟨#[120]⟩, .string ⟨#[101]⟩, .string ⟨#[32, 49]⟩, .string ⟨#[10]⟩, .string ⟨#[46]⟩, .string ⟨#[195, 169]⟩] : Array Value) 9)) (by omega) (by omega)).mono ?_; rintro e w_10 ⟨r_10, rfl, hr_10, k_10, hk_10, hc_10, hg_10⟩; go_wp2_with fail)
            have hq_10 : (r_10 : Int) < 9 := by omega
            have hz_10 : (0 : Int) ≤ (r_10 : Int) := by omega
            obtain ⟨t_10, ht_10, hT_10⟩ := lit_pure (m := 2) (r := r_10) (cs := (#[.string ⟨#[]⟩, .string ⟨#[]⟩, .string ⟨#[32]⟩, .string ⟨#[120]⟩, .string ⟨#[101]⟩, .string ⟨#[32, 49]⟩, .string ⟨#[10]⟩, .string ⟨#[46]⟩, .string ⟨#[195, 169]⟩] : Array Value)) (by decide) (by show r_10 < 9; omega)
            have hsum2 : ¬ 9223372036854775807 < t_2.size + s_6.size + t_10.size := by omega
            refine hK.out _ _ ?_ (fun hHeld => ?_)
            · first | trivial | ((try dsimp only); exact ⟨⟨trivial, (hg_10.block _ (Array.getElem?_eq_some_iff.1 hHeld.1.2).1 (fun e => absurd (Option.some.inj e) (Nat.ne_of_gt hb_0))).trans hHeld.1.2⟩, (hg_10.block _ (Array.getElem?_eq_some_iff.1 hHeld.2).1 (fun e => absurd (Option.some.inj e) (Nat.ne_of_gt hb_8))).trans hHeld.2⟩)
            clear hK K
            try simp only [Act.put, List.setIfInBounds_toArray, List.set_cons_zero, List.set_cons_succ]
            refine wpAnyH_take (i := 11) (v := ?_) rfl (by kernel_rfl) (by kernel_rfl) (by kernel_rfl) (fun _ _ _ h => h) (Or.inl ⟨by rfl, ?_⟩) (by assumption) ?_
            rotate_left
            · (intro w' hSw; (try dsimp only at hSw); go_simp; try (with_reducible rfl))
            change wpAnyH _ _ _ _ _ _ _ (Act.put _ (some 15) _) _
            try simp only [Act.put, List.setIfInBounds_toArray, List.set_cons_zero, List.set_cons_succ]
            refine wpAnyH_take (i := 12) (v := ?_) rfl (by kernel_rfl) (by kernel_rfl) (by kernel_rfl) (fun _ _ _ h => h) (Or.inl ⟨by rfl, ?_⟩) (by assumption) ?_
            rotate_left
            · (intro w' hSw; (try dsimp only at hSw); have hcx := (cell_of_row _ _ r_10 _ _ _ (hSw.2)).trans hT_10; (try simp only [World.size_alloc] at hcx); go_simp; try (with_reducible rfl))
            change wpAnyH _ _ _ _ _ _ _ (Act.put _ (some 16) _) _
            try simp only [Act.put, List.setIfInBounds_toArray, List.set_cons_zero, List.set_cons_succ]
            refine wpAnyH_take (i := 13) (v := ?_) rfl (by kernel_rfl) (by kernel_rfl) (by kernel_rfl) (fun _ _ _ h => h) (Or.inl ⟨by rfl, ?_⟩) (by assumption) ?_
            rotate_left
            · (intro w' hSw; (try dsimp only at hSw); go_simp; try (with_reducible rfl))
            change wpAnyH _ _ _ _ _ _ _ (Act.put _ (some 17) _) _
            try simp only [Act.put, List.setIfInBounds_toArray, List.set_cons_zero, List.set_cons_succ]
            refine wpAnyH_take (i := 14) (v := ?_) rfl (by kernel_rfl) (by kernel_rfl) (by kernel_rfl) (fun _ _ _ h => h) (Or.inl ⟨by rfl, ?_⟩) (by assumption) ?_
            rotate_left
            · (intro w' hSw; (try dsimp only at hSw); go_simp; try (with_reducible rfl))
            change wpAnyH _ _ _ _ _ _ _ (Act.put _ (some 3) _) _
            try simp only [Act.put, List.setIfInBounds_toArray, List.set_cons_zero, List.set_cons_succ]
            refine wpAnyH_done (by kernel_rfl) ?_ _
            go_wp2
            go_meet
            case rel => exact ⟨t_2 ++ s_6 ++ t_10, k_10, rfl, by rw [ByteArray.size_append, ByteArray.size_append]; omega, by omega, hc_10, grown_trans (grown_alloc (grown_alloc (grown_trans (grown_trans (grown_drew (grown_refl w (some p))) hg_2) hg_6) _) _) hg_10⟩
          refine AllReadyH.cons (i := 10) rfl (fun K hK => ?_) ?_
          · simp only [List.getElem_toArray, List.getElem_cons_succ, List.getElem_cons_zero]
            rw [if_pos (by rfl)]
            go_simp
            (go_at_call 53; refine (curPick 9 _ (Cur.alloc (hc_6) (.cells (#[.string ⟨#[]⟩, .string ⟨#[]⟩, .string ⟨#[32]⟩, .string ⟨#[9, 10]⟩, .string ⟨#[13, 32]⟩] : Array Value) 9)) (by omega) (by omega)).mono ?_; rintro e w_10 ⟨r_10, rfl, hr_10, k_10, hk_10, hc_10, hg_10⟩; go_wp2_with fail)
            have hq_10 : (r_10 : Int) < 9 := by omega
            have hz_10 : (0 : Int) ≤ (r_10 : Int) := by omega
            obtain ⟨t_10, ht_10, hT_10⟩ := lit_pure (m := 2) (r := r_10) (cs := (#[.string ⟨#[]⟩, .string ⟨#[]⟩, .string ⟨#[32]⟩, .string ⟨#[120]⟩, .string ⟨#[101]⟩, .string ⟨#[32, 49]⟩, .string ⟨#[10]⟩, .string ⟨#[46]⟩, .string ⟨#[195, 169]⟩] : Array Value)) (by decide) (by show r_10 < 9; omega)
            have hsum2 : ¬ 9223372036854775807 < t_2.size + s_6.size + t_10.size := by omega
            refine hK.out _ _ ?_ (fun hHeld => ?_)
            · first | trivial | ((try dsimp only); exact ⟨trivial, (hg_10.block _ (Array.getElem?_eq_some_iff.1 hHeld.2).1 (fun e => absurd (Option.some.inj e) (Nat.ne_of_gt hb_0))).trans hHeld.2⟩)
            clear hK K
            try simp only [Act.put, List.setIfInBounds_toArray, List.set_cons_zero, List.set_cons_succ]
            refine wpAnyH_ready (rs := [8]) (by kernel_rfl) (by simp) ?_
            refine AllReadyH.cons (i := 8) rfl (fun K hK => ?_) AllReadyH.nil
            simp only [List.getElem_toArray, List.getElem_cons_succ, List.getElem_cons_zero]
            rw [if_pos (by rfl)]
            go_simp
            have hb_8 := (hc_10).lt.2
            refine hK.out _ _ ?_ (fun hHeld => ?_)
            · first | trivial | ((try dsimp only); exact ⟨trivial, ((ext_alloc _ _).block _ (Array.getElem?_eq_some_iff.1 hHeld.2).1).trans hHeld.2⟩)
            clear hK K
            try simp only [Act.put, List.setIfInBounds_toArray, List.set_cons_zero, List.set_cons_succ]
            refine wpAnyH_row (heap_alloc_new _ _) hHeld ?_
            intro hHeld
            refine wpAnyH_take (i := 11) (v := ?_) rfl (by kernel_rfl) (by kernel_rfl) (by kernel_rfl) (fun _ _ _ h => h) (Or.inl ⟨by rfl, ?_⟩) (by assumption) ?_
            rotate_left
            · (intro w' hSw; (try dsimp only at hSw); go_simp; try (with_reducible rfl))
            change wpAnyH _ _ _ _ _ _ _ (Act.put _ (some 15) _) _
            try simp only [Act.put, List.setIfInBounds_toArray, List.set_cons_zero, List.set_cons_succ]
            refine wpAnyH_take (i := 12) (v := ?_) rfl (by kernel_rfl) (by kernel_rfl) (by kernel_rfl) (fun _ _ _ h => h) (Or.inl ⟨by rfl, ?_⟩) (by assumption) ?_
            rotate_left
            · (intro w' hSw; (try dsimp only at hSw); have hcx := (cell_of_row _ _ r_10 _ _ _ (hSw.2)).trans hT_10; (try simp only [World.size_alloc] at hcx); go_simp; try (with_reducible rfl))
            change wpAnyH _ _ _ _ _ _ _ (Act.put _ (some 16) _) _
            try simp only [Act.put, List.setIfInBounds_toArray, List.set_cons_zero, List.set_cons_succ]
            refine wpAnyH_take (i := 13) (v := ?_) rfl (by kernel_rfl) (by kernel_rfl) (by kernel_rfl) (fun _ _ _ h => h) (Or.inl ⟨by rfl, ?_⟩) (by assumption) ?_
            rotate_left
            · (intro w' hSw; (try dsimp only at hSw); go_simp; try (with_reducible rfl))
            change wpAnyH _ _ _ _ _ _ _ (Act.put _ (some 17) _) _
            try simp only [Act.put, List.setIfInBounds_toArray, List.set_cons_zero, List.set_cons_succ]
            refine wpAnyH_take (i := 14) (v := ?_) rfl (by kernel_rfl) (by kernel_rfl) (by kernel_rfl) (fun _ _ _ h => h) (Or.inl ⟨by rfl, ?_⟩) (by assumption) ?_
            rotate_left
            · (intro w' hSw; (try dsimp only at hSw); go_simp; try (with_reducible rfl))
            change wpAnyH _ _ _ _ _ _ _ (Act.put _ (some 3) _) _
            try simp only [Act.put, List.setIfInBounds_toArray, List.set_cons_zero, List.set_cons_succ]
            refine wpAnyH_done (by kernel_rfl) ?_ _
            go_wp2
            go_meet
            case rel => exact ⟨t_2 ++ s_6 ++ t_10, k_10, rfl, by rw [ByteArray.size_append, ByteArray.size_append]; omega, by omega, Cur.alloc (hc_10) (.cells (#[.string ⟨#[]⟩, .string ⟨#[]⟩, .string ⟨#[32]⟩, .string ⟨#[120]⟩, .string ⟨#[101]⟩, .string ⟨#[32, 49]⟩, .string ⟨#[10]⟩, .string ⟨#[46]⟩, .string ⟨#[195, 169]⟩] : Array Value) 9), grown_alloc (grown_trans (grown_alloc (grown_trans (grown_trans (grown_drew (grown_refl w (some p))) hg_2) hg_6) _) hg_10) _⟩
          exact AllReadyH.nil
        refine AllReadyH.cons (i := 8) rfl (fun K hK => ?_) ?_
        · simp only [List.getElem_toArray, List.getElem_cons_succ, List.getElem_cons_zero]
          rw [if_pos (by rfl)]
          go_simp
          have hb_8 := (hc_6).lt.2
          refine hK.out _ _ ?_ (fun hHeld => ?_)
          · first | trivial | ((try dsimp only); exact trivial)
          clear hK K
          try simp only [Act.put, List.setIfInBounds_toArray, List.set_cons_zero, List.set_cons_succ]
          refine wpAnyH_row (heap_alloc_new _ _) hHeld ?_
          intro hHeld
          refine wpAnyH_ready (rs := [0, 10]) (by kernel_rfl) (by simp) ?_
          refine AllReadyH.cons (i := 0) rfl (fun K hK => ?_) ?_
          · simp only [List.getElem_toArray, List.getElem_cons_succ, List.getElem_cons_zero]
            rw [if_pos (by rfl)]
            go_simp
            have hb_0 := (Cur.alloc (hc_6) (.cells (#[.string ⟨#[]⟩, .string ⟨#[]⟩, .string ⟨#[32]⟩, .string ⟨#[120]⟩, .string ⟨#[101]⟩, .string ⟨#[32, 49]⟩, .string ⟨#[10]⟩, .string ⟨#[46]⟩, .string ⟨#[195, 169]⟩] : Array Value) 9)).lt.2
            refine hK.out _ _ ?_ (fun hHeld => ?_)
            · first | trivial | ((try dsimp only); exact ⟨trivial, ((ext_alloc _ _).block _ (Array.getElem?_eq_some_iff.1 hHeld.2).1).trans hHeld.2⟩)
            clear hK K
            try simp only [Act.put, List.setIfInBounds_toArray, List.set_cons_zero, List.set_cons_succ]
            refine wpAnyH_row (heap_alloc_new _ _) hHeld ?_
            intro hHeld
            refine wpAnyH_take (i := 3) (v := ?_) rfl (by kernel_rfl) (by kernel_rfl) (by kernel_rfl) (fun _ _ _ h => h) (Or.inl ⟨by rfl, ?_⟩) (by assumption) ?_
            rotate_left
            · (intro w' hSw; (try dsimp only at hSw); go_simp; try (with_reducible rfl))
            change wpAnyH _ _ _ _ _ _ _ (Act.put _ (some 7) _) _
            try simp only [Act.put, List.setIfInBounds_toArray, List.set_cons_zero, List.set_cons_succ]
            refine wpAnyH_take (i := 4) (v := ?_) rfl (by kernel_rfl) (by kernel_rfl) (by kernel_rfl) (fun _ _ _ h => h) (Or.inl ⟨by rfl, ?_⟩) (by assumption) ?_
            rotate_left
            · (intro w' hSw; (try dsimp only at hSw); have hcx := (cell_of_row _ _ r_2 _ _ _ (hSw.2)).trans hT_2; (try simp only [World.size_alloc] at hcx); go_simp; try (with_reducible rfl))
            change wpAnyH _ _ _ _ _ _ _ (Act.put _ (some 8) _) _
            try simp only [Act.put, List.setIfInBounds_toArray, List.set_cons_zero, List.set_cons_succ]
            refine wpAnyH_take (i := 7) (v := ?_) rfl (by kernel_rfl) (by kernel_rfl) (by kernel_rfl) (fun _ _ _ h => h) (Or.inl ⟨by rfl, ?_⟩) (by assumption) ?_
            rotate_left
            · (intro w' hSw; (try dsimp only at hSw); go_simp; try (with_reducible rfl))
            change wpAnyH _ _ _ _ _ _ _ (Act.put _ (some 11) _) _
            try simp only [Act.put, List.setIfInBounds_toArray, List.set_cons_zero, List.set_cons_succ]
            refine wpAnyH_ready (rs := [10]) (by kernel_rfl) (by simp) ?_
            refine AllReadyH.cons (i := 10) rfl (fun K hK => ?_) AllReadyH.nil
            simp only [List.getElem_toArray, List.getElem_cons_succ, List.getElem_cons_zero]
            rw [if_pos (by rfl)]
            go_simp
            (go_at_call 53; refine (curPick 9 _ (Cur.alloc (Cur.alloc (hc_6) (.cells (#[.string ⟨#[]⟩, .string ⟨#[]⟩, .string ⟨#[32]⟩, .string ⟨#[120]⟩, .string ⟨#[101]⟩, .string ⟨#[32, 49]⟩, .string ⟨#[10]⟩, .string ⟨#[46]⟩, .string ⟨#[195, 169]⟩] : Array Value) 9)) (.cells (#[.string ⟨#[]⟩, .string ⟨#[]⟩, .string ⟨#[32]⟩, .string ⟨#[9, 10]⟩, .string ⟨#[13, 32]⟩] : Array Value) 9)) (by omega) (by omega)).mono ?_; rintro e w_10 ⟨r_10, rfl, hr_10, k_10, hk_10, hc_10, hg_10⟩; go_wp2_with fail)
            have hq_10 : (r_10 : Int) < 9 := by omega
            have hz_10 : (0 : Int) ≤ (r_10 : Int) := by omega
            obtain ⟨t_10, ht_10, hT_10⟩ := lit_pure (m := 2) (r := r_10) (cs := (#[.string ⟨#[]⟩, .string ⟨#[]⟩, .string ⟨#[32]⟩, .string ⟨#[120]⟩, .string ⟨#[101]⟩, .string ⟨#[32, 49]⟩, .string ⟨#[10]⟩, .string ⟨#[46]⟩, .string ⟨#[195, 169]⟩] : Array Value)) (by decide) (by show r_10 < 9; omega)
            have hsum2 : ¬ 9223372036854775807 < t_2.size + s_6.size + t_10.size := by omega
            refine hK.out _ _ ?_ (fun hHeld => ?_)
            · first | trivial | ((try dsimp only); exact ⟨⟨trivial, (hg_10.block _ (Array.getElem?_eq_some_iff.1 hHeld.1.2).1 (fun e => absurd (Option.some.inj e) (Nat.ne_of_gt hb_8))).trans hHeld.1.2⟩, (hg_10.block _ (Array.getElem?_eq_some_iff.1 hHeld.2).1 (fun e => absurd (Option.some.inj e) (Nat.ne_of_gt hb_0))).trans hHeld.2⟩)
            clear hK K
            try simp only [Act.put, List.setIfInBounds_toArray, List.set_cons_zero, List.set_cons_succ]
            refine wpAnyH_take (i := 11) (v := ?_) rfl (by kernel_rfl) (by kernel_rfl) (by kernel_rfl) (fun _ _ _ h => h) (Or.inl ⟨by rfl, ?_⟩) (by assumption) ?_
            rotate_left
            · (intro w' hSw; (try dsimp only at hSw); go_simp; try (with_reducible rfl))
            change wpAnyH _ _ _ _ _ _ _ (Act.put _ (some 15) _) _
            try simp only [Act.put, List.setIfInBounds_toArray, List.set_cons_zero, List.set_cons_succ]
            refine wpAnyH_take (i := 12) (v := ?_) rfl (by kernel_rfl) (by kernel_rfl) (by kernel_rfl) (fun _ _ _ h => h) (Or.inl ⟨by rfl, ?_⟩) (by assumption) ?_
            rotate_left
            · (intro w' hSw; (try dsimp only at hSw); have hcx := (cell_of_row _ _ r_10 _ _ _ (hSw.1.2)).trans hT_10; (try simp only [World.size_alloc] at hcx); go_simp; try (with_reducible rfl))
            change wpAnyH _ _ _ _ _ _ _ (Act.put _ (some 16) _) _
            try simp only [Act.put, List.setIfInBounds_toArray, List.set_cons_zero, List.set_cons_succ]
            refine wpAnyH_take (i := 13) (v := ?_) rfl (by kernel_rfl) (by kernel_rfl) (by kernel_rfl) (fun _ _ _ h => h) (Or.inl ⟨by rfl, ?_⟩) (by assumption) ?_
            rotate_left
            · (intro w' hSw; (try dsimp only at hSw); go_simp; try (with_reducible rfl))
            change wpAnyH _ _ _ _ _ _ _ (Act.put _ (some 17) _) _
            try simp only [Act.put, List.setIfInBounds_toArray, List.set_cons_zero, List.set_cons_succ]
            refine wpAnyH_take (i := 14) (v := ?_) rfl (by kernel_rfl) (by kernel_rfl) (by kernel_rfl) (fun _ _ _ h => h) (Or.inl ⟨by rfl, ?_⟩) (by assumption) ?_
            rotate_left
            · (intro w' hSw; (try dsimp only at hSw); go_simp; try (with_reducible rfl))
            change wpAnyH _ _ _ _ _ _ _ (Act.put _ (some 3) _) _
            try simp only [Act.put, List.setIfInBounds_toArray, List.set_cons_zero, List.set_cons_succ]
            refine wpAnyH_done (by kernel_rfl) ?_ _
            go_wp2
            go_meet
            case rel => exact ⟨t_2 ++ s_6 ++ t_10, k_10, rfl, by rw [ByteArray.size_append, ByteArray.size_append]; omega, by omega, hc_10, grown_trans (grown_alloc (grown_alloc (grown_trans (grown_trans (grown_drew (grown_refl w (some p))) hg_2) hg_6) _) _) hg_10⟩
          refine AllReadyH.cons (i := 10) rfl (fun K hK => ?_) ?_
          · simp only [List.getElem_toArray, List.getElem_cons_succ, List.getElem_cons_zero]
            rw [if_pos (by rfl)]
            go_simp
            (go_at_call 53; refine (curPick 9 _ (Cur.alloc (hc_6) (.cells (#[.string ⟨#[]⟩, .string ⟨#[]⟩, .string ⟨#[32]⟩, .string ⟨#[120]⟩, .string ⟨#[101]⟩, .string ⟨#[32, 49]⟩, .string ⟨#[10]⟩, .string ⟨#[46]⟩, .string ⟨#[195, 169]⟩] : Array Value) 9)) (by omega) (by omega)).mono ?_; rintro e w_10 ⟨r_10, rfl, hr_10, k_10, hk_10, hc_10, hg_10⟩; go_wp2_with fail)
            have hq_10 : (r_10 : Int) < 9 := by omega
            have hz_10 : (0 : Int) ≤ (r_10 : Int) := by omega
            obtain ⟨t_10, ht_10, hT_10⟩ := lit_pure (m := 2) (r := r_10) (cs := (#[.string ⟨#[]⟩, .string ⟨#[]⟩, .string ⟨#[32]⟩, .string ⟨#[120]⟩, .string ⟨#[101]⟩, .string ⟨#[32, 49]⟩, .string ⟨#[10]⟩, .string ⟨#[46]⟩, .string ⟨#[195, 169]⟩] : Array Value)) (by decide) (by show r_10 < 9; omega)
            have hsum2 : ¬ 9223372036854775807 < t_2.size + s_6.size + t_10.size := by omega
            refine hK.out _ _ ?_ (fun hHeld => ?_)
            · first | trivial | ((try dsimp only); exact ⟨trivial, (hg_10.block _ (Array.getElem?_eq_some_iff.1 hHeld.2).1 (fun e => absurd (Option.some.inj e) (Nat.ne_of_gt hb_8))).trans hHeld.2⟩)
            clear hK K
            try simp only [Act.put, List.setIfInBounds_toArray, List.set_cons_zero, List.set_cons_succ]
            refine wpAnyH_take (i := 11) (v := ?_) rfl (by kernel_rfl) (by kernel_rfl) (by kernel_rfl) (fun _ _ _ h => h) (Or.inl ⟨by rfl, ?_⟩) (by assumption) ?_
            rotate_left
            · (intro w' hSw; (try dsimp only at hSw); go_simp; try (with_reducible rfl))
            change wpAnyH _ _ _ _ _ _ _ (Act.put _ (some 15) _) _
            try simp only [Act.put, List.setIfInBounds_toArray, List.set_cons_zero, List.set_cons_succ]
            refine wpAnyH_take (i := 12) (v := ?_) rfl (by kernel_rfl) (by kernel_rfl) (by kernel_rfl) (fun _ _ _ h => h) (Or.inl ⟨by rfl, ?_⟩) (by assumption) ?_
            rotate_left
            · (intro w' hSw; (try dsimp only at hSw); have hcx := (cell_of_row _ _ r_10 _ _ _ (hSw.2)).trans hT_10; (try simp only [World.size_alloc] at hcx); go_simp; try (with_reducible rfl))
            change wpAnyH _ _ _ _ _ _ _ (Act.put _ (some 16) _) _
            try simp only [Act.put, List.setIfInBounds_toArray, List.set_cons_zero, List.set_cons_succ]
            refine wpAnyH_ready (rs := [0]) (by kernel_rfl) (by simp) ?_
            refine AllReadyH.cons (i := 0) rfl (fun K hK => ?_) AllReadyH.nil
            simp only [List.getElem_toArray, List.getElem_cons_succ, List.getElem_cons_zero]
            rw [if_pos (by rfl)]
            go_simp
            have hb_0 := (hc_10).lt.2
            refine hK.out _ _ ?_ (fun hHeld => ?_)
            · first | trivial | ((try dsimp only); exact ⟨trivial, ((ext_alloc _ _).block _ (Array.getElem?_eq_some_iff.1 hHeld.2).1).trans hHeld.2⟩)
            clear hK K
            try simp only [Act.put, List.setIfInBounds_toArray, List.set_cons_zero, List.set_cons_succ]
            refine wpAnyH_row (heap_alloc_new _ _) hHeld ?_
            intro hHeld
            refine wpAnyH_take (i := 3) (v := ?_) rfl (by kernel_rfl) (by kernel_rfl) (by kernel_rfl) (fun _ _ _ h => h) (Or.inl ⟨by rfl, ?_⟩) (by assumption) ?_
            rotate_left
            · (intro w' hSw; (try dsimp only at hSw); go_simp; try (with_reducible rfl))
            change wpAnyH _ _ _ _ _ _ _ (Act.put _ (some 7) _) _
            try simp only [Act.put, List.setIfInBounds_toArray, List.set_cons_zero, List.set_cons_succ]
            refine wpAnyH_take (i := 4) (v := ?_) rfl (by kernel_rfl) (by kernel_rfl) (by kernel_rfl) (fun _ _ _ h => h) (Or.inl ⟨by rfl, ?_⟩) (by assumption) ?_
            rotate_left
            · (intro w' hSw; (try dsimp only at hSw); have hcx := (cell_of_row _ _ r_2 _ _ _ (hSw.2)).trans hT_2; (try simp only [World.size_alloc] at hcx); go_simp; try (with_reducible rfl))
            change wpAnyH _ _ _ _ _ _ _ (Act.put _ (some 8) _) _
            try simp only [Act.put, List.setIfInBounds_toArray, List.set_cons_zero, List.set_cons_succ]
            refine wpAnyH_take (i := 7) (v := ?_) rfl (by kernel_rfl) (by kernel_rfl) (by kernel_rfl) (fun _ _ _ h => h) (Or.inl ⟨by rfl, ?_⟩) (by assumption) ?_
            rotate_left
            · (intro w' hSw; (try dsimp only at hSw); go_simp; try (with_reducible rfl))
            change wpAnyH _ _ _ _ _ _ _ (Act.put _ (some 11) _) _
            try simp only [Act.put, List.setIfInBounds_toArray, List.set_cons_zero, List.set_cons_succ]
            refine wpAnyH_take (i := 13) (v := ?_) rfl (by kernel_rfl) (by kernel_rfl) (by kernel_rfl) (fun _ _ _ h => h) (Or.inl ⟨by rfl, ?_⟩) (by assumption) ?_
            rotate_left
            · (intro w' hSw; (try dsimp only at hSw); go_simp; try (with_reducible rfl))
            change wpAnyH _ _ _ _ _ _ _ (Act.put _ (some 17) _) _
            try simp only [Act.put, List.setIfInBounds_toArray, List.set_cons_zero, List.set_cons_succ]
            refine wpAnyH_take (i := 14) (v := ?_) rfl (by kernel_rfl) (by kernel_rfl) (by kernel_rfl) (fun _ _ _ h => h) (Or.inl ⟨by rfl, ?_⟩) (by assumption) ?_
            rotate_left
            · (intro w' hSw; (try dsimp only at hSw); go_simp; try (with_reducible rfl))
            change wpAnyH _ _ _ _ _ _ _ (Act.put _ (some 3) _) _
            try simp only [Act.put, List.setIfInBounds_toArray, List.set_cons_zero, List.set_cons_succ]
            refine wpAnyH_done (by kernel_rfl) ?_ _
            go_wp2
            go_meet
            case rel => exact ⟨t_2 ++ s_6 ++ t_10, k_10, rfl, by rw [ByteArray.size_append, ByteArray.size_append]; omega, by omega, Cur.alloc (hc_10) (.cells (#[.string ⟨#[]⟩, .string ⟨#[]⟩, .string ⟨#[32]⟩, .string ⟨#[9, 10]⟩, .string ⟨#[13, 32]⟩] : Array Value) 9), grown_alloc (grown_trans (grown_alloc (grown_trans (grown_trans (grown_drew (grown_refl w (some p))) hg_2) hg_6) _) hg_10) _⟩
          exact AllReadyH.nil
        refine AllReadyH.cons (i := 10) rfl (fun K hK => ?_) ?_
        · simp only [List.getElem_toArray, List.getElem_cons_succ, List.getElem_cons_zero]
          rw [if_pos (by rfl)]
          go_simp
          (go_at_call 53; refine (curPick 9 _ (hc_6) (by omega) (by omega)).mono ?_; rintro e w_10 ⟨r_10, rfl, hr_10, k_10, hk_10, hc_10, hg_10⟩; go_wp2_with fail)
          have hq_10 : (r_10 : Int) < 9 := by omega
          have hz_10 : (0 : Int) ≤ (r_10 : Int) := by omega
          obtain ⟨t_10, ht_10, hT_10⟩ := lit_pure (m := 2) (r := r_10) (cs := (#[.string ⟨#[]⟩, .string ⟨#[]⟩, .string ⟨#[32]⟩, .string ⟨#[120]⟩, .string ⟨#[101]⟩, .string ⟨#[32, 49]⟩, .string ⟨#[10]⟩, .string ⟨#[46]⟩, .string ⟨#[195, 169]⟩] : Array Value)) (by decide) (by show r_10 < 9; omega)
          have hsum2 : ¬ 9223372036854775807 < t_2.size + s_6.size + t_10.size := by omega
          refine hK.out _ _ ?_ (fun hHeld => ?_)
          · first | trivial | ((try dsimp only); exact trivial)
          clear hK K
          try simp only [Act.put, List.setIfInBounds_toArray, List.set_cons_zero, List.set_cons_succ]
          refine wpAnyH_ready (rs := [0, 8]) (by kernel_rfl) (by simp) ?_
          refine AllReadyH.cons (i := 0) rfl (fun K hK => ?_) ?_
          · simp only [List.getElem_toArray, List.getElem_cons_succ, List.getElem_cons_zero]
            rw [if_pos (by rfl)]
            go_simp
            have hb_0 := (hc_10).lt.2
            refine hK.out _ _ ?_ (fun hHeld => ?_)
            · first | trivial | ((try dsimp only); exact trivial)
            clear hK K
            try simp only [Act.put, List.setIfInBounds_toArray, List.set_cons_zero, List.set_cons_succ]
            refine wpAnyH_row (heap_alloc_new _ _) hHeld ?_
            intro hHeld
            refine wpAnyH_take (i := 3) (v := ?_) rfl (by kernel_rfl) (by kernel_rfl) (by kernel_rfl) (fun _ _ _ h => h) (Or.inl ⟨by rfl, ?_⟩) (by assumption) ?_
            rotate_left
            · (intro w' hSw; (try dsimp only at hSw); go_simp; try (with_reducible rfl))
            change wpAnyH _ _ _ _ _ _ _ (Act.put _ (some 7) _) _
            try simp only [Act.put, List.setIfInBounds_toArray, List.set_cons_zero, List.set_cons_succ]
            refine wpAnyH_take (i := 4) (v := ?_) rfl (by kernel_rfl) (by kernel_rfl) (by kernel_rfl) (fun _ _ _ h => h) (Or.inl ⟨by rfl, ?_⟩) (by assumption) ?_
            rotate_left
            · (intro w' hSw; (try dsimp only at hSw); have hcx := (cell_of_row _ _ r_2 _ _ _ (hSw.2)).trans hT_2; (try simp only [World.size_alloc] at hcx); go_simp; try (with_reducible rfl))
            change wpAnyH _ _ _ _ _ _ _ (Act.put _ (some 8) _) _
            try simp only [Act.put, List.setIfInBounds_toArray, List.set_cons_zero, List.set_cons_succ]
            refine wpAnyH_take (i := 7) (v := ?_) rfl (by kernel_rfl) (by kernel_rfl) (by kernel_rfl) (fun _ _ _ h => h) (Or.inl ⟨by rfl, ?_⟩) (by assumption) ?_
            rotate_left
            · (intro w' hSw; (try dsimp only at hSw); go_simp; try (with_reducible rfl))
            change wpAnyH _ _ _ _ _ _ _ (Act.put _ (some 11) _) _
            try simp only [Act.put, List.setIfInBounds_toArray, List.set_cons_zero, List.set_cons_succ]
            refine wpAnyH_ready (rs := [8]) (by kernel_rfl) (by simp) ?_
            refine AllReadyH.cons (i := 8) rfl (fun K hK => ?_) AllReadyH.nil
            simp only [List.getElem_toArray, List.getElem_cons_succ, List.getElem_cons_zero]
            rw [if_pos (by rfl)]
            go_simp
            have hb_8 := (Cur.alloc (hc_10) (.cells (#[.string ⟨#[]⟩, .string ⟨#[]⟩, .string ⟨#[32]⟩, .string ⟨#[9, 10]⟩, .string ⟨#[13, 32]⟩] : Array Value) 9)).lt.2
            refine hK.out _ _ ?_ (fun hHeld => ?_)
            · first | trivial | ((try dsimp only); exact ⟨trivial, ((ext_alloc _ _).block _ (Array.getElem?_eq_some_iff.1 hHeld.2).1).trans hHeld.2⟩)
            clear hK K
            try simp only [Act.put, List.setIfInBounds_toArray, List.set_cons_zero, List.set_cons_succ]
            refine wpAnyH_row (heap_alloc_new _ _) hHeld ?_
            intro hHeld
            refine wpAnyH_take (i := 11) (v := ?_) rfl (by kernel_rfl) (by kernel_rfl) (by kernel_rfl) (fun _ _ _ h => h) (Or.inl ⟨by rfl, ?_⟩) (by assumption) ?_
            rotate_left
            · (intro w' hSw; (try dsimp only at hSw); go_simp; try (with_reducible rfl))
            change wpAnyH _ _ _ _ _ _ _ (Act.put _ (some 15) _) _
            try simp only [Act.put, List.setIfInBounds_toArray, List.set_cons_zero, List.set_cons_succ]
            refine wpAnyH_take (i := 12) (v := ?_) rfl (by kernel_rfl) (by kernel_rfl) (by kernel_rfl) (fun _ _ _ h => h) (Or.inl ⟨by rfl, ?_⟩) (by assumption) ?_
            rotate_left
            · (intro w' hSw; (try dsimp only at hSw); have hcx := (cell_of_row _ _ r_10 _ _ _ (hSw.2)).trans hT_10; (try simp only [World.size_alloc] at hcx); go_simp; try (with_reducible rfl))
            change wpAnyH _ _ _ _ _ _ _ (Act.put _ (some 16) _) _
            try simp only [Act.put, List.setIfInBounds_toArray, List.set_cons_zero, List.set_cons_succ]
            refine wpAnyH_take (i := 13) (v := ?_) rfl (by kernel_rfl) (by kernel_rfl) (by kernel_rfl) (fun _ _ _ h => h) (Or.inl ⟨by rfl, ?_⟩) (by assumption) ?_
            rotate_left
            · (intro w' hSw; (try dsimp only at hSw); go_simp; try (with_reducible rfl))
            change wpAnyH _ _ _ _ _ _ _ (Act.put _ (some 17) _) _
            try simp only [Act.put, List.setIfInBounds_toArray, List.set_cons_zero, List.set_cons_succ]
            refine wpAnyH_take (i := 14) (v := ?_) rfl (by kernel_rfl) (by kernel_rfl) (by kernel_rfl) (fun _ _ _ h => h) (Or.inl ⟨by rfl, ?_⟩) (by assumption) ?_
            rotate_left
            · (intro w' hSw; (try dsimp only at hSw); go_simp; try (with_reducible rfl))
            change wpAnyH _ _ _ _ _ _ _ (Act.put _ (some 3) _) _
            try simp only [Act.put, List.setIfInBounds_toArray, List.set_cons_zero, List.set_cons_succ]
            refine wpAnyH_done (by kernel_rfl) ?_ _
            go_wp2
            go_meet
            case rel => exact ⟨t_2 ++ s_6 ++ t_10, k_10, rfl, by rw [ByteArray.size_append, ByteArray.size_append]; omega, by omega, Cur.alloc (Cur.alloc (hc_10) (.cells (#[.string ⟨#[]⟩, .string ⟨#[]⟩, .string ⟨#[32]⟩, .string ⟨#[9, 10]⟩, .string ⟨#[13, 32]⟩] : Array Value) 9)) (.cells (#[.string ⟨#[]⟩, .string ⟨#[]⟩, .string ⟨#[32]⟩, .string ⟨#[120]⟩, .string ⟨#[101]⟩, .string ⟨#[32, 49]⟩, .string ⟨#[10]⟩, .string ⟨#[46]⟩, .string ⟨#[195, 169]⟩] : Array Value) 9), grown_alloc (grown_alloc (grown_trans (grown_trans (grown_trans (grown_drew (grown_refl w (some p))) hg_2) hg_6) hg_10) _) _⟩
          refine AllReadyH.cons (i := 8) rfl (fun K hK => ?_) ?_
          · simp only [List.getElem_toArray, List.getElem_cons_succ, List.getElem_cons_zero]
            rw [if_pos (by rfl)]
            go_simp
            have hb_8 := (hc_10).lt.2
            refine hK.out _ _ ?_ (fun hHeld => ?_)
            · first | trivial | ((try dsimp only); exact trivial)
            clear hK K
            try simp only [Act.put, List.setIfInBounds_toArray, List.set_cons_zero, List.set_cons_succ]
            refine wpAnyH_row (heap_alloc_new _ _) hHeld ?_
            intro hHeld
            refine wpAnyH_take (i := 11) (v := ?_) rfl (by kernel_rfl) (by kernel_rfl) (by kernel_rfl) (fun _ _ _ h => h) (Or.inl ⟨by rfl, ?_⟩) (by assumption) ?_
            rotate_left
            · (intro w' hSw; (try dsimp only at hSw); go_simp; try (with_reducible rfl))
            change wpAnyH _ _ _ _ _ _ _ (Act.put _ (some 15) _) _
            try simp only [Act.put, List.setIfInBounds_toArray, List.set_cons_zero, List.set_cons_succ]
            refine wpAnyH_take (i := 12) (v := ?_) rfl (by kernel_rfl) (by kernel_rfl) (by kernel_rfl) (fun _ _ _ h => h) (Or.inl ⟨by rfl, ?_⟩) (by assumption) ?_
            rotate_left
            · (intro w' hSw; (try dsimp only at hSw); have hcx := (cell_of_row _ _ r_10 _ _ _ (hSw.2)).trans hT_10; (try simp only [World.size_alloc] at hcx); go_simp; try (with_reducible rfl))
            change wpAnyH _ _ _ _ _ _ _ (Act.put _ (some 16) _) _
            try simp only [Act.put, List.setIfInBounds_toArray, List.set_cons_zero, List.set_cons_succ]
            refine wpAnyH_ready (rs := [0]) (by kernel_rfl) (by simp) ?_
            refine AllReadyH.cons (i := 0) rfl (fun K hK => ?_) AllReadyH.nil
            simp only [List.getElem_toArray, List.getElem_cons_succ, List.getElem_cons_zero]
            rw [if_pos (by rfl)]
            go_simp
            have hb_0 := (Cur.alloc (hc_10) (.cells (#[.string ⟨#[]⟩, .string ⟨#[]⟩, .string ⟨#[32]⟩, .string ⟨#[120]⟩, .string ⟨#[101]⟩, .string ⟨#[32, 49]⟩, .string ⟨#[10]⟩, .string ⟨#[46]⟩, .string ⟨#[195, 169]⟩] : Array Value) 9)).lt.2
            refine hK.out _ _ ?_ (fun hHeld => ?_)
            · first | trivial | ((try dsimp only); exact ⟨trivial, ((ext_alloc _ _).block _ (Array.getElem?_eq_some_iff.1 hHeld.2).1).trans hHeld.2⟩)
            clear hK K
            try simp only [Act.put, List.setIfInBounds_toArray, List.set_cons_zero, List.set_cons_succ]
            refine wpAnyH_row (heap_alloc_new _ _) hHeld ?_
            intro hHeld
            refine wpAnyH_take (i := 3) (v := ?_) rfl (by kernel_rfl) (by kernel_rfl) (by kernel_rfl) (fun _ _ _ h => h) (Or.inl ⟨by rfl, ?_⟩) (by assumption) ?_
            rotate_left
            · (intro w' hSw; (try dsimp only at hSw); go_simp; try (with_reducible rfl))
            change wpAnyH _ _ _ _ _ _ _ (Act.put _ (some 7) _) _
            try simp only [Act.put, List.setIfInBounds_toArray, List.set_cons_zero, List.set_cons_succ]
            refine wpAnyH_take (i := 4) (v := ?_) rfl (by kernel_rfl) (by kernel_rfl) (by kernel_rfl) (fun _ _ _ h => h) (Or.inl ⟨by rfl, ?_⟩) (by assumption) ?_
            rotate_left
            · (intro w' hSw; (try dsimp only at hSw); have hcx := (cell_of_row _ _ r_2 _ _ _ (hSw.2)).trans hT_2; (try simp only [World.size_alloc] at hcx); go_simp; try (with_reducible rfl))
            change wpAnyH _ _ _ _ _ _ _ (Act.put _ (some 8) _) _
            try simp only [Act.put, List.setIfInBounds_toArray, List.set_cons_zero, List.set_cons_succ]
            refine wpAnyH_take (i := 7) (v := ?_) rfl (by kernel_rfl) (by kernel_rfl) (by kernel_rfl) (fun _ _ _ h => h) (Or.inl ⟨by rfl, ?_⟩) (by assumption) ?_
            rotate_left
            · (intro w' hSw; (try dsimp only at hSw); go_simp; try (with_reducible rfl))
            change wpAnyH _ _ _ _ _ _ _ (Act.put _ (some 11) _) _
            try simp only [Act.put, List.setIfInBounds_toArray, List.set_cons_zero, List.set_cons_succ]
            refine wpAnyH_take (i := 13) (v := ?_) rfl (by kernel_rfl) (by kernel_rfl) (by kernel_rfl) (fun _ _ _ h => h) (Or.inl ⟨by rfl, ?_⟩) (by assumption) ?_
            rotate_left
            · (intro w' hSw; (try dsimp only at hSw); go_simp; try (with_reducible rfl))
            change wpAnyH _ _ _ _ _ _ _ (Act.put _ (some 17) _) _
            try simp only [Act.put, List.setIfInBounds_toArray, List.set_cons_zero, List.set_cons_succ]
            refine wpAnyH_take (i := 14) (v := ?_) rfl (by kernel_rfl) (by kernel_rfl) (by kernel_rfl) (fun _ _ _ h => h) (Or.inl ⟨by rfl, ?_⟩) (by assumption) ?_
            rotate_left
            · (intro w' hSw; (try dsimp only at hSw); go_simp; try (with_reducible rfl))
            change wpAnyH _ _ _ _ _ _ _ (Act.put _ (some 3) _) _
            try simp only [Act.put, List.setIfInBounds_toArray, List.set_cons_zero, List.set_cons_succ]
            refine wpAnyH_done (by kernel_rfl) ?_ _
            go_wp2
            go_meet
            case rel => exact ⟨t_2 ++ s_6 ++ t_10, k_10, rfl, by rw [ByteArray.size_append, ByteArray.size_append]; omega, by omega, Cur.alloc (Cur.alloc (hc_10) (.cells (#[.string ⟨#[]⟩, .string ⟨#[]⟩, .string ⟨#[32]⟩, .string ⟨#[120]⟩, .string ⟨#[101]⟩, .string ⟨#[32, 49]⟩, .string ⟨#[10]⟩, .string ⟨#[46]⟩, .string ⟨#[195, 169]⟩] : Array Value) 9)) (.cells (#[.string ⟨#[]⟩, .string ⟨#[]⟩, .string ⟨#[32]⟩, .string ⟨#[9, 10]⟩, .string ⟨#[13, 32]⟩] : Array Value) 9), grown_alloc (grown_alloc (grown_trans (grown_trans (grown_trans (grown_drew (grown_refl w (some p))) hg_2) hg_6) hg_10) _) _⟩
          exact AllReadyH.nil
        exact AllReadyH.nil
      refine AllReadyH.cons (i := 8) rfl (fun K hK => ?_) ?_
      · simp only [List.getElem_toArray, List.getElem_cons_succ, List.getElem_cons_zero]
        rw [if_pos (by rfl)]
        go_simp
        have hb_8 := (hc_2).lt.2
        refine hK.out _ _ ?_ (fun hHeld => ?_)
        · first | trivial | ((try dsimp only); exact trivial)
        clear hK K
        try simp only [Act.put, List.setIfInBounds_toArray, List.set_cons_zero, List.set_cons_succ]
        refine wpAnyH_row (heap_alloc_new _ _) hHeld ?_
        intro hHeld
        refine wpAnyH_ready (rs := [0, 6]) (by kernel_rfl) (by simp) ?_
        refine AllReadyH.cons (i := 0) rfl (fun K hK => ?_) ?_
        · simp only [List.getElem_toArray, List.getElem_cons_succ, List.getElem_cons_zero]
          rw [if_pos (by rfl)]
          go_simp
          have hb_0 := (Cur.alloc (hc_2) (.cells (#[.string ⟨#[]⟩, .string ⟨#[]⟩, .string ⟨#[32]⟩, .string ⟨#[120]⟩, .string ⟨#[101]⟩, .string ⟨#[32, 49]⟩, .string ⟨#[10]⟩, .string ⟨#[46]⟩, .string ⟨#[195, 169]⟩] : Array Value) 9)).lt.2
          refine hK.out _ _ ?_ (fun hHeld => ?_)
          · first | trivial | ((try dsimp only); exact ⟨trivial, ((ext_alloc _ _).block _ (Array.getElem?_eq_some_iff.1 hHeld.2).1).trans hHeld.2⟩)
          clear hK K
          try simp only [Act.put, List.setIfInBounds_toArray, List.set_cons_zero, List.set_cons_succ]
          refine wpAnyH_row (heap_alloc_new _ _) hHeld ?_
          intro hHeld
          refine wpAnyH_take (i := 3) (v := ?_) rfl (by kernel_rfl) (by kernel_rfl) (by kernel_rfl) (fun _ _ _ h => h) (Or.inl ⟨by rfl, ?_⟩) (by assumption) ?_
          rotate_left
          · (intro w' hSw; (try dsimp only at hSw); go_simp; try (with_reducible rfl))
          change wpAnyH _ _ _ _ _ _ _ (Act.put _ (some 7) _) _
          try simp only [Act.put, List.setIfInBounds_toArray, List.set_cons_zero, List.set_cons_succ]
          refine wpAnyH_take (i := 4) (v := ?_) rfl (by kernel_rfl) (by kernel_rfl) (by kernel_rfl) (fun _ _ _ h => h) (Or.inl ⟨by rfl, ?_⟩) (by assumption) ?_
          rotate_left
          · (intro w' hSw; (try dsimp only at hSw); have hcx := (cell_of_row _ _ r_2 _ _ _ (hSw.2)).trans hT_2; (try simp only [World.size_alloc] at hcx); go_simp; try (with_reducible rfl))
          change wpAnyH _ _ _ _ _ _ _ (Act.put _ (some 8) _) _
          try simp only [Act.put, List.setIfInBounds_toArray, List.set_cons_zero, List.set_cons_succ]
          refine wpAnyH_ready (rs := [6]) (by kernel_rfl) (by simp) ?_
          refine AllReadyH.cons (i := 6) rfl (fun K hK => ?_) AllReadyH.nil
          simp only [List.getElem_toArray, List.getElem_cons_succ, List.getElem_cons_zero]
          rw [if_pos (by rfl)]
          go_simp
          (go_at_call 84; refine (curNumText _ (Cur.alloc (Cur.alloc (hc_2) (.cells (#[.string ⟨#[]⟩, .string ⟨#[]⟩, .string ⟨#[32]⟩, .string ⟨#[120]⟩, .string ⟨#[101]⟩, .string ⟨#[32, 49]⟩, .string ⟨#[10]⟩, .string ⟨#[46]⟩, .string ⟨#[195, 169]⟩] : Array Value) 9)) (.cells (#[.string ⟨#[]⟩, .string ⟨#[]⟩, .string ⟨#[32]⟩, .string ⟨#[9, 10]⟩, .string ⟨#[13, 32]⟩] : Array Value) 9)) (by omega)).mono ?_; rintro e w_6 ⟨s_6, rfl, hs_6, k_6, hk_6, hc_6, hg_6⟩; go_wp2_with fail)
          have hsum1 : ¬ 9223372036854775807 < t_2.size + s_6.size := by omega
          refine hK.out _ _ ?_ (fun hHeld => ?_)
          · first | trivial | ((try dsimp only); exact ⟨⟨trivial, (hg_6.block _ (Array.getElem?_eq_some_iff.1 hHeld.1.2).1 (fun e => absurd (Option.some.inj e) (Nat.ne_of_gt hb_8))).trans hHeld.1.2⟩, (hg_6.block _ (Array.getElem?_eq_some_iff.1 hHeld.2).1 (fun e => absurd (Option.some.inj e) (Nat.ne_of_gt hb_0))).trans hHeld.2⟩)
          clear hK K
          try simp only [Act.put, List.setIfInBounds_toArray, List.set_cons_zero, List.set_cons_succ]
          refine wpAnyH_take (i := 7) (v := ?_) rfl (by kernel_rfl) (by kernel_rfl) (by kernel_rfl) (fun _ _ _ h => h) (Or.inl ⟨by rfl, ?_⟩) (by assumption) ?_
          rotate_left
          · (intro w' hSw; (try dsimp only at hSw); go_simp; try (with_reducible rfl))
          change wpAnyH _ _ _ _ _ _ _ (Act.put _ (some 11) _) _
          try simp only [Act.put, List.setIfInBounds_toArray, List.set_cons_zero, List.set_cons_succ]
          refine wpAnyH_ready (rs := [10]) (by kernel_rfl) (by simp) ?_
          refine AllReadyH.cons (i := 10) rfl (fun K hK => ?_) AllReadyH.nil
          simp only [List.getElem_toArray, List.getElem_cons_succ, List.getElem_cons_zero]
          rw [if_pos (by rfl)]
          go_simp
          (go_at_call 53; refine (curPick 9 _ (hc_6) (by omega) (by omega)).mono ?_; rintro e w_10 ⟨r_10, rfl, hr_10, k_10, hk_10, hc_10, hg_10⟩; go_wp2_with fail)
          have hq_10 : (r_10 : Int) < 9 := by omega
          have hz_10 : (0 : Int) ≤ (r_10 : Int) := by omega
          obtain ⟨t_10, ht_10, hT_10⟩ := lit_pure (m := 2) (r := r_10) (cs := (#[.string ⟨#[]⟩, .string ⟨#[]⟩, .string ⟨#[32]⟩, .string ⟨#[120]⟩, .string ⟨#[101]⟩, .string ⟨#[32, 49]⟩, .string ⟨#[10]⟩, .string ⟨#[46]⟩, .string ⟨#[195, 169]⟩] : Array Value)) (by decide) (by show r_10 < 9; omega)
          have hsum2 : ¬ 9223372036854775807 < t_2.size + s_6.size + t_10.size := by omega
          refine hK.out _ _ ?_ (fun hHeld => ?_)
          · first | trivial | ((try dsimp only); exact ⟨⟨trivial, (hg_10.block _ (Array.getElem?_eq_some_iff.1 hHeld.1.2).1 (fun e => absurd (Option.some.inj e) (Nat.ne_of_gt hb_8))).trans hHeld.1.2⟩, (hg_10.block _ (Array.getElem?_eq_some_iff.1 hHeld.2).1 (fun e => absurd (Option.some.inj e) (Nat.ne_of_gt hb_0))).trans hHeld.2⟩)
          clear hK K
          try simp only [Act.put, List.setIfInBounds_toArray, List.set_cons_zero, List.set_cons_succ]
          refine wpAnyH_take (i := 11) (v := ?_) rfl (by kernel_rfl) (by kernel_rfl) (by kernel_rfl) (fun _ _ _ h => h) (Or.inl ⟨by rfl, ?_⟩) (by assumption) ?_
          rotate_left
          · (intro w' hSw; (try dsimp only at hSw); go_simp; try (with_reducible rfl))
          change wpAnyH _ _ _ _ _ _ _ (Act.put _ (some 15) _) _
          try simp only [Act.put, List.setIfInBounds_toArray, List.set_cons_zero, List.set_cons_succ]
          refine wpAnyH_take (i := 12) (v := ?_) rfl (by kernel_rfl) (by kernel_rfl) (by kernel_rfl) (fun _ _ _ h => h) (Or.inl ⟨by rfl, ?_⟩) (by assumption) ?_
          rotate_left
          · (intro w' hSw; (try dsimp only at hSw); have hcx := (cell_of_row _ _ r_10 _ _ _ (hSw.1.2)).trans hT_10; (try simp only [World.size_alloc] at hcx); go_simp; try (with_reducible rfl))
          change wpAnyH _ _ _ _ _ _ _ (Act.put _ (some 16) _) _
          try simp only [Act.put, List.setIfInBounds_toArray, List.set_cons_zero, List.set_cons_succ]
          refine wpAnyH_take (i := 13) (v := ?_) rfl (by kernel_rfl) (by kernel_rfl) (by kernel_rfl) (fun _ _ _ h => h) (Or.inl ⟨by rfl, ?_⟩) (by assumption) ?_
          rotate_left
          · (intro w' hSw; (try dsimp only at hSw); go_simp; try (with_reducible rfl))
          change wpAnyH _ _ _ _ _ _ _ (Act.put _ (some 17) _) _
          try simp only [Act.put, List.setIfInBounds_toArray, List.set_cons_zero, List.set_cons_succ]
          refine wpAnyH_take (i := 14) (v := ?_) rfl (by kernel_rfl) (by kernel_rfl) (by kernel_rfl) (fun _ _ _ h => h) (Or.inl ⟨by rfl, ?_⟩) (by assumption) ?_
          rotate_left
          · (intro w' hSw; (try dsimp only at hSw); go_simp; try (with_reducible rfl))
          change wpAnyH _ _ _ _ _ _ _ (Act.put _ (some 3) _) _
          try simp only [Act.put, List.setIfInBounds_toArray, List.set_cons_zero, List.set_cons_succ]
          refine wpAnyH_done (by kernel_rfl) ?_ _
          go_wp2
          go_meet
          case rel => exact ⟨t_2 ++ s_6 ++ t_10, k_10, rfl, by rw [ByteArray.size_append, ByteArray.size_append]; omega, by omega, hc_10, grown_trans (grown_trans (grown_alloc (grown_alloc (grown_trans (grown_drew (grown_refl w (some p))) hg_2) _) _) hg_6) hg_10⟩
        refine AllReadyH.cons (i := 6) rfl (fun K hK => ?_) ?_
        · simp only [List.getElem_toArray, List.getElem_cons_succ, List.getElem_cons_zero]
          rw [if_pos (by rfl)]
          go_simp
          (go_at_call 84; refine (curNumText _ (Cur.alloc (hc_2) (.cells (#[.string ⟨#[]⟩, .string ⟨#[]⟩, .string ⟨#[32]⟩, .string ⟨#[120]⟩, .string ⟨#[101]⟩, .string ⟨#[32, 49]⟩, .string ⟨#[10]⟩, .string ⟨#[46]⟩, .string ⟨#[195, 169]⟩] : Array Value) 9)) (by omega)).mono ?_; rintro e w_6 ⟨s_6, rfl, hs_6, k_6, hk_6, hc_6, hg_6⟩; go_wp2_with fail)
          have hsum1 : ¬ 9223372036854775807 < t_2.size + s_6.size := by omega
          refine hK.out _ _ ?_ (fun hHeld => ?_)
          · first | trivial | ((try dsimp only); exact ⟨trivial, (hg_6.block _ (Array.getElem?_eq_some_iff.1 hHeld.2).1 (fun e => absurd (Option.some.inj e) (Nat.ne_of_gt hb_8))).trans hHeld.2⟩)
          clear hK K
          try simp only [Act.put, List.setIfInBounds_toArray, List.set_cons_zero, List.set_cons_succ]
          refine wpAnyH_ready (rs := [0, 10]) (by kernel_rfl) (by simp) ?_
          refine AllReadyH.cons (i := 0) rfl (fun K hK => ?_) ?_
          · simp only [List.getElem_toArray, List.getElem_cons_succ, List.getElem_cons_zero]
            rw [if_pos (by rfl)]
            go_simp
            have hb_0 := (hc_6).lt.2
            refine hK.out _ _ ?_ (fun hHeld => ?_)
            · first | trivial | ((try dsimp only); exact ⟨trivial, ((ext_alloc _ _).block _ (Array.getElem?_eq_some_iff.1 hHeld.2).1).trans hHeld.2⟩)
            clear hK K
            try simp only [Act.put, List.setIfInBounds_toArray, List.set_cons_zero, List.set_cons_succ]
            refine wpAnyH_row (heap_alloc_new _ _) hHeld ?_
            intro hHeld
            refine wpAnyH_take (i := 3) (v := ?_) rfl (by kernel_rfl) (by kernel_rfl) (by kernel_rfl) (fun _ _ _ h => h) (Or.inl ⟨by rfl, ?_⟩) (by assumption) ?_
            rotate_left
            · (intro w' hSw; (try dsimp only at hSw); go_simp; try (with_reducible rfl))
            change wpAnyH _ _ _ _ _ _ _ (Act.put _ (some 7) _) _
            try simp only [Act.put, List.setIfInBounds_toArray, List.set_cons_zero, List.set_cons_succ]
            refine wpAnyH_take (i := 4) (v := ?_) rfl (by kernel_rfl) (by kernel_rfl) (by kernel_rfl) (fun _ _ _ h => h) (Or.inl ⟨by rfl, ?_⟩) (by assumption) ?_
            rotate_left
            · (intro w' hSw; (try dsimp only at hSw); have hcx := (cell_of_row _ _ r_2 _ _ _ (hSw.2)).trans hT_2; (try simp only [World.size_alloc] at hcx); go_simp; try (with_reducible rfl))
            change wpAnyH _ _ _ _ _ _ _ (Act.put _ (some 8) _) _
            try simp only [Act.put, List.setIfInBounds_toArray, List.set_cons_zero, List.set_cons_succ]
            refine wpAnyH_take (i := 7) (v := ?_) rfl (by kernel_rfl) (by kernel_rfl) (by kernel_rfl) (fun _ _ _ h => h) (Or.inl ⟨by rfl, ?_⟩) (by assumption) ?_
            rotate_left
            · (intro w' hSw; (try dsimp only at hSw); go_simp; try (with_reducible rfl))
            change wpAnyH _ _ _ _ _ _ _ (Act.put _ (some 11) _) _
            try simp only [Act.put, List.setIfInBounds_toArray, List.set_cons_zero, List.set_cons_succ]
            refine wpAnyH_ready (rs := [10]) (by kernel_rfl) (by simp) ?_
            refine AllReadyH.cons (i := 10) rfl (fun K hK => ?_) AllReadyH.nil
            simp only [List.getElem_toArray, List.getElem_cons_succ, List.getElem_cons_zero]
            rw [if_pos (by rfl)]
            go_simp
            (go_at_call 53; refine (curPick 9 _ (Cur.alloc (hc_6) (.cells (#[.string ⟨#[]⟩, .string ⟨#[]⟩, .string ⟨#[32]⟩, .string ⟨#[9, 10]⟩, .string ⟨#[13, 32]⟩] : Array Value) 9)) (by omega) (by omega)).mono ?_; rintro e w_10 ⟨r_10, rfl, hr_10, k_10, hk_10, hc_10, hg_10⟩; go_wp2_with fail)
            have hq_10 : (r_10 : Int) < 9 := by omega
            have hz_10 : (0 : Int) ≤ (r_10 : Int) := by omega
            obtain ⟨t_10, ht_10, hT_10⟩ := lit_pure (m := 2) (r := r_10) (cs := (#[.string ⟨#[]⟩, .string ⟨#[]⟩, .string ⟨#[32]⟩, .string ⟨#[120]⟩, .string ⟨#[101]⟩, .string ⟨#[32, 49]⟩, .string ⟨#[10]⟩, .string ⟨#[46]⟩, .string ⟨#[195, 169]⟩] : Array Value)) (by decide) (by show r_10 < 9; omega)
            have hsum2 : ¬ 9223372036854775807 < t_2.size + s_6.size + t_10.size := by omega
            refine hK.out _ _ ?_ (fun hHeld => ?_)
            · first | trivial | ((try dsimp only); exact ⟨⟨trivial, (hg_10.block _ (Array.getElem?_eq_some_iff.1 hHeld.1.2).1 (fun e => absurd (Option.some.inj e) (Nat.ne_of_gt hb_8))).trans hHeld.1.2⟩, (hg_10.block _ (Array.getElem?_eq_some_iff.1 hHeld.2).1 (fun e => absurd (Option.some.inj e) (Nat.ne_of_gt hb_0))).trans hHeld.2⟩)
            clear hK K
            try simp only [Act.put, List.setIfInBounds_toArray, List.set_cons_zero, List.set_cons_succ]
            refine wpAnyH_take (i := 11) (v := ?_) rfl (by kernel_rfl) (by kernel_rfl) (by kernel_rfl) (fun _ _ _ h => h) (Or.inl ⟨by rfl, ?_⟩) (by assumption) ?_
            rotate_left
            · (intro w' hSw; (try dsimp only at hSw); go_simp; try (with_reducible rfl))
            change wpAnyH _ _ _ _ _ _ _ (Act.put _ (some 15) _) _
            try simp only [Act.put, List.setIfInBounds_toArray, List.set_cons_zero, List.set_cons_succ]
            refine wpAnyH_take (i := 12) (v := ?_) rfl (by kernel_rfl) (by kernel_rfl) (by kernel_rfl) (fun _ _ _ h => h) (Or.inl ⟨by rfl, ?_⟩) (by assumption) ?_
            rotate_left
            · (intro w' hSw; (try dsimp only at hSw); have hcx := (cell_of_row _ _ r_10 _ _ _ (hSw.1.2)).trans hT_10; (try simp only [World.size_alloc] at hcx); go_simp; try (with_reducible rfl))
            change wpAnyH _ _ _ _ _ _ _ (Act.put _ (some 16) _) _
            try simp only [Act.put, List.setIfInBounds_toArray, List.set_cons_zero, List.set_cons_succ]
            refine wpAnyH_take (i := 13) (v := ?_) rfl (by kernel_rfl) (by kernel_rfl) (by kernel_rfl) (fun _ _ _ h => h) (Or.inl ⟨by rfl, ?_⟩) (by assumption) ?_
            rotate_left
            · (intro w' hSw; (try dsimp only at hSw); go_simp; try (with_reducible rfl))
            change wpAnyH _ _ _ _ _ _ _ (Act.put _ (some 17) _) _
            try simp only [Act.put, List.setIfInBounds_toArray, List.set_cons_zero, List.set_cons_succ]
            refine wpAnyH_take (i := 14) (v := ?_) rfl (by kernel_rfl) (by kernel_rfl) (by kernel_rfl) (fun _ _ _ h => h) (Or.inl ⟨by rfl, ?_⟩) (by assumption) ?_
            rotate_left
            · (intro w' hSw; (try dsimp only at hSw); go_simp; try (with_reducible rfl))
            change wpAnyH _ _ _ _ _ _ _ (Act.put _ (some 3) _) _
            try simp only [Act.put, List.setIfInBounds_toArray, List.set_cons_zero, List.set_cons_succ]
            refine wpAnyH_done (by kernel_rfl) ?_ _
            go_wp2
            go_meet
            case rel => exact ⟨t_2 ++ s_6 ++ t_10, k_10, rfl, by rw [ByteArray.size_append, ByteArray.size_append]; omega, by omega, hc_10, grown_trans (grown_alloc (grown_trans (grown_alloc (grown_trans (grown_drew (grown_refl w (some p))) hg_2) _) hg_6) _) hg_10⟩
          refine AllReadyH.cons (i := 10) rfl (fun K hK => ?_) ?_
          · simp only [List.getElem_toArray, List.getElem_cons_succ, List.getElem_cons_zero]
            rw [if_pos (by rfl)]
            go_simp
            (go_at_call 53; refine (curPick 9 _ (hc_6) (by omega) (by omega)).mono ?_; rintro e w_10 ⟨r_10, rfl, hr_10, k_10, hk_10, hc_10, hg_10⟩; go_wp2_with fail)
            have hq_10 : (r_10 : Int) < 9 := by omega
            have hz_10 : (0 : Int) ≤ (r_10 : Int) := by omega
            obtain ⟨t_10, ht_10, hT_10⟩ := lit_pure (m := 2) (r := r_10) (cs := (#[.string ⟨#[]⟩, .string ⟨#[]⟩, .string ⟨#[32]⟩, .string ⟨#[120]⟩, .string ⟨#[101]⟩, .string ⟨#[32, 49]⟩, .string ⟨#[10]⟩, .string ⟨#[46]⟩, .string ⟨#[195, 169]⟩] : Array Value)) (by decide) (by show r_10 < 9; omega)
            have hsum2 : ¬ 9223372036854775807 < t_2.size + s_6.size + t_10.size := by omega
            refine hK.out _ _ ?_ (fun hHeld => ?_)
            · first | trivial | ((try dsimp only); exact ⟨trivial, (hg_10.block _ (Array.getElem?_eq_some_iff.1 hHeld.2).1 (fun e => absurd (Option.some.inj e) (Nat.ne_of_gt hb_8))).trans hHeld.2⟩)
            clear hK K
            try simp only [Act.put, List.setIfInBounds_toArray, List.set_cons_zero, List.set_cons_succ]
            refine wpAnyH_take (i := 11) (v := ?_) rfl (by kernel_rfl) (by kernel_rfl) (by kernel_rfl) (fun _ _ _ h => h) (Or.inl ⟨by rfl, ?_⟩) (by assumption) ?_
            rotate_left
            · (intro w' hSw; (try dsimp only at hSw); go_simp; try (with_reducible rfl))
            change wpAnyH _ _ _ _ _ _ _ (Act.put _ (some 15) _) _
            try simp only [Act.put, List.setIfInBounds_toArray, List.set_cons_zero, List.set_cons_succ]
            refine wpAnyH_take (i := 12) (v := ?_) rfl (by kernel_rfl) (by kernel_rfl) (by kernel_rfl) (fun _ _ _ h => h) (Or.inl ⟨by rfl, ?_⟩) (by assumption) ?_
            rotate_left
            · (intro w' hSw; (try dsimp only at hSw); have hcx := (cell_of_row _ _ r_10 _ _ _ (hSw.2)).trans hT_10; (try simp only [World.size_alloc] at hcx); go_simp; try (with_reducible rfl))
            change wpAnyH _ _ _ _ _ _ _ (Act.put _ (some 16) _) _
            try simp only [Act.put, List.setIfInBounds_toArray, List.set_cons_zero, List.set_cons_succ]
            refine wpAnyH_ready (rs := [0]) (by kernel_rfl) (by simp) ?_
            refine AllReadyH.cons (i := 0) rfl (fun K hK => ?_) AllReadyH.nil
            simp only [List.getElem_toArray, List.getElem_cons_succ, List.getElem_cons_zero]
            rw [if_pos (by rfl)]
            go_simp
            have hb_0 := (hc_10).lt.2
            refine hK.out _ _ ?_ (fun hHeld => ?_)
            · first | trivial | ((try dsimp only); exact ⟨trivial, ((ext_alloc _ _).block _ (Array.getElem?_eq_some_iff.1 hHeld.2).1).trans hHeld.2⟩)
            clear hK K
            try simp only [Act.put, List.setIfInBounds_toArray, List.set_cons_zero, List.set_cons_succ]
            refine wpAnyH_row (heap_alloc_new _ _) hHeld ?_
            intro hHeld
            refine wpAnyH_take (i := 3) (v := ?_) rfl (by kernel_rfl) (by kernel_rfl) (by kernel_rfl) (fun _ _ _ h => h) (Or.inl ⟨by rfl, ?_⟩) (by assumption) ?_
            rotate_left
            · (intro w' hSw; (try dsimp only at hSw); go_simp; try (with_reducible rfl))
            change wpAnyH _ _ _ _ _ _ _ (Act.put _ (some 7) _) _
            try simp only [Act.put, List.setIfInBounds_toArray, List.set_cons_zero, List.set_cons_succ]
            refine wpAnyH_take (i := 4) (v := ?_) rfl (by kernel_rfl) (by kernel_rfl) (by kernel_rfl) (fun _ _ _ h => h) (Or.inl ⟨by rfl, ?_⟩) (by assumption) ?_
            rotate_left
            · (intro w' hSw; (try dsimp only at hSw); have hcx := (cell_of_row _ _ r_2 _ _ _ (hSw.2)).trans hT_2; (try simp only [World.size_alloc] at hcx); go_simp; try (with_reducible rfl))
            change wpAnyH _ _ _ _ _ _ _ (Act.put _ (some 8) _) _
            try simp only [Act.put, List.setIfInBounds_toArray, List.set_cons_zero, List.set_cons_succ]
            refine wpAnyH_take (i := 7) (v := ?_) rfl (by kernel_rfl) (by kernel_rfl) (by kernel_rfl) (fun _ _ _ h => h) (Or.inl ⟨by rfl, ?_⟩) (by assumption) ?_
            rotate_left
            · (intro w' hSw; (try dsimp only at hSw); go_simp; try (with_reducible rfl))
            change wpAnyH _ _ _ _ _ _ _ (Act.put _ (some 11) _) _
            try simp only [Act.put, List.setIfInBounds_toArray, List.set_cons_zero, List.set_cons_succ]
            refine wpAnyH_take (i := 13) (v := ?_) rfl (by kernel_rfl) (by kernel_rfl) (by kernel_rfl) (fun _ _ _ h => h) (Or.inl ⟨by rfl, ?_⟩) (by assumption) ?_
            rotate_left
            · (intro w' hSw; (try dsimp only at hSw); go_simp; try (with_reducible rfl))
            change wpAnyH _ _ _ _ _ _ _ (Act.put _ (some 17) _) _
            try simp only [Act.put, List.setIfInBounds_toArray, List.set_cons_zero, List.set_cons_succ]
            refine wpAnyH_take (i := 14) (v := ?_) rfl (by kernel_rfl) (by kernel_rfl) (by kernel_rfl) (fun _ _ _ h => h) (Or.inl ⟨by rfl, ?_⟩) (by assumption) ?_
            rotate_left
            · (intro w' hSw; (try dsimp only at hSw); go_simp; try (with_reducible rfl))
            change wpAnyH _ _ _ _ _ _ _ (Act.put _ (some 3) _) _
            try simp only [Act.put, List.setIfInBounds_toArray, List.set_cons_zero, List.set_cons_succ]
            refine wpAnyH_done (by kernel_rfl) ?_ _
            go_wp2
            go_meet
            case rel => exact ⟨t_2 ++ s_6 ++ t_10, k_10, rfl, by rw [ByteArray.size_append, ByteArray.size_append]; omega, by omega, Cur.alloc (hc_10) (.cells (#[.string ⟨#[]⟩, .string ⟨#[]⟩, .string ⟨#[32]⟩, .string ⟨#[9, 10]⟩, .string ⟨#[13, 32]⟩] : Array Value) 9), grown_alloc (grown_trans (grown_trans (grown_alloc (grown_trans (grown_drew (grown_refl w (some p))) hg_2) _) hg_6) hg_10) _⟩
          exact AllReadyH.nil
        exact AllReadyH.nil
      exact AllReadyH.nil
    refine AllReadyH.cons (i := 8) rfl (fun K hK => ?_) ?_
    · simp only [List.getElem_toArray, List.getElem_cons_succ, List.getElem_cons_zero]
      rw [if_pos (by rfl)]
      go_simp
      have hb_8 := (Cur.drew hc).lt.2
      refine hK.out _ _ ?_ (fun hHeld => ?_)
      · first | trivial | ((try dsimp only); exact trivial)
      clear hK K
      try simp only [Act.put, List.setIfInBounds_toArray, List.set_cons_zero, List.set_cons_succ]
      refine wpAnyH_row (heap_alloc_new _ _) hHeld ?_
      intro hHeld
      refine wpAnyH_ready (rs := [0, 2]) (by kernel_rfl) (by simp) ?_
      refine AllReadyH.cons (i := 0) rfl (fun K hK => ?_) ?_
      · simp only [List.getElem_toArray, List.getElem_cons_succ, List.getElem_cons_zero]
        rw [if_pos (by rfl)]
        go_simp
        have hb_0 := (Cur.alloc (Cur.drew hc) (.cells (#[.string ⟨#[]⟩, .string ⟨#[]⟩, .string ⟨#[32]⟩, .string ⟨#[120]⟩, .string ⟨#[101]⟩, .string ⟨#[32, 49]⟩, .string ⟨#[10]⟩, .string ⟨#[46]⟩, .string ⟨#[195, 169]⟩] : Array Value) 9)).lt.2
        refine hK.out _ _ ?_ (fun hHeld => ?_)
        · first | trivial | ((try dsimp only); exact ⟨trivial, ((ext_alloc _ _).block _ (Array.getElem?_eq_some_iff.1 hHeld.2).1).trans hHeld.2⟩)
        clear hK K
        try simp only [Act.put, List.setIfInBounds_toArray, List.set_cons_zero, List.set_cons_succ]
        refine wpAnyH_row (heap_alloc_new _ _) hHeld ?_
        intro hHeld
        refine wpAnyH_ready (rs := [2]) (by kernel_rfl) (by simp) ?_
        refine AllReadyH.cons (i := 2) rfl (fun K hK => ?_) AllReadyH.nil
        simp only [List.getElem_toArray, List.getElem_cons_succ, List.getElem_cons_zero]
        rw [if_pos (by rfl)]
        go_simp
        (go_at_call 53; refine (curPick 5 _ (Cur.alloc (Cur.alloc (Cur.drew hc) (.cells (#[.string ⟨#[]⟩, .string ⟨#[]⟩, .string ⟨#[32]⟩, .string ⟨#[120]⟩, .string ⟨#[101]⟩, .string ⟨#[32, 49]⟩, .string ⟨#[10]⟩, .string ⟨#[46]⟩, .string ⟨#[195, 169]⟩] : Array Value) 9)) (.cells (#[.string ⟨#[]⟩, .string ⟨#[]⟩, .string ⟨#[32]⟩, .string ⟨#[9, 10]⟩, .string ⟨#[13, 32]⟩] : Array Value) 9)) (by omega) (by omega)).mono ?_; rintro e w_2 ⟨r_2, rfl, hr_2, k_2, hk_2, hc_2, hg_2⟩; go_wp2_with fail)
        have hq_2 : (r_2 : Int) < 5 := by omega
        have hz_2 : (0 : Int) ≤ (r_2 : Int) := by omega
        obtain ⟨t_2, ht_2, hT_2⟩ := lit_pure (m := 2) (r := r_2) (cs := (#[.string ⟨#[]⟩, .string ⟨#[]⟩, .string ⟨#[32]⟩, .string ⟨#[9, 10]⟩, .string ⟨#[13, 32]⟩] : Array Value)) (by decide) (by show r_2 < 5; omega)
        refine hK.out _ _ ?_ (fun hHeld => ?_)
        · first | trivial | ((try dsimp only); exact ⟨⟨trivial, (hg_2.block _ (Array.getElem?_eq_some_iff.1 hHeld.1.2).1 (fun e => absurd (Option.some.inj e) (Nat.ne_of_gt hb_8))).trans hHeld.1.2⟩, (hg_2.block _ (Array.getElem?_eq_some_iff.1 hHeld.2).1 (fun e => absurd (Option.some.inj e) (Nat.ne_of_gt hb_0))).trans hHeld.2⟩)
        clear hK K
        try simp only [Act.put, List.setIfInBounds_toArray, List.set_cons_zero, List.set_cons_succ]
        refine wpAnyH_take (i := 3) (v := ?_) rfl (by kernel_rfl) (by kernel_rfl) (by kernel_rfl) (fun _ _ _ h => h) (Or.inl ⟨by rfl, ?_⟩) (by assumption) ?_
        rotate_left
        · (intro w' hSw; (try dsimp only at hSw); go_simp; try (with_reducible rfl))
        change wpAnyH _ _ _ _ _ _ _ (Act.put _ (some 7) _) _
        try simp only [Act.put, List.setIfInBounds_toArray, List.set_cons_zero, List.set_cons_succ]
        refine wpAnyH_take (i := 4) (v := ?_) rfl (by kernel_rfl) (by kernel_rfl) (by kernel_rfl) (fun _ _ _ h => h) (Or.inl ⟨by rfl, ?_⟩) (by assumption) ?_
        rotate_left
        · (intro w' hSw; (try dsimp only at hSw); have hcx := (cell_of_row _ _ r_2 _ _ _ (hSw.2)).trans hT_2; (try simp only [World.size_alloc] at hcx); go_simp; try (with_reducible rfl))
        change wpAnyH _ _ _ _ _ _ _ (Act.put _ (some 8) _) _
        try simp only [Act.put, List.setIfInBounds_toArray, List.set_cons_zero, List.set_cons_succ]
        refine wpAnyH_ready (rs := [6]) (by kernel_rfl) (by simp) ?_
        refine AllReadyH.cons (i := 6) rfl (fun K hK => ?_) AllReadyH.nil
        simp only [List.getElem_toArray, List.getElem_cons_succ, List.getElem_cons_zero]
        rw [if_pos (by rfl)]
        go_simp
        (go_at_call 84; refine (curNumText _ (hc_2) (by omega)).mono ?_; rintro e w_6 ⟨s_6, rfl, hs_6, k_6, hk_6, hc_6, hg_6⟩; go_wp2_with fail)
        have hsum1 : ¬ 9223372036854775807 < t_2.size + s_6.size := by omega
        refine hK.out _ _ ?_ (fun hHeld => ?_)
        · first | trivial | ((try dsimp only); exact ⟨⟨trivial, (hg_6.block _ (Array.getElem?_eq_some_iff.1 hHeld.1.2).1 (fun e => absurd (Option.some.inj e) (Nat.ne_of_gt hb_8))).trans hHeld.1.2⟩, (hg_6.block _ (Array.getElem?_eq_some_iff.1 hHeld.2).1 (fun e => absurd (Option.some.inj e) (Nat.ne_of_gt hb_0))).trans hHeld.2⟩)
        clear hK K
        try simp only [Act.put, List.setIfInBounds_toArray, List.set_cons_zero, List.set_cons_succ]
        refine wpAnyH_take (i := 7) (v := ?_) rfl (by kernel_rfl) (by kernel_rfl) (by kernel_rfl) (fun _ _ _ h => h) (Or.inl ⟨by rfl, ?_⟩) (by assumption) ?_
        rotate_left
        · (intro w' hSw; (try dsimp only at hSw); go_simp; try (with_reducible rfl))
        change wpAnyH _ _ _ _ _ _ _ (Act.put _ (some 11) _) _
        try simp only [Act.put, List.setIfInBounds_toArray, List.set_cons_zero, List.set_cons_succ]
        refine wpAnyH_ready (rs := [10]) (by kernel_rfl) (by simp) ?_
        refine AllReadyH.cons (i := 10) rfl (fun K hK => ?_) AllReadyH.nil
        simp only [List.getElem_toArray, List.getElem_cons_succ, List.getElem_cons_zero]
        rw [if_pos (by rfl)]
        go_simp
        (go_at_call 53; refine (curPick 9 _ (hc_6) (by omega) (by omega)).mono ?_; rintro e w_10 ⟨r_10, rfl, hr_10, k_10, hk_10, hc_10, hg_10⟩; go_wp2_with fail)
        have hq_10 : (r_10 : Int) < 9 := by omega
        have hz_10 : (0 : Int) ≤ (r_10 : Int) := by omega
        obtain ⟨t_10, ht_10, hT_10⟩ := lit_pure (m := 2) (r := r_10) (cs := (#[.string ⟨#[]⟩, .string ⟨#[]⟩, .string ⟨#[32]⟩, .string ⟨#[120]⟩, .string ⟨#[101]⟩, .string ⟨#[32, 49]⟩, .string ⟨#[10]⟩, .string ⟨#[46]⟩, .string ⟨#[195, 169]⟩] : Array Value)) (by decide) (by show r_10 < 9; omega)
        have hsum2 : ¬ 9223372036854775807 < t_2.size + s_6.size + t_10.size := by omega
        refine hK.out _ _ ?_ (fun hHeld => ?_)
        · first | trivial | ((try dsimp only); exact ⟨⟨trivial, (hg_10.block _ (Array.getElem?_eq_some_iff.1 hHeld.1.2).1 (fun e => absurd (Option.some.inj e) (Nat.ne_of_gt hb_8))).trans hHeld.1.2⟩, (hg_10.block _ (Array.getElem?_eq_some_iff.1 hHeld.2).1 (fun e => absurd (Option.some.inj e) (Nat.ne_of_gt hb_0))).trans hHeld.2⟩)
        clear hK K
        try simp only [Act.put, List.setIfInBounds_toArray, List.set_cons_zero, List.set_cons_succ]
        refine wpAnyH_take (i := 11) (v := ?_) rfl (by kernel_rfl) (by kernel_rfl) (by kernel_rfl) (fun _ _ _ h => h) (Or.inl ⟨by rfl, ?_⟩) (by assumption) ?_
        rotate_left
        · (intro w' hSw; (try dsimp only at hSw); go_simp; try (with_reducible rfl))
        change wpAnyH _ _ _ _ _ _ _ (Act.put _ (some 15) _) _
        try simp only [Act.put, List.setIfInBounds_toArray, List.set_cons_zero, List.set_cons_succ]
        refine wpAnyH_take (i := 12) (v := ?_) rfl (by kernel_rfl) (by kernel_rfl) (by kernel_rfl) (fun _ _ _ h => h) (Or.inl ⟨by rfl, ?_⟩) (by assumption) ?_
        rotate_left
        · (intro w' hSw; (try dsimp only at hSw); have hcx := (cell_of_row _ _ r_10 _ _ _ (hSw.1.2)).trans hT_10; (try simp only [World.size_alloc] at hcx); go_simp; try (with_reducible rfl))
        change wpAnyH _ _ _ _ _ _ _ (Act.put _ (some 16) _) _
        try simp only [Act.put, List.setIfInBounds_toArray, List.set_cons_zero, List.set_cons_succ]
        refine wpAnyH_take (i := 13) (v := ?_) rfl (by kernel_rfl) (by kernel_rfl) (by kernel_rfl) (fun _ _ _ h => h) (Or.inl ⟨by rfl, ?_⟩) (by assumption) ?_
        rotate_left
        · (intro w' hSw; (try dsimp only at hSw); go_simp; try (with_reducible rfl))
        change wpAnyH _ _ _ _ _ _ _ (Act.put _ (some 17) _) _
        try simp only [Act.put, List.setIfInBounds_toArray, List.set_cons_zero, List.set_cons_succ]
        refine wpAnyH_take (i := 14) (v := ?_) rfl (by kernel_rfl) (by kernel_rfl) (by kernel_rfl) (fun _ _ _ h => h) (Or.inl ⟨by rfl, ?_⟩) (by assumption) ?_
        rotate_left
        · (intro w' hSw; (try dsimp only at hSw); go_simp; try (with_reducible rfl))
        change wpAnyH _ _ _ _ _ _ _ (Act.put _ (some 3) _) _
        try simp only [Act.put, List.setIfInBounds_toArray, List.set_cons_zero, List.set_cons_succ]
        refine wpAnyH_done (by kernel_rfl) ?_ _
        go_wp2
        go_meet
        case rel => exact ⟨t_2 ++ s_6 ++ t_10, k_10, rfl, by rw [ByteArray.size_append, ByteArray.size_append]; omega, by omega, hc_10, grown_trans (grown_trans (grown_trans (grown_alloc (grown_alloc (grown_drew (grown_refl w (some p))) _) _) hg_2) hg_6) hg_10⟩
      refine AllReadyH.cons (i := 2) rfl (fun K hK => ?_) ?_
      · simp only [List.getElem_toArray, List.getElem_cons_succ, List.getElem_cons_zero]
        rw [if_pos (by rfl)]
        go_simp
        (go_at_call 53; refine (curPick 5 _ (Cur.alloc (Cur.drew hc) (.cells (#[.string ⟨#[]⟩, .string ⟨#[]⟩, .string ⟨#[32]⟩, .string ⟨#[120]⟩, .string ⟨#[101]⟩, .string ⟨#[32, 49]⟩, .string ⟨#[10]⟩, .string ⟨#[46]⟩, .string ⟨#[195, 169]⟩] : Array Value) 9)) (by omega) (by omega)).mono ?_; rintro e w_2 ⟨r_2, rfl, hr_2, k_2, hk_2, hc_2, hg_2⟩; go_wp2_with fail)
        have hq_2 : (r_2 : Int) < 5 := by omega
        have hz_2 : (0 : Int) ≤ (r_2 : Int) := by omega
        obtain ⟨t_2, ht_2, hT_2⟩ := lit_pure (m := 2) (r := r_2) (cs := (#[.string ⟨#[]⟩, .string ⟨#[]⟩, .string ⟨#[32]⟩, .string ⟨#[9, 10]⟩, .string ⟨#[13, 32]⟩] : Array Value)) (by decide) (by show r_2 < 5; omega)
        refine hK.out _ _ ?_ (fun hHeld => ?_)
        · first | trivial | ((try dsimp only); exact ⟨trivial, (hg_2.block _ (Array.getElem?_eq_some_iff.1 hHeld.2).1 (fun e => absurd (Option.some.inj e) (Nat.ne_of_gt hb_8))).trans hHeld.2⟩)
        clear hK K
        try simp only [Act.put, List.setIfInBounds_toArray, List.set_cons_zero, List.set_cons_succ]
        refine wpAnyH_ready (rs := [0, 6]) (by kernel_rfl) (by simp) ?_
        refine AllReadyH.cons (i := 0) rfl (fun K hK => ?_) ?_
        · simp only [List.getElem_toArray, List.getElem_cons_succ, List.getElem_cons_zero]
          rw [if_pos (by rfl)]
          go_simp
          have hb_0 := (hc_2).lt.2
          refine hK.out _ _ ?_ (fun hHeld => ?_)
          · first | trivial | ((try dsimp only); exact ⟨trivial, ((ext_alloc _ _).block _ (Array.getElem?_eq_some_iff.1 hHeld.2).1).trans hHeld.2⟩)
          clear hK K
          try simp only [Act.put, List.setIfInBounds_toArray, List.set_cons_zero, List.set_cons_succ]
          refine wpAnyH_row (heap_alloc_new _ _) hHeld ?_
          intro hHeld
          refine wpAnyH_take (i := 3) (v := ?_) rfl (by kernel_rfl) (by kernel_rfl) (by kernel_rfl) (fun _ _ _ h => h) (Or.inl ⟨by rfl, ?_⟩) (by assumption) ?_
          rotate_left
          · (intro w' hSw; (try dsimp only at hSw); go_simp; try (with_reducible rfl))
          change wpAnyH _ _ _ _ _ _ _ (Act.put _ (some 7) _) _
          try simp only [Act.put, List.setIfInBounds_toArray, List.set_cons_zero, List.set_cons_succ]
          refine wpAnyH_take (i := 4) (v := ?_) rfl (by kernel_rfl) (by kernel_rfl) (by kernel_rfl) (fun _ _ _ h => h) (Or.inl ⟨by rfl, ?_⟩) (by assumption) ?_
          rotate_left
          · (intro w' hSw; (try dsimp only at hSw); have hcx := (cell_of_row _ _ r_2 _ _ _ (hSw.2)).trans hT_2; (try simp only [World.size_alloc] at hcx); go_simp; try (with_reducible rfl))
          change wpAnyH _ _ _ _ _ _ _ (Act.put _ (some 8) _) _
          try simp only [Act.put, List.setIfInBounds_toArray, List.set_cons_zero, List.set_cons_succ]
          refine wpAnyH_ready (rs := [6]) (by kernel_rfl) (by simp) ?_
          refine AllReadyH.cons (i := 6) rfl (fun K hK => ?_) AllReadyH.nil
          simp only [List.getElem_toArray, List.getElem_cons_succ, List.getElem_cons_zero]
          rw [if_pos (by rfl)]
          go_simp
          (go_at_call 84; refine (curNumText _ (Cur.alloc (hc_2) (.cells (#[.string ⟨#[]⟩, .string ⟨#[]⟩, .string ⟨#[32]⟩, .string ⟨#[9, 10]⟩, .string ⟨#[13, 32]⟩] : Array Value) 9)) (by omega)).mono ?_; rintro e w_6 ⟨s_6, rfl, hs_6, k_6, hk_6, hc_6, hg_6⟩; go_wp2_with fail)
          have hsum1 : ¬ 9223372036854775807 < t_2.size + s_6.size := by omega
          refine hK.out _ _ ?_ (fun hHeld => ?_)
          · first | trivial | ((try dsimp only); exact ⟨⟨trivial, (hg_6.block _ (Array.getElem?_eq_some_iff.1 hHeld.1.2).1 (fun e => absurd (Option.some.inj e) (Nat.ne_of_gt hb_8))).trans hHeld.1.2⟩, (hg_6.block _ (Array.getElem?_eq_some_iff.1 hHeld.2).1 (fun e => absurd (Option.some.inj e) (Nat.ne_of_gt hb_0))).trans hHeld.2⟩)
          clear hK K
          try simp only [Act.put, List.setIfInBounds_toArray, List.set_cons_zero, List.set_cons_succ]
          refine wpAnyH_take (i := 7) (v := ?_) rfl (by kernel_rfl) (by kernel_rfl) (by kernel_rfl) (fun _ _ _ h => h) (Or.inl ⟨by rfl, ?_⟩) (by assumption) ?_
          rotate_left
          · (intro w' hSw; (try dsimp only at hSw); go_simp; try (with_reducible rfl))
          change wpAnyH _ _ _ _ _ _ _ (Act.put _ (some 11) _) _
          try simp only [Act.put, List.setIfInBounds_toArray, List.set_cons_zero, List.set_cons_succ]
          refine wpAnyH_ready (rs := [10]) (by kernel_rfl) (by simp) ?_
          refine AllReadyH.cons (i := 10) rfl (fun K hK => ?_) AllReadyH.nil
          simp only [List.getElem_toArray, List.getElem_cons_succ, List.getElem_cons_zero]
          rw [if_pos (by rfl)]
          go_simp
          (go_at_call 53; refine (curPick 9 _ (hc_6) (by omega) (by omega)).mono ?_; rintro e w_10 ⟨r_10, rfl, hr_10, k_10, hk_10, hc_10, hg_10⟩; go_wp2_with fail)
          have hq_10 : (r_10 : Int) < 9 := by omega
          have hz_10 : (0 : Int) ≤ (r_10 : Int) := by omega
          obtain ⟨t_10, ht_10, hT_10⟩ := lit_pure (m := 2) (r := r_10) (cs := (#[.string ⟨#[]⟩, .string ⟨#[]⟩, .string ⟨#[32]⟩, .string ⟨#[120]⟩, .string ⟨#[101]⟩, .string ⟨#[32, 49]⟩, .string ⟨#[10]⟩, .string ⟨#[46]⟩, .string ⟨#[195, 169]⟩] : Array Value)) (by decide) (by show r_10 < 9; omega)
          have hsum2 : ¬ 9223372036854775807 < t_2.size + s_6.size + t_10.size := by omega
          refine hK.out _ _ ?_ (fun hHeld => ?_)
          · first | trivial | ((try dsimp only); exact ⟨⟨trivial, (hg_10.block _ (Array.getElem?_eq_some_iff.1 hHeld.1.2).1 (fun e => absurd (Option.some.inj e) (Nat.ne_of_gt hb_8))).trans hHeld.1.2⟩, (hg_10.block _ (Array.getElem?_eq_some_iff.1 hHeld.2).1 (fun e => absurd (Option.some.inj e) (Nat.ne_of_gt hb_0))).trans hHeld.2⟩)
          clear hK K
          try simp only [Act.put, List.setIfInBounds_toArray, List.set_cons_zero, List.set_cons_succ]
          refine wpAnyH_take (i := 11) (v := ?_) rfl (by kernel_rfl) (by kernel_rfl) (by kernel_rfl) (fun _ _ _ h => h) (Or.inl ⟨by rfl, ?_⟩) (by assumption) ?_
          rotate_left
          · (intro w' hSw; (try dsimp only at hSw); go_simp; try (with_reducible rfl))
          change wpAnyH _ _ _ _ _ _ _ (Act.put _ (some 15) _) _
          try simp only [Act.put, List.setIfInBounds_toArray, List.set_cons_zero, List.set_cons_succ]
          refine wpAnyH_take (i := 12) (v := ?_) rfl (by kernel_rfl) (by kernel_rfl) (by kernel_rfl) (fun _ _ _ h => h) (Or.inl ⟨by rfl, ?_⟩) (by assumption) ?_
          rotate_left
          · (intro w' hSw; (try dsimp only at hSw); have hcx := (cell_of_row _ _ r_10 _ _ _ (hSw.1.2)).trans hT_10; (try simp only [World.size_alloc] at hcx); go_simp; try (with_reducible rfl))
          change wpAnyH _ _ _ _ _ _ _ (Act.put _ (some 16) _) _
          try simp only [Act.put, List.setIfInBounds_toArray, List.set_cons_zero, List.set_cons_succ]
          refine wpAnyH_take (i := 13) (v := ?_) rfl (by kernel_rfl) (by kernel_rfl) (by kernel_rfl) (fun _ _ _ h => h) (Or.inl ⟨by rfl, ?_⟩) (by assumption) ?_
          rotate_left
          · (intro w' hSw; (try dsimp only at hSw); go_simp; try (with_reducible rfl))
          change wpAnyH _ _ _ _ _ _ _ (Act.put _ (some 17) _) _
          try simp only [Act.put, List.setIfInBounds_toArray, List.set_cons_zero, List.set_cons_succ]
          refine wpAnyH_take (i := 14) (v := ?_) rfl (by kernel_rfl) (by kernel_rfl) (by kernel_rfl) (fun _ _ _ h => h) (Or.inl ⟨by rfl, ?_⟩) (by assumption) ?_
          rotate_left
          · (intro w' hSw; (try dsimp only at hSw); go_simp; try (with_reducible rfl))
          change wpAnyH _ _ _ _ _ _ _ (Act.put _ (some 3) _) _
          try simp only [Act.put, List.setIfInBounds_toArray, List.set_cons_zero, List.set_cons_succ]
          refine wpAnyH_done (by kernel_rfl) ?_ _
          go_wp2
          go_meet
          case rel => exact ⟨t_2 ++ s_6 ++ t_10, k_10, rfl, by rw [ByteArray.size_append, ByteArray.size_append]; omega, by omega, hc_10, grown_trans (grown_trans (grown_alloc (grown_trans (grown_alloc (grown_drew (grown_refl w (some p))) _) hg_2) _) hg_6) hg_10⟩
        refine AllReadyH.cons (i := 6) rfl (fun K hK => ?_) ?_
        · simp only [List.getElem_toArray, List.getElem_cons_succ, List.getElem_cons_zero]
          rw [if_pos (by rfl)]
          go_simp
          (go_at_call 84; refine (curNumText _ (hc_2) (by omega)).mono ?_; rintro e w_6 ⟨s_6, rfl, hs_6, k_6, hk_6, hc_6, hg_6⟩; go_wp2_with fail)
          have hsum1 : ¬ 9223372036854775807 < t_2.size + s_6.size := by omega
          refine hK.out _ _ ?_ (fun hHeld => ?_)
          · first | trivial | ((try dsimp only); exact ⟨trivial, (hg_6.block _ (Array.getElem?_eq_some_iff.1 hHeld.2).1 (fun e => absurd (Option.some.inj e) (Nat.ne_of_gt hb_8))).trans hHeld.2⟩)
          clear hK K
          try simp only [Act.put, List.setIfInBounds_toArray, List.set_cons_zero, List.set_cons_succ]
          refine wpAnyH_ready (rs := [0, 10]) (by kernel_rfl) (by simp) ?_
          refine AllReadyH.cons (i := 0) rfl (fun K hK => ?_) ?_
          · simp only [List.getElem_toArray, List.getElem_cons_succ, List.getElem_cons_zero]
            rw [if_pos (by rfl)]
            go_simp
            have hb_0 := (hc_6).lt.2
            refine hK.out _ _ ?_ (fun hHeld => ?_)
            · first | trivial | ((try dsimp only); exact ⟨trivial, ((ext_alloc _ _).block _ (Array.getElem?_eq_some_iff.1 hHeld.2).1).trans hHeld.2⟩)
            clear hK K
            try simp only [Act.put, List.setIfInBounds_toArray, List.set_cons_zero, List.set_cons_succ]
            refine wpAnyH_row (heap_alloc_new _ _) hHeld ?_
            intro hHeld
            refine wpAnyH_take (i := 3) (v := ?_) rfl (by kernel_rfl) (by kernel_rfl) (by kernel_rfl) (fun _ _ _ h => h) (Or.inl ⟨by rfl, ?_⟩) (by assumption) ?_
            rotate_left
            · (intro w' hSw; (try dsimp only at hSw); go_simp; try (with_reducible rfl))
            change wpAnyH _ _ _ _ _ _ _ (Act.put _ (some 7) _) _
            try simp only [Act.put, List.setIfInBounds_toArray, List.set_cons_zero, List.set_cons_succ]
            refine wpAnyH_take (i := 4) (v := ?_) rfl (by kernel_rfl) (by kernel_rfl) (by kernel_rfl) (fun _ _ _ h => h) (Or.inl ⟨by rfl, ?_⟩) (by assumption) ?_
            rotate_left
            · (intro w' hSw; (try dsimp only at hSw); have hcx := (cell_of_row _ _ r_2 _ _ _ (hSw.2)).trans hT_2; (try simp only [World.size_alloc] at hcx); go_simp; try (with_reducible rfl))
            change wpAnyH _ _ _ _ _ _ _ (Act.put _ (some 8) _) _
            try simp only [Act.put, List.setIfInBounds_toArray, List.set_cons_zero, List.set_cons_succ]
            refine wpAnyH_take (i := 7) (v := ?_) rfl (by kernel_rfl) (by kernel_rfl) (by kernel_rfl) (fun _ _ _ h => h) (Or.inl ⟨by rfl, ?_⟩) (by assumption) ?_
            rotate_left
            · (intro w' hSw; (try dsimp only at hSw); go_simp; try (with_reducible rfl))
            change wpAnyH _ _ _ _ _ _ _ (Act.put _ (some 11) _) _
            try simp only [Act.put, List.setIfInBounds_toArray, List.set_cons_zero, List.set_cons_succ]
            refine wpAnyH_ready (rs := [10]) (by kernel_rfl) (by simp) ?_
            refine AllReadyH.cons (i := 10) rfl (fun K hK => ?_) AllReadyH.nil
            simp only [List.getElem_toArray, List.getElem_cons_succ, List.getElem_cons_zero]
            rw [if_pos (by rfl)]
            go_simp
            (go_at_call 53; refine (curPick 9 _ (Cur.alloc (hc_6) (.cells (#[.string ⟨#[]⟩, .string ⟨#[]⟩, .string ⟨#[32]⟩, .string ⟨#[9, 10]⟩, .string ⟨#[13, 32]⟩] : Array Value) 9)) (by omega) (by omega)).mono ?_; rintro e w_10 ⟨r_10, rfl, hr_10, k_10, hk_10, hc_10, hg_10⟩; go_wp2_with fail)
            have hq_10 : (r_10 : Int) < 9 := by omega
            have hz_10 : (0 : Int) ≤ (r_10 : Int) := by omega
            obtain ⟨t_10, ht_10, hT_10⟩ := lit_pure (m := 2) (r := r_10) (cs := (#[.string ⟨#[]⟩, .string ⟨#[]⟩, .string ⟨#[32]⟩, .string ⟨#[120]⟩, .string ⟨#[101]⟩, .string ⟨#[32, 49]⟩, .string ⟨#[10]⟩, .string ⟨#[46]⟩, .string ⟨#[195, 169]⟩] : Array Value)) (by decide) (by show r_10 < 9; omega)
            have hsum2 : ¬ 9223372036854775807 < t_2.size + s_6.size + t_10.size := by omega
            refine hK.out _ _ ?_ (fun hHeld => ?_)
            · first | trivial | ((try dsimp only); exact ⟨⟨trivial, (hg_10.block _ (Array.getElem?_eq_some_iff.1 hHeld.1.2).1 (fun e => absurd (Option.some.inj e) (Nat.ne_of_gt hb_8))).trans hHeld.1.2⟩, (hg_10.block _ (Array.getElem?_eq_some_iff.1 hHeld.2).1 (fun e => absurd (Option.some.inj e) (Nat.ne_of_gt hb_0))).trans hHeld.2⟩)
            clear hK K
            try simp only [Act.put, List.setIfInBounds_toArray, List.set_cons_zero, List.set_cons_succ]
            refine wpAnyH_take (i := 11) (v := ?_) rfl (by kernel_rfl) (by kernel_rfl) (by kernel_rfl) (fun _ _ _ h => h) (Or.inl ⟨by rfl, ?_⟩) (by assumption) ?_
            rotate_left
            · (intro w' hSw; (try dsimp only at hSw); go_simp; try (with_reducible rfl))
            change wpAnyH _ _ _ _ _ _ _ (Act.put _ (some 15) _) _
            try simp only [Act.put, List.setIfInBounds_toArray, List.set_cons_zero, List.set_cons_succ]
            refine wpAnyH_take (i := 12) (v := ?_) rfl (by kernel_rfl) (by kernel_rfl) (by kernel_rfl) (fun _ _ _ h => h) (Or.inl ⟨by rfl, ?_⟩) (by assumption) ?_
            rotate_left
            · (intro w' hSw; (try dsimp only at hSw); have hcx := (cell_of_row _ _ r_10 _ _ _ (hSw.1.2)).trans hT_10; (try simp only [World.size_alloc] at hcx); go_simp; try (with_reducible rfl))
            change wpAnyH _ _ _ _ _ _ _ (Act.put _ (some 16) _) _
            try simp only [Act.put, List.setIfInBounds_toArray, List.set_cons_zero, List.set_cons_succ]
            refine wpAnyH_take (i := 13) (v := ?_) rfl (by kernel_rfl) (by kernel_rfl) (by kernel_rfl) (fun _ _ _ h => h) (Or.inl ⟨by rfl, ?_⟩) (by assumption) ?_
            rotate_left
            · (intro w' hSw; (try dsimp only at hSw); go_simp; try (with_reducible rfl))
            change wpAnyH _ _ _ _ _ _ _ (Act.put _ (some 17) _) _
            try simp only [Act.put, List.setIfInBounds_toArray, List.set_cons_zero, List.set_cons_succ]
            refine wpAnyH_take (i := 14) (v := ?_) rfl (by kernel_rfl) (by kernel_rfl) (by kernel_rfl) (fun _ _ _ h => h) (Or.inl ⟨by rfl, ?_⟩) (by assumption) ?_
            rotate_left
            · (intro w' hSw; (try dsimp only at hSw); go_simp; try (with_reducible rfl))
            change wpAnyH _ _ _ _ _ _ _ (Act.put _ (some 3) _) _
            try simp only [Act.put, List.setIfInBounds_toArray, List.set_cons_zero, List.set_cons_succ]
            refine wpAnyH_done (by kernel_rfl) ?_ _
            go_wp2
            go_meet
            case rel => exact ⟨t_2 ++ s_6 ++ t_10, k_10, rfl, by rw [ByteArray.size_append, ByteArray.size_append]; omega, by omega, hc_10, grown_trans (grown_alloc (grown_trans (grown_trans (grown_alloc (grown_drew (grown_refl w (some p))) _) hg_2) hg_6) _) hg_10⟩
          refine AllReadyH.cons (i := 10) rfl (fun K hK => ?_) ?_
          · simp only [List.getElem_toArray, List.getElem_cons_succ, List.getElem_cons_zero]
            rw [if_pos (by rfl)]
            go_simp
            (go_at_call 53; refine (curPick 9 _ (hc_6) (by omega) (by omega)).mono ?_; rintro e w_10 ⟨r_10, rfl, hr_10, k_10, hk_10, hc_10, hg_10⟩; go_wp2_with fail)
            have hq_10 : (r_10 : Int) < 9 := by omega
            have hz_10 : (0 : Int) ≤ (r_10 : Int) := by omega
            obtain ⟨t_10, ht_10, hT_10⟩ := lit_pure (m := 2) (r := r_10) (cs := (#[.string ⟨#[]⟩, .string ⟨#[]⟩, .string ⟨#[32]⟩, .string ⟨#[120]⟩, .string ⟨#[101]⟩, .string ⟨#[32, 49]⟩, .string ⟨#[10]⟩, .string ⟨#[46]⟩, .string ⟨#[195, 169]⟩] : Array Value)) (by decide) (by show r_10 < 9; omega)
            have hsum2 : ¬ 9223372036854775807 < t_2.size + s_6.size + t_10.size := by omega
            refine hK.out _ _ ?_ (fun hHeld => ?_)
            · first | trivial | ((try dsimp only); exact ⟨trivial, (hg_10.block _ (Array.getElem?_eq_some_iff.1 hHeld.2).1 (fun e => absurd (Option.some.inj e) (Nat.ne_of_gt hb_8))).trans hHeld.2⟩)
            clear hK K
            try simp only [Act.put, List.setIfInBounds_toArray, List.set_cons_zero, List.set_cons_succ]
            refine wpAnyH_take (i := 11) (v := ?_) rfl (by kernel_rfl) (by kernel_rfl) (by kernel_rfl) (fun _ _ _ h => h) (Or.inl ⟨by rfl, ?_⟩) (by assumption) ?_
            rotate_left
            · (intro w' hSw; (try dsimp only at hSw); go_simp; try (with_reducible rfl))
            change wpAnyH _ _ _ _ _ _ _ (Act.put _ (some 15) _) _
            try simp only [Act.put, List.setIfInBounds_toArray, List.set_cons_zero, List.set_cons_succ]
            refine wpAnyH_take (i := 12) (v := ?_) rfl (by kernel_rfl) (by kernel_rfl) (by kernel_rfl) (fun _ _ _ h => h) (Or.inl ⟨by rfl, ?_⟩) (by assumption) ?_
            rotate_left
            · (intro w' hSw; (try dsimp only at hSw); have hcx := (cell_of_row _ _ r_10 _ _ _ (hSw.2)).trans hT_10; (try simp only [World.size_alloc] at hcx); go_simp; try (with_reducible rfl))
            change wpAnyH _ _ _ _ _ _ _ (Act.put _ (some 16) _) _
            try simp only [Act.put, List.setIfInBounds_toArray, List.set_cons_zero, List.set_cons_succ]
            refine wpAnyH_ready (rs := [0]) (by kernel_rfl) (by simp) ?_
            refine AllReadyH.cons (i := 0) rfl (fun K hK => ?_) AllReadyH.nil
            simp only [List.getElem_toArray, List.getElem_cons_succ, List.getElem_cons_zero]
            rw [if_pos (by rfl)]
            go_simp
            have hb_0 := (hc_10).lt.2
            refine hK.out _ _ ?_ (fun hHeld => ?_)
            · first | trivial | ((try dsimp only); exact ⟨trivial, ((ext_alloc _ _).block _ (Array.getElem?_eq_some_iff.1 hHeld.2).1).trans hHeld.2⟩)
            clear hK K
            try simp only [Act.put, List.setIfInBounds_toArray, List.set_cons_zero, List.set_cons_succ]
            refine wpAnyH_row (heap_alloc_new _ _) hHeld ?_
            intro hHeld
            refine wpAnyH_take (i := 3) (v := ?_) rfl (by kernel_rfl) (by kernel_rfl) (by kernel_rfl) (fun _ _ _ h => h) (Or.inl ⟨by rfl, ?_⟩) (by assumption) ?_
            rotate_left
            · (intro w' hSw; (try dsimp only at hSw); go_simp; try (with_reducible rfl))
            change wpAnyH _ _ _ _ _ _ _ (Act.put _ (some 7) _) _
            try simp only [Act.put, List.setIfInBounds_toArray, List.set_cons_zero, List.set_cons_succ]
            refine wpAnyH_take (i := 4) (v := ?_) rfl (by kernel_rfl) (by kernel_rfl) (by kernel_rfl) (fun _ _ _ h => h) (Or.inl ⟨by rfl, ?_⟩) (by assumption) ?_
            rotate_left
            · (intro w' hSw; (try dsimp only at hSw); have hcx := (cell_of_row _ _ r_2 _ _ _ (hSw.2)).trans hT_2; (try simp only [World.size_alloc] at hcx); go_simp; try (with_reducible rfl))
            change wpAnyH _ _ _ _ _ _ _ (Act.put _ (some 8) _) _
            try simp only [Act.put, List.setIfInBounds_toArray, List.set_cons_zero, List.set_cons_succ]
            refine wpAnyH_take (i := 7) (v := ?_) rfl (by kernel_rfl) (by kernel_rfl) (by kernel_rfl) (fun _ _ _ h => h) (Or.inl ⟨by rfl, ?_⟩) (by assumption) ?_
            rotate_left
            · (intro w' hSw; (try dsimp only at hSw); go_simp; try (with_reducible rfl))
            change wpAnyH _ _ _ _ _ _ _ (Act.put _ (some 11) _) _
            try simp only [Act.put, List.setIfInBounds_toArray, List.set_cons_zero, List.set_cons_succ]
            refine wpAnyH_take (i := 13) (v := ?_) rfl (by kernel_rfl) (by kernel_rfl) (by kernel_rfl) (fun _ _ _ h => h) (Or.inl ⟨by rfl, ?_⟩) (by assumption) ?_
            rotate_left
            · (intro w' hSw; (try dsimp only at hSw); go_simp; try (with_reducible rfl))
            change wpAnyH _ _ _ _ _ _ _ (Act.put _ (some 17) _) _
            try simp only [Act.put, List.setIfInBounds_toArray, List.set_cons_zero, List.set_cons_succ]
            refine wpAnyH_take (i := 14) (v := ?_) rfl (by kernel_rfl) (by kernel_rfl) (by kernel_rfl) (fun _ _ _ h => h) (Or.inl ⟨by rfl, ?_⟩) (by assumption) ?_
            rotate_left
            · (intro w' hSw; (try dsimp only at hSw); go_simp; try (with_reducible rfl))
            change wpAnyH _ _ _ _ _ _ _ (Act.put _ (some 3) _) _
            try simp only [Act.put, List.setIfInBounds_toArray, List.set_cons_zero, List.set_cons_succ]
            refine wpAnyH_done (by kernel_rfl) ?_ _
            go_wp2
            go_meet
            case rel => exact ⟨t_2 ++ s_6 ++ t_10, k_10, rfl, by rw [ByteArray.size_append, ByteArray.size_append]; omega, by omega, Cur.alloc (hc_10) (.cells (#[.string ⟨#[]⟩, .string ⟨#[]⟩, .string ⟨#[32]⟩, .string ⟨#[9, 10]⟩, .string ⟨#[13, 32]⟩] : Array Value) 9), grown_alloc (grown_trans (grown_trans (grown_trans (grown_alloc (grown_drew (grown_refl w (some p))) _) hg_2) hg_6) hg_10) _⟩
          exact AllReadyH.nil
        exact AllReadyH.nil
      exact AllReadyH.nil
    exact AllReadyH.nil
  case rest =>
  obtain ⟨s, k1, rfl, hs, hk1, hc1, hg1⟩ := hcut
  have HC1 := hid hc1
  have HG1 := hid hg1
  clear hc1 hg1 hc
  go_wp2_with fail
  refine (curOnce 12 _ HC1.out (by omega) (by omega) (by omega)).mono ?_
  rintro e w2 ⟨b, rfl, k2, hk2, hc2, hg2⟩
  have HC2 := hid hc2
  have HG2 := hid (grown_trans HG1.out hg2)
  clear hc2 hg2 HC1 HG1
  cases b with
  | false =>
    go_wp2
    go_ret
    exact ⟨s, rfl, by omega, k2, by omega, HC2.out, HG2.out⟩
  | true =>
    go_wp2_with fail
    refine (curAny 6 _ HC2.out (by omega) (by omega)).mono ?_
    rintro e w3 ⟨s3, rfl, hs3, k3, hk3, hc3, hg3⟩
    go_wp2
    go_ret
    exact ⟨s3, rfl, by omega, k3, by omega, hc3, grown_trans HG2.out hg3⟩
end Go.Proofs.YtommldonooicjaaDoor
