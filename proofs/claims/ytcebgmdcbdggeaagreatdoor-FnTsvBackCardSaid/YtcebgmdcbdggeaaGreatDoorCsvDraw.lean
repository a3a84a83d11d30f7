/-
  What is proved here: the draw of rows. No condition but that the cursor lies in memory.
-/
import Derived.Test.YtcebgmdcbdggeaaGreatDoorCsvRw
import Derived.Deep.RegionHeld3
namespace Go.Proofs.YtcebgmdcbdggeaaGreatDoor
open Go.RowKit
set_option linter.unusedVariables false
set_option linter.unusedSimpArgs false

theorem grown_over {a b c : World} {p R : Nat} (h : a.grownBy b (some p)) (k : Below R b c) (hR : a.heap.size ≤ R) : a.grownBy c (some p) :=
  ⟨k.os.trans h.os, k.tape.trans h.tape, k.output.trans h.output, Nat.le_trans h.size k.size, fun i hi hne => (k.block i (by omega)).trans (h.block i hi hne)⟩
set_option maxHeartbeats 16000000 in
set_option maxRecDepth 100000 in
theorem curRows {B p k : Nat} (w : World) (hc : Cur B w p k) (hk : k ≤ 700000000000) :
    Calls Tryz.prog 12 #[.pointer (some ⟨p, 0, none⟩)] w fun e w' => ∃ (v : Value) (xs : List CsvRow), e = .returned v ∧ Rd.rd (New w.heap.size w') w' [v] xs ∧ xs.length ≤ 5 ∧ ∃ k', k' ≤ k + 10000 ∧ Cur B w' p k' ∧ w.grownBy w' (some p) := by
  obtain ⟨iS, hiS, hs0, hs1, hs2⟩ := info_parts info_strC
  obtain ⟨iR, hiR, hr0, hr1, hr2⟩ := info_parts info_row
  have hpw := hc.lt.2
  have HPW := hid hpw
  go_enter Tryz.func12, Tryz.ntmps12
  go_wp2_with fail
  refine (curSize 4 _ (hc.alloc _) (by omega) (by omega) (by omega)).mono ?_
  rintro e w1 ⟨r, rfl, hr, k1, hk1, hc1, hg1⟩
  have hr4 : r ≤ 4 := by omega
  have HG1 := hid (grown_trans (grown_alloc (grown_refl w (some p)) _) hg1)
  have HC1 := hid hc1
  have HE1 := hid (show RowsB w.heap.size (.slice (some ⟨w.heap.size, 0, none⟩) 0 0) w1 [] from ⟨[], own_grow (World.ownsRow_lit w #[] 0 (Nat.le_refl _) (by decide) rfl) hg1 hpw, Each.nil⟩)
  clear hr hc hc1 hg1
  go_wp2
  go_loopw [3, 4, 5, 6] (fun v i _ _ wr => ∃ (m k2 : Nat) (rs : List CsvRow), i = .int .i64 (m : Int) ∧ m ≤ 4 ∧ rs.length + m ≤ 4 ∧ RowsB w.heap.size v wr rs ∧ k2 + 100 * m ≤ k + 500 ∧ Cur B wr p k2 ∧ w.grownBy wr (some p)) (fun _ i _ _ _ => (intOf i).toNat)
  case atStart => exact ⟨r, k1, [], rfl, hr4, by simpa using hr4, HE1.out, by omega, HC1.out, HG1.out⟩
  case round =>
    obtain ⟨m, k2, rs, rfl, hm, hrs, hrow, hk2, hcu, hgr⟩ := hrel
    obtain ⟨wo, rfl⟩ : ∃ x, x = wr := ⟨_, rfl⟩
    by_cases hm0 : 0 < m
    · have hmi : (0 : Int) < (m : Int) := by omega
      have hal := ext_alloc wo (.cells #[.slice none 0 0] 34)
      obtain ⟨R, hR⟩ : ∃ R, wo.heap.size = R := ⟨_, rfl⟩
      obtain ⟨w3, hw3⟩ : ∃ w3, (wo.alloc (.cells #[.slice none 0 0] 34)).setCell ⟨R, 0, none⟩ (.slice none 0 0) = w3 := ⟨_, rfl⟩
      have hb3 : Below wo.heap.size wo w3 := by rw [← hw3]; exact hal.setCell (by rw [hR]; exact Nat.le_refl _) _
      have HV3 := hid (show w3.heap[R]? = some (.cells #[.slice none 0 0] 34 (0, 0)) by rw [← hw3, ← hR]; exact set_one (heap_alloc_new wo _))
      have HC3 := hid (hcu.later hb3)
      have HG3 := hid (show wo.grownBy w3 (some p) from below_grown hb3)
      have H34 := hid hrow
      have HGR := hid hgr
      have HRR := hid hR
      have hRs : w.heap.size ≤ R := by rw [← hR]; exact hgr.size
      clear hal hb3 hrow hcu hgr
      go_upto_region 6 with fail
      try rw [hR]
      try rw [hw3]
      clear hw3 hR
      go_wp2_with fail
      refine (curPick 4 _ HC3.out (by omega) (by omega)).mono ?_
      rintro e w4 ⟨q, rfl, hq, k4, hk4, hc4, hg4⟩
      have hq3 : q ≤ 3 := by omega
      have HC4 := hid hc4
      have HG4 := hid (grown_trans HG3.out hg4)
      have HV4 := hid (show w4.heap[R]? = some (.cells #[.slice none 0 0] 34 (0, 0)) from (hg4.block R (Array.getElem?_eq_some_iff.1 HV3.out).1 (fun e => by have := Option.some.inj e; have := HPW.out; omega)).trans HV3.out)
      clear hq hc4 hg4
      have hqw : IntKind.i64.wrap (1 + (q : Int)) = ((1 + q : Nat) : Int) := by rw [IntWalk.i64_in _ (by omega)]; omega
      go_wp2
      go_loopw [6] (fun i wr => ∃ (j k5 : Nat) (cs : List ByteArray) (va : Option Addr) (vc : Nat), i = .int .i64 (j : Int) ∧ j ≤ 4 ∧ cs.length + j ≤ 4 ∧ k5 + 10 * j ≤ k4 + 45 ∧ (∀ s ∈ cs, s.size ≤ 1000) ∧ wr.heap[R]? = some (.cells #[.slice va cs.length vc] 34 (0, 0)) ∧ CellsB (R + 1) (.slice va cs.length vc) wr cs ∧ Cur B wr p k5 ∧ wo.grownBy wr (some p)) (fun i _ => (intOf i).toNat)
      case atStart => exact ⟨1 + q, k4, [], none, 0, by first | rfl | (congr 1; omega), by omega, by simp; omega, by omega, (fun s hs => absurd hs (by simp)), HV4.out, ⟨rfl, Or.inl ⟨rfl, rfl⟩⟩, HC4.out, HG4.out⟩
      case round =>
        obtain ⟨j, k5, cs, va, vc, rfl, hj, hcj, hk5', hss0, hv, hcb, hcu, hgr⟩ := hrel
        by_cases hj0 : 0 < j
        · have hji : (0 : Int) < (j : Int) := by omega
          have c0 : wr.cell? ⟨R, 0, none⟩ = some (.slice va cs.length vc) := cell_of_row _ _ 0 _ _ _ hv
          have cy : wr.frozen? ⟨R, 0, none⟩ = false := frozen_of_row _ _ 0 _ _ hv
          have hRlt : R < wr.heap.size := (Array.getElem?_eq_some_iff.1 hv).1
          have hpR : p < R := by have := HPW.out; omega
          have HCU := hid hcu
          have HCB : Hid (wr.ownsRow (R + 1) 9 1 (.slice va cs.length vc) cs.length (cs.map Value.string)) := hid hcb
          have HVR := hid hv
          have HGO := hid hgr
          clear hcu hcb hv hgr
          go_wp2_with fail
          refine wp_region_held_drew (S := fun w' => True) (by kernel_rfl) ?_ (fun hHeld => ?_)
          · trivial
          refine wpAnyH_take (i := 0) (v := ?_) rfl (by kernel_rfl) (by kernel_rfl) (by kernel_rfl) (fun _ _ _ h => h) (Or.inl ⟨by rfl, ?_⟩) (by assumption) ?_
          rotate_left
          · (intro w' hSw; (try dsimp only at hSw); go_simp; try (with_reducible rfl))
          change wpAnyH _ _ _ _ _ _ _ (Act.put _ (some 24) _) _
          try simp only [Act.put, List.setIfInBounds_toArray, List.set_cons_zero, List.set_cons_succ]
          refine wpAnyH_take (i := 2) (v := ?_) rfl (by kernel_rfl) (by kernel_rfl) (by kernel_rfl) (fun _ _ _ h => h) (Or.inl ⟨by rfl, ?_⟩) (by assumption) ?_
          rotate_left
          · (intro w' hSw; (try dsimp only at hSw); go_simp; try (with_reducible rfl))
          change wpAnyH _ _ _ _ _ _ _ (Act.put _ (some 26) _) _
          try simp only [Act.put, List.setIfInBounds_toArray, List.set_cons_zero, List.set_cons_succ]
          refine wpAnyH_ready (rs := [1, 3]) (by kernel_rfl) (by simp) ?_
          refine AllReadyH.cons (i := 1) rfl (fun K hK => ?_) ?_
          · simp only [List.getElem_toArray, List.getElem_cons_succ, List.getElem_cons_zero]
            rw [if_pos (by rfl)]
            go_simp
            refine hK.out _ _ ?_ (fun hHeld => ?_)
            · first | trivial | ((try dsimp only); trivial)
            clear hK K
            try simp only [Act.put, List.setIfInBounds_toArray, List.set_cons_zero, List.set_cons_succ]
            refine wpAnyH_ready (rs := [3]) (by kernel_rfl) (by simp) ?_
            refine AllReadyH.cons (i := 3) rfl (fun K hK => ?_) AllReadyH.nil
            simp only [List.getElem_toArray, List.getElem_cons_succ, List.getElem_cons_zero]
            rw [if_pos (by rfl)]
            go_simp
            (go_at_call 25; refine (curWord 3 _ (Cur.drew HCU.out) (by omega) (by omega)).mono ?_; rintro e w5 ⟨s, rfl, hss, k5', hk5, hc5, hgw⟩; go_wp2_with fail)
            have c5 : w5.cell? ⟨R, 0, none⟩ = some (.slice va cs.length vc) := hgw.cell (a := ⟨R, 0, none⟩) c0 (fun e => absurd (Option.some.inj e) (by show ¬ R = p; omega))
            have cy5 : w5.frozen? ⟨R, 0, none⟩ = false := (World.frozen?_of_block (hgw.block R (show R < wr.heap.size from hRlt) (fun e => absurd (Option.some.inj e) (by omega)))).trans cy
            have hR5 : R < w5.heap.size := Nat.lt_of_lt_of_le (show R < wr.drew.heap.size from hRlt) hgw.size
            refine hK.out _ _ ?_ (fun hHeld => ?_)
            · first | trivial | ((try dsimp only); trivial)
            clear hK K
            try simp only [Act.put, List.setIfInBounds_toArray, List.set_cons_zero, List.set_cons_succ]
            refine wpAnyH_ready (rs := [4]) (by kernel_rfl) (by simp) ?_
            refine AllReadyH.cons (i := 4) rfl (fun K hK => ?_) AllReadyH.nil
            simp only [List.getElem_toArray, List.getElem_cons_succ, List.getElem_cons_zero]
            rw [if_pos (by rfl)]
            go_simp
            refine hK.out _ _ ?_ (fun hHeld => ?_)
            · first | trivial | ((try dsimp only); trivial)
            clear hK K
            try simp only [Act.put, List.setIfInBounds_toArray, List.set_cons_zero, List.set_cons_succ]
            refine wpAnyH_ready (rs := [5]) (by kernel_rfl) (by simp) ?_
            refine AllReadyH.cons (i := 5) rfl (fun K hK => ?_) AllReadyH.nil
            simp only [List.getElem_toArray, List.getElem_cons_succ, List.getElem_cons_zero]
            rw [if_pos (by rfl)]
            have hown5 := (own_grow (p := p) (HCB.out.drew) hgw (by omega)).alloc (.cells #[.string s] 9)
            refine wp_append_lies _ (.tmp 25) (.tmp 28) 30 rfl (R + 1) 9 iS (.string ⟨#[]⟩) 1 16 Tryz.underlying30 hiS hs0 hs1 hs2 rfl (by decide) (.slice va cs.length vc) cs.length (cs.map Value.string) (by first | rfl | simp [Act.eval, Act.put]) hown5 ⟨w5.heap.size, 0, none⟩ 1 1 [.string s] (by first | rfl | simp [Act.eval, Act.put]) rfl (cell_one_new _ _ _) (fun u hu => by simp at hu; subst hu; rfl) (by decide) (by unfold maxLen; omega) (by omega) (by simp; omega) _ rfl ?_
            intro g6 cap6 w6 hown6 hgrow6 hat6 hlt6
            have hnR : some R ≠ (Value.slice va cs.length vc).ownBlock := fun e => by have := (hown5.lt R e.symm).1; omega
            have c6 : w6.cell? ⟨R, 0, none⟩ = some (.slice va cs.length vc) := hgrow6.cell (keeps_cells (ext_alloc _ _) _ _ c5) hnR
            have cy6 : w6.frozen? ⟨R, 0, none⟩ = false := (World.frozen?_of_block (hgrow6.block R (by simp; omega) hnR)).trans ((World.frozen?_of_block ((ext_alloc _ _).block R hR5)).trans cy5)
            refine hK.out _ _ ?_ (fun hHeld => ?_)
            · first | trivial | ((try dsimp only); trivial)
            clear hK K
            try simp only [Act.put, List.setIfInBounds_toArray, List.set_cons_zero, List.set_cons_succ]
            refine wpAnyH_take (i := 6) (v := ?_) rfl (by kernel_rfl) (by kernel_rfl) (by kernel_rfl) (fun _ _ _ h => h) (Or.inl ⟨by rfl, ?_⟩) (by assumption) ?_
            rotate_left
            · (intro w' hSw; (try dsimp only at hSw); go_simp; try (with_reducible rfl))
            change wpAnyH _ _ _ _ _ _ _ (Act.put _ (some 30) _) _
            try simp only [Act.put, List.setIfInBounds_toArray, List.set_cons_zero, List.set_cons_succ]
            refine wpAnyH_ready (rs := [7]) (by kernel_rfl) (by simp) ?_
            refine AllReadyH.cons (i := 7) rfl (fun K hK => ?_) AllReadyH.nil
            simp only [List.getElem_toArray, List.getElem_cons_succ, List.getElem_cons_zero]
            rw [if_pos (by rfl)]
            go_simp
            refine hK.out _ _ ?_ (fun hHeld => ?_)
            · first | trivial | ((try dsimp only); trivial)
            clear hK K
            try simp only [Act.put, List.setIfInBounds_toArray, List.set_cons_zero, List.set_cons_succ]
            refine wpAnyH_done (by kernel_rfl) ?_ _
            obtain ⟨W7, hW7⟩ : ∃ x, w6.setCell ⟨R, 0, none⟩ (.slice (some ⟨g6, 0, none⟩) (cs.length + 1) cap6) = x := ⟨_, rfl⟩
            have hbl : Below R w5 W7 := by rw [← hW7]; exact (((ext_alloc w5 _).mono (Nat.le_of_lt hR5)).grown hgrow6 (by simp; omega) (fun q hq => by have := (hown5.lt q hq).1; omega)).setCell (Nat.le_refl _) _
            have hv7 : W7.heap[R]? = some (.cells #[.slice (some ⟨g6, 0, none⟩) (cs.length + 1) cap6] 34 (0, 0)) := by rw [← hW7]; exact set_one ((hgrow6.block R (by simp; omega) hnR).trans (((ext_alloc w5 _).block R hR5).trans ((hgw.block R (show R < wr.heap.size from hRlt) (fun e => absurd (Option.some.inj e) (by omega))).trans HVR.out)))
            have hown7 : CellsB (R + 1) (.slice (some ⟨g6, 0, none⟩) (cs.length + 1) cap6) W7 (cs ++ [s]) := by unfold CellsB; rw [← hW7, List.length_append, List.map_append]; exact ownsRow_other hown6 (fun b hb => by have := (hown6.lt b hb).1; omega) _
            have hcu7 : Cur B W7 p k5' := hc5.keep (hbl.block p hpR) (hbl.mono (by have := hc5.lt.1; omega))
            have hg7 : wo.grownBy W7 (some p) := grown_over (grown_trans (grown_drew HGO.out) hgw) hbl (by rw [HRR.out]; exact Nat.le_refl _)
            try rw [hW7]
            clear hW7 hbl hown6 hgrow6 hat6 hlt6 hnR c6 cy6 hown5 c5 cy5 hR5 hgw hc5 c0 cy
            go_wp2
            go_roundw
            case rel =>
              refine ⟨j - 1, k5', cs ++ [s], some ⟨g6, 0, none⟩, cap6, by first | go_num | (congr 1; omega), by omega, by simp; omega, by omega, fun x hx => ?_, by rw [List.length_append]; exact hv7, by rw [List.length_append]; exact hown7, hcu7, hg7⟩
              rcases List.mem_append.1 hx with h | h
              · exact hss0 x h
              · rw [List.mem_singleton.1 h]; omega
            case measure => simp [intOf]; omega
          refine AllReadyH.cons (i := 3) rfl (fun K hK => ?_) ?_
          · simp only [List.getElem_toArray, List.getElem_cons_succ, List.getElem_cons_zero]
            rw [if_pos (by rfl)]
            go_simp
            (go_at_call 25; refine (curWord 3 _ (Cur.drew HCU.out) (by omega) (by omega)).mono ?_; rintro e w5 ⟨s, rfl, hss, k5', hk5, hc5, hgw⟩; go_wp2_with fail)
            have c5 : w5.cell? ⟨R, 0, none⟩ = some (.slice va cs.length vc) := hgw.cell (a := ⟨R, 0, none⟩) c0 (fun e => absurd (Option.some.inj e) (by show ¬ R = p; omega))
            have cy5 : w5.frozen? ⟨R, 0, none⟩ = false := (World.frozen?_of_block (hgw.block R (show R < wr.heap.size from hRlt) (fun e => absurd (Option.some.inj e) (by omega)))).trans cy
            have hR5 : R < w5.heap.size := Nat.lt_of_lt_of_le (show R < wr.drew.heap.size from hRlt) hgw.size
            refine hK.out _ _ ?_ (fun hHeld => ?_)
            · first | trivial | ((try dsimp only); trivial)
            clear hK K
            try simp only [Act.put, List.setIfInBounds_toArray, List.set_cons_zero, List.set_cons_succ]
            refine wpAnyH_ready (rs := [1, 4]) (by kernel_rfl) (by simp) ?_
            refine AllReadyH.cons (i := 1) rfl (fun K hK => ?_) ?_
            · simp only [List.getElem_toArray, List.getElem_cons_succ, List.getElem_cons_zero]
              rw [if_pos (by rfl)]
              go_simp
              refine hK.out _ _ ?_ (fun hHeld => ?_)
              · first | trivial | ((try dsimp only); trivial)
              clear hK K
              try simp only [Act.put, List.setIfInBounds_toArray, List.set_cons_zero, List.set_cons_succ]
              refine wpAnyH_ready (rs := [4]) (by kernel_rfl) (by simp) ?_
              refine AllReadyH.cons (i := 4) rfl (fun K hK => ?_) AllReadyH.nil
              simp only [List.getElem_toArray, List.getElem_cons_succ, List.getElem_cons_zero]
              rw [if_pos (by rfl)]
              go_simp
              refine hK.out _ _ ?_ (fun hHeld => ?_)
              · first | trivial | ((try dsimp only); trivial)
              clear hK K
              try simp only [Act.put, List.setIfInBounds_toArray, List.set_cons_zero, List.set_cons_succ]
              refine wpAnyH_ready (rs := [5]) (by kernel_rfl) (by simp) ?_
              refine AllReadyH.cons (i := 5) rfl (fun K hK => ?_) AllReadyH.nil
              simp only [List.getElem_toArray, List.getElem_cons_succ, List.getElem_cons_zero]
              rw [if_pos (by rfl)]
              have hown5 := (own_grow (p := p) (HCB.out.drew) hgw (by omega)).alloc (.cells #[.string s] 9)
              refine wp_append_lies _ (.tmp 25) (.tmp 28) 30 rfl (R + 1) 9 iS (.string ⟨#[]⟩) 1 16 Tryz.underlying30 hiS hs0 hs1 hs2 rfl (by decide) (.slice va cs.length vc) cs.length (cs.map Value.string) (by first | rfl | simp [Act.eval, Act.put]) hown5 ⟨w5.heap.size, 0, none⟩ 1 1 [.string s] (by first | rfl | simp [Act.eval, Act.put]) rfl (cell_one_new _ _ _) (fun u hu => by simp at hu; subst hu; rfl) (by decide) (by unfold maxLen; omega) (by omega) (by simp; omega) _ rfl ?_
              intro g6 cap6 w6 hown6 hgrow6 hat6 hlt6
              have hnR : some R ≠ (Value.slice va cs.length vc).ownBlock := fun e => by have := (hown5.lt R e.symm).1; omega
              have c6 : w6.cell? ⟨R, 0, none⟩ = some (.slice va cs.length vc) := hgrow6.cell (keeps_cells (ext_alloc _ _) _ _ c5) hnR
              have cy6 : w6.frozen? ⟨R, 0, none⟩ = false := (World.frozen?_of_block (hgrow6.block R (by simp; omega) hnR)).trans ((World.frozen?_of_block ((ext_alloc _ _).block R hR5)).trans cy5)
              refine hK.out _ _ ?_ (fun hHeld => ?_)
              · first | trivial | ((try dsimp only); trivial)
              clear hK K
              try simp only [Act.put, List.setIfInBounds_toArray, List.set_cons_zero, List.set_cons_succ]
              refine wpAnyH_take (i := 6) (v := ?_) rfl (by kernel_rfl) (by kernel_rfl) (by kernel_rfl) (fun _ _ _ h => h) (Or.inl ⟨by rfl, ?_⟩) (by assumption) ?_
              rotate_left
              · (intro w' hSw; (try dsimp only at hSw); go_simp; try (with_reducible rfl))
              change wpAnyH _ _ _ _ _ _ _ (Act.put _ (some 30) _) _
              try simp only [Act.put, List.setIfInBounds_toArray, List.set_cons_zero, List.set_cons_succ]
              refine wpAnyH_ready (rs := [7]) (by kernel_rfl) (by simp) ?_
              refine AllReadyH.cons (i := 7) rfl (fun K hK => ?_) AllReadyH.nil
              simp only [List.getElem_toArray, List.getElem_cons_succ, List.getElem_cons_zero]
              rw [if_pos (by rfl)]
              go_simp
              refine hK.out _ _ ?_ (fun hHeld => ?_)
              · first | trivial | ((try dsimp only); trivial)
              clear hK K
              try simp only [Act.put, List.setIfInBounds_toArray, List.set_cons_zero, List.set_cons_succ]
              refine wpAnyH_done (by kernel_rfl) ?_ _
              obtain ⟨W7, hW7⟩ : ∃ x, w6.setCell ⟨R, 0, none⟩ (.slice (some ⟨g6, 0, none⟩) (cs.length + 1) cap6) = x := ⟨_, rfl⟩
              have hbl : Below R w5 W7 := by rw [← hW7]; exact (((ext_alloc w5 _).mono (Nat.le_of_lt hR5)).grown hgrow6 (by simp; omega) (fun q hq => by have := (hown5.lt q hq).1; omega)).setCell (Nat.le_refl _) _
              have hv7 : W7.heap[R]? = some (.cells #[.slice (some ⟨g6, 0, none⟩) (cs.length + 1) cap6] 34 (0, 0)) := by rw [← hW7]; exact set_one ((hgrow6.block R (by simp; omega) hnR).trans (((ext_alloc w5 _).block R hR5).trans ((hgw.block R (show R < wr.heap.size from hRlt) (fun e => absurd (Option.some.inj e) (by omega))).trans HVR.out)))
              have hown7 : CellsB (R + 1) (.slice (some ⟨g6, 0, none⟩) (cs.length + 1) cap6) W7 (cs ++ [s]) := by unfold CellsB; rw [← hW7, List.length_append, List.map_append]; exact ownsRow_other hown6 (fun b hb => by have := (hown6.lt b hb).1; omega) _
              have hcu7 : Cur B W7 p k5' := hc5.keep (hbl.block p hpR) (hbl.mono (by have := hc5.lt.1; omega))
              have hg7 : wo.grownBy W7 (some p) := grown_over (grown_trans (grown_drew HGO.out) hgw) hbl (by rw [HRR.out]; exact Nat.le_refl _)
              try rw [hW7]
              clear hW7 hbl hown6 hgrow6 hat6 hlt6 hnR c6 cy6 hown5 c5 cy5 hR5 hgw hc5 c0 cy
              go_wp2
              go_roundw
              case rel =>
                refine ⟨j - 1, k5', cs ++ [s], some ⟨g6, 0, none⟩, cap6, by first | go_num | (congr 1; omega), by omega, by simp; omega, by omega, fun x hx => ?_, by rw [List.length_append]; exact hv7, by rw [List.length_append]; exact hown7, hcu7, hg7⟩
                rcases List.mem_append.1 hx with h | h
                · exact hss0 x h
                · rw [List.mem_singleton.1 h]; omega
              case measure => simp [intOf]; omega
            refine AllReadyH.cons (i := 4) rfl (fun K hK => ?_) ?_
            · simp only [List.getElem_toArray, List.getElem_cons_succ, List.getElem_cons_zero]
              rw [if_pos (by rfl)]
              go_simp
              refine hK.out _ _ ?_ (fun hHeld => ?_)
              · first | trivial | ((try dsimp only); trivial)
              clear hK K
              try simp only [Act.put, List.setIfInBounds_toArray, List.set_cons_zero, List.set_cons_succ]
              refine wpAnyH_ready (rs := [1]) (by kernel_rfl) (by simp) ?_
              refine AllReadyH.cons (i := 1) rfl (fun K hK => ?_) AllReadyH.nil
              simp only [List.getElem_toArray, List.getElem_cons_succ, List.getElem_cons_zero]
              rw [if_pos (by rfl)]
              go_simp
              refine hK.out _ _ ?_ (fun hHeld => ?_)
              · first | trivial | ((try dsimp only); trivial)
              clear hK K
              try simp only [Act.put, List.setIfInBounds_toArray, List.set_cons_zero, List.set_cons_succ]
              refine wpAnyH_ready (rs := [5]) (by kernel_rfl) (by simp) ?_
              refine AllReadyH.cons (i := 5) rfl (fun K hK => ?_) AllReadyH.nil
              simp only [List.getElem_toArray, List.getElem_cons_succ, List.getElem_cons_zero]
              rw [if_pos (by rfl)]
              have hown5 := (own_grow (p := p) (HCB.out.drew) hgw (by omega)).alloc (.cells #[.string s] 9)
              refine wp_append_lies _ (.tmp 25) (.tmp 28) 30 rfl (R + 1) 9 iS (.string ⟨#[]⟩) 1 16 Tryz.underlying30 hiS hs0 hs1 hs2 rfl (by decide) (.slice va cs.length vc) cs.length (cs.map Value.string) (by first | rfl | simp [Act.eval, Act.put]) hown5 ⟨w5.heap.size, 0, none⟩ 1 1 [.string s] (by first | rfl | simp [Act.eval, Act.put]) rfl (cell_one_new _ _ _) (fun u hu => by simp at hu; subst hu; rfl) (by decide) (by unfold maxLen; omega) (by omega) (by simp; omega) _ rfl ?_
              intro g6 cap6 w6 hown6 hgrow6 hat6 hlt6
              have hnR : some R ≠ (Value.slice va cs.length vc).ownBlock := fun e => by have := (hown5.lt R e.symm).1; omega
              have c6 : w6.cell? ⟨R, 0, none⟩ = some (.slice va cs.length vc) := hgrow6.cell (keeps_cells (ext_alloc _ _) _ _ c5) hnR
              have cy6 : w6.frozen? ⟨R, 0, none⟩ = false := (World.frozen?_of_block (hgrow6.block R (by simp; omega) hnR)).trans ((World.frozen?_of_block ((ext_alloc _ _).block R hR5)).trans cy5)
              refine hK.out _ _ ?_ (fun hHeld => ?_)
              · first | trivial | ((try dsimp only); trivial)
              clear hK K
              try simp only [Act.put, List.setIfInBounds_toArray, List.set_cons_zero, List.set_cons_succ]
              refine wpAnyH_take (i := 6) (v := ?_) rfl (by kernel_rfl) (by kernel_rfl) (by kernel_rfl) (fun _ _ _ h => h) (Or.inl ⟨by rfl, ?_⟩) (by assumption) ?_
              rotate_left
              · (intro w' hSw; (try dsimp only at hSw); go_simp; try (with_reducible rfl))
              change wpAnyH _ _ _ _ _ _ _ (Act.put _ (some 30) _) _
              try simp only [Act.put, List.setIfInBounds_toArray, List.set_cons_zero, List.set_cons_succ]
              refine wpAnyH_ready (rs := [7]) (by kernel_rfl) (by simp) ?_
              refine AllReadyH.cons (i := 7) rfl (fun K hK => ?_) AllReadyH.nil
              simp only [List.getElem_toArray, List.getElem_cons_succ, List.getElem_cons_zero]
              rw [if_pos (by rfl)]
              go_simp
              refine hK.out _ _ ?_ (fun hHeld => ?_)
              · first | trivial | ((try dsimp only); trivial)
              clear hK K
              try simp only [Act.put, List.setIfInBounds_toArray, List.set_cons_zero, List.set_cons_succ]
              refine wpAnyH_done (by kernel_rfl) ?_ _
              obtain ⟨W7, hW7⟩ : ∃ x, w6.setCell ⟨R, 0, none⟩ (.slice (some ⟨g6, 0, none⟩) (cs.length + 1) cap6) = x := ⟨_, rfl⟩
              have hbl : Below R w5 W7 := by rw [← hW7]; exact (((ext_alloc w5 _).mono (Nat.le_of_lt hR5)).grown hgrow6 (by simp; omega) (fun q hq => by have := (hown5.lt q hq).1; omega)).setCell (Nat.le_refl _) _
              have hv7 : W7.heap[R]? = some (.cells #[.slice (some ⟨g6, 0, none⟩) (cs.length + 1) cap6] 34 (0, 0)) := by rw [← hW7]; exact set_one ((hgrow6.block R (by simp; omega) hnR).trans (((ext_alloc w5 _).block R hR5).trans ((hgw.block R (show R < wr.heap.size from hRlt) (fun e => absurd (Option.some.inj e) (by omega))).trans HVR.out)))
              have hown7 : CellsB (R + 1) (.slice (some ⟨g6, 0, none⟩) (cs.length + 1) cap6) W7 (cs ++ [s]) := by unfold CellsB; rw [← hW7, List.length_append, List.map_append]; exact ownsRow_other hown6 (fun b hb => by have := (hown6.lt b hb).1; omega) _
              have hcu7 : Cur B W7 p k5' := hc5.keep (hbl.block p hpR) (hbl.mono (by have := hc5.lt.1; omega))
              have hg7 : wo.grownBy W7 (some p) := grown_over (grown_trans (grown_drew HGO.out) hgw) hbl (by rw [HRR.out]; exact Nat.le_refl _)
              try rw [hW7]
              clear hW7 hbl hown6 hgrow6 hat6 hlt6 hnR c6 cy6 hown5 c5 cy5 hR5 hgw hc5 c0 cy
              go_wp2
              go_roundw
              case rel =>
                refine ⟨j - 1, k5', cs ++ [s], some ⟨g6, 0, none⟩, cap6, by first | go_num | (congr 1; omega), by omega, by simp; omega, by omega, fun x hx => ?_, by rw [List.length_append]; exact hv7, by rw [List.length_append]; exact hown7, hcu7, hg7⟩
                rcases List.mem_append.1 hx with h | h
                · exact hss0 x h
                · rw [List.mem_singleton.1 h]; omega
              case measure => simp [intOf]; omega
            exact AllReadyH.nil
          exact AllReadyH.nil
        · obtain rfl : j = 0 := by omega
          have hji : ¬ (0 : Int) < ((0 : Nat) : Int) := by omega
          have hvo := fun b (e : u3.ownBlock = some b) => (show b < R from by obtain ⟨css', ho', _⟩ := H34.out; have := (ho'.lt b e).2; rw [HRR.out] at this; exact this)
          obtain ⟨css, hown, heach⟩ := H34.out.grow hgr HPW.out
          have hu : Rd.rd (Bs w.heap.size u3.ownBlock wr) wr [.slice va cs.length vc] (⟨cs⟩ : CsvRow) := Rd.mono (fun b hb => ⟨by have := hb.1; omega, hb.2, fun e => by have := hvo b e; have := hb.1; omega⟩) (hcb.rd (fun s hs => Nat.le_trans (hss0 s hs) (by omega)))
          have c0 : wr.cell? ⟨R, 0, none⟩ = some (.slice va cs.length vc) := cell_of_row _ _ 0 _ _ _ hv
          have cy : wr.frozen? ⟨R, 0, none⟩ = false := frozen_of_row _ _ 0 _ _ hv
          have hRlt : R < wr.heap.size := (Array.getElem?_eq_some_iff.1 hv).1
          have HU := hid hu
          have HEA := hid heach
          have HCU := hid hcu
          have HGW := hid (grown_trans HGR.out hgr)
          have hbase : w.heap.size ≤ wr.heap.size := by omega
          clear hv hcb hcu hgr hu heach hvo
          go_wp2_with ((at_builtin; refine wpList_append_lies _ rfl (.tmp 31) (.tmp 33) 24 rfl w.heap.size 34 iR (.agg #[.slice none 0 0]) 1 24 Tryz.underlying24 hiR hr0 hr1 hr2 rfl (by decide) u3 rs.length css.flatten rfl (hown.alloc _) ⟨wr.heap.size, 0, none⟩ 1 1 [.slice va cs.length vc] rfl rfl ?c1 ?c2 (by decide) ?c3 ?c4 ?c5 _ rfl ?_))
          try (case c1 => exact cell_one_new _ _ _)
          case c2 => first | rfl | (intro u hu; simp at hu; subst hu; rfl)
          case c3 => unfold maxLen; omega
          case c4 => omega
          case c5 => first | exact Nat.le_trans hbase (by simp) | omega
          intro g7 cap7 w7 hown7 hgrow7 hat7 hlt7
          have hvl := fun b (e : u3.ownBlock = some b) => hown.lt b e
          have hRB : RowsB w.heap.size (.slice (some ⟨g7, 0, none⟩) (rs.length + 1) cap7) w7 (rs ++ [⟨cs⟩]) := RowsB.snoc hown HEA.out HU.out (grown_trans (below_grown (ext_alloc _ _)) hgrow7) g7 rfl (by
            rcases hat7 with h | h
            · exact Or.inl h
            · right; (try simp at h); omega) hown7
          have hb7 : Below w.heap.size wr w7 := ((ext_alloc wr _).mono hbase).grown hgrow7 (by simp; omega) (fun q hq => (hvl q hq).1)
          have hcu7 := HCU.out.keep (hb7.block p HPW.out) (hb7.mono (by have := HCU.out.lt.1; have := HPW.out; omega))
          have hg7 := grown_over HGW.out hb7 (Nat.le_refl _)
          clear hown hown7 hgrow7 hat7 hlt7 hvl hb7 c0 cy hiS hs0 hs1 hs2 hiR hr0 hr1 hr2
          go_wp2
          go_roundw
          case rel => exact ⟨m - 1, k5, rs ++ [⟨cs⟩], by first | go_num | (congr 1; omega), by omega, by simp; omega, hRB, by omega, hcu7, hg7⟩
          case measure => simp [intOf]; omega
    · obtain rfl : m = 0 := by omega
      have hmi : ¬ (0 : Int) < ((0 : Nat) : Int) := by omega
      have hrl : rs.length ≤ 4 := by omega
      have HR0 := hid hrow
      have HG0 := hid hgr
      clear hrow hgr hrs
      go_wp2_with fail
      refine (curOnce 12 _ hcu (by omega) (by omega) (by omega)).mono ?_
      rintro e w2 ⟨b, rfl, k3, hk3, hc3, hg3⟩
      have HR3 := hid (HR0.out.grow hg3 HPW.out)
      have HG3 := hid (grown_trans HG0.out hg3)
      have HC3 := hid hc3
      clear hcu hc3 hg3 HR0 HG0
      cases b with
      | false =>
        go_wp2
        go_ret
        exact ⟨_, rs, rfl, HR3.out.rd, by omega, k3, by omega, HC3.out, HG3.out⟩
      | true =>
        go_wp2_with fail
        refine (curPick 3 _ HC3.out (by omega) (by omega)).mono ?_
        rintro e w3 ⟨q, rfl, hq, k4, hk4, hc4, hg4⟩
        have HR4 := hid (HR3.out.grow hg4 HPW.out)
        have HG4 := hid (grown_trans HG3.out hg4)
        have HC4 := hid hc4
        clear hc4 hg4 HR3 HC3 HG3
        rcases (show q = 0 ∨ q = 1 ∨ q = 2 by omega) with rfl | rfl | rfl
        · obtain ⟨css, hown, heach⟩ := HR4.out
          have HC5 := HC4
          have HG5 := HG4
          have hvl := fun b (e : u3.ownBlock = some b) => hown.lt b e
          have hbase : w.heap.size ≤ w3.heap.size := HG5.out.size
          go_wp2_with ((at_builtin; refine wpList_append_lies _ rfl (.tmp 58) (.tmp 60) 24 rfl w.heap.size 34 iR (.agg #[.slice none 0 0]) 1 24 Tryz.underlying24 hiR hr0 hr1 hr2 rfl (by decide) u3 rs.length css.flatten rfl (hown.alloc _) ⟨w3.heap.size, 0, none⟩ 1 1 [.slice none 0 0] rfl rfl ?d1 ?d2 (by decide) ?d3 ?d4 ?d5 _ rfl ?_))
          try (case d1 => exact cell_one_new _ _ _)
          case d2 => first | rfl | (intro u hu; simp at hu; subst hu; rfl)
          case d3 => unfold maxLen; omega
          case d4 => omega
          case d5 => first | exact Nat.le_trans hbase (by simp) | omega
          intro g7 cap7 w7 hown7 hgrow7 hat7 hlt7
          have hRB : RowsB w.heap.size (.slice (some ⟨g7, 0, none⟩) (rs.length + 1) cap7) w7 (rs ++ [⟨[]⟩]) := RowsB.snoc hown heach ⟨none, 0, rfl, Nat.le_refl _, by omega, fun h => absurd h (by simp)⟩ (grown_trans (below_grown (ext_alloc _ _)) hgrow7) g7 rfl (by
            rcases hat7 with h | h
            · exact Or.inl h
            · right; (try simp at h); (try simp); omega) hown7
          have hb7 : Below w.heap.size w3 w7 := ((ext_alloc w3 _).mono hbase).grown hgrow7 (Nat.le_trans hbase (by simp)) (fun q hq => (hvl q hq).1)
          have hcu7 := HC5.out.keep (hb7.block p (by have := HPW.out; omega)) (hb7.mono (by have := HC5.out.lt.1; have := HPW.out; omega))
          have hg7 := grown_over HG5.out hb7 (Nat.le_refl _)
          clear hown heach hown7 hgrow7 hat7 hlt7 hvl hb7 hiS hs0 hs1 hs2 hiR hr0 hr1 hr2
          go_wp2
          go_ret
          exact ⟨_, _, rfl, hRB.rd, by simp; omega, k4, by omega, hcu7, hg7⟩
        · go_wp2_with fail
          refine (curAny 3 _ HC4.out (by omega) (by omega)).mono ?_
          rintro e w5 ⟨s, rfl, hss, k5, hk5, hc5, hg5⟩
          have hR5 := HR4.out.grow hg5 HPW.out
          have hG5 := grown_trans HG4.out hg5
          obtain ⟨w6, hw6⟩ : ∃ x, w5.alloc (.cells #[.string s] 9) = x := ⟨_, rfl⟩
          have hb6 : Below w5.heap.size w5 w6 := by rw [← hw6]; exact ext_alloc _ _
          have hs6 : w6.heap.size = w5.heap.size + 1 := by rw [← hw6]; simp
          have hcell6 : w6.heap[w5.heap.size]? = some (.cells #[.string s] 9 (0, 0)) := by rw [← hw6]; exact heap_alloc_new _ _
          have HC5 := hid (hc5.later hb6)
          have HG5 := hid (grown_trans hG5 (below_grown hb6))
          obtain ⟨css, hown, heach⟩ := hR5.grow (below_grown hb6) HPW.out
          have hvo := fun b (e : u3.ownBlock = some b) => (show b < w5.heap.size from by obtain ⟨css', ho', _⟩ := hR5; exact (ho'.lt b e).2)
          have hu6 : Rd.rd (Bs w.heap.size u3.ownBlock w6) w6 [.slice (some ⟨w5.heap.size, 0, none⟩) 1 1] (⟨[s]⟩ : CsvRow) := by
            have hcb : CellsB w5.heap.size (.slice (some ⟨w5.heap.size, 0, none⟩) 1 1) w6 [s] := ⟨rfl, Or.inr ⟨w5.heap.size, 1, #[.string s], rfl, Nat.le_refl _, hcell6, Nat.le_refl _, by unfold maxLen; omega, rfl, rfl⟩⟩
            refine Rd.mono (fun b hb => ⟨by have := hb.1; have := hG5.size; omega, hb.2, fun e => by have := hvo b e; have := hb.1; omega⟩) (hcb.rd (fun x hx => by rw [List.mem_singleton.1 hx]; omega))
          clear hb6 hcell6 hvo hR5 hG5 hc5 hg5 hs6
          subst hw6
          have hvl := fun b (e : u3.ownBlock = some b) => hown.lt b e
          have hbase : w.heap.size ≤ (w5.alloc (.cells #[.string s] 9)).heap.size := HG5.out.size
          go_wp2_with ((at_builtin; refine wpList_append_lies _ rfl (.tmp 64) (.tmp 69) 24 rfl w.heap.size 34 iR (.agg #[.slice none 0 0]) 1 24 Tryz.underlying24 hiR hr0 hr1 hr2 rfl (by decide) u3 rs.length css.flatten rfl (hown.alloc _) ⟨w5.heap.size + 1, 0, none⟩ 1 1 [.slice (some ⟨w5.heap.size, 0, none⟩) 1 1] rfl rfl ?f1 ?f2 (by decide) ?f3 ?f4 ?f5 _ rfl ?_))
          try (case f1 => first | exact cell_one_new _ _ _ | (have := cell_one_new (w5.alloc (.cells #[.string s] 9)) (.slice (some ⟨w5.heap.size, 0, none⟩) 1 1) 34; simpa using this))
          case f2 => first | rfl | (intro u hu; simp at hu; subst hu; rfl)
          case f3 => unfold maxLen; omega
          case f4 => omega
          case f5 => first | exact Nat.le_trans hbase (by simp) | omega
          intro g7 cap7 w7 hown7 hgrow7 hat7 hlt7
          have hRB : RowsB w.heap.size (.slice (some ⟨g7, 0, none⟩) (rs.length + 1) cap7) w7 (rs ++ [⟨[s]⟩]) := RowsB.snoc hown heach hu6 (grown_trans (below_grown (ext_alloc _ _)) hgrow7) g7 rfl (by
            rcases hat7 with h | h
            · exact Or.inl h
            · right; (try simp at h); (try simp); omega) hown7
          have hb7 : Below w.heap.size (w5.alloc (.cells #[.string s] 9)) w7 := ((ext_alloc (w5.alloc (.cells #[.string s] 9)) _).mono hbase).grown hgrow7 (Nat.le_trans hbase (by simp)) (fun q hq => (hvl q hq).1)
          have hcu7 := HC5.out.keep (hb7.block p (by have := HPW.out; omega)) (hb7.mono (by have := HC5.out.lt.1; have := HPW.out; omega))
          have hg7 := grown_over HG5.out hb7 (Nat.le_refl _)
          clear hown heach hown7 hgrow7 hat7 hlt7 hvl hb7 hiS hs0 hs1 hs2 hiR hr0 hr1 hr2
          go_wp2
          go_ret
          exact ⟨_, _, rfl, hRB.rd, by simp; omega, k5, by omega, hcu7, hg7⟩
        · obtain ⟨R, hR⟩ : ∃ R, w3.heap.size = R := ⟨_, rfl⟩
          have hal := ext_alloc w3 (.cells #[.slice none 0 0] 34)
          obtain ⟨w5, hw5⟩ : ∃ w5, (w3.alloc (.cells #[.slice none 0 0] 34)).setCell ⟨R, 0, none⟩ (.slice none 0 0) = w5 := ⟨_, rfl⟩
          have hb5 : Below w3.heap.size w3 w5 := by rw [← hw5]; exact hal.setCell (by rw [hR]; exact Nat.le_refl _) _
          have HV5 := hid (show w5.heap[R]? = some (.cells #[.slice none 0 0] 34 (0, 0)) by rw [← hw5, ← hR]; exact set_one (heap_alloc_new w3 _))
          have HC5 := hid (HC4.out.later hb5)
          have HG5 := hid (show w3.grownBy w5 (some p) from below_grown hb5)
          have HRR := hid hR
          have hRs : w.heap.size ≤ R := by rw [← hR]; exact HG4.out.size
          clear hal hb5 HC4
          go_upto_region 14 with fail
          try rw [hR]
          try rw [hw5]
          clear hw5 hR
          go_wp2_with fail
          go_loopw [8] (fun i wr => ∃ (j k6 : Nat) (cs : List ByteArray) (va : Option Addr) (vc : Nat), i = .int .i64 (j : Int) ∧ j ≤ 101 ∧ cs.length = j ∧ k6 ≤ k4 + j ∧ (∀ s ∈ cs, s.size ≤ 1000) ∧ wr.heap[R]? = some (.cells #[.slice va cs.length vc] 34 (0, 0)) ∧ CellsB (R + 1) (.slice va cs.length vc) wr cs ∧ Cur B wr p k6 ∧ w3.grownBy wr (some p)) (fun i _ => 102 - (intOf i).toNat)
          case atStart => exact ⟨0, k4, [], none, 0, rfl, by omega, rfl, by omega, (fun s hs => absurd hs (by simp)), HV5.out, ⟨rfl, Or.inl ⟨rfl, rfl⟩⟩, HC5.out, HG5.out⟩
          case round =>
            obtain ⟨j, k6, cs, va, vc, rfl, hj, hcj, hk6, hss0, hv, hcb, hcu, hgr⟩ := hrel
            have HCJ := hid hcj
            have hcl : cs.length ≤ 101 := by omega
            clear hcj
            go_wp2_with fail
            refine (curPick 3 _ hcu (by omega) (by omega)).mono ?_
            rintro e w6 ⟨z, rfl, hz, k7, hk7, hc7, hg7⟩
            have hz2 : z ≤ 2 := by omega
            have hpR : p < R := by have := HPW.out; omega
            have hRw := (Array.getElem?_eq_some_iff.1 hv).1
            have hv6 : w6.heap[R]? = some (.cells #[.slice va cs.length vc] 34 (0, 0)) := (hg7.block R hRw (fun e => absurd (Option.some.inj e) (by omega))).trans hv
            have hcb6 : w6.ownsRow (R + 1) 9 1 (.slice va cs.length vc) cs.length (cs.map Value.string) := own_grow hcb hg7 (by omega)
            have HG6 := hid (grown_trans hgr hg7)
            have HC7 := hid hc7
            have hzw : IntKind.i64.wrap (99 + (z : Int)) = ((99 + z : Nat) : Int) := by rw [IntWalk.i64_in _ (by omega)]; omega
            have c0 : w6.cell? ⟨R, 0, none⟩ = some (.slice va cs.length vc) := cell_of_row _ _ 0 _ _ _ hv6
            have cy : w6.frozen? ⟨R, 0, none⟩ = false := frozen_of_row _ _ 0 _ _ hv6
            have hR6 : R < w6.heap.size := (Array.getElem?_eq_some_iff.1 hv6).1
            have HV6 := hid hv6
            clear hv hcb hcu hgr hg7 hc7 hz hv6 hRw
            by_cases hjz : j < 99 + z
            · have hji : (j : Int) < ((99 + z : Nat) : Int) := by omega
              go_wp2_with ((at_builtin; refine wpList_append_lies _ rfl (.tmp 48) (.tmp 49) 30 rfl (R + 1) 9 iS (.string ⟨#[]⟩) 1 16 Tryz.underlying30 hiS hs0 hs1 hs2 rfl (by decide) (.slice va cs.length vc) cs.length (cs.map Value.string) rfl (hcb6.alloc _) ⟨w6.heap.size, 0, none⟩ 1 1 [.string ⟨#[120]⟩] rfl rfl ?g1 ?g2 (by decide) ?g3 ?g4 ?g5 _ rfl ?_))
              try (case g1 => exact cell_one_new _ _ _)
              case g2 => first | rfl | (intro u hu; simp at hu; subst hu; rfl)
              case g3 => unfold maxLen; omega
              case g4 => omega
              case g5 => first | (simp; omega) | omega
              intro g8 cap8 w8 hown8 hgrow8 hat8 hlt8
              have hown5 := hcb6.alloc (.cells #[.string ⟨#[120]⟩] 9)
              have hnR : some R ≠ (Value.slice va cs.length vc).ownBlock := fun e => by have := (hown5.lt R e.symm).1; omega
              have c8 : w8.cell? ⟨R, 0, none⟩ = some (.slice va cs.length vc) := hgrow8.cell (keeps_cells (ext_alloc _ _) _ _ c0) hnR
              have cy8 : w8.frozen? ⟨R, 0, none⟩ = false := (World.frozen?_of_block (hgrow8.block R (by simp; omega) hnR)).trans ((World.frozen?_of_block ((ext_alloc _ _).block R hR6)).trans cy)
              obtain ⟨W7, hW7⟩ : ∃ x, w8.setCell ⟨R, 0, none⟩ (.slice (some ⟨g8, 0, none⟩) (cs.length + 1) cap8) = x := ⟨_, rfl⟩
              have hbl : Below R w6 W7 := by rw [← hW7]; exact (((ext_alloc w6 _).mono (Nat.le_of_lt hR6)).grown hgrow8 (by simp; omega) (fun q hq => by have := (hown5.lt q hq).1; omega)).setCell (Nat.le_refl _) _
              have hv7 : W7.heap[R]? = some (.cells #[.slice (some ⟨g8, 0, none⟩) (cs.length + 1) cap8] 34 (0, 0)) := by rw [← hW7]; exact set_one ((hgrow8.block R (by simp; omega) hnR).trans (((ext_alloc w6 _).block R hR6).trans HV6.out))
              have hown7 : CellsB (R + 1) (.slice (some ⟨g8, 0, none⟩) (cs.length + 1) cap8) W7 (cs ++ [⟨#[120]⟩]) := by unfold CellsB; rw [← hW7, List.length_append, List.map_append]; exact ownsRow_other hown8 (fun b hb => by have := (hown8.lt b hb).1; omega) _
              have hcu7 : Cur B W7 p k7 := HC7.out.keep (hbl.block p hpR) (hbl.mono (by have := HC7.out.lt.1; omega))
              have hg7 : w3.grownBy W7 (some p) := grown_over HG6.out hbl (by rw [HRR.out]; exact Nat.le_refl _)
              clear hbl hown8 hgrow8 hat8 hlt8 hnR hown5 c0 cy hR6
              go_upto_region 16 with fail
              try rw [hW7]
              clear hW7 c8 cy8
              go_wp2
              go_roundw
              case rel =>
                refine ⟨j + 1, k7, cs ++ [⟨#[120]⟩], some ⟨g8, 0, none⟩, cap8, by first | go_num | (congr 1; omega), by omega, by have := HCJ.out; simp; omega, by omega, fun x hx => ?_, by rw [List.length_append]; exact hv7, by rw [List.length_append]; exact hown7, hcu7, hg7⟩
                rcases List.mem_append.1 hx with h | h
                · exact hss0 x h
                · rw [List.mem_singleton.1 h]; decide
              case measure => simp [intOf]; omega
            · have hji : ¬ (j : Int) < ((99 + z : Nat) : Int) := by omega
              have hcbX : CellsB (R + 1) (.slice va cs.length vc) w6 cs := hcb6
              have hvo := fun b (e : u3.ownBlock = some b) => (show b < R from by obtain ⟨css', ho', _⟩ := HR4.out; have := (ho'.lt b e).2; rw [HRR.out] at this; exact this)
              obtain ⟨css, hown, heach⟩ := HR4.out.grow HG6.out HPW.out
              have hu : Rd.rd (Bs w.heap.size u3.ownBlock w6) w6 [.slice va cs.length vc] (⟨cs⟩ : CsvRow) := Rd.mono (fun b hb => ⟨by have := hb.1; omega, hb.2, fun e => by have := hvo b e; have := hb.1; omega⟩) (hcbX.rd (fun s hs => Nat.le_trans (hss0 s hs) (by omega)))
              have HC5' := HC7
              have HG5' := hid (grown_trans HG4.out HG6.out)
              clear hcb6 hcbX hvo
              have hvl := fun b (e : u3.ownBlock = some b) => hown.lt b e
              have hbase : w.heap.size ≤ w6.heap.size := HG5'.out.size
              go_wp2_with ((at_builtin; refine wpList_append_lies _ rfl (.tmp 52) (.tmp 54) 24 rfl w.heap.size 34 iR (.agg #[.slice none 0 0]) 1 24 Tryz.underlying24 hiR hr0 hr1 hr2 rfl (by decide) u3 rs.length css.flatten rfl (hown.alloc _) ⟨w6.heap.size, 0, none⟩ 1 1 [.slice va cs.length vc] rfl rfl ?h1 ?h2 (by decide) ?h3 ?h4 ?h5 _ rfl ?_))
              try (case h1 => exact cell_one_new _ _ _)
              case h2 => first | rfl | (intro u hu; simp at hu; subst hu; rfl)
              case h3 => unfold maxLen; omega
              case h4 => omega
              case h5 => first | exact Nat.le_trans hbase (by simp) | omega
              intro g7 cap7 w7 hown7 hgrow7 hat7 hlt7
              have hRB : RowsB w.heap.size (.slice (some ⟨g7, 0, none⟩) (rs.length + 1) cap7) w7 (rs ++ [⟨cs⟩]) := RowsB.snoc hown heach hu (grown_trans (below_grown (ext_alloc _ _)) hgrow7) g7 rfl (by
                rcases hat7 with h | h
                · exact Or.inl h
                · right; (try simp at h); (try simp); omega) hown7
              have hb7 : Below w.heap.size w6 w7 := ((ext_alloc w6 _).mono hbase).grown hgrow7 (Nat.le_trans hbase (by simp)) (fun q hq => (hvl q hq).1)
              have hcu7 := HC5'.out.keep (hb7.block p (by have := HPW.out; omega)) (hb7.mono (by have := HC5'.out.lt.1; have := HPW.out; omega))
              have hg7 := grown_over HG5'.out hb7 (Nat.le_refl _)
              clear hown heach hown7 hgrow7 hat7 hlt7 hvl hb7 hiS hs0 hs1 hs2 hiR hr0 hr1 hr2
              go_wp2
              go_ret
              exact ⟨_, _, rfl, hRB.rd, by simp; omega, k7, by omega, hcu7, hg7⟩
end Go.Proofs.YtcebgmdcbdggeaaGreatDoor
