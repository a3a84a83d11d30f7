/-
  What is proved here: the draws of a key, of an array with a key, of an array with a key and a value. No condition but that the cursor lies in memory.
  What is proved here: the plain laws of arrays: what is put is got, what is dropped is gone, all else stands. No condition.
  What is proved here: the program's ArrPut: what it returns. No condition but the size.
  What is proved here: the walk of FnArrKept: the law returns true at all codes. The condition 'Tabs' speaks of the library's tables.
-/
import Derived.Test.YtommldonooicjaaDoorDrawArrM
import Derived.Test.YtommldonooicjaaDoorDrw
import Derived.Test.YtommldonooicjaaDoorArrOk
import Derived.Test.YtommldonooicjaaDoorPutSt
import Derived.Test.YtommldonooicjaaDoorAkA
import Derived.Test.YtommldonooicjaaDoorDropI
import Derived.Deep.Cut
namespace Go.Proofs.YtommldonooicjaaDoor
open Go.RowKit
set_option linter.unusedVariables false
set_option linter.unusedSimpArgs false

/-- blocks beside the cursor's -/
def NotP (p : Nat) (w : World) : Nat → Prop := fun b => b < w.heap.size ∧ p ≠ b
set_option maxHeartbeats 16000000 in
set_option maxRecDepth 100000 in
theorem curKey {B p k : Nat} {x : Arr} {cs : Array Value} (w : World) (hc : Cur B w p k) (hk : k ≤ 600000000000) (h : Rd.rd (NotP p w) w cs.toList x) (hok : AllOk x) (hn : x.keys.length ≤ 300) :
    Calls Tryd.prog 27 #[.pointer (some ⟨p, 0, none⟩), .agg cs] w fun e w' => ∃ s : ByteArray, e = .returned (.string s) ∧ s.size ≤ 20000 ∧ ∃ k', k' ≤ k + 100 ∧ Cur B w' p k' ∧ w.grownBy w' (some p) := by
  obtain ⟨a0, c0, a1, c1', hcs, f0, f1⟩ := rdArr h
  obtain rfl := arr_of_list hcs
  have hp := hc.lt.2
  have HPW := hid hp
  have HOK := hid hok
  have hbox := heap_alloc_new w (.cells #[.slice a0 x.keys.length c0, .slice a1 x.vals.length c1'] 27)
  have hbe := ext_alloc w (.cells #[.slice a0 x.keys.length c0, .slice a1 x.vals.length c1'] 27)
  obtain ⟨wb, hwb⟩ : ∃ y, w.alloc (.cells #[.slice a0 x.keys.length c0, .slice a1 x.vals.length c1'] 27) = y := ⟨_, rfl⟩
  rw [hwb] at hbox hbe
  have HCB := hid (hc.later hbe)
  have HBX := hid hbox
  have HGB := hid (show w.grownBy wb (some p) from below_grown hbe)
  have HEB := hid (show ∀ r (hr : r < x.keys.length), ∃ b off, a0 = some ⟨b, off, none⟩ ∧ NotP p w b ∧ wb.cell? ⟨b, off + r, none⟩ = some (.string x.keys[r]) from fun r hr => by
    obtain ⟨b, off, e, hS, hcl⟩ := rdStrs_at f0 hr
    exact ⟨b, off, e, hS, (hbe.cell (p := ⟨b, off + r, none⟩) hS.1).trans hcl⟩)
  have HQX := hid hwb
  clear hcs f0 f1 h hc hok hwb hbox hbe
  go_enter Tryd.func27, Tryd.ntmps27
  go_upto_region 1 with fail
  try rw [HQX.out]
  clear HQX
  have c1b : wb.cell? ⟨w.heap.size, 0, none⟩ = some (.slice a0 x.keys.length c0) := cell_of_row _ _ 0 _ _ _ HBX.out
  go_cut [13] from 5 (fun v wx => ∃ (b : Bool) (k' : Nat), v = .bool b ∧ Hid (b = true → 0 < x.keys.length) ∧ k' ≤ k + 1 ∧ Cur B wx p k' ∧ wb.grownBy wx (some p))
  case first =>
    by_cases hn0 : 0 < x.keys.length
    · have hni : (0 : Int) < (x.keys.length : Int) := by omega
      go_wp2_with fail
      refine (curPick 2 _ HCB.out (by omega) (by omega)).mono ?_
      rintro e w1 ⟨q, rfl, hq, k1, hk1, hc1, hg1⟩
      have HN0 := hid hn0
      obtain ⟨b, hb⟩ : ∃ b, ((q : Int) == 0) = b := ⟨_, rfl⟩
      clear hn0 hq
      go_wp2
      try rw [hb]
      go_meet
      case rel => exact ⟨_, k1, rfl, hid (fun _ => HN0.out), hk1, hc1, hg1⟩
    · have hni : ¬ (0 : Int) < (x.keys.length : Int) := by omega
      go_wp2
      go_meet
      case rel => exact ⟨false, k, rfl, hid (fun h => by cases h), by omega, HCB.out, grown_refl _ _⟩
  case rest =>
  obtain ⟨w1, rfl⟩ : ∃ y, y = wc := ⟨_, rfl⟩
  obtain ⟨b, k1, rfl, HB0, hk1, hc1, hg1⟩ := hcut
  have HC1 := hid hc1
  have HG1b := hid hg1
  cases b with
  | true =>
    have hn0 := HB0.out rfl
    have HG1 := hid (grown_trans HGB.out hg1)
    have HEL := hid (show ∀ r (hr : r < x.keys.length), ∃ b off, a0 = some ⟨b, off, none⟩ ∧ NotP p w b ∧ w1.cell? ⟨b, off + r, none⟩ = some (.string x.keys[r]) from fun r hr => by
      obtain ⟨b, off, e, hS, hcl⟩ := HEB.out r hr
      exact ⟨b, off, e, hS, hg1.cell hcl (fun e => hS.2 (Option.some.inj e).symm)⟩)
    have c1 : w1.cell? ⟨w.heap.size, 0, none⟩ = some (.slice a0 x.keys.length c0) := hg1.cell c1b (fun e => by have e' : w.heap.size = p := Option.some.inj e; have := HPW.out; omega)
    clear HEB c1b hg1 hc1 HB0 HGB
    go_upto_region 2 with fail
    refine wp_region_held_drew (S := fun w' => True) (by kernel_rfl) ?_ (fun hHeld => ?_)
    · trivial
    refine wpAnyH_take (i := 0) (v := ?_) rfl (by kernel_rfl) (by kernel_rfl) (by kernel_rfl) (fun _ _ _ h => h) (Or.inl ⟨by rfl, ?_⟩) (by assumption) ?_
    rotate_left
    · (intro w' hSw; (try dsimp only at hSw); go_simp; try (with_reducible rfl))
    change wpAnyH _ _ _ _ _ _ _ (Act.put _ (some 14) _) _
    try simp only [Act.put, List.setIfInBounds_toArray, List.set_cons_zero, List.set_cons_succ]
    refine wpAnyH_take (i := 2) (v := ?_) rfl (by kernel_rfl) (by kernel_rfl) (by kernel_rfl) (fun _ _ _ h => h) (Or.inl ⟨by rfl, ?_⟩) (by assumption) ?_
    rotate_left
    · (intro w' hSw; (try dsimp only at hSw); go_simp; try (with_reducible rfl))
    change wpAnyH _ _ _ _ _ _ _ (Act.put _ (some 16) _) _
    try simp only [Act.put, List.setIfInBounds_toArray, List.set_cons_zero, List.set_cons_succ]
    refine wpAnyH_take (i := 3) (v := ?_) rfl (by kernel_rfl) (by kernel_rfl) (by kernel_rfl) (fun _ _ _ h => h) (Or.inl ⟨by rfl, ?_⟩) (by assumption) ?_
    rotate_left
    · (intro w' hSw; (try dsimp only at hSw); go_simp; try (with_reducible rfl))
    change wpAnyH _ _ _ _ _ _ _ (Act.put _ (some 17) _) _
    try simp only [Act.put, List.setIfInBounds_toArray, List.set_cons_zero, List.set_cons_succ]
    refine wpAnyH_ready (rs := [1, 4]) (by kernel_rfl) (by simp) ?_
    refine AllReadyH.cons (i := 1) rfl (fun K hK => ?_) ?_
    · simp only [List.getElem_toArray, List.getElem_cons_succ, List.getElem_cons_zero]
      rw [if_pos (by rfl)]
      go_simp
      refine hK.out _ _ ?_ (fun hHeld => ?_)
      · first | trivial | ((try dsimp only); trivial)
      clear hK K
      try simp only [Act.put, List.setIfInBounds_toArray, List.set_cons_zero, List.set_cons_succ]
      refine wpAnyH_ready (rs := [4]) (by kernel_rfl) (by simp) ?_
      refine AllReadyH.cons (i := 4) rfl (fun K hK => ?_) AllReadyH.nil
      simp only [List.getElem_toArray, List.getElem_cons_succ, List.getElem_cons_zero]
      rw [if_pos (by rfl)]
      go_simp
      refine hK.out _ _ ?_ (fun hHeld => ?_)
      · first | trivial | ((try dsimp only); trivial)
      clear hK K
      try simp only [Act.put, List.setIfInBounds_toArray, List.set_cons_zero, List.set_cons_succ]
      refine wpAnyH_take (i := 5) (v := ?_) rfl (by kernel_rfl) (by kernel_rfl) (by kernel_rfl) (fun _ _ _ h => h) (Or.inl ⟨by rfl, ?_⟩) (by assumption) ?_
      rotate_left
      · (intro w' hSw; (try dsimp only at hSw); go_simp; try (with_reducible rfl))
      change wpAnyH _ _ _ _ _ _ _ (Act.put _ (some 19) _) _
      try simp only [Act.put, List.setIfInBounds_toArray, List.set_cons_zero, List.set_cons_succ]
      refine wpAnyH_ready (rs := [6]) (by kernel_rfl) (by simp) ?_
      refine AllReadyH.cons (i := 6) rfl (fun K hK => ?_) AllReadyH.nil
      simp only [List.getElem_toArray, List.getElem_cons_succ, List.getElem_cons_zero]
      rw [if_pos (by rfl)]
      go_simp
      (go_at_call 53; refine (curPick (x.keys.length : Int) _ (Cur.drew HC1.out) (by omega) (by omega)).mono ?_; rintro e w6 ⟨r, rfl, hr, k6, hk6, hc6, hg6⟩; go_wp2_with fail)
      have hrl : r < x.keys.length := by omega
      have hrz : (0 : Int) ≤ (r : Int) := by omega
      have hri : (r : Int) < (x.keys.length : Int) := by omega
      obtain ⟨b, off, hab, hbS, hcl⟩ := HEL.out r hrl
      subst hab
      have t1 : w1.cell? ⟨b, off + r, none⟩ = some (.string x.keys[r]) := hcl
      have t6 : w6.cell? ⟨b, off + r, none⟩ = some (.string x.keys[r]) := hg6.cell t1 (fun e => hbS.2 (Option.some.inj e).symm)
      have c6 : w6.cell? ⟨w.heap.size, 0, none⟩ = some (.slice (some ⟨b, off, none⟩) x.keys.length c0) := hg6.cell c1 (fun e => by have e' : w.heap.size = p := Option.some.inj e; have := HPW.out; omega)
      obtain ⟨s, hs⟩ : ∃ s, x.keys[r] = s := ⟨_, rfl⟩
      have hss : s.size ≤ 20000 := by rw [← hs]; exact HOK.out.1 _ (List.getElem_mem _)
      rw [hs] at t1 t6
      refine hK.out _ _ ?_ (fun hHeld => ?_)
      · first | trivial | ((try dsimp only); trivial)
      clear hK K
      try simp only [Act.put, List.setIfInBounds_toArray, List.set_cons_zero, List.set_cons_succ]
      refine wpAnyH_take (i := 7) (v := ?_) rfl (by kernel_rfl) (by kernel_rfl) (by kernel_rfl) (fun _ _ _ h => h) (Or.inl ⟨by rfl, ?_⟩) (by assumption) ?_
      rotate_left
      · (intro w' hSw; (try dsimp only at hSw); go_simp; try (with_reducible rfl))
      change wpAnyH _ _ _ _ _ _ _ (Act.put _ (some 21) _) _
      try simp only [Act.put, List.setIfInBounds_toArray, List.set_cons_zero, List.set_cons_succ]
      refine wpAnyH_ready (rs := [8]) (by kernel_rfl) (by simp) ?_
      refine AllReadyH.cons (i := 8) rfl (fun K hK => ?_) AllReadyH.nil
      simp only [List.getElem_toArray, List.getElem_cons_succ, List.getElem_cons_zero]
      rw [if_pos (by rfl)]
      go_simp
      refine hK.out _ _ ?_ (fun hHeld => ?_)
      · first | trivial | ((try dsimp only); trivial)
      clear hK K
      try simp only [Act.put, List.setIfInBounds_toArray, List.set_cons_zero, List.set_cons_succ]
      refine wpAnyH_take (i := 9) (v := ?_) rfl (by kernel_rfl) (by kernel_rfl) (by kernel_rfl) (fun _ _ _ h => h) (Or.inl ⟨by rfl, ?_⟩) (by assumption) ?_
      rotate_left
      · (intro w' hSw; (try dsimp only at hSw); go_simp; try (with_reducible rfl))
      change wpAnyH _ _ _ _ _ _ _ (Act.put _ (some 4) _) _
      try simp only [Act.put, List.setIfInBounds_toArray, List.set_cons_zero, List.set_cons_succ]
      refine wpAnyH_done (by kernel_rfl) ?_ _
      go_wp2
      go_ret
      exact ⟨s, rfl, hss, k6, by omega, hc6, grown_trans HG1.out (grown_trans (grown_drew (grown_refl w1 (some p))) hg6)⟩
    refine AllReadyH.cons (i := 4) rfl (fun K hK => ?_) ?_
    · simp only [List.getElem_toArray, List.getElem_cons_succ, List.getElem_cons_zero]
      rw [if_pos (by rfl)]
      go_simp
      refine hK.out _ _ ?_ (fun hHeld => ?_)
      · first | trivial | ((try dsimp only); trivial)
      clear hK K
      try simp only [Act.put, List.setIfInBounds_toArray, List.set_cons_zero, List.set_cons_succ]
      refine wpAnyH_take (i := 5) (v := ?_) rfl (by kernel_rfl) (by kernel_rfl) (by kernel_rfl) (fun _ _ _ h => h) (Or.inl ⟨by rfl, ?_⟩) (by assumption) ?_
      rotate_left
      · (intro w' hSw; (try dsimp only at hSw); go_simp; try (with_reducible rfl))
      change wpAnyH _ _ _ _ _ _ _ (Act.put _ (some 19) _) _
      try simp only [Act.put, List.setIfInBounds_toArray, List.set_cons_zero, List.set_cons_succ]
      refine wpAnyH_ready (rs := [1, 6]) (by kernel_rfl) (by simp) ?_
      refine AllReadyH.cons (i := 1) rfl (fun K hK => ?_) ?_
      · simp only [List.getElem_toArray, List.getElem_cons_succ, List.getElem_cons_zero]
        rw [if_pos (by rfl)]
        go_simp
        refine hK.out _ _ ?_ (fun hHeld => ?_)
        · first | trivial | ((try dsimp only); trivial)
        clear hK K
        try simp only [Act.put, List.setIfInBounds_toArray, List.set_cons_zero, List.set_cons_succ]
        refine wpAnyH_ready (rs := [6]) (by kernel_rfl) (by simp) ?_
        refine AllReadyH.cons (i := 6) rfl (fun K hK => ?_) AllReadyH.nil
        simp only [List.getElem_toArray, List.getElem_cons_succ, List.getElem_cons_zero]
        rw [if_pos (by rfl)]
        go_simp
        (go_at_call 53; refine (curPick (x.keys.length : Int) _ (Cur.drew HC1.out) (by omega) (by omega)).mono ?_; rintro e w6 ⟨r, rfl, hr, k6, hk6, hc6, hg6⟩; go_wp2_with fail)
        have hrl : r < x.keys.length := by omega
        have hrz : (0 : Int) ≤ (r : Int) := by omega
        have hri : (r : Int) < (x.keys.length : Int) := by omega
        obtain ⟨b, off, hab, hbS, hcl⟩ := HEL.out r hrl
        subst hab
        have t1 : w1.cell? ⟨b, off + r, none⟩ = some (.string x.keys[r]) := hcl
        have t6 : w6.cell? ⟨b, off + r, none⟩ = some (.string x.keys[r]) := hg6.cell t1 (fun e => hbS.2 (Option.some.inj e).symm)
        have c6 : w6.cell? ⟨w.heap.size, 0, none⟩ = some (.slice (some ⟨b, off, none⟩) x.keys.length c0) := hg6.cell c1 (fun e => by have e' : w.heap.size = p := Option.some.inj e; have := HPW.out; omega)
        obtain ⟨s, hs⟩ : ∃ s, x.keys[r] = s := ⟨_, rfl⟩
        have hss : s.size ≤ 20000 := by rw [← hs]; exact HOK.out.1 _ (List.getElem_mem _)
        rw [hs] at t1 t6
        refine hK.out _ _ ?_ (fun hHeld => ?_)
        · first | trivial | ((try dsimp only); trivial)
        clear hK K
        try simp only [Act.put, List.setIfInBounds_toArray, List.set_cons_zero, List.set_cons_succ]
        refine wpAnyH_take (i := 7) (v := ?_) rfl (by kernel_rfl) (by kernel_rfl) (by kernel_rfl) (fun _ _ _ h => h) (Or.inl ⟨by rfl, ?_⟩) (by assumption) ?_
        rotate_left
        · (intro w' hSw; (try dsimp only at hSw); go_simp; try (with_reducible rfl))
        change wpAnyH _ _ _ _ _ _ _ (Act.put _ (some 21) _) _
        try simp only [Act.put, List.setIfInBounds_toArray, List.set_cons_zero, List.set_cons_succ]
        refine wpAnyH_ready (rs := [8]) (by kernel_rfl) (by simp) ?_
        refine AllReadyH.cons (i := 8) rfl (fun K hK => ?_) AllReadyH.nil
        simp only [List.getElem_toArray, List.getElem_cons_succ, List.getElem_cons_zero]
        rw [if_pos (by rfl)]
        go_simp
        refine hK.out _ _ ?_ (fun hHeld => ?_)
        · first | trivial | ((try dsimp only); trivial)
        clear hK K
        try simp only [Act.put, List.setIfInBounds_toArray, List.set_cons_zero, List.set_cons_succ]
        refine wpAnyH_take (i := 9) (v := ?_) rfl (by kernel_rfl) (by kernel_rfl) (by kernel_rfl) (fun _ _ _ h => h) (Or.inl ⟨by rfl, ?_⟩) (by assumption) ?_
        rotate_left
        · (intro w' hSw; (try dsimp only at hSw); go_simp; try (with_reducible rfl))
        change wpAnyH _ _ _ _ _ _ _ (Act.put _ (some 4) _) _
        try simp only [Act.put, List.setIfInBounds_toArray, List.set_cons_zero, List.set_cons_succ]
        refine wpAnyH_done (by kernel_rfl) ?_ _
        go_wp2
        go_ret
        exact ⟨s, rfl, hss, k6, by omega, hc6, grown_trans HG1.out (grown_trans (grown_drew (grown_refl w1 (some p))) hg6)⟩
      refine AllReadyH.cons (i := 6) rfl (fun K hK => ?_) ?_
      · simp only [List.getElem_toArray, List.getElem_cons_succ, List.getElem_cons_zero]
        rw [if_pos (by rfl)]
        go_simp
        (go_at_call 53; refine (curPick (x.keys.length : Int) _ (Cur.drew HC1.out) (by omega) (by omega)).mono ?_; rintro e w6 ⟨r, rfl, hr, k6, hk6, hc6, hg6⟩; go_wp2_with fail)
        have hrl : r < x.keys.length := by omega
        have hrz : (0 : Int) ≤ (r : Int) := by omega
        have hri : (r : Int) < (x.keys.length : Int) := by omega
        obtain ⟨b, off, hab, hbS, hcl⟩ := HEL.out r hrl
        subst hab
        have t1 : w1.cell? ⟨b, off + r, none⟩ = some (.string x.keys[r]) := hcl
        have t6 : w6.cell? ⟨b, off + r, none⟩ = some (.string x.keys[r]) := hg6.cell t1 (fun e => hbS.2 (Option.some.inj e).symm)
        have c6 : w6.cell? ⟨w.heap.size, 0, none⟩ = some (.slice (some ⟨b, off, none⟩) x.keys.length c0) := hg6.cell c1 (fun e => by have e' : w.heap.size = p := Option.some.inj e; have := HPW.out; omega)
        obtain ⟨s, hs⟩ : ∃ s, x.keys[r] = s := ⟨_, rfl⟩
        have hss : s.size ≤ 20000 := by rw [← hs]; exact HOK.out.1 _ (List.getElem_mem _)
        rw [hs] at t1 t6
        refine hK.out _ _ ?_ (fun hHeld => ?_)
        · first | trivial | ((try dsimp only); trivial)
        clear hK K
        try simp only [Act.put, List.setIfInBounds_toArray, List.set_cons_zero, List.set_cons_succ]
        refine wpAnyH_ready (rs := [1]) (by kernel_rfl) (by simp) ?_
        refine AllReadyH.cons (i := 1) rfl (fun K hK => ?_) AllReadyH.nil
        simp only [List.getElem_toArray, List.getElem_cons_succ, List.getElem_cons_zero]
        rw [if_pos (by rfl)]
        go_simp
        refine hK.out _ _ ?_ (fun hHeld => ?_)
        · first | trivial | ((try dsimp only); trivial)
        clear hK K
        try simp only [Act.put, List.setIfInBounds_toArray, List.set_cons_zero, List.set_cons_succ]
        refine wpAnyH_take (i := 7) (v := ?_) rfl (by kernel_rfl) (by kernel_rfl) (by kernel_rfl) (fun _ _ _ h => h) (Or.inl ⟨by rfl, ?_⟩) (by assumption) ?_
        rotate_left
        · (intro w' hSw; (try dsimp only at hSw); go_simp; try (with_reducible rfl))
        change wpAnyH _ _ _ _ _ _ _ (Act.put _ (some 21) _) _
        try simp only [Act.put, List.setIfInBounds_toArray, List.set_cons_zero, List.set_cons_succ]
        refine wpAnyH_ready (rs := [8]) (by kernel_rfl) (by simp) ?_
        refine AllReadyH.cons (i := 8) rfl (fun K hK => ?_) AllReadyH.nil
        simp only [List.getElem_toArray, List.getElem_cons_succ, List.getElem_cons_zero]
        rw [if_pos (by rfl)]
        go_simp
        refine hK.out _ _ ?_ (fun hHeld => ?_)
        · first | trivial | ((try dsimp only); trivial)
        clear hK K
        try simp only [Act.put, List.setIfInBounds_toArray, List.set_cons_zero, List.set_cons_succ]
        refine wpAnyH_take (i := 9) (v := ?_) rfl (by kernel_rfl) (by kernel_rfl) (by kernel_rfl) (fun _ _ _ h => h) (Or.inl ⟨by rfl, ?_⟩) (by assumption) ?_
        rotate_left
        · (intro w' hSw; (try dsimp only at hSw); go_simp; try (with_reducible rfl))
        change wpAnyH _ _ _ _ _ _ _ (Act.put _ (some 4) _) _
        try simp only [Act.put, List.setIfInBounds_toArray, List.set_cons_zero, List.set_cons_succ]
        refine wpAnyH_done (by kernel_rfl) ?_ _
        go_wp2
        go_ret
        exact ⟨s, rfl, hss, k6, by omega, hc6, grown_trans HG1.out (grown_trans (grown_drew (grown_refl w1 (some p))) hg6)⟩
      exact AllReadyH.nil
    exact AllReadyH.nil
  | false =>
    have HG1 := hid (grown_trans HGB.out hg1)
    clear HEB c1b hg1 hc1 HB0 HGB
    go_wp2_with fail
    refine (curOnce 12 _ HC1.out (by omega) (by omega) (by omega)).mono ?_
    rintro e w2 ⟨b, rfl, k2, hk2, hc2, hg2⟩
    cases b with
    | true =>
      go_wp2_with fail
      refine (curAny 2 _ hc2 (by omega) (by omega)).mono ?_
      rintro e w3 ⟨s, rfl, hs, k3, hk3, hc3, hg3⟩
      go_wp2
      go_ret
      exact ⟨s, rfl, by omega, k3, by omega, hc3, grown_trans HG1.out (grown_trans hg2 hg3)⟩
    | false =>
      go_wp2_with fail
      refine (curWord 2 _ hc2 (by omega) (by omega)).mono ?_
      rintro e w3 ⟨s, rfl, hs, k3, hk3, hc3, hg3⟩
      go_wp2
      go_ret
      exact ⟨s, rfl, by omega, k3, by omega, hc3, grown_trans HG1.out (grown_trans hg2 hg3)⟩

/-- an array's two slices in a block, beside a cursor's block -/
structure AB (w0 wx : World) (p g : Nat) (x : Arr) (u v : Value) : Prop where
  d : wx.heap[g]? = some (.cells #[u, v] 27 (0, 0))
  f : wx.heap[w0.heap.size]? = some (.cells #[.slice none 0 0, .slice none 0 0] 27 (0, 0))
  rd : Rd.rd (New (p + 1) wx) wx #[u, v].toList x
  hp : w0.heap.size < p ∧ p < g
  cur : ∃ B k, w0.heap.size < B ∧ B ≤ p ∧ k ≤ 40000 ∧ Cur B wx p k
  bel : Below w0.heap.size w0 wx
theorem AB.step {w0 wx wy : World} {p g : Nat} {x : Arr} {u v : Value} (h : AB w0 wx p g x u v) (hg : wx.grownBy wy (some p)) (hc : ∃ B k, w0.heap.size < B ∧ B ≤ p ∧ k ≤ 40000 ∧ Cur B wy p k) : AB w0 wy p g x u v := by
  have hgl := (Array.getElem?_eq_some_iff.1 h.d).1
  have hzl := (Array.getElem?_eq_some_iff.1 h.f).1
  refine ⟨(hg.block _ hgl (fun e => by have := Option.some.inj e; have := h.hp; omega)).trans h.d, (hg.block _ hzl (fun e => by have := Option.some.inj e; have := h.hp; omega)).trans h.f, ?_, h.hp, hc, ?_⟩
  · exact Rd.mono (S := New (p + 1) wx) (fun b hb => ⟨hb.1, Nat.lt_of_lt_of_le hb.2 hg.size⟩) (Rd.same (fun b hb => hg.block b hb.2 (fun e => by have := Option.some.inj e; have := hb.1; omega)) h.rd)
  · exact ⟨hg.os.trans h.bel.os, hg.tape.trans h.bel.tape, hg.output.trans h.bel.output, Nat.le_trans h.bel.size hg.size, fun i hi => (hg.block i (by omega) (fun e => by have := Option.some.inj e; have := h.hp; omega)).trans (h.bel.block i hi)⟩
theorem AB.drew {w0 wx : World} {p g : Nat} {x : Arr} {u v : Value} (h : AB w0 wx p g x u v) : AB w0 wx.drew p g x u v := h.step ⟨rfl, rfl, rfl, Nat.le_refl _, fun _ _ _ => rfl⟩ (by
  obtain ⟨B, k, h1, h2, h3, h4⟩ := h.cur
  exact ⟨B, k, h1, h2, h3, h4.drew⟩)
theorem AB.notp {w0 wx : World} {p g : Nat} {x : Arr} {u v : Value} (h : AB w0 wx p g x u v) : Rd.rd (NotP p wx) wx #[u, v].toList x := Rd.mono (fun b hb => ⟨hb.2, by have := hb.1; omega⟩) h.rd
theorem AB.cells {w0 wx : World} {p g : Nat} {x : Arr} {u v : Value} (h : AB w0 wx p g x u v) : (wx.cell? ⟨g, 0, none⟩ = some u ∧ wx.cell? ⟨g, 1, none⟩ = some v ∧ wx.frozen? ⟨g, 0, none⟩ = false ∧ wx.frozen? ⟨g, 1, none⟩ = false ∧ g < wx.heap.size) ∧
    (wx.cell? ⟨w0.heap.size, 0, none⟩ = some (.slice none 0 0) ∧ wx.cell? ⟨w0.heap.size, 1, none⟩ = some (.slice none 0 0) ∧ wx.frozen? ⟨w0.heap.size, 0, none⟩ = false ∧ wx.frozen? ⟨w0.heap.size, 1, none⟩ = false ∧ w0.heap.size < wx.heap.size) :=
  ⟨⟨cell_of_row _ _ 0 _ _ _ h.d, cell_of_row _ _ 1 _ _ _ h.d, frozen_of_row _ _ 0 _ _ h.d, frozen_of_row _ _ 1 _ _ h.d, (Array.getElem?_eq_some_iff.1 h.d).1⟩,
   ⟨cell_of_row _ _ 0 _ _ _ h.f, cell_of_row _ _ 1 _ _ _ h.f, frozen_of_row _ _ 0 _ _ h.f, frozen_of_row _ _ 1 _ _ h.f, (Array.getElem?_eq_some_iff.1 h.f).1⟩⟩
/-- an array and a key are returned -/
def GetRes (w w' : World) (e : Ending) : Prop := ∃ (a a' : Option Addr) (n n' c c' : Nat) (s : ByteArray), e = .returned (.tuple #[.agg #[.slice a n c, .slice a' n' c'], .string s]) ∧ s.size ≤ 20000 ∧ Below w.heap.size w w'
set_option maxHeartbeats 16000000 in
set_option maxRecDepth 100000 in
theorem drawArrGet {v : Value} {c : List UInt8} (w : World) (h : Rd.rd (Old w) w [v] c) (hn : c.length ≤ 1048576) :
    Calls Tryd.prog 15 #[v] w fun e w' => GetRes w w' e := by
  have hal := ext_alloc w (.cells #[.slice none 0 0, .slice none 0 0] 27)
  have hnew := heap_alloc_new w (.cells #[.slice none 0 0, .slice none 0 0] 27)
  obtain ⟨wA, hwA⟩ : ∃ y, w.alloc (.cells #[.slice none 0 0, .slice none 0 0] 27) = y := ⟨_, rfl⟩
  rw [hwA] at hal hnew
  have hsA : wA.heap.size = w.heap.size + 1 := by rw [← hwA]; simp
  obtain ⟨a, cap, rfl, h1, h2, hc⟩ := rdBytes (Rd.later hal h)
  have CO := hid (curOpen (a := a) (cap := cap) wA hn hc)
  have HAL := hid hal
  have HNEW := hid hnew
  have HSA := hid hsA
  have HQX := hid hwA
  clear hc h h1 h2 hwA hal hnew hsA
  go_enter Tryd.func15, Tryd.ntmps15
  go_upto_region 1 with fail
  try rw [HQX.out]
  clear HQX
  go_wp2_with fail
  refine CO.out.mono ?_
  rintro e w1 ⟨rfl, hc1, hb1⟩
  go_wp2_with fail
  refine (curArr _ hc1 (by omega)).mono ?_
  rintro e w2 ⟨u, v, x, rfl, hr2, hok, hl1, hl2, k2, hk2, hc2, hg2⟩
  obtain ⟨ua, uc, va, vc, hcs, _, _⟩ := rdArr hr2
  obtain ⟨rfl, rfl⟩ : u = .slice ua x.keys.length uc ∧ v = .slice va x.vals.length vc := by simpa using hcs
  have hab : AB w (w2.alloc (.cells #[.slice ua x.keys.length uc, .slice va x.vals.length vc] 27)) wA.heap.size w2.heap.size x (.slice ua x.keys.length uc) (.slice va x.vals.length vc) := by
    have hbx := ext_alloc w2 (.cells #[.slice ua x.keys.length uc, .slice va x.vals.length vc] 27)
    have hs1 := hb1.size
    have hs2 := hg2.size
    have hc1l := hc1.lt.2
    have hsA := HSA.out
    refine ⟨heap_alloc_new w2 _, (hbx.block _ (by omega)).trans ((hg2.block _ (by omega) (fun e => by have e' : w.heap.size = wA.heap.size := Option.some.inj e; omega)).trans ((hb1.block _ (by omega)).trans HNEW.out)), ?_, ⟨by omega, by omega⟩, ⟨_, k2, by omega, Nat.le_refl _, by omega, hc2.later hbx⟩, ?_⟩
    · exact Rd.mono (fun b hb => ⟨by have := hb.1; omega, hb.2⟩) (Rd.later' hbx hr2)
    · exact ext_trans HAL.out (ext_trans (drawn_below hb1 hg2) hbx)
  have HB3 := hid hab
  have HC3 := hid (hc2.later (ext_alloc w2 (.cells #[.slice ua x.keys.length uc, .slice va x.vals.length vc] 27)))
  have HOK := hid hok
  have HL1 := hid hl1
  have HL2 := hid hl2
  clear hr2 hok hl1 hl2 hab
  go_upto_region 3 with fail
  have HPB := hid (show w.heap.size < wA.heap.size by have := HSA.out; omega)
  obtain ⟨w4, hw4⟩ : ∃ y, w2.alloc (.cells #[.slice ua x.keys.length uc, .slice va x.vals.length vc] 27) = y := ⟨_, rfl⟩
  rw [hw4] at HB3 HC3
  try rw [hw4]
  clear hw4 hc2 hg2 hc1 hb1 CO HAL HNEW
  obtain ⟨⟨d0, d1, dy0, dy1, dl⟩, ⟨e0, e1, ey0, ey1, el⟩⟩ := HB3.out.drew.cells
  refine wp_region_held_drew (S := fun w' => True) (by kernel_rfl) ?_ (fun hHeld => ?_)
  · trivial
  refine wpAnyH_take (i := 1) (v := ?_) rfl (by kernel_rfl) (by kernel_rfl) (by kernel_rfl) (fun _ _ _ h => h) (Or.inl ⟨by rfl, ?_⟩) (by assumption) ?_
  rotate_left
  · (intro w' hSw; (try dsimp only at hSw); go_simp; try (with_reducible rfl))
  change wpAnyH _ _ _ _ _ _ _ (Act.put _ (some 11) _) _
  try simp only [Act.put, List.setIfInBounds_toArray, List.set_cons_zero, List.set_cons_succ]
  refine wpAnyH_ready (rs := [0, 2]) (by kernel_rfl) (by simp) ?_
  refine AllReadyH.cons (i := 0) rfl (fun K hK => ?_) ?_
  · simp only [List.getElem_toArray, List.getElem_cons_succ, List.getElem_cons_zero]
    rw [if_pos (by rfl)]
    go_simp
    refine hK.out _ _ ?_ (fun hHeld => ?_)
    · first | trivial | ((try dsimp only); trivial)
    clear hK K
    try simp only [Act.put, List.setIfInBounds_toArray, List.set_cons_zero, List.set_cons_succ]
    refine wpAnyH_ready (rs := [2]) (by kernel_rfl) (by simp) ?_
    refine AllReadyH.cons (i := 2) rfl (fun K hK => ?_) AllReadyH.nil
    simp only [List.getElem_toArray, List.getElem_cons_succ, List.getElem_cons_zero]
    rw [if_pos (by rfl)]
    go_simp
    refine hK.out _ _ ?_ (fun hHeld => ?_)
    · first | trivial | ((try dsimp only); trivial)
    clear hK K
    try simp only [Act.put, List.setIfInBounds_toArray, List.set_cons_zero, List.set_cons_succ]
    refine wpAnyH_ready (rs := [3]) (by kernel_rfl) (by simp) ?_
    refine AllReadyH.cons (i := 3) rfl (fun K hK => ?_) AllReadyH.nil
    simp only [List.getElem_toArray, List.getElem_cons_succ, List.getElem_cons_zero]
    rw [if_pos (by rfl)]
    go_simp
    (go_at_call 27; refine (curKey _ (Cur.drew HC3.out) (by omega) (HB3.out.drew.notp) HOK.out HL1.out).mono ?_; rintro e w5 ⟨s, rfl, hss, k5, hk5, hc5, hg5⟩; go_wp2_with fail)
    have hb5 := HB3.out.drew.step hg5 ⟨_, k5, HPB.out, Nat.le_refl _, by omega, hc5⟩
    obtain ⟨⟨d05, d15, dy05, dy15, dl5⟩, ⟨e05, e15, ey05, ey15, el5⟩⟩ := hb5.cells
    refine hK.out _ _ ?_ (fun hHeld => ?_)
    · first | trivial | ((try dsimp only); trivial)
    clear hK K
    try simp only [Act.put, List.setIfInBounds_toArray, List.set_cons_zero, List.set_cons_succ]
    refine wpAnyH_ready (rs := [4]) (by kernel_rfl) (by simp) ?_
    refine AllReadyH.cons (i := 4) rfl (fun K hK => ?_) AllReadyH.nil
    simp only [List.getElem_toArray, List.getElem_cons_succ, List.getElem_cons_zero]
    rw [if_pos (by rfl)]
    go_simp
    refine hK.out _ _ ?_ (fun hHeld => ?_)
    · first | trivial | ((try dsimp only); trivial)
    clear hK K
    try simp only [Act.put, List.setIfInBounds_toArray, List.set_cons_zero, List.set_cons_succ]
    refine wpAnyH_take (i := 5) (v := ?_) rfl (by kernel_rfl) (by kernel_rfl) (by kernel_rfl) (fun _ _ _ h => h) (Or.inl ⟨by rfl, ?_⟩) (by assumption) ?_
    rotate_left
    · (intro w' hSw; (try dsimp only at hSw); go_simp; try (with_reducible rfl))
    change wpAnyH _ _ _ _ _ _ _ (Act.put _ (some 3) _) _
    try simp only [Act.put, List.setIfInBounds_toArray, List.set_cons_zero, List.set_cons_succ]
    refine wpAnyH_done (by kernel_rfl) ?_ _
    go_wp2
    refine bodyPost_ret (v := .tuple #[.agg #[.slice ua x.keys.length uc, .slice va x.vals.length vc], .string s]) (by simp [results, Tryd.results15, go_sem, d05, d15, dy05, dy15, dl5, e05, e15, ey05, ey15, el5]) rfl ⟨_, _, _, _, _, _, s, rfl, hss, ?_⟩
    exact Below.setCell (Below.setCell hb5.bel (p := ⟨w.heap.size, 0, none⟩) (Nat.le_refl _) _) (p := ⟨w.heap.size, 1, none⟩) (Nat.le_refl _) _
  refine AllReadyH.cons (i := 2) rfl (fun K hK => ?_) ?_
  · simp only [List.getElem_toArray, List.getElem_cons_succ, List.getElem_cons_zero]
    rw [if_pos (by rfl)]
    go_simp
    refine hK.out _ _ ?_ (fun hHeld => ?_)
    · first | trivial | ((try dsimp only); trivial)
    clear hK K
    try simp only [Act.put, List.setIfInBounds_toArray, List.set_cons_zero, List.set_cons_succ]
    refine wpAnyH_ready (rs := [0, 3]) (by kernel_rfl) (by simp) ?_
    refine AllReadyH.cons (i := 0) rfl (fun K hK => ?_) ?_
    · simp only [List.getElem_toArray, List.getElem_cons_succ, List.getElem_cons_zero]
      rw [if_pos (by rfl)]
      go_simp
      refine hK.out _ _ ?_ (fun hHeld => ?_)
      · first | trivial | ((try dsimp only); trivial)
      clear hK K
      try simp only [Act.put, List.setIfInBounds_toArray, List.set_cons_zero, List.set_cons_succ]
      refine wpAnyH_ready (rs := [3]) (by kernel_rfl) (by simp) ?_
      refine AllReadyH.cons (i := 3) rfl (fun K hK => ?_) AllReadyH.nil
      simp only [List.getElem_toArray, List.getElem_cons_succ, List.getElem_cons_zero]
      rw [if_pos (by rfl)]
      go_simp
      (go_at_call 27; refine (curKey _ (Cur.drew HC3.out) (by omega) (HB3.out.drew.notp) HOK.out HL1.out).mono ?_; rintro e w5 ⟨s, rfl, hss, k5, hk5, hc5, hg5⟩; go_wp2_with fail)
      have hb5 := HB3.out.drew.step hg5 ⟨_, k5, HPB.out, Nat.le_refl _, by omega, hc5⟩
      obtain ⟨⟨d05, d15, dy05, dy15, dl5⟩, ⟨e05, e15, ey05, ey15, el5⟩⟩ := hb5.cells
      refine hK.out _ _ ?_ (fun hHeld => ?_)
      · first | trivial | ((try dsimp only); trivial)
      clear hK K
      try simp only [Act.put, List.setIfInBounds_toArray, List.set_cons_zero, List.set_cons_succ]
      refine wpAnyH_ready (rs := [4]) (by kernel_rfl) (by simp) ?_
      refine AllReadyH.cons (i := 4) rfl (fun K hK => ?_) AllReadyH.nil
      simp only [List.getElem_toArray, List.getElem_cons_succ, List.getElem_cons_zero]
      rw [if_pos (by rfl)]
      go_simp
      refine hK.out _ _ ?_ (fun hHeld => ?_)
      · first | trivial | ((try dsimp only); trivial)
      clear hK K
      try simp only [Act.put, List.setIfInBounds_toArray, List.set_cons_zero, List.set_cons_succ]
      refine wpAnyH_take (i := 5) (v := ?_) rfl (by kernel_rfl) (by kernel_rfl) (by kernel_rfl) (fun _ _ _ h => h) (Or.inl ⟨by rfl, ?_⟩) (by assumption) ?_
      rotate_left
      · (intro w' hSw; (try dsimp only at hSw); go_simp; try (with_reducible rfl))
      change wpAnyH _ _ _ _ _ _ _ (Act.put _ (some 3) _) _
      try simp only [Act.put, List.setIfInBounds_toArray, List.set_cons_zero, List.set_cons_succ]
      refine wpAnyH_done (by kernel_rfl) ?_ _
      go_wp2
      refine bodyPost_ret (v := .tuple #[.agg #[.slice ua x.keys.length uc, .slice va x.vals.length vc], .string s]) (by simp [results, Tryd.results15, go_sem, d05, d15, dy05, dy15, dl5, e05, e15, ey05, ey15, el5]) rfl ⟨_, _, _, _, _, _, s, rfl, hss, ?_⟩
      exact Below.setCell (Below.setCell hb5.bel (p := ⟨w.heap.size, 0, none⟩) (Nat.le_refl _) _) (p := ⟨w.heap.size, 1, none⟩) (Nat.le_refl _) _
    refine AllReadyH.cons (i := 3) rfl (fun K hK => ?_) ?_
    · simp only [List.getElem_toArray, List.getElem_cons_succ, List.getElem_cons_zero]
      rw [if_pos (by rfl)]
      go_simp
      (go_at_call 27; refine (curKey _ (Cur.drew HC3.out) (by omega) (HB3.out.drew.notp) HOK.out HL1.out).mono ?_; rintro e w5 ⟨s, rfl, hss, k5, hk5, hc5, hg5⟩; go_wp2_with fail)
      have hb5 := HB3.out.drew.step hg5 ⟨_, k5, HPB.out, Nat.le_refl _, by omega, hc5⟩
      obtain ⟨⟨d05, d15, dy05, dy15, dl5⟩, ⟨e05, e15, ey05, ey15, el5⟩⟩ := hb5.cells
      refine hK.out _ _ ?_ (fun hHeld => ?_)
      · first | trivial | ((try dsimp only); trivial)
      clear hK K
      try simp only [Act.put, List.setIfInBounds_toArray, List.set_cons_zero, List.set_cons_succ]
      refine wpAnyH_ready (rs := [0]) (by kernel_rfl) (by simp) ?_
      refine AllReadyH.cons (i := 0) rfl (fun K hK => ?_) AllReadyH.nil
      simp only [List.getElem_toArray, List.getElem_cons_succ, List.getElem_cons_zero]
      rw [if_pos (by rfl)]
      go_simp
      refine hK.out _ _ ?_ (fun hHeld => ?_)
      · first | trivial | ((try dsimp only); trivial)
      clear hK K
      try simp only [Act.put, List.setIfInBounds_toArray, List.set_cons_zero, List.set_cons_succ]
      refine wpAnyH_ready (rs := [4]) (by kernel_rfl) (by simp) ?_
      refine AllReadyH.cons (i := 4) rfl (fun K hK => ?_) AllReadyH.nil
      simp only [List.getElem_toArray, List.getElem_cons_succ, List.getElem_cons_zero]
      rw [if_pos (by rfl)]
      go_simp
      refine hK.out _ _ ?_ (fun hHeld => ?_)
      · first | trivial | ((try dsimp only); trivial)
      clear hK K
      try simp only [Act.put, List.setIfInBounds_toArray, List.set_cons_zero, List.set_cons_succ]
      refine wpAnyH_take (i := 5) (v := ?_) rfl (by kernel_rfl) (by kernel_rfl) (by kernel_rfl) (fun _ _ _ h => h) (Or.inl ⟨by rfl, ?_⟩) (by assumption) ?_
      rotate_left
      · (intro w' hSw; (try dsimp only at hSw); go_simp; try (with_reducible rfl))
      change wpAnyH _ _ _ _ _ _ _ (Act.put _ (some 3) _) _
      try simp only [Act.put, List.setIfInBounds_toArray, List.set_cons_zero, List.set_cons_succ]
      refine wpAnyH_done (by kernel_rfl) ?_ _
      go_wp2
      refine bodyPost_ret (v := .tuple #[.agg #[.slice ua x.keys.length uc, .slice va x.vals.length vc], .string s]) (by simp [results, Tryd.results15, go_sem, d05, d15, dy05, dy15, dl5, e05, e15, ey05, ey15, el5]) rfl ⟨_, _, _, _, _, _, s, rfl, hss, ?_⟩
      exact Below.setCell (Below.setCell hb5.bel (p := ⟨w.heap.size, 0, none⟩) (Nat.le_refl _) _) (p := ⟨w.heap.size, 1, none⟩) (Nat.le_refl _) _
    exact AllReadyH.nil
  exact AllReadyH.nil
/-- an array, a key and a value are returned -/
def PutRes (w w' : World) (e : Ending) : Prop := ∃ (ua va : Option Addr) (uc vc : Nat) (x : Arr) (s : ByteArray) (y : Val), e = .returned (.tuple #[.agg #[.slice ua x.keys.length uc, .slice va x.vals.length vc], .string s, .agg #[.int .i64 y.kind, .bool y.num.neg, .string y.num.dig, .int .i64 y.num.exp, .string y.text]]) ∧
  Rd.rd (New w.heap.size w') w' #[.slice ua x.keys.length uc, .slice va x.vals.length vc].toList x ∧ AllOk x ∧ x.keys.length ≤ 300 ∧ x.vals.length ≤ 300 ∧ s.size ≤ 20000 ∧ vS 20000 y ∧ Below w.heap.size w w'
set_option maxHeartbeats 16000000 in
set_option maxRecDepth 100000 in
theorem drawArrPut {v : Value} {c : List UInt8} (w : World) (h : Rd.rd (Old w) w [v] c) (hn : c.length ≤ 1048576) :
    Calls Tryd.prog 7 #[v] w fun e w' => PutRes w w' e := by
  have hal : Below w.heap.size w ((w.alloc (.cells #[.slice none 0 0, .slice none 0 0] 27)).alloc (.cells #[.int .i64 0, .bool false, .string ⟨#[]⟩, .int .i64 0, .string ⟨#[]⟩] 31)) := ext_trans (ext_alloc _ _) (ext_alloc _ _)
  have hnew : ((w.alloc (.cells #[.slice none 0 0, .slice none 0 0] 27)).alloc (.cells #[.int .i64 0, .bool false, .string ⟨#[]⟩, .int .i64 0, .string ⟨#[]⟩] 31)).heap[w.heap.size]? = some (.cells #[.slice none 0 0, .slice none 0 0] 27 (0, 0)) := ((ext_alloc _ _).block w.heap.size (by simp)).trans (heap_alloc_new w _)
  have hnv : VB ((w.alloc (.cells #[.slice none 0 0, .slice none 0 0] 27)).alloc (.cells #[.int .i64 0, .bool false, .string ⟨#[]⟩, .int .i64 0, .string ⟨#[]⟩] 31)) (w.heap.size + 1) val0 := by
    have := heap_alloc_new (w.alloc (.cells #[.slice none 0 0, .slice none 0 0] 27)) (.cells #[.int .i64 0, .bool false, .string ⟨#[]⟩, .int .i64 0, .string ⟨#[]⟩] 31)
    rw [show (w.alloc (.cells #[.slice none 0 0, .slice none 0 0] 27)).heap.size = w.heap.size + 1 by simp] at this
    exact this
  obtain ⟨wA, hwA⟩ : ∃ y, (w.alloc (.cells #[.slice none 0 0, .slice none 0 0] 27)).alloc (.cells #[.int .i64 0, .bool false, .string ⟨#[]⟩, .int .i64 0, .string ⟨#[]⟩] 31) = y := ⟨_, rfl⟩
  rw [hwA] at hal hnew hnv
  have hsA : wA.heap.size = w.heap.size + 2 := by rw [← hwA]; simp
  obtain ⟨a, cap, rfl, h1, h2, hc⟩ := rdBytes (Rd.later hal h)
  have CO := hid (curOpen (a := a) (cap := cap) wA hn hc)
  have HAL := hid hal
  have HNEW := hid hnew
  have HNV := hid hnv
  have HSA := hid hsA
  have HQX := hid hwA
  clear hc h h1 h2 hwA hal hnew hsA hnv
  go_enter Tryd.func7, Tryd.ntmps7
  go_upto_region 1 with fail
  try rw [HQX.out]
  clear HQX
  go_wp2_with fail
  refine CO.out.mono ?_
  rintro e w1 ⟨rfl, hc1, hb1⟩
  go_wp2_with fail
  refine (curArr _ hc1 (by omega)).mono ?_
  rintro e w2 ⟨u, v, x, rfl, hr2, hok, hl1, hl2, k2, hk2, hc2, hg2⟩
  obtain ⟨ua, uc, va, vc, hcs, _, _⟩ := rdArr hr2
  obtain ⟨rfl, rfl⟩ : u = .slice ua x.keys.length uc ∧ v = .slice va x.vals.length vc := by simpa using hcs
  have hab : AB w (w2.alloc (.cells #[.slice ua x.keys.length uc, .slice va x.vals.length vc] 27)) wA.heap.size w2.heap.size x (.slice ua x.keys.length uc) (.slice va x.vals.length vc) := by
    have hbx := ext_alloc w2 (.cells #[.slice ua x.keys.length uc, .slice va x.vals.length vc] 27)
    have hs1 := hb1.size
    have hs2 := hg2.size
    have hc1l := hc1.lt.2
    have hsA := HSA.out
    refine ⟨heap_alloc_new w2 _, (hbx.block _ (by omega)).trans ((hg2.block _ (by omega) (fun e => by have e' : w.heap.size = wA.heap.size := Option.some.inj e; omega)).trans ((hb1.block _ (by omega)).trans HNEW.out)), ?_, ⟨by omega, by omega⟩, ⟨_, k2, by omega, Nat.le_refl _, by omega, hc2.later hbx⟩, ?_⟩
    · exact Rd.mono (fun b hb => ⟨by have := hb.1; omega, hb.2⟩) (Rd.later' hbx hr2)
    · exact ext_trans HAL.out (ext_trans (drawn_below hb1 hg2) hbx)
  have HB3 := hid hab
  have HC3 := hid (hc2.later (ext_alloc w2 (.cells #[.slice ua x.keys.length uc, .slice va x.vals.length vc] 27)))
  have HOK := hid hok
  have HL1 := hid hl1
  have HL2 := hid hl2
  have HV3 := hid (show VB (w2.alloc (.cells #[.slice ua x.keys.length uc, .slice va x.vals.length vc] 27)) (w.heap.size + 1) val0 from (((HNV.out.later hb1).grown hg2 (by have := HSA.out; omega)).later (ext_alloc _ _)))
  clear hr2 hok hl1 hl2 hab
  go_upto_region 3 with fail
  have HPB := hid (show w.heap.size < wA.heap.size by have := HSA.out; omega)
  obtain ⟨w3, hw3⟩ : ∃ y, w2.alloc (.cells #[.slice ua x.keys.length uc, .slice va x.vals.length vc] 27) = y := ⟨_, rfl⟩
  rw [hw3] at HB3 HC3 HV3
  try rw [hw3]
  clear hw3 hc2 hg2 hc1 hb1 CO HAL HNEW HNV
  obtain ⟨⟨d0, d1, dy0, dy1, dl⟩, ⟨e0, e1, ey0, ey1, el⟩⟩ := HB3.out.cells
  go_wp2_with fail
  refine (curKey _ HC3.out (by omega) HB3.out.notp HOK.out HL1.out).mono ?_
  rintro e w4 ⟨s, rfl, hss, k4, hk4, hc4, hg4⟩
  have HB4 := hid (HB3.out.step hg4 ⟨_, k4, HPB.out, Nat.le_refl _, by omega, hc4⟩)
  have HC4 := hid hc4
  have HSS := hid hss
  have HV4 := hid (HV3.out.grown hg4 (by have := HSA.out; omega))
  have hpw : wA.heap.size ≠ w.heap.size + 1 := by have := HSA.out; omega
  clear hc4 hg4 hss HB3 HC3 HV3 d0 d1 dy0 dy1 dl e0 e1 ey0 ey1 el
  obtain ⟨⟨d0, d1, dy0, dy1, dl⟩, ⟨e0, e1, ey0, ey1, el⟩⟩ := HB4.out.drew.cells
  go_upto_region 4 with fail
  refine wp_region_held_drew (S := fun w' => True) (by kernel_rfl) ?_ (fun hHeld => ?_)
  · trivial
  refine wpAnyH_take (i := 1) (v := ?_) rfl (by kernel_rfl) (by kernel_rfl) (by kernel_rfl) (fun _ _ _ h => h) (Or.inl ⟨by rfl, ?_⟩) (by assumption) ?_
  rotate_left
  · (intro w' hSw; (try dsimp only at hSw); go_simp; try (with_reducible rfl))
  change wpAnyH _ _ _ _ _ _ _ (Act.put _ (some 16) _) _
  try simp only [Act.put, List.setIfInBounds_toArray, List.set_cons_zero, List.set_cons_succ]
  refine wpAnyH_take (i := 2) (v := ?_) rfl (by kernel_rfl) (by kernel_rfl) (by kernel_rfl) (fun _ _ _ h => h) (Or.inl ⟨by rfl, ?_⟩) (by assumption) ?_
  rotate_left
  · (intro w' hSw; (try dsimp only at hSw); go_simp; try (with_reducible rfl))
  change wpAnyH _ _ _ _ _ _ _ (Act.put _ (some 17) _) _
  try simp only [Act.put, List.setIfInBounds_toArray, List.set_cons_zero, List.set_cons_succ]
  refine wpAnyH_ready (rs := [0, 3]) (by kernel_rfl) (by simp) ?_
  refine AllReadyH.cons (i := 0) rfl (fun K hK => ?_) ?_
  · simp only [List.getElem_toArray, List.getElem_cons_succ, List.getElem_cons_zero]
    rw [if_pos (by rfl)]
    go_simp
    refine hK.out _ _ ?_ (fun hHeld => ?_)
    · first | trivial | ((try dsimp only); trivial)
    clear hK K
    try simp only [Act.put, List.setIfInBounds_toArray, List.set_cons_zero, List.set_cons_succ]
    refine wpAnyH_ready (rs := [3]) (by kernel_rfl) (by simp) ?_
    refine AllReadyH.cons (i := 3) rfl (fun K hK => ?_) AllReadyH.nil
    simp only [List.getElem_toArray, List.getElem_cons_succ, List.getElem_cons_zero]
    rw [if_pos (by rfl)]
    go_simp
    (go_at_call 28; refine (curVal _ (Cur.drew HC4.out) (by omega)).mono ?_; rintro e w5 ⟨y, hy, he5, k5, hk5, hc5, hg5⟩; obtain rfl : e = _ := he5; go_wp2_with fail)
    have hb5 := HB4.out.drew.step hg5 ⟨_, k5, HPB.out, Nat.le_refl _, by omega, hc5⟩
    have hv5 := (show VB w4.drew (w.heap.size + 1) val0 from HV4.out).grown hg5 (by omega)
    obtain ⟨⟨d05, d15, dy05, dy15, dl5⟩, ⟨e05, e15, ey05, ey15, el5⟩⟩ := hb5.cells
    obtain ⟨⟨v0, v1, v2, v3, v4⟩, ⟨vy0, vy1, vy2, vy3, vy4⟩, vl⟩ := hv5.cells
    refine hK.out _ _ ?_ (fun hHeld => ?_)
    · first | trivial | ((try dsimp only); trivial)
    clear hK K
    try simp only [Act.put, List.setIfInBounds_toArray, List.set_cons_zero, List.set_cons_succ]
    refine wpAnyH_ready (rs := [4]) (by kernel_rfl) (by simp) ?_
    refine AllReadyH.cons (i := 4) rfl (fun K hK => ?_) AllReadyH.nil
    simp only [List.getElem_toArray, List.getElem_cons_succ, List.getElem_cons_zero]
    rw [if_pos (by rfl)]
    go_simp
    refine hK.out _ _ ?_ (fun hHeld => ?_)
    · first | trivial | ((try dsimp only); trivial)
    clear hK K
    try simp only [Act.put, List.setIfInBounds_toArray, List.set_cons_zero, List.set_cons_succ]
    refine wpAnyH_take (i := 5) (v := ?_) rfl (by kernel_rfl) (by kernel_rfl) (by kernel_rfl) (fun _ _ _ h => h) (Or.inl ⟨by rfl, ?_⟩) (by assumption) ?_
    rotate_left
    · (intro w' hSw; (try dsimp only at hSw); go_simp; try (with_reducible rfl))
    change wpAnyH _ _ _ _ _ _ _ (Act.put _ (some 3) _) _
    try simp only [Act.put, List.setIfInBounds_toArray, List.set_cons_zero, List.set_cons_succ]
    refine wpAnyH_ready (rs := [6]) (by kernel_rfl) (by simp) ?_
    refine AllReadyH.cons (i := 6) rfl (fun K hK => ?_) AllReadyH.nil
    simp only [List.getElem_toArray, List.getElem_cons_succ, List.getElem_cons_zero]
    rw [if_pos (by rfl)]
    go_simp
    refine hK.out _ _ ?_ (fun hHeld => ?_)
    · first | trivial | ((try dsimp only); trivial)
    clear hK K
    try simp only [Act.put, List.setIfInBounds_toArray, List.set_cons_zero, List.set_cons_succ]
    refine wpAnyH_done (by kernel_rfl) ?_ _
    go_wp2
    refine bodyPost_ret (v := .tuple #[.agg #[.slice ua x.keys.length uc, .slice va x.vals.length vc], .string s, .agg #[.int .i64 y.kind, .bool y.num.neg, .string y.num.dig, .int .i64 y.num.exp, .string y.text]]) (by simp [results, Tryd.results7, go_sem, d05, d15, dy05, dy15, dl5, e05, e15, ey05, ey15, el5, v0, v1, v2, v3, v4, vy0, vy1, vy2, vy3, vy4, vl]) rfl ⟨_, _, _, _, x, s, y, rfl, ?_, HOK.out, HL1.out, HL2.out, HSS.out, hy, ?_⟩
    · refine Rd.mono (S := New (wA.heap.size + 1) w5) (fun b hb => ⟨by have := hb.1; have := HSA.out; omega, by have := hb.2; simpa [World.setCell] using this⟩) (Rd.same (fun b hb => ?_) hb5.rd)
      have h1 := hb.1
      have h2 := HSA.out
      have q : ∀ (W : World) (o g : Nat) (u : Value), g ≤ w.heap.size + 1 → (W.setCell ⟨g, o, none⟩ u).heap[b]? = W.heap[b]? := fun W o g u hg => heap_setCell_other W ⟨g, o, none⟩ b u (by show b ≠ g; omega)
      exact (q _ _ _ _ (by omega)).trans ((q _ _ _ _ (by omega)).trans ((q _ _ _ _ (by omega)).trans ((q _ _ _ _ (by omega)).trans ((q _ _ _ _ (by omega)).trans ((q _ _ _ _ (by omega)).trans (q _ _ _ _ (by omega)))))))
    · have hq := Below.setCell (Below.setCell hb5.bel (p := ⟨w.heap.size, 0, none⟩) (Nat.le_refl _) (.slice ua x.keys.length uc)) (p := ⟨w.heap.size, 1, none⟩) (Nat.le_refl _) (.slice va x.vals.length vc)
      repeat' (first | (with_reducible exact hq) | (with_reducible refine Below.setCell ?_ ?_ _) | (show w.heap.size ≤ w.heap.size + 1; exact Nat.le_succ _))
  refine AllReadyH.cons (i := 3) rfl (fun K hK => ?_) ?_
  · simp only [List.getElem_toArray, List.getElem_cons_succ, List.getElem_cons_zero]
    rw [if_pos (by rfl)]
    go_simp
    (go_at_call 28; refine (curVal _ (Cur.drew HC4.out) (by omega)).mono ?_; rintro e w5 ⟨y, hy, he5, k5, hk5, hc5, hg5⟩; obtain rfl : e = _ := he5; go_wp2_with fail)
    have hb5 := HB4.out.drew.step hg5 ⟨_, k5, HPB.out, Nat.le_refl _, by omega, hc5⟩
    have hv5 := (show VB w4.drew (w.heap.size + 1) val0 from HV4.out).grown hg5 (by omega)
    obtain ⟨⟨d05, d15, dy05, dy15, dl5⟩, ⟨e05, e15, ey05, ey15, el5⟩⟩ := hb5.cells
    obtain ⟨⟨v0, v1, v2, v3, v4⟩, ⟨vy0, vy1, vy2, vy3, vy4⟩, vl⟩ := hv5.cells
    refine hK.out _ _ ?_ (fun hHeld => ?_)
    · first | trivial | ((try dsimp only); trivial)
    clear hK K
    try simp only [Act.put, List.setIfInBounds_toArray, List.set_cons_zero, List.set_cons_succ]
    refine wpAnyH_ready (rs := [0]) (by kernel_rfl) (by simp) ?_
    refine AllReadyH.cons (i := 0) rfl (fun K hK => ?_) AllReadyH.nil
    simp only [List.getElem_toArray, List.getElem_cons_succ, List.getElem_cons_zero]
    rw [if_pos (by rfl)]
    go_simp
    refine hK.out _ _ ?_ (fun hHeld => ?_)
    · first | trivial | ((try dsimp only); trivial)
    clear hK K
    try simp only [Act.put, List.setIfInBounds_toArray, List.set_cons_zero, List.set_cons_succ]
    refine wpAnyH_ready (rs := [4]) (by kernel_rfl) (by simp) ?_
    refine AllReadyH.cons (i := 4) rfl (fun K hK => ?_) AllReadyH.nil
    simp only [List.getElem_toArray, List.getElem_cons_succ, List.getElem_cons_zero]
    rw [if_pos (by rfl)]
    go_simp
    refine hK.out _ _ ?_ (fun hHeld => ?_)
    · first | trivial | ((try dsimp only); trivial)
    clear hK K
    try simp only [Act.put, List.setIfInBounds_toArray, List.set_cons_zero, List.set_cons_succ]
    refine wpAnyH_take (i := 5) (v := ?_) rfl (by kernel_rfl) (by kernel_rfl) (by kernel_rfl) (fun _ _ _ h => h) (Or.inl ⟨by rfl, ?_⟩) (by assumption) ?_
    rotate_left
    · (intro w' hSw; (try dsimp only at hSw); go_simp; try (with_reducible rfl))
    change wpAnyH _ _ _ _ _ _ _ (Act.put _ (some 3) _) _
    try simp only [Act.put, List.setIfInBounds_toArray, List.set_cons_zero, List.set_cons_succ]
    refine wpAnyH_ready (rs := [6]) (by kernel_rfl) (by simp) ?_
    refine AllReadyH.cons (i := 6) rfl (fun K hK => ?_) AllReadyH.nil
    simp only [List.getElem_toArray, List.getElem_cons_succ, List.getElem_cons_zero]
    rw [if_pos (by rfl)]
    go_simp
    refine hK.out _ _ ?_ (fun hHeld => ?_)
    · first | trivial | ((try dsimp only); trivial)
    clear hK K
    try simp only [Act.put, List.setIfInBounds_toArray, List.set_cons_zero, List.set_cons_succ]
    refine wpAnyH_done (by kernel_rfl) ?_ _
    go_wp2
    refine bodyPost_ret (v := .tuple #[.agg #[.slice ua x.keys.length uc, .slice va x.vals.length vc], .string s, .agg #[.int .i64 y.kind, .bool y.num.neg, .string y.num.dig, .int .i64 y.num.exp, .string y.text]]) (by simp [results, Tryd.results7, go_sem, d05, d15, dy05, dy15, dl5, e05, e15, ey05, ey15, el5, v0, v1, v2, v3, v4, vy0, vy1, vy2, vy3, vy4, vl]) rfl ⟨_, _, _, _, x, s, y, rfl, ?_, HOK.out, HL1.out, HL2.out, HSS.out, hy, ?_⟩
    · refine Rd.mono (S := New (wA.heap.size + 1) w5) (fun b hb => ⟨by have := hb.1; have := HSA.out; omega, by have := hb.2; simpa [World.setCell] using this⟩) (Rd.same (fun b hb => ?_) hb5.rd)
      have h1 := hb.1
      have h2 := HSA.out
      have q : ∀ (W : World) (o g : Nat) (u : Value), g ≤ w.heap.size + 1 → (W.setCell ⟨g, o, none⟩ u).heap[b]? = W.heap[b]? := fun W o g u hg => heap_setCell_other W ⟨g, o, none⟩ b u (by show b ≠ g; omega)
      exact (q _ _ _ _ (by omega)).trans ((q _ _ _ _ (by omega)).trans ((q _ _ _ _ (by omega)).trans ((q _ _ _ _ (by omega)).trans ((q _ _ _ _ (by omega)).trans ((q _ _ _ _ (by omega)).trans (q _ _ _ _ (by omega)))))))
    · have hq := Below.setCell (Below.setCell hb5.bel (p := ⟨w.heap.size, 0, none⟩) (Nat.le_refl _) (.slice ua x.keys.length uc)) (p := ⟨w.heap.size, 1, none⟩) (Nat.le_refl _) (.slice va x.vals.length vc)
      repeat' (first | (with_reducible exact hq) | (with_reducible refine Below.setCell ?_ ?_ _) | (show w.heap.size ≤ w.heap.size + 1; exact Nat.le_succ _))
  exact AllReadyH.nil
end Go.Proofs.YtommldonooicjaaDoor

namespace Go.Proofs.YtommldonooicjaaDoor
open Go.RowKit
set_option linter.unusedVariables false
set_option linter.unusedSimpArgs false

theorem arrAt_hit {a : Arr} {s : ByteArray} {k : Nat} (hk : a.keys[k]? = some s) (h : ∀ i, i < k → a.keys[i]? ≠ some s) : arrAt a s = k := by
  obtain ⟨hl, he⟩ := List.getElem?_eq_some_iff.1 hk
  unfold arrAt
  rw [nameAt_hit hl (fun i hi hc => h i hi (by rw [List.getElem?_eq_getElem (by omega), hc])) he]
  omega
theorem arrAt_miss {a : Arr} {s : ByteArray} (h : s ∉ a.keys) : arrAt a s = -1 := by
  unfold arrAt
  rw [nameAt_miss (fun i hi hc => h (by rw [← hc]; exact List.getElem_mem hi))]
  rfl
theorem nodup_idx {l : List ByteArray} : l.Nodup ↔ ∀ i j : Nat, i < j → j < l.length → l[i]? ≠ l[j]? := by
  unfold List.Nodup
  rw [List.pairwise_iff_getElem]
  constructor
  · intro h i j hij hj he
    rw [List.getElem?_eq_getElem (by omega), List.getElem?_eq_getElem hj, Option.some.injEq] at he
    exact h i j (by omega) hj hij he
  · intro h i j hi hj hij he
    exact h i j hij hj (by rw [List.getElem?_eq_getElem hi, List.getElem?_eq_getElem hj, he])
theorem nodup_get {l : List ByteArray} (h : l.Nodup) {i j : Nat} {s : ByteArray} (hi : l[i]? = some s) (hj : l[j]? = some s) : i = j := by
  obtain ⟨hl, he⟩ := List.getElem?_eq_some_iff.1 hi
  exact (nodup_idx.1 h |> fun H => by
    rcases Nat.lt_trichotomy i j with c | c | c
    · exact absurd (hi.trans hj.symm) (H i j c (List.getElem?_eq_some_iff.1 hj).1)
    · exact c
    · exact absurd (hj.trans hi.symm) (H j i c hl))
theorem arrAt_uniq {a : Arr} {s : ByteArray} {k : Nat} (hn : a.keys.Nodup) (hk : a.keys[k]? = some s) : arrAt a s = k :=
  arrAt_hit hk fun i hi hc => absurd (nodup_get hn hc hk) (by omega)
theorem least {p : Nat → Prop} : ∀ n, p n → ∃ k, p k ∧ ∀ i, i < k → ¬ p i := by
  intro n
  induction n using Nat.strongRecOn with
  | _ n ih =>
    intro hn
    by_cases h : ∃ m, m < n ∧ p m
    · obtain ⟨m, hm, hp⟩ := h; exact ih m hm hp
    · exact ⟨n, hn, fun i hi hp => h ⟨i, hi, hp⟩⟩
theorem arrAt_cases (a : Arr) (s : ByteArray) : (s ∉ a.keys ∧ arrAt a s = -1) ∨ ∃ k : Nat, a.keys[k]? = some s ∧ arrAt a s = k := by
  by_cases h : s ∈ a.keys
  · right
    have hex : ∃ k : Nat, a.keys[k]? = some s := by obtain ⟨i, hi, he⟩ := List.mem_iff_getElem.1 h; exact ⟨i, by rw [List.getElem?_eq_getElem hi, he]⟩
    obtain ⟨n, hn⟩ := hex
    obtain ⟨k, hk, hmin⟩ := least (p := fun k => a.keys[k]? = some s) n hn
    exact ⟨k, hk, arrAt_hit hk hmin⟩
  · exact Or.inl ⟨h, arrAt_miss h⟩
theorem arrGet_hit {a : Arr} {s : ByteArray} {k : Nat} {v : Val} (hk : arrAt a s = k) (hv : a.vals[k]? = some v) : arrGet a s = v := by
  obtain ⟨hl, he⟩ := List.getElem?_eq_some_iff.1 hv
  unfold arrGet
  rw [dif_pos (by rw [hk]; exact ⟨by omega, by simpa using hl⟩)]
  simp only [hk, Int.toNat_natCast]
  exact he
theorem arrGet_miss {a : Arr} {s : ByteArray} (hk : arrAt a s = -1) : arrGet a s = val0 := by
  unfold arrGet
  rw [dif_neg (by rw [hk]; omega)]

structure Good (a : Arr) : Prop where
  len : a.keys.length ≤ 200
  vals : a.vals.length = a.keys.length
  okk : ∀ s ∈ a.keys, okText s = true
  okv : ∀ v ∈ a.vals, valOk v = true
  nd : a.keys.Nodup
theorem arrOk_iff {a : Arr} : arrOk a = true ↔ Good a := by
  constructor
  · intro h
    unfold arrOk at h
    simp only [Bool.and_eq_true, decide_eq_true_eq, List.all_eq_true, List.mem_range] at h
    obtain ⟨⟨h1, h2⟩, h3⟩ := h
    have h4 : ∀ k (hk : k < a.keys.length), okText a.keys[k] = true ∧ valOk (a.vals[k]'(by omega)) = true ∧ arrAt a a.keys[k] = k := by
      intro k hk
      have := h3 k hk
      rw [arrOkAt_eq hk (by omega)] at this
      simp only [Bool.and_eq_true, decide_eq_true_eq] at this
      exact ⟨this.1.1, this.1.2, this.2⟩
    refine ⟨h1, h2, ?_, ?_, ?_⟩
    · intro s hs
      obtain ⟨i, hi, rfl⟩ := List.mem_iff_getElem.1 hs
      exact (h4 i hi).1
    · intro s hs
      obtain ⟨i, hi, rfl⟩ := List.mem_iff_getElem.1 hs
      exact (h4 i (by omega)).2.1
    · rw [nodup_idx]
      intro i j hij hj he
      rw [List.getElem?_eq_getElem (by omega), List.getElem?_eq_getElem hj] at he
      have e1 := (h4 i (by omega)).2.2
      have e2 := (h4 j hj).2.2
      simp only [Option.some.injEq] at he
      rw [he] at e1
      omega
  · intro h
    refine arrOk_all h.len h.vals fun k hk => ?_
    rw [arrOkAt_eq hk (by rw [h.vals]; exact hk), h.okk _ (List.getElem_mem _), h.okv _ (List.getElem_mem _)]
    simp only [Bool.true_and, decide_eq_true_eq]
    exact arrAt_uniq h.nd (List.getElem?_eq_getElem hk)
theorem fillK_same {vs : List Val} {n : Nat} (h : vs.length = n) : fillK vs n = vs := by
  apply List.ext_getElem
  · rw [fillK_len, h]
  · intro i h1 h2
    rw [fillK_get]
    unfold fillAt
    rw [dif_pos h2]
theorem arrFill_same {a : Arr} (h : a.vals.length = a.keys.length) : arrFill a = a := by
  obtain ⟨ks, vs⟩ := a
  unfold arrFill
  simp only [fillK_same h]
theorem dropAt_erase {α : Type} (l : List α) (k : Nat) : dropAt l k = l.eraseIdx k := by
  unfold dropAt; rw [List.eraseIdx_eq_take_drop_succ]
/-- what stands in b of a but for one key -/
structure Besides (a b : Arr) (key : ByteArray) : Prop where
  got : ∀ k, k ≠ key → arrGet b k = arrGet a k
  is : ∀ k, k ≠ key → (arrAt b k < 0 ↔ arrAt a k < 0)
theorem Besides.refl (a : Arr) (key : ByteArray) : Besides a a key := ⟨fun _ _ => rfl, fun _ _ => Iff.rfl⟩
theorem Besides.trans {a b c : Arr} {key : ByteArray} (h : Besides a b key) (k : Besides b c key) : Besides a c key :=
  ⟨fun x hx => (k.got x hx).trans (h.got x hx), fun x hx => (k.is x hx).trans (h.is x hx)⟩
theorem put_good {a : Arr} {key : ByteArray} {v : Val} (h : Good a) (hp : putOk a key v = true) :
    Good (arrPut a key v) ∧ arrGet (arrPut a key v) key = v ∧ 0 ≤ arrAt (arrPut a key v) key ∧ Besides a (arrPut a key v) key := by
  have h0 := hp
  unfold putOk at h0
  simp only [Bool.and_eq_true, Bool.not_eq_true', Bool.and_eq_false_iff, decide_eq_false_iff_not] at h0
  obtain ⟨⟨ht, hv⟩, hr⟩ := h0
  unfold arrPut
  rw [if_pos hp]
  unfold arrSet
  rw [fillK_same h.vals]
  rcases arrAt_cases a key with ⟨hm, hat⟩ | ⟨k, hk, hat⟩
  · rw [if_pos (by omega)]
    have hlt : a.keys.length < 200 := by rcases hr with h' | h' <;> omega
    have hnd : (a.keys ++ [key]).Nodup := by
      rw [List.nodup_append]
      refine ⟨h.nd, by simp, ?_⟩
      intro s hs t ht' e
      simp only [List.mem_singleton] at ht'
      exact hm (by rw [← ht', ← e]; exact hs)
    have hn : (⟨a.keys ++ [key], a.vals ++ [v]⟩ : Arr).keys[a.keys.length]? = some key := by simp
    have hat' := arrAt_uniq hnd hn
    refine ⟨⟨by simp; omega, by simp [h.vals], ?_, ?_, hnd⟩, arrGet_hit hat' (by rw [← h.vals]; simp), by rw [hat']; omega, ?_⟩
    · intro s hs
      rcases List.mem_append.1 hs with hs | hs
      · exact h.okk s hs
      · simp only [List.mem_singleton] at hs; rw [hs]; exact ht
    · intro s hs
      rcases List.mem_append.1 hs with hs | hs
      · exact h.okv s hs
      · simp only [List.mem_singleton] at hs; rw [hs]; exact hv
    · have hB : ∀ x, x ≠ key → arrGet (⟨a.keys ++ [key], a.vals ++ [v]⟩ : Arr) x = arrGet a x ∧ arrAt (⟨a.keys ++ [key], a.vals ++ [v]⟩ : Arr) x = arrAt a x := by
        intro x hx
        rcases arrAt_cases a x with ⟨hmx, hatx⟩ | ⟨i, hi, hatx⟩
        · have e : arrAt (⟨a.keys ++ [key], a.vals ++ [v]⟩ : Arr) x = -1 := arrAt_miss (by simp only [List.mem_append, List.mem_singleton]; rintro (h | h); exact hmx h; exact hx h)
          exact ⟨by rw [arrGet_miss e, arrGet_miss hatx], by rw [e, hatx]⟩
        · obtain ⟨hil, _⟩ := List.getElem?_eq_some_iff.1 hi
          have e : arrAt (⟨a.keys ++ [key], a.vals ++ [v]⟩ : Arr) x = i := arrAt_uniq hnd (by simp only [List.getElem?_append_left hil]; exact hi)
          have hiv : i < a.vals.length := by rw [h.vals]; exact hil
          exact ⟨by rw [arrGet_hit e (v := a.vals[i]) (by simp only [List.getElem?_append_left hiv]; exact List.getElem?_eq_getElem hiv), arrGet_hit hatx (List.getElem?_eq_getElem hiv)], by rw [e, hatx]⟩
      exact ⟨fun x hx => (hB x hx).1, fun x hx => by rw [(hB x hx).2]⟩
  · rw [if_neg (by omega), hat]
    simp only [Int.toNat_natCast]
    obtain ⟨hkl, hke⟩ := List.getElem?_eq_some_iff.1 hk
    have hat' : arrAt (⟨a.keys, a.vals.set k v⟩ : Arr) key = k := hat
    have hkv : k < a.vals.length := by rw [h.vals]; exact hkl
    refine ⟨⟨h.len, by simp [h.vals], h.okk, ?_, h.nd⟩, arrGet_hit hat' (by simp [hkv]), by rw [hat']; omega, ?_⟩
    · intro s hs
      rcases List.mem_or_eq_of_mem_set hs with hs | hs
      · exact h.okv s hs
      · rw [hs]; exact hv
    · refine ⟨fun x hx => ?_, fun x hx => Iff.rfl⟩
      rcases arrAt_cases a x with ⟨hmx, hatx⟩ | ⟨i, hi, hatx⟩
      · rw [arrGet_miss hatx, arrGet_miss (a := ⟨a.keys, a.vals.set k v⟩) hatx]
      · obtain ⟨hil, hie⟩ := List.getElem?_eq_some_iff.1 hi
        have hiv : i < a.vals.length := by rw [h.vals]; exact hil
        have hne : k ≠ i := by
          intro e
          subst e
          exact hx (by rw [← hie, ← hke])
        rw [arrGet_hit hatx (List.getElem?_eq_getElem hiv), arrGet_hit (a := ⟨a.keys, a.vals.set k v⟩) hatx (v := a.vals[i]) (by simp only [List.getElem?_set_ne hne]; exact List.getElem?_eq_getElem hiv)]
theorem put_bad {a : Arr} {key : ByteArray} {v : Val} (h : Good a) (hp : putOk a key v = false) : arrPut a key v = a := by
  unfold arrPut
  rw [hp, if_neg (by decide), arrFill_same h.vals]
theorem drop_good {a : Arr} (key : ByteArray) (h : Good a) : Good (arrDrop a key) ∧ arrAt (arrDrop a key) key = -1 ∧ Besides a (arrDrop a key) key := by
  unfold arrDrop
  rcases arrAt_cases a key with ⟨hm, hat⟩ | ⟨k, hk, hat⟩
  · rw [if_pos (by omega), arrFill_same h.vals]
    exact ⟨h, hat, Besides.refl a key⟩
  · rw [if_neg (by omega), hat, fillK_same h.vals]
    simp only [Int.toNat_natCast, dropAt_erase]
    obtain ⟨hkl, hke⟩ := List.getElem?_eq_some_iff.1 hk
    have hnd : (a.keys.eraseIdx k).Nodup := h.nd.sublist (List.eraseIdx_sublist a.keys k)
    have hmk : key ∉ a.keys.eraseIdx k := by
      intro hm
      obtain ⟨i, hi⟩ := List.mem_iff_getElem?.1 hm
      rw [List.getElem?_eraseIdx] at hi
      split at hi
      · have := nodup_get h.nd hi hk; omega
      · have := nodup_get h.nd hi hk; omega
    have hl1 : (a.keys.eraseIdx k).length = a.keys.length - 1 := by rw [List.length_eraseIdx_of_lt hkl]
    have hl2 : (a.vals.eraseIdx k).length = a.vals.length - 1 := by rw [List.length_eraseIdx_of_lt (by rw [h.vals]; exact hkl)]
    refine ⟨⟨by have := h.len; simp only [hl1]; omega, by simp only [hl1, hl2, h.vals], ?_, ?_, hnd⟩, arrAt_miss hmk, ?_⟩
    · intro s hs; exact h.okk s (List.mem_of_mem_eraseIdx hs)
    · intro s hs; exact h.okv s (List.mem_of_mem_eraseIdx hs)
    · have hB : ∀ x, x ≠ key → arrGet (⟨a.keys.eraseIdx k, a.vals.eraseIdx k⟩ : Arr) x = arrGet a x ∧ (arrAt (⟨a.keys.eraseIdx k, a.vals.eraseIdx k⟩ : Arr) x < 0 ↔ arrAt a x < 0) := by
        intro x hx
        rcases arrAt_cases a x with ⟨hmx, hatx⟩ | ⟨i, hi, hatx⟩
        · have e : arrAt (⟨a.keys.eraseIdx k, a.vals.eraseIdx k⟩ : Arr) x = -1 := arrAt_miss fun hc => hmx (List.mem_of_mem_eraseIdx hc)
          exact ⟨by rw [arrGet_miss e, arrGet_miss hatx], by rw [e, hatx]⟩
        · obtain ⟨hil, hie⟩ := List.getElem?_eq_some_iff.1 hi
          have hiv : i < a.vals.length := by rw [h.vals]; exact hil
          have hne : k ≠ i := by
            intro e
            subst e
            exact hx (by rw [← hie, ← hke])
          obtain ⟨j, hj1, hj2⟩ : ∃ j, (a.keys.eraseIdx k)[j]? = some x ∧ (a.vals.eraseIdx k)[j]? = some a.vals[i] := by
            by_cases hik : i < k
            · exact ⟨i, by rw [List.getElem?_eraseIdx, if_pos hik]; exact hi, by rw [List.getElem?_eraseIdx, if_pos hik]; exact List.getElem?_eq_getElem hiv⟩
            · refine ⟨i - 1, ?_, ?_⟩
              · rw [List.getElem?_eraseIdx, if_neg (by omega), Nat.sub_add_cancel (by omega)]; exact hi
              · rw [List.getElem?_eraseIdx, if_neg (by omega), Nat.sub_add_cancel (by omega)]; exact List.getElem?_eq_getElem hiv
          have e : arrAt (⟨a.keys.eraseIdx k, a.vals.eraseIdx k⟩ : Arr) x = j := arrAt_uniq hnd hj1
          exact ⟨by rw [arrGet_hit e hj2, arrGet_hit hatx (List.getElem?_eq_getElem hiv)], by rw [e, hatx]; omega⟩
      exact ⟨fun x hx => (hB x hx).1, fun x hx => (hB x hx).2⟩
end Go.Proofs.YtommldonooicjaaDoor

namespace Go.Proofs.YtommldonooicjaaDoor
open Go.RowKit
set_option linter.unusedVariables false
set_option linter.unusedSimpArgs false

set_option maxHeartbeats 8000000 in
set_option maxRecDepth 100000 in
theorem implPut {cs ys : Array Value} {x : Arr} {y : Val} (s : ByteArray) (W : World) (h : Rd.rd (Old W) W cs.toList x) (hy : Rd.rd (Old W) W ys.toList y) (hn : x.keys.length ≤ 1048576) (hsz : Hid (s.size ≤ 9223372036854775807)) (hT : Tabs W) :
    Calls Tryd.prog 8 #[.agg cs, .string s, .agg ys] W fun e w' => ∃ cs' : Array Value, e = .returned (.tuple #[.agg cs', .bool (putOk x s y)]) ∧ Rd.rd (New W.heap.size w') w' cs'.toList (arrPut x s y) ∧ OwArr (New W.heap.size w') w' (arrPut x s y) cs' ∧ Below W.heap.size W w' := by
  have H0 := h
  obtain ⟨a0, c0, a1, c1, hcs, f0, f1⟩ := rdArr h
  obtain rfl := arr_of_list hcs
  obtain ⟨hds, k0, k1, k2, k3⟩ := rdVal hy
  obtain rfl := arr_of_list hds
  have HVK := hid (fillK_ok (vals_ok f1) x.keys.length)
  have HSK := hid (strs_ok f0)
  have HYK : Hid (vOk y) := hid ⟨k0, k1, k2, k3⟩
  have HY := hy
  have F0 := f0
  have hle := arrAt_le x s
  clear hcs hds f0 f1 h hy
  obtain ⟨ii, hi, hz0, hz1, hz2⟩ := info_parts infoS
  obtain ⟨jj, ki, kz0, kz1, kz2⟩ := info_parts infoV
  have HAT := hid (show nameAt x.keys s - 1 = arrAt x s from rfl)
  go_enter Tryd.func8, Tryd.ntmps8
  have bP : Below W.heap.size W W := Below.refl _ _
  have zP : W.heap.size ≤ W.heap.size := Nat.le_refl _
  have LA : Live (Old W) W W := Live.refl fun b hb => hb
  go_wp2_with fail
  obtain ⟨a_A, hw_a_A⟩ : ∃ v, W.alloc (.cells #[.slice a0 x.keys.length c0, .slice a1 x.vals.length c1] 27) = v := ⟨_, rfl⟩
  have x_a_A : Below W.heap.size W a_A := by rw [← hw_a_A]; exact ext_alloc _ _
  have s_a_A : a_A.heap.size = W.heap.size + 1 := by rw [← hw_a_A]; simp
  have c_A_0 : a_A.cell? ⟨W.heap.size, 0, none⟩ = some (.slice a0 x.keys.length c0) := by rw [← hw_a_A]; simp
  have c_A_1 : a_A.cell? ⟨W.heap.size, 1, none⟩ = some (.slice a1 x.vals.length c1) := by rw [← hw_a_A]; simp
  have l_A : W.heap.size < a_A.heap.size := by omega
  replace hT : Tabs a_A := tabs_below hT x_a_A
  replace bP : Below W.heap.size W a_A := bw_call bP zP x_a_A
  replace LA : Live (Old W) W a_A := LA.call x_a_A
  have y_a_A : W.heap.size ≤ a_A.heap.size := x_a_A.size
  replace zP : W.heap.size ≤ a_A.heap.size := bP.size
  rw [hw_a_A]
  clear hw_a_A x_a_A
  obtain ⟨a_V, hw_a_V⟩ : ∃ v, a_A.alloc (.cells #[.int .i64 y.kind, .bool y.num.neg, .string y.num.dig, .int .i64 y.num.exp, .string y.text] 31) = v := ⟨_, rfl⟩
  have x_a_V : Below a_A.heap.size a_A a_V := by rw [← hw_a_V]; exact ext_alloc _ _
  have s_a_V : a_V.heap.size = a_A.heap.size + 1 := by rw [← hw_a_V]; simp
  have c_V_0 : a_V.cell? ⟨a_A.heap.size, 0, none⟩ = some (.int .i64 y.kind) := by rw [← hw_a_V]; simp
  have c_V_1 : a_V.cell? ⟨a_A.heap.size, 1, none⟩ = some (.bool y.num.neg) := by rw [← hw_a_V]; simp
  have c_V_2 : a_V.cell? ⟨a_A.heap.size, 2, none⟩ = some (.string y.num.dig) := by rw [← hw_a_V]; simp
  have c_V_3 : a_V.cell? ⟨a_A.heap.size, 3, none⟩ = some (.int .i64 y.num.exp) := by rw [← hw_a_V]; simp
  have c_V_4 : a_V.cell? ⟨a_A.heap.size, 4, none⟩ = some (.string y.text) := by rw [← hw_a_V]; simp
  have l_V : a_A.heap.size < a_V.heap.size := by omega
  replace hT : Tabs a_V := tabs_below hT x_a_V
  replace bP : Below W.heap.size W a_V := bw_call bP zP x_a_V
  replace c_A_0 : a_V.cell? ⟨W.heap.size, 0, none⟩ = some (.slice a0 x.keys.length c0) := (x_a_V.cell (p := ⟨W.heap.size, 0, none⟩) l_A).trans c_A_0
  replace c_A_1 : a_V.cell? ⟨W.heap.size, 1, none⟩ = some (.slice a1 x.vals.length c1) := (x_a_V.cell (p := ⟨W.heap.size, 1, none⟩) l_A).trans c_A_1
  replace l_A : W.heap.size < a_V.heap.size := Nat.lt_of_lt_of_le l_A x_a_V.size
  replace LA : Live (Old W) W a_V := LA.call x_a_V
  have y_a_V : a_A.heap.size ≤ a_V.heap.size := x_a_V.size
  replace zP : W.heap.size ≤ a_V.heap.size := bP.size
  rw [s_a_A] at c_V_0 c_V_1 c_V_2 c_V_3 c_V_4 l_V
  rw [hw_a_V]
  clear hw_a_V x_a_V
  obtain ⟨a_R, hw_a_R⟩ : ∃ v, a_V.alloc (.cells #[.slice none 0 0, .slice none 0 0] 27) = v := ⟨_, rfl⟩
  have x_a_R : Below a_V.heap.size a_V a_R := by rw [← hw_a_R]; exact ext_alloc _ _
  have s_a_R : a_R.heap.size = a_V.heap.size + 1 := by rw [← hw_a_R]; simp
  have c_R_0 : a_R.cell? ⟨a_V.heap.size, 0, none⟩ = some (.slice none 0 0) := by rw [← hw_a_R]; simp
  have c_R_1 : a_R.cell? ⟨a_V.heap.size, 1, none⟩ = some (.slice none 0 0) := by rw [← hw_a_R]; simp
  have z_R_0 : a_R.frozen? ⟨a_V.heap.size, 0, none⟩ = false := by rw [← hw_a_R]; simp
  have z_R_1 : a_R.frozen? ⟨a_V.heap.size, 1, none⟩ = false := by rw [← hw_a_R]; simp
  have l_R : a_V.heap.size < a_R.heap.size := by omega
  replace hT : Tabs a_R := tabs_below hT x_a_R
  replace bP : Below W.heap.size W a_R := bw_call bP zP x_a_R
  replace c_A_0 : a_R.cell? ⟨W.heap.size, 0, none⟩ = some (.slice a0 x.keys.length c0) := (x_a_R.cell (p := ⟨W.heap.size, 0, none⟩) l_A).trans c_A_0
  replace c_A_1 : a_R.cell? ⟨W.heap.size, 1, none⟩ = some (.slice a1 x.vals.length c1) := (x_a_R.cell (p := ⟨W.heap.size, 1, none⟩) l_A).trans c_A_1
  replace c_V_0 : a_R.cell? ⟨W.heap.size + 1, 0, none⟩ = some (.int .i64 y.kind) := (x_a_R.cell (p := ⟨W.heap.size + 1, 0, none⟩) l_V).trans c_V_0
  replace c_V_1 : a_R.cell? ⟨W.heap.size + 1, 1, none⟩ = some (.bool y.num.neg) := (x_a_R.cell (p := ⟨W.heap.size + 1, 1, none⟩) l_V).trans c_V_1
  replace c_V_2 : a_R.cell? ⟨W.heap.size + 1, 2, none⟩ = some (.string y.num.dig) := (x_a_R.cell (p := ⟨W.heap.size + 1, 2, none⟩) l_V).trans c_V_2
  replace c_V_3 : a_R.cell? ⟨W.heap.size + 1, 3, none⟩ = some (.int .i64 y.num.exp) := (x_a_R.cell (p := ⟨W.heap.size + 1, 3, none⟩) l_V).trans c_V_3
  replace c_V_4 : a_R.cell? ⟨W.heap.size + 1, 4, none⟩ = some (.string y.text) := (x_a_R.cell (p := ⟨W.heap.size + 1, 4, none⟩) l_V).trans c_V_4
  replace l_A : W.heap.size < a_R.heap.size := Nat.lt_of_lt_of_le l_A x_a_R.size
  replace l_V : W.heap.size + 1 < a_R.heap.size := Nat.lt_of_lt_of_le l_V x_a_R.size
  replace LA : Live (Old W) W a_R := LA.call x_a_R
  have y_a_R : a_V.heap.size ≤ a_R.heap.size := x_a_R.size
  replace zP : W.heap.size ≤ a_R.heap.size := bP.size
  rw [s_a_V, s_a_A] at c_R_0 c_R_1 z_R_0 z_R_1 l_R
  rw [hw_a_R]
  clear hw_a_R x_a_R
  clear s_a_A s_a_V s_a_R
  refine (sIndexStr s _ (by exact LA.rd F0)).mono ?_
  rintro e w1 ⟨rfl, rfl⟩
  rw [HAT.out]
  clear HAT
  obtain ⟨k, hk⟩ : ∃ k, arrAt x s = k := ⟨_, rfl⟩
  have HK := hid hk
  rw [hk] at hle ⊢
  clear hk
  go_wp2_with fail
  refine (implTextOk s _ hT).mono ?_
  rintro e w2 ⟨rfl, hb⟩
  replace z_R_0 : w2.frozen? ⟨W.heap.size + 1 + 1, 0, none⟩ = false := (hb.frozen (p := ⟨W.heap.size + 1 + 1, 0, none⟩) l_R).trans z_R_0
  replace z_R_1 : w2.frozen? ⟨W.heap.size + 1 + 1, 1, none⟩ = false := (hb.frozen (p := ⟨W.heap.size + 1 + 1, 1, none⟩) l_R).trans z_R_1
  replace hT : Tabs w2 := tabs_below hT hb
  replace bP : Below W.heap.size W w2 := bw_call bP zP hb
  replace c_A_0 : w2.cell? ⟨W.heap.size, 0, none⟩ = some (.slice a0 x.keys.length c0) := (hb.cell (p := ⟨W.heap.size, 0, none⟩) l_A).trans c_A_0
  replace c_A_1 : w2.cell? ⟨W.heap.size, 1, none⟩ = some (.slice a1 x.vals.length c1) := (hb.cell (p := ⟨W.heap.size, 1, none⟩) l_A).trans c_A_1
  replace c_V_0 : w2.cell? ⟨W.heap.size + 1, 0, none⟩ = some (.int .i64 y.kind) := (hb.cell (p := ⟨W.heap.size + 1, 0, none⟩) l_V).trans c_V_0
  replace c_V_1 : w2.cell? ⟨W.heap.size + 1, 1, none⟩ = some (.bool y.num.neg) := (hb.cell (p := ⟨W.heap.size + 1, 1, none⟩) l_V).trans c_V_1
  replace c_V_2 : w2.cell? ⟨W.heap.size + 1, 2, none⟩ = some (.string y.num.dig) := (hb.cell (p := ⟨W.heap.size + 1, 2, none⟩) l_V).trans c_V_2
  replace c_V_3 : w2.cell? ⟨W.heap.size + 1, 3, none⟩ = some (.int .i64 y.num.exp) := (hb.cell (p := ⟨W.heap.size + 1, 3, none⟩) l_V).trans c_V_3
  replace c_V_4 : w2.cell? ⟨W.heap.size + 1, 4, none⟩ = some (.string y.text) := (hb.cell (p := ⟨W.heap.size + 1, 4, none⟩) l_V).trans c_V_4
  replace c_R_0 : w2.cell? ⟨W.heap.size + 1 + 1, 0, none⟩ = some (.slice none 0 0) := (hb.cell (p := ⟨W.heap.size + 1 + 1, 0, none⟩) l_R).trans c_R_0
  replace c_R_1 : w2.cell? ⟨W.heap.size + 1 + 1, 1, none⟩ = some (.slice none 0 0) := (hb.cell (p := ⟨W.heap.size + 1 + 1, 1, none⟩) l_R).trans c_R_1
  replace l_A : W.heap.size < w2.heap.size := Nat.lt_of_lt_of_le l_A hb.size
  replace l_V : W.heap.size + 1 < w2.heap.size := Nat.lt_of_lt_of_le l_V hb.size
  replace l_R : W.heap.size + 1 + 1 < w2.heap.size := Nat.lt_of_lt_of_le l_R hb.size
  replace LA : Live (Old W) W w2 := LA.call hb
  have y_w2 : a_R.heap.size ≤ w2.heap.size := hb.size
  replace zP : W.heap.size ≤ w2.heap.size := bP.size
  clear hb
  rcases hts : okText s with _ | _
  · have HP : Hid (putOk x s y = false) := hid (by unfold putOk; rw [hts]; rfl)
    clear hts
    go_wp2_with fail
    have HR := hid (show arrPut x s y = arrFill x by unfold arrPut; rw [HP.out]; rfl)
    have l_R_b1 := l_R
    refine (implFilled _ (by exact LA.rd H0) hn).mono ?_
    rintro e w3 ⟨_, u, v, rfl, rfl, hb, C, hC, hou, ⟨gv, rfl, hgv⟩, hov⟩
    replace z_R_0 : w3.frozen? ⟨W.heap.size + 1 + 1, 0, none⟩ = false := (hb.frozen (p := ⟨W.heap.size + 1 + 1, 0, none⟩) l_R).trans z_R_0
    replace z_R_1 : w3.frozen? ⟨W.heap.size + 1 + 1, 1, none⟩ = false := (hb.frozen (p := ⟨W.heap.size + 1 + 1, 1, none⟩) l_R).trans z_R_1
    replace hT : Tabs w3 := tabs_below hT hb
    replace bP : Below W.heap.size W w3 := bw_call bP zP hb
    replace c_A_0 : w3.cell? ⟨W.heap.size, 0, none⟩ = some (.slice a0 x.keys.length c0) := (hb.cell (p := ⟨W.heap.size, 0, none⟩) l_A).trans c_A_0
    replace c_A_1 : w3.cell? ⟨W.heap.size, 1, none⟩ = some (.slice a1 x.vals.length c1) := (hb.cell (p := ⟨W.heap.size, 1, none⟩) l_A).trans c_A_1
    replace c_V_0 : w3.cell? ⟨W.heap.size + 1, 0, none⟩ = some (.int .i64 y.kind) := (hb.cell (p := ⟨W.heap.size + 1, 0, none⟩) l_V).trans c_V_0
    replace c_V_1 : w3.cell? ⟨W.heap.size + 1, 1, none⟩ = some (.bool y.num.neg) := (hb.cell (p := ⟨W.heap.size + 1, 1, none⟩) l_V).trans c_V_1
    replace c_V_2 : w3.cell? ⟨W.heap.size + 1, 2, none⟩ = some (.string y.num.dig) := (hb.cell (p := ⟨W.heap.size + 1, 2, none⟩) l_V).trans c_V_2
    replace c_V_3 : w3.cell? ⟨W.heap.size + 1, 3, none⟩ = some (.int .i64 y.num.exp) := (hb.cell (p := ⟨W.heap.size + 1, 3, none⟩) l_V).trans c_V_3
    replace c_V_4 : w3.cell? ⟨W.heap.size + 1, 4, none⟩ = some (.string y.text) := (hb.cell (p := ⟨W.heap.size + 1, 4, none⟩) l_V).trans c_V_4
    replace c_R_0 : w3.cell? ⟨W.heap.size + 1 + 1, 0, none⟩ = some (.slice none 0 0) := (hb.cell (p := ⟨W.heap.size + 1 + 1, 0, none⟩) l_R).trans c_R_0
    replace c_R_1 : w3.cell? ⟨W.heap.size + 1 + 1, 1, none⟩ = some (.slice none 0 0) := (hb.cell (p := ⟨W.heap.size + 1 + 1, 1, none⟩) l_R).trans c_R_1
    replace l_A : W.heap.size < w3.heap.size := Nat.lt_of_lt_of_le l_A hb.size
    replace l_V : W.heap.size + 1 < w3.heap.size := Nat.lt_of_lt_of_le l_V hb.size
    replace l_R : W.heap.size + 1 + 1 < w3.heap.size := Nat.lt_of_lt_of_le l_R hb.size
    replace LA : Live (Old W) W w3 := LA.call hb
    have y_w3 : w2.heap.size ≤ w3.heap.size := hb.size
    replace zP : W.heap.size ≤ w3.heap.size := bP.size
    clear hb
    obtain ⟨au, cu, rfl⟩ := own_sl hou
    have hgv1 := hov.lt gv rfl
    have hR : W.heap.size + 1 + 1 < w2.heap.size := l_R_b1
    clear l_R_b1
    have HOU := hid hou
    have HOV := hid hov
    clear hou hov
    go_wp2

    refine bodyPost_ret (v := .tuple #[.agg #[.slice au x.keys.length cu, .slice (some ⟨gv, 0, none⟩) x.keys.length x.keys.length], .bool false]) (by simp [results, Tryd.results8, go_sem, c_R_0, c_R_1, z_R_0, z_R_1, l_R]) rfl ⟨_, by rw [HP.out], ?_, ?_, ?_⟩
    · rw [HR.out]
      exact rdArr_own (B := C) (C := w2.heap.size) (e1 := 9) (e2 := 31) (by repeat' (first | exact HOU.out | (refine ownsRow_setCell_below ?_ ?_ _) | (refine ownsRow_setCell_other ?_ hgu _) | (show W.heap.size + 1 + 1 < _; omega))) (by repeat' (first | exact (show World.ownsRow _ _ _ _ _ (fillK x.vals x.keys.length).length _ by rw [fillK_len]; exact HOV.out) | (refine ownsRow_setCell_below ?_ ?_ _) | (refine ownsRow_setCell_other ?_ hgu _) | (show W.heap.size + 1 + 1 < _; omega))) (by omega) (by omega) (HSK.out) (HVK.out)
    · rw [HR.out]
      exact owArr_own (B := C) (C := w2.heap.size) (e1 := 9) (e2 := 31) (by repeat' (first | exact HOU.out | (refine ownsRow_setCell_below ?_ ?_ _) | (refine ownsRow_setCell_other ?_ hgu _) | (show W.heap.size + 1 + 1 < _; omega))) (by repeat' (first | exact (show World.ownsRow _ _ _ _ _ (fillK x.vals x.keys.length).length _ by rw [fillK_len]; exact HOV.out) | (refine ownsRow_setCell_below ?_ ?_ _) | (refine ownsRow_setCell_other ?_ hgu _) | (show W.heap.size + 1 + 1 < _; omega))) (by omega) (by omega) (fun q h1 h2 => by have := (HOU.out.lt q h1).1; simp [Value.ownBlock] at h2; omega)
    · repeat' (first | (with_reducible exact bP) | (with_reducible refine Below.setCell ?_ ?_ _) | (with_reducible refine Below.alloc ?_ ?_ _) | (simp; done) | (simp; omega) | omega)
  go_wp2_with fail
  refine (implIsVal _ (by exact LA.rd HY) hT).mono ?_
  rintro e w3 ⟨rfl, hb⟩
  replace z_R_0 : w3.frozen? ⟨W.heap.size + 1 + 1, 0, none⟩ = false := (hb.frozen (p := ⟨W.heap.size + 1 + 1, 0, none⟩) l_R).trans z_R_0
  replace z_R_1 : w3.frozen? ⟨W.heap.size + 1 + 1, 1, none⟩ = false := (hb.frozen (p := ⟨W.heap.size + 1 + 1, 1, none⟩) l_R).trans z_R_1
  replace hT : Tabs w3 := tabs_below hT hb
  replace bP : Below W.heap.size W w3 := bw_call bP zP hb
  replace c_A_0 : w3.cell? ⟨W.heap.size, 0, none⟩ = some (.slice a0 x.keys.length c0) := (hb.cell (p := ⟨W.heap.size, 0, none⟩) l_A).trans c_A_0
  replace c_A_1 : w3.cell? ⟨W.heap.size, 1, none⟩ = some (.slice a1 x.vals.length c1) := (hb.cell (p := ⟨W.heap.size, 1, none⟩) l_A).trans c_A_1
  replace c_V_0 : w3.cell? ⟨W.heap.size + 1, 0, none⟩ = some (.int .i64 y.kind) := (hb.cell (p := ⟨W.heap.size + 1, 0, none⟩) l_V).trans c_V_0
  replace c_V_1 : w3.cell? ⟨W.heap.size + 1, 1, none⟩ = some (.bool y.num.neg) := (hb.cell (p := ⟨W.heap.size + 1, 1, none⟩) l_V).trans c_V_1
  replace c_V_2 : w3.cell? ⟨W.heap.size + 1, 2, none⟩ = some (.string y.num.dig) := (hb.cell (p := ⟨W.heap.size + 1, 2, none⟩) l_V).trans c_V_2
  replace c_V_3 : w3.cell? ⟨W.heap.size + 1, 3, none⟩ = some (.int .i64 y.num.exp) := (hb.cell (p := ⟨W.heap.size + 1, 3, none⟩) l_V).trans c_V_3
  replace c_V_4 : w3.cell? ⟨W.heap.size + 1, 4, none⟩ = some (.string y.text) := (hb.cell (p := ⟨W.heap.size + 1, 4, none⟩) l_V).trans c_V_4
  replace c_R_0 : w3.cell? ⟨W.heap.size + 1 + 1, 0, none⟩ = some (.slice none 0 0) := (hb.cell (p := ⟨W.heap.size + 1 + 1, 0, none⟩) l_R).trans c_R_0
  replace c_R_1 : w3.cell? ⟨W.heap.size + 1 + 1, 1, none⟩ = some (.slice none 0 0) := (hb.cell (p := ⟨W.heap.size + 1 + 1, 1, none⟩) l_R).trans c_R_1
  replace l_A : W.heap.size < w3.heap.size := Nat.lt_of_lt_of_le l_A hb.size
  replace l_V : W.heap.size + 1 < w3.heap.size := Nat.lt_of_lt_of_le l_V hb.size
  replace l_R : W.heap.size + 1 + 1 < w3.heap.size := Nat.lt_of_lt_of_le l_R hb.size
  replace LA : Live (Old W) W w3 := LA.call hb
  have y_w3 : w2.heap.size ≤ w3.heap.size := hb.size
  replace zP : W.heap.size ≤ w3.heap.size := bP.size
  clear hb
  rcases hvs : valOk y with _ | _
  · have HP : Hid (putOk x s y = false) := hid (by unfold putOk; rw [hvs, Bool.and_false]; rfl)
    clear hts hvs
    go_wp2_with fail
    have HR := hid (show arrPut x s y = arrFill x by unfold arrPut; rw [HP.out]; rfl)
    have l_R_b2 := l_R
    refine (implFilled _ (by exact LA.rd H0) hn).mono ?_
    rintro e w4 ⟨_, u, v, rfl, rfl, hb, C, hC, hou, ⟨gv, rfl, hgv⟩, hov⟩
    replace z_R_0 : w4.frozen? ⟨W.heap.size + 1 + 1, 0, none⟩ = false := (hb.frozen (p := ⟨W.heap.size + 1 + 1, 0, none⟩) l_R).trans z_R_0
    replace z_R_1 : w4.frozen? ⟨W.heap.size + 1 + 1, 1, none⟩ = false := (hb.frozen (p := ⟨W.heap.size + 1 + 1, 1, none⟩) l_R).trans z_R_1
    replace hT : Tabs w4 := tabs_below hT hb
    replace bP : Below W.heap.size W w4 := bw_call bP zP hb
    replace c_A_0 : w4.cell? ⟨W.heap.size, 0, none⟩ = some (.slice a0 x.keys.length c0) := (hb.cell (p := ⟨W.heap.size, 0, none⟩) l_A).trans c_A_0
    replace c_A_1 : w4.cell? ⟨W.heap.size, 1, none⟩ = some (.slice a1 x.vals.length c1) := (hb.cell (p := ⟨W.heap.size, 1, none⟩) l_A).trans c_A_1
    replace c_V_0 : w4.cell? ⟨W.heap.size + 1, 0, none⟩ = some (.int .i64 y.kind) := (hb.cell (p := ⟨W.heap.size + 1, 0, none⟩) l_V).trans c_V_0
    replace c_V_1 : w4.cell? ⟨W.heap.size + 1, 1, none⟩ = some (.bool y.num.neg) := (hb.cell (p := ⟨W.heap.size + 1, 1, none⟩) l_V).trans c_V_1
    replace c_V_2 : w4.cell? ⟨W.heap.size + 1, 2, none⟩ = some (.string y.num.dig) := (hb.cell (p := ⟨W.heap.size + 1, 2, none⟩) l_V).trans c_V_2
    replace c_V_3 : w4.cell? ⟨W.heap.size + 1, 3, none⟩ = some (.int .i64 y.num.exp) := (hb.cell (p := ⟨W.heap.size + 1, 3, none⟩) l_V).trans c_V_3
    replace c_V_4 : w4.cell? ⟨W.heap.size + 1, 4, none⟩ = some (.string y.text) := (hb.cell (p := ⟨W.heap.size + 1, 4, none⟩) l_V).trans c_V_4
    replace c_R_0 : w4.cell? ⟨W.heap.size + 1 + 1, 0, none⟩ = some (.slice none 0 0) := (hb.cell (p := ⟨W.heap.size + 1 + 1, 0, none⟩) l_R).trans c_R_0
    replace c_R_1 : w4.cell? ⟨W.heap.size + 1 + 1, 1, none⟩ = some (.slice none 0 0) := (hb.cell (p := ⟨W.heap.size + 1 + 1, 1, none⟩) l_R).trans c_R_1
    replace l_A : W.heap.size < w4.heap.size := Nat.lt_of_lt_of_le l_A hb.size
    replace l_V : W.heap.size + 1 < w4.heap.size := Nat.lt_of_lt_of_le l_V hb.size
    replace l_R : W.heap.size + 1 + 1 < w4.heap.size := Nat.lt_of_lt_of_le l_R hb.size
    replace LA : Live (Old W) W w4 := LA.call hb
    have y_w4 : w3.heap.size ≤ w4.heap.size := hb.size
    replace zP : W.heap.size ≤ w4.heap.size := bP.size
    clear hb
    obtain ⟨au, cu, rfl⟩ := own_sl hou
    have hgv1 := hov.lt gv rfl
    have hR : W.heap.size + 1 + 1 < w3.heap.size := l_R_b2
    clear l_R_b2
    have HOU := hid hou
    have HOV := hid hov
    clear hou hov
    go_wp2

    refine bodyPost_ret (v := .tuple #[.agg #[.slice au x.keys.length cu, .slice (some ⟨gv, 0, none⟩) x.keys.length x.keys.length], .bool false]) (by simp [results, Tryd.results8, go_sem, c_R_0, c_R_1, z_R_0, z_R_1, l_R]) rfl ⟨_, by rw [HP.out], ?_, ?_, ?_⟩
    · rw [HR.out]
      exact rdArr_own (B := C) (C := w3.heap.size) (e1 := 9) (e2 := 31) (by repeat' (first | exact HOU.out | (refine ownsRow_setCell_below ?_ ?_ _) | (refine ownsRow_setCell_other ?_ hgu _) | (show W.heap.size + 1 + 1 < _; omega))) (by repeat' (first | exact (show World.ownsRow _ _ _ _ _ (fillK x.vals x.keys.length).length _ by rw [fillK_len]; exact HOV.out) | (refine ownsRow_setCell_below ?_ ?_ _) | (refine ownsRow_setCell_other ?_ hgu _) | (show W.heap.size + 1 + 1 < _; omega))) (by omega) (by omega) (HSK.out) (HVK.out)
    · rw [HR.out]
      exact owArr_own (B := C) (C := w3.heap.size) (e1 := 9) (e2 := 31) (by repeat' (first | exact HOU.out | (refine ownsRow_setCell_below ?_ ?_ _) | (refine ownsRow_setCell_other ?_ hgu _) | (show W.heap.size + 1 + 1 < _; omega))) (by repeat' (first | exact (show World.ownsRow _ _ _ _ _ (fillK x.vals x.keys.length).length _ by rw [fillK_len]; exact HOV.out) | (refine ownsRow_setCell_below ?_ ?_ _) | (refine ownsRow_setCell_other ?_ hgu _) | (show W.heap.size + 1 + 1 < _; omega))) (by omega) (by omega) (fun q h1 h2 => by have := (HOU.out.lt q h1).1; simp [Value.ownBlock] at h2; omega)
    · repeat' (first | (with_reducible exact bP) | (with_reducible refine Below.setCell ?_ ?_ _) | (with_reducible refine Below.alloc ?_ ?_ _) | (simp; done) | (simp; omega) | omega)
  by_cases hat : k < 0
  · by_cases hlen : 200 ≤ x.keys.length
    · have hlen' : (200 : Int) ≤ (x.keys.length : Int) := by omega
      have HP : Hid (putOk x s y = false) := hid (by unfold putOk; rw [hts, hvs, HK.out, decide_eq_true hat, decide_eq_true hlen]; rfl)
      clear hts hvs
      go_wp2_with fail
      have HR := hid (show arrPut x s y = arrFill x by unfold arrPut; rw [HP.out]; rfl)
      have l_R_b3 := l_R
      refine (implFilled _ (by exact LA.rd H0) hn).mono ?_
      rintro e w4 ⟨_, u, v, rfl, rfl, hb, C, hC, hou, ⟨gv, rfl, hgv⟩, hov⟩
      replace z_R_0 : w4.frozen? ⟨W.heap.size + 1 + 1, 0, none⟩ = false := (hb.frozen (p := ⟨W.heap.size + 1 + 1, 0, none⟩) l_R).trans z_R_0
      replace z_R_1 : w4.frozen? ⟨W.heap.size + 1 + 1, 1, none⟩ = false := (hb.frozen (p := ⟨W.heap.size + 1 + 1, 1, none⟩) l_R).trans z_R_1
      replace hT : Tabs w4 := tabs_below hT hb
      replace bP : Below W.heap.size W w4 := bw_call bP zP hb
      replace c_A_0 : w4.cell? ⟨W.heap.size, 0, none⟩ = some (.slice a0 x.keys.length c0) := (hb.cell (p := ⟨W.heap.size, 0, none⟩) l_A).trans c_A_0
      replace c_A_1 : w4.cell? ⟨W.heap.size, 1, none⟩ = some (.slice a1 x.vals.length c1) := (hb.cell (p := ⟨W.heap.size, 1, none⟩) l_A).trans c_A_1
      replace c_V_0 : w4.cell? ⟨W.heap.size + 1, 0, none⟩ = some (.int .i64 y.kind) := (hb.cell (p := ⟨W.heap.size + 1, 0, none⟩) l_V).trans c_V_0
      replace c_V_1 : w4.cell? ⟨W.heap.size + 1, 1, none⟩ = some (.bool y.num.neg) := (hb.cell (p := ⟨W.heap.size + 1, 1, none⟩) l_V).trans c_V_1
      replace c_V_2 : w4.cell? ⟨W.heap.size + 1, 2, none⟩ = some (.string y.num.dig) := (hb.cell (p := ⟨W.heap.size + 1, 2, none⟩) l_V).trans c_V_2
      replace c_V_3 : w4.cell? ⟨W.heap.size + 1, 3, none⟩ = some (.int .i64 y.num.exp) := (hb.cell (p := ⟨W.heap.size + 1, 3, none⟩) l_V).trans c_V_3
      replace c_V_4 : w4.cell? ⟨W.heap.size + 1, 4, none⟩ = some (.string y.text) := (hb.cell (p := ⟨W.heap.size + 1, 4, none⟩) l_V).trans c_V_4
      replace c_R_0 : w4.cell? ⟨W.heap.size + 1 + 1, 0, none⟩ = some (.slice none 0 0) := (hb.cell (p := ⟨W.heap.size + 1 + 1, 0, none⟩) l_R).trans c_R_0
      replace c_R_1 : w4.cell? ⟨W.heap.size + 1 + 1, 1, none⟩ = some (.slice none 0 0) := (hb.cell (p := ⟨W.heap.size + 1 + 1, 1, none⟩) l_R).trans c_R_1
      replace l_A : W.heap.size < w4.heap.size := Nat.lt_of_lt_of_le l_A hb.size
      replace l_V : W.heap.size + 1 < w4.heap.size := Nat.lt_of_lt_of_le l_V hb.size
      replace l_R : W.heap.size + 1 + 1 < w4.heap.size := Nat.lt_of_lt_of_le l_R hb.size
      replace LA : Live (Old W) W w4 := LA.call hb
      have y_w4 : w3.heap.size ≤ w4.heap.size := hb.size
      replace zP : W.heap.size ≤ w4.heap.size := bP.size
      clear hb
      obtain ⟨au, cu, rfl⟩ := own_sl hou
      have hgv1 := hov.lt gv rfl
      have hR : W.heap.size + 1 + 1 < w3.heap.size := l_R_b3
      clear l_R_b3
      have HOU := hid hou
      have HOV := hid hov
      clear hou hov
      go_wp2

      refine bodyPost_ret (v := .tuple #[.agg #[.slice au x.keys.length cu, .slice (some ⟨gv, 0, none⟩) x.keys.length x.keys.length], .bool false]) (by simp [results, Tryd.results8, go_sem, c_R_0, c_R_1, z_R_0, z_R_1, l_R]) rfl ⟨_, by rw [HP.out], ?_, ?_, ?_⟩
      · rw [HR.out]
        exact rdArr_own (B := C) (C := w3.heap.size) (e1 := 9) (e2 := 31) (by repeat' (first | exact HOU.out | (refine ownsRow_setCell_below ?_ ?_ _) | (refine ownsRow_setCell_other ?_ hgu _) | (show W.heap.size + 1 + 1 < _; omega))) (by repeat' (first | exact (show World.ownsRow _ _ _ _ _ (fillK x.vals x.keys.length).length _ by rw [fillK_len]; exact HOV.out) | (refine ownsRow_setCell_below ?_ ?_ _) | (refine ownsRow_setCell_other ?_ hgu _) | (show W.heap.size + 1 + 1 < _; omega))) (by omega) (by omega) (HSK.out) (HVK.out)
      · rw [HR.out]
        exact owArr_own (B := C) (C := w3.heap.size) (e1 := 9) (e2 := 31) (by repeat' (first | exact HOU.out | (refine ownsRow_setCell_below ?_ ?_ _) | (refine ownsRow_setCell_other ?_ hgu _) | (show W.heap.size + 1 + 1 < _; omega))) (by repeat' (first | exact (show World.ownsRow _ _ _ _ _ (fillK x.vals x.keys.length).length _ by rw [fillK_len]; exact HOV.out) | (refine ownsRow_setCell_below ?_ ?_ _) | (refine ownsRow_setCell_other ?_ hgu _) | (show W.heap.size + 1 + 1 < _; omega))) (by omega) (by omega) (fun q h1 h2 => by have := (HOU.out.lt q h1).1; simp [Value.ownBlock] at h2; omega)
      · repeat' (first | (with_reducible exact bP) | (with_reducible refine Below.setCell ?_ ?_ _) | (with_reducible refine Below.alloc ?_ ?_ _) | (simp; done) | (simp; omega) | omega)
    · have hlen' : ¬ (200 : Int) ≤ (x.keys.length : Int) := by omega
      have HP : Hid (putOk x s y = true) := hid (by unfold putOk; rw [hts, hvs, HK.out, decide_eq_true hat, decide_eq_false hlen]; rfl)
      have HR := hid (show arrPut x s y = ⟨x.keys ++ [s], fillK x.vals x.keys.length ++ [y]⟩ by unfold arrPut arrSet; rw [HP.out, HK.out, if_pos rfl, if_pos hat])
      clear hts hvs
      go_wp2_with fail
      have l_R_g := l_R
      refine (implFilled _ (by exact LA.rd H0) hn).mono ?_
      rintro e w4 ⟨_, u, v, rfl, rfl, hb, C, hC, hou, ⟨gv, rfl, hgv⟩, hov⟩
      replace z_R_0 : w4.frozen? ⟨W.heap.size + 1 + 1, 0, none⟩ = false := (hb.frozen (p := ⟨W.heap.size + 1 + 1, 0, none⟩) l_R).trans z_R_0
      replace z_R_1 : w4.frozen? ⟨W.heap.size + 1 + 1, 1, none⟩ = false := (hb.frozen (p := ⟨W.heap.size + 1 + 1, 1, none⟩) l_R).trans z_R_1
      replace hT : Tabs w4 := tabs_below hT hb
      replace bP : Below W.heap.size W w4 := bw_call bP zP hb
      replace c_A_0 : w4.cell? ⟨W.heap.size, 0, none⟩ = some (.slice a0 x.keys.length c0) := (hb.cell (p := ⟨W.heap.size, 0, none⟩) l_A).trans c_A_0
      replace c_A_1 : w4.cell? ⟨W.heap.size, 1, none⟩ = some (.slice a1 x.vals.length c1) := (hb.cell (p := ⟨W.heap.size, 1, none⟩) l_A).trans c_A_1
      replace c_V_0 : w4.cell? ⟨W.heap.size + 1, 0, none⟩ = some (.int .i64 y.kind) := (hb.cell (p := ⟨W.heap.size + 1, 0, none⟩) l_V).trans c_V_0
      replace c_V_1 : w4.cell? ⟨W.heap.size + 1, 1, none⟩ = some (.bool y.num.neg) := (hb.cell (p := ⟨W.heap.size + 1, 1, none⟩) l_V).trans c_V_1
      replace c_V_2 : w4.cell? ⟨W.heap.size + 1, 2, none⟩ = some (.string y.num.dig) := (hb.cell (p := ⟨W.heap.size + 1, 2, none⟩) l_V).trans c_V_2
      replace c_V_3 : w4.cell? ⟨W.heap.size + 1, 3, none⟩ = some (.int .i64 y.num.exp) := (hb.cell (p := ⟨W.heap.size + 1, 3, none⟩) l_V).trans c_V_3
      replace c_V_4 : w4.cell? ⟨W.heap.size + 1, 4, none⟩ = some (.string y.text) := (hb.cell (p := ⟨W.heap.size + 1, 4, none⟩) l_V).trans c_V_4
      replace c_R_0 : w4.cell? ⟨W.heap.size + 1 + 1, 0, none⟩ = some (.slice none 0 0) := (hb.cell (p := ⟨W.heap.size + 1 + 1, 0, none⟩) l_R).trans c_R_0
      replace c_R_1 : w4.cell? ⟨W.heap.size + 1 + 1, 1, none⟩ = some (.slice none 0 0) := (hb.cell (p := ⟨W.heap.size + 1 + 1, 1, none⟩) l_R).trans c_R_1
      replace l_A : W.heap.size < w4.heap.size := Nat.lt_of_lt_of_le l_A hb.size
      replace l_V : W.heap.size + 1 < w4.heap.size := Nat.lt_of_lt_of_le l_V hb.size
      replace l_R : W.heap.size + 1 + 1 < w4.heap.size := Nat.lt_of_lt_of_le l_R hb.size
      replace LA : Live (Old W) W w4 := LA.call hb
      have y_w4 : w3.heap.size ≤ w4.heap.size := hb.size
      replace zP : W.heap.size ≤ w4.heap.size := bP.size
      clear hb
      obtain ⟨au, cu, rfl⟩ := own_sl hou
      have hgv1 := hov.lt gv rfl
      have hR : W.heap.size + 1 + 1 < w3.heap.size := l_R_g
      clear l_R_g
      have HOU := hid hou
      have HOV := hid hov
      clear hou hov
      go_wp2_with fail
      obtain ⟨a_N, hw_a_N⟩ : ∃ v, w4.alloc (.cells #[.slice au x.keys.length cu, .slice (some ⟨gv, 0, none⟩) x.keys.length x.keys.length] 27) = v := ⟨_, rfl⟩
      have x_a_N : Below w4.heap.size w4 a_N := by rw [← hw_a_N]; exact ext_alloc _ _
      have z_a_N : w4.heap.size < a_N.heap.size := by rw [← hw_a_N]; simp
      have c_N_0 : a_N.cell? ⟨w4.heap.size, 0, none⟩ = some (.slice au x.keys.length cu) := by rw [← hw_a_N]; simp
      have c_N_1 : a_N.cell? ⟨w4.heap.size, 1, none⟩ = some (.slice (some ⟨gv, 0, none⟩) x.keys.length x.keys.length) := by rw [← hw_a_N]; simp
      replace z_R_0 : a_N.frozen? ⟨W.heap.size + 1 + 1, 0, none⟩ = false := (x_a_N.frozen (p := ⟨W.heap.size + 1 + 1, 0, none⟩) l_R).trans z_R_0
      replace z_R_1 : a_N.frozen? ⟨W.heap.size + 1 + 1, 1, none⟩ = false := (x_a_N.frozen (p := ⟨W.heap.size + 1 + 1, 1, none⟩) l_R).trans z_R_1
      replace hT : Tabs a_N := tabs_below hT x_a_N
      replace bP : Below W.heap.size W a_N := bw_call bP zP x_a_N
      replace c_A_0 : a_N.cell? ⟨W.heap.size, 0, none⟩ = some (.slice a0 x.keys.length c0) := (x_a_N.cell (p := ⟨W.heap.size, 0, none⟩) l_A).trans c_A_0
      replace c_A_1 : a_N.cell? ⟨W.heap.size, 1, none⟩ = some (.slice a1 x.vals.length c1) := (x_a_N.cell (p := ⟨W.heap.size, 1, none⟩) l_A).trans c_A_1
      replace c_V_0 : a_N.cell? ⟨W.heap.size + 1, 0, none⟩ = some (.int .i64 y.kind) := (x_a_N.cell (p := ⟨W.heap.size + 1, 0, none⟩) l_V).trans c_V_0
      replace c_V_1 : a_N.cell? ⟨W.heap.size + 1, 1, none⟩ = some (.bool y.num.neg) := (x_a_N.cell (p := ⟨W.heap.size + 1, 1, none⟩) l_V).trans c_V_1
      replace c_V_2 : a_N.cell? ⟨W.heap.size + 1, 2, none⟩ = some (.string y.num.dig) := (x_a_N.cell (p := ⟨W.heap.size + 1, 2, none⟩) l_V).trans c_V_2
      replace c_V_3 : a_N.cell? ⟨W.heap.size + 1, 3, none⟩ = some (.int .i64 y.num.exp) := (x_a_N.cell (p := ⟨W.heap.size + 1, 3, none⟩) l_V).trans c_V_3
      replace c_V_4 : a_N.cell? ⟨W.heap.size + 1, 4, none⟩ = some (.string y.text) := (x_a_N.cell (p := ⟨W.heap.size + 1, 4, none⟩) l_V).trans c_V_4
      replace c_R_0 : a_N.cell? ⟨W.heap.size + 1 + 1, 0, none⟩ = some (.slice none 0 0) := (x_a_N.cell (p := ⟨W.heap.size + 1 + 1, 0, none⟩) l_R).trans c_R_0
      replace c_R_1 : a_N.cell? ⟨W.heap.size + 1 + 1, 1, none⟩ = some (.slice none 0 0) := (x_a_N.cell (p := ⟨W.heap.size + 1 + 1, 1, none⟩) l_R).trans c_R_1
      replace l_A : W.heap.size < a_N.heap.size := Nat.lt_of_lt_of_le l_A x_a_N.size
      replace l_V : W.heap.size + 1 < a_N.heap.size := Nat.lt_of_lt_of_le l_V x_a_N.size
      replace l_R : W.heap.size + 1 + 1 < a_N.heap.size := Nat.lt_of_lt_of_le l_R x_a_N.size
      replace LA : Live (Old W) W a_N := LA.call x_a_N
      have y_a_N : w4.heap.size ≤ a_N.heap.size := x_a_N.size
      replace zP : W.heap.size ≤ a_N.heap.size := bP.size
      have l_N : w4.heap.size < a_N.heap.size := z_a_N
      rw [hw_a_N]
      have y_N := x_a_N; clear hw_a_N x_a_N
      have ST : PutSt a_N w3.heap.size w4.heap.size a_N x.keys.length x.keys.length (.slice au x.keys.length cu) (.slice (some ⟨gv, 0, none⟩) x.keys.length x.keys.length) (strCellsL x.keys) (valsCells (fillK x.vals x.keys.length)) := ⟨Below.refl _ _, own_later (ownsRow_mono HOU.out hC) y_N, own_later HOV.out y_N, fun q h1 h2 => by have := (HOU.out.lt q h1).1; simp [Value.ownBlock] at h2; omega, fun e => by have := (HOU.out.lt _ e).2; omega, fun e => by simp [Value.ownBlock] at e; omega, by omega, by omega, by omega⟩
      have hss : s.size ≤ 9223372036854775807 := hsz.out
      have ST0 := ST.drew
      have hb9_0 : a_N.drew.heap[w4.heap.size]? = a_N.heap[w4.heap.size]? := rfl
      go_wp2_with fail
      refine wp_region_held_drew (S := fun w' => w'.heap[w4.heap.size]? = a_N.heap[w4.heap.size]? ∧ w'.heap[W.heap.size + 1]? = a_N.heap[W.heap.size + 1]?) (by kernel_rfl) ?_ (fun hHeld => ?_)
      · exact ⟨rfl, rfl⟩
      refine wpAnyH_take (i := 0) (v := ?_) rfl (by kernel_rfl) (by kernel_rfl) (by kernel_rfl) (fun _ _ _ h => h) (Or.inl ⟨by rfl, ?_⟩) (by assumption) ?_
      rotate_left
      · (intro w' hSw; (try dsimp only at hSw); go_simp; try (with_reducible rfl))
      change wpAnyH _ _ _ _ _ _ _ (Act.put _ (some 38) _) _
      try simp only [Act.put, List.setIfInBounds_toArray, List.set_cons_zero, List.set_cons_succ]
      refine wpAnyH_take (i := 1) (v := ?_) rfl (by kernel_rfl) (by kernel_rfl) (by kernel_rfl) (fun _ _ _ h => h) (Or.inl ⟨by rfl, ?_⟩) (by assumption) ?_
      rotate_left
      · (intro w' hSw; (try dsimp only at hSw); (have g0 := (World.cell?_of_block (a := ⟨w4.heap.size, 0, none⟩) hSw.1).trans c_N_0; go_simp; try (with_reducible rfl)))
      change wpAnyH _ _ _ _ _ _ _ (Act.put _ (some 39) _) _
      try simp only [Act.put, List.setIfInBounds_toArray, List.set_cons_zero, List.set_cons_succ]
      refine wpAnyH_take (i := 2) (v := ?_) rfl (by kernel_rfl) (by kernel_rfl) (by kernel_rfl) (fun _ _ _ h => h) (Or.inl ⟨by rfl, ?_⟩) (by assumption) ?_
      rotate_left
      · (intro w' hSw; (try dsimp only at hSw); go_simp; try (with_reducible rfl))
      change wpAnyH _ _ _ _ _ _ _ (Act.put _ (some 40) _) _
      try simp only [Act.put, List.setIfInBounds_toArray, List.set_cons_zero, List.set_cons_succ]
      refine wpAnyH_take (i := 5) (v := ?_) rfl (by kernel_rfl) (by kernel_rfl) (by kernel_rfl) (fun _ _ _ h => h) (Or.inl ⟨by rfl, ?_⟩) (by assumption) ?_
      rotate_left
      · (intro w' hSw; (try dsimp only at hSw); go_simp; try (with_reducible rfl))
      change wpAnyH _ _ _ _ _ _ _ (Act.put _ (some 43) _) _
      try simp only [Act.put, List.setIfInBounds_toArray, List.set_cons_zero, List.set_cons_succ]
      refine wpAnyH_take (i := 6) (v := ?_) rfl (by kernel_rfl) (by kernel_rfl) (by kernel_rfl) (fun _ _ _ h => h) (Or.inl ⟨by rfl, ?_⟩) (by assumption) ?_
      rotate_left
      · (intro w' hSw; (try dsimp only at hSw); (have g0 := (World.cell?_of_block (a := ⟨w4.heap.size, 1, none⟩) hSw.1).trans c_N_1; go_simp; try (with_reducible rfl)))
      change wpAnyH _ _ _ _ _ _ _ (Act.put _ (some 44) _) _
      try simp only [Act.put, List.setIfInBounds_toArray, List.set_cons_zero, List.set_cons_succ]
      refine wpAnyH_take (i := 7) (v := ?_) rfl (by kernel_rfl) (by kernel_rfl) (by kernel_rfl) (fun _ _ _ h => h) (Or.inl ⟨by rfl, ?_⟩) (by assumption) ?_
      rotate_left
      · (intro w' hSw; (try dsimp only at hSw); (have g0 := (World.cell?_of_block (a := ⟨W.heap.size + 1, 0, none⟩) hSw.2).trans c_V_0; have g1 := (World.cell?_of_block (a := ⟨W.heap.size + 1, 1, none⟩) hSw.2).trans c_V_1; have g2 := (World.cell?_of_block (a := ⟨W.heap.size + 1, 2, none⟩) hSw.2).trans c_V_2; have g3 := (World.cell?_of_block (a := ⟨W.heap.size + 1, 3, none⟩) hSw.2).trans c_V_3; have g4 := (World.cell?_of_block (a := ⟨W.heap.size + 1, 4, none⟩) hSw.2).trans c_V_4; go_simp; try (with_reducible rfl)))
      change wpAnyH _ _ _ _ _ _ _ (Act.put _ (some 45) _) _
      try simp only [Act.put, List.setIfInBounds_toArray, List.set_cons_zero, List.set_cons_succ]
      refine wpAnyH_ready (rs := [3, 8]) (by kernel_rfl) (by simp) ?_
      refine AllReadyH.cons (i := 3) rfl (fun K hK => ?_) ?_
      · simp only [List.getElem_toArray, List.getElem_cons_succ, List.getElem_cons_zero]
        rw [if_pos (by rfl)]
        go_simp
        have ST1 := ST0.alloc (.cells #[.string s] 9)
        have hb9_1 : (a_N.drew.alloc (.cells #[.string s] 9)).heap[w4.heap.size]? = a_N.heap[w4.heap.size]? := (heap_alloc_old a_N.drew _ ST0.h9).trans hb9_0
        have BA := ST0.blk #[.string s] 9
        refine hK.out _ _ ?_ (fun hHeld => ?_)
        · first | trivial | ((try dsimp only); exact ⟨hb9_1, ST1.bel.block _ (by omega)⟩)
        clear hK K
        try simp only [Act.put, List.setIfInBounds_toArray, List.set_cons_zero, List.set_cons_succ]
        refine wpAnyH_ready (rs := [4, 8]) (by kernel_rfl) (by simp) ?_
        refine AllReadyH.cons (i := 4) rfl (fun K hK => ?_) ?_
        · simp only [List.getElem_toArray, List.getElem_cons_succ, List.getElem_cons_zero]
          rw [if_pos (by rfl)]
          refine wp_append_lies _ (.tmp 39) (.tmp 41) 24 rfl w3.heap.size 9 ii (.string ⟨#[]⟩) 1 16 Tryd.underlying24 hi hz0 hz1 hz2 rfl (by decide) (.slice au x.keys.length cu) x.keys.length (strCellsL x.keys) (by first | rfl | simp [Act.eval, Act.put]) ST1.hu ⟨a_N.drew.heap.size, 0, none⟩ 1 1 [.string s] (by first | rfl | simp [Act.eval, Act.put]) rfl (World.news_of_block (cs := #[.string s]) (t := 9) (fr := (0, 0)) BA.hp) (by intro u hu; simp at hu; subst hu; rfl) (by decide) (by unfold maxLen; omega) (by omega) ST1.hB _ rfl ?_
          intro g2 p2 q2 how hgw haw hlw
          have ST2 := ST1.apU rfl how hgw haw
          have hb9_2 := (ST1.box_u hgw).trans hb9_1
          replace BA := BA.apU (n' := x.keys.length + 1) (cap := p2) rfl hgw haw
          clear how hgw haw hlw
          have r_0 := (ST2.bel.cell (p := ⟨W.heap.size + 1 + 1, 0, none⟩) hR).trans c_R_0
          have r_1 := (ST2.bel.cell (p := ⟨W.heap.size + 1 + 1, 1, none⟩) hR).trans c_R_1
          have rz_0 := (ST2.bel.frozen (p := ⟨W.heap.size + 1 + 1, 0, none⟩) hR).trans z_R_0
          have rz_1 := (ST2.bel.frozen (p := ⟨W.heap.size + 1 + 1, 1, none⟩) hR).trans z_R_1
          have rl : W.heap.size + 1 + 1 < q2.heap.size := Nat.lt_of_lt_of_le l_R ST2.bel.size
          refine hK.out _ _ ?_ (fun hHeld => ?_)
          · first | trivial | ((try dsimp only); exact ⟨hb9_2, ST2.bel.block _ (by omega)⟩)
          clear hK K
          try simp only [Act.put, List.setIfInBounds_toArray, List.set_cons_zero, List.set_cons_succ]
          refine wpAnyH_ready (rs := [8]) (by kernel_rfl) (by simp) ?_
          refine AllReadyH.cons (i := 8) rfl (fun K hK => ?_) AllReadyH.nil
          simp only [List.getElem_toArray, List.getElem_cons_succ, List.getElem_cons_zero]
          rw [if_pos (by rfl)]
          go_simp
          have ST3 := ST2.alloc (.cells #[.int .i64 y.kind, .bool y.num.neg, .string y.num.dig, .int .i64 y.num.exp, .string y.text] 31)
          have hb9_3 : (q2.alloc (.cells #[.int .i64 y.kind, .bool y.num.neg, .string y.num.dig, .int .i64 y.num.exp, .string y.text] 31)).heap[w4.heap.size]? = a_N.heap[w4.heap.size]? := (heap_alloc_old q2 _ ST2.h9).trans hb9_2
          have BB := ST2.blk #[.int .i64 y.kind, .bool y.num.neg, .string y.num.dig, .int .i64 y.num.exp, .string y.text] 31
          replace BA := BA.alloc (.cells #[.int .i64 y.kind, .bool y.num.neg, .string y.num.dig, .int .i64 y.num.exp, .string y.text] 31)
          refine hK.out _ _ ?_ (fun hHeld => ?_)
          · first | trivial | ((try dsimp only); exact ⟨hb9_3, ST3.bel.block _ (by omega)⟩)
          clear hK K
          try simp only [Act.put, List.setIfInBounds_toArray, List.set_cons_zero, List.set_cons_succ]
          refine wpAnyH_ready (rs := [9]) (by kernel_rfl) (by simp) ?_
          refine AllReadyH.cons (i := 9) rfl (fun K hK => ?_) AllReadyH.nil
          simp only [List.getElem_toArray, List.getElem_cons_succ, List.getElem_cons_zero]
          rw [if_pos (by rfl)]
          refine wp_append_lies _ (.tmp 44) (.tmp 46) 25 rfl w3.heap.size 31 jj (.agg #[.int .i64 0, .bool false, .string ⟨#[]⟩, .int .i64 0, .string ⟨#[]⟩]) 5 56 Tryd.underlying25 ki kz0 kz1 kz2 rfl (by decide) (.slice (some ⟨gv, 0, none⟩) x.keys.length x.keys.length) x.keys.length (valsCells (fillK x.vals x.keys.length)) (by first | rfl | simp [Act.eval, Act.put]) ST3.hv ⟨q2.heap.size, 0, none⟩ 1 1 [.int .i64 y.kind, .bool y.num.neg, .string y.num.dig, .int .i64 y.num.exp, .string y.text] (by first | rfl | simp [Act.eval, Act.put]) rfl (World.news_of_block (cs := #[.int .i64 y.kind, .bool y.num.neg, .string y.num.dig, .int .i64 y.num.exp, .string y.text]) (t := 31) (fr := (0, 0)) BB.hp) (one_valCells y) (by decide) (by unfold maxLen; omega) (by omega) ST3.hB _ rfl ?_
          intro g4 p4 q4 how hgw haw hlw
          have ST4 := ST3.apV rfl how hgw haw
          have hb9_4 := (ST3.box_v hgw).trans hb9_3
          replace BA := BA.apV (m' := x.keys.length + 1) (cap := p4) rfl hgw haw
          replace BB := BB.apV (m' := x.keys.length + 1) (cap := p4) rfl hgw haw
          clear how hgw haw hlw
          have r_0 := (ST4.bel.cell (p := ⟨W.heap.size + 1 + 1, 0, none⟩) hR).trans c_R_0
          have r_1 := (ST4.bel.cell (p := ⟨W.heap.size + 1 + 1, 1, none⟩) hR).trans c_R_1
          have rz_0 := (ST4.bel.frozen (p := ⟨W.heap.size + 1 + 1, 0, none⟩) hR).trans z_R_0
          have rz_1 := (ST4.bel.frozen (p := ⟨W.heap.size + 1 + 1, 1, none⟩) hR).trans z_R_1
          have rl : W.heap.size + 1 + 1 < q4.heap.size := Nat.lt_of_lt_of_le l_R ST4.bel.size
          refine hK.out _ _ ?_ (fun hHeld => ?_)
          · first | trivial | ((try dsimp only); exact ⟨hb9_4, ST4.bel.block _ (by omega)⟩)
          clear hK K
          try simp only [Act.put, List.setIfInBounds_toArray, List.set_cons_zero, List.set_cons_succ]
          refine wpAnyH_take (i := 10) (v := ?_) rfl (by kernel_rfl) (by kernel_rfl) (by kernel_rfl) (fun _ _ _ h => h) (Or.inl ⟨by rfl, ?_⟩) (by assumption) ?_
          rotate_left
          · (intro w' hSw; (try dsimp only at hSw); go_simp; try (with_reducible rfl))
          change wpAnyH _ _ _ _ _ _ _ (Act.put _ (some 48) _) _
          try simp only [Act.put, List.setIfInBounds_toArray, List.set_cons_zero, List.set_cons_succ]
          refine wpAnyH_ready (rs := [11]) (by kernel_rfl) (by simp) ?_
          refine AllReadyH.cons (i := 11) rfl (fun K hK => ?_) AllReadyH.nil
          simp only [List.getElem_toArray, List.getElem_cons_succ, List.getElem_cons_zero]
          rw [if_pos (by rfl)]
          go_simp
          refine hK.out _ _ ?_ (fun hHeld => ?_)
          · first | trivial | ((try dsimp only); exact ⟨(heap_setCell_other _ _ _ _ (by intro e; simp only at e; omega)).trans ((heap_setCell_other _ _ _ _ (by intro e; simp only at e; omega)).trans hb9_4), (heap_setCell_other _ _ _ _ (by intro e; simp only at e; omega)).trans ((heap_setCell_other _ _ _ _ (by intro e; simp only at e; omega)).trans (ST4.bel.block _ (by omega)))⟩)
          clear hK K
          try simp only [Act.put, List.setIfInBounds_toArray, List.set_cons_zero, List.set_cons_succ]
          refine wpAnyH_take (i := 12) (v := ?_) rfl (by kernel_rfl) (by kernel_rfl) (by kernel_rfl) (fun _ _ _ h => h) (Or.inl ⟨by rfl, ?_⟩) (by assumption) ?_
          rotate_left
          · (intro w' hSw; (try dsimp only at hSw); go_simp; try (with_reducible rfl))
          change wpAnyH _ _ _ _ _ _ _ (Act.put _ (some 7) _) _
          try simp only [Act.put, List.setIfInBounds_toArray, List.set_cons_zero, List.set_cons_succ]
          refine wpAnyH_done (by kernel_rfl) ?_ _
          have bF : Below W.heap.size W q4 := ⟨ST4.bel.os.trans bP.os, ST4.bel.tape.trans bP.tape, ST4.bel.output.trans bP.output, Nat.le_trans bP.size ST4.bel.size, fun c hc => (ST4.bel.block c (by omega)).trans (bP.block c hc)⟩
          have HU := hid ST4.hu
          have HV := hid ST4.hv
          have HNE := hid ST4.ne
          have hsz := ST4.hB
          clear ST0 hb9_0 ST1 hb9_1 ST2 hb9_2 ST3 hb9_3 ST4 hb9_4 hHeld
          go_wp2
          refine bodyPost_ret (v := .tuple #[.agg #[.slice (some ⟨g2, 0, none⟩) (x.keys.length + 1) p2, .slice (some ⟨g4, 0, none⟩) (x.keys.length + 1) p4], .bool true]) (by simp [results, Tryd.results8, go_sem, r_0, r_1, rz_0, rz_1, rl]) rfl ⟨_, by rw [HP.out], ?_, ?_, ?_⟩
          · rw [HR.out]
            exact rdArr_own (B := w3.heap.size) (C := w3.heap.size) (e1 := 9) (e2 := 31) (by repeat' (first | exact (show World.ownsRow _ _ _ _ _ (x.keys ++ [s]).length _ by rw [List.length_append, strCells_append]; exact HU.out) | (refine ownsRow_setCell_below ?_ ?_ _) | (refine ownsRow_setCell_other ?_ hgu _) | (show W.heap.size + 1 + 1 < _; omega))) (by repeat' (first | exact (show World.ownsRow _ _ _ _ _ (fillK x.vals x.keys.length ++ [y]).length _ by rw [List.length_append, fillK_len, valsCells_append, (show valsCells [y] = valCells y by simp [valsCells])]; exact HV.out) | (refine ownsRow_setCell_below ?_ ?_ _) | (refine ownsRow_setCell_other ?_ hgu _) | (show W.heap.size + 1 + 1 < _; omega))) (by omega) (by omega) (by intro t ht; rcases List.mem_append.1 ht with h | h; exact HSK.out t h; (simp only [List.mem_singleton] at h; subst h; exact hss)) (by intro t ht; rcases List.mem_append.1 ht with h | h; exact HVK.out t h; (simp only [List.mem_singleton] at h; subst h; exact HYK.out))
          · rw [HR.out]
            exact owArr_own (B := w3.heap.size) (C := w3.heap.size) (e1 := 9) (e2 := 31) (by repeat' (first | exact (show World.ownsRow _ _ _ _ _ (x.keys ++ [s]).length _ by rw [List.length_append, strCells_append]; exact HU.out) | (refine ownsRow_setCell_below ?_ ?_ _) | (refine ownsRow_setCell_other ?_ hgu _) | (show W.heap.size + 1 + 1 < _; omega))) (by repeat' (first | exact (show World.ownsRow _ _ _ _ _ (fillK x.vals x.keys.length ++ [y]).length _ by rw [List.length_append, fillK_len, valsCells_append, (show valsCells [y] = valCells y by simp [valsCells])]; exact HV.out) | (refine ownsRow_setCell_below ?_ ?_ _) | (refine ownsRow_setCell_other ?_ hgu _) | (show W.heap.size + 1 + 1 < _; omega))) (by omega) (by omega) (HNE.out)
          · repeat' (first | (with_reducible exact bF) | (with_reducible refine Below.setCell ?_ ?_ _) | (with_reducible refine Below.alloc ?_ ?_ _) | (simp; done) | (simp; omega) | omega)
        refine AllReadyH.cons (i := 8) rfl (fun K hK => ?_) ?_
        · simp only [List.getElem_toArray, List.getElem_cons_succ, List.getElem_cons_zero]
          rw [if_pos (by rfl)]
          go_simp
          have ST2 := ST1.alloc (.cells #[.int .i64 y.kind, .bool y.num.neg, .string y.num.dig, .int .i64 y.num.exp, .string y.text] 31)
          have hb9_2 : ((a_N.drew.alloc (.cells #[.string s] 9)).alloc (.cells #[.int .i64 y.kind, .bool y.num.neg, .string y.num.dig, .int .i64 y.num.exp, .string y.text] 31)).heap[w4.heap.size]? = a_N.heap[w4.heap.size]? := (heap_alloc_old (a_N.drew.alloc (.cells #[.string s] 9)) _ ST1.h9).trans hb9_1
          have BB := ST1.blk #[.int .i64 y.kind, .bool y.num.neg, .string y.num.dig, .int .i64 y.num.exp, .string y.text] 31
          replace BA := BA.alloc (.cells #[.int .i64 y.kind, .bool y.num.neg, .string y.num.dig, .int .i64 y.num.exp, .string y.text] 31)
          refine hK.out _ _ ?_ (fun hHeld => ?_)
          · first | trivial | ((try dsimp only); exact ⟨hb9_2, ST2.bel.block _ (by omega)⟩)
          clear hK K
          try simp only [Act.put, List.setIfInBounds_toArray, List.set_cons_zero, List.set_cons_succ]
          refine wpAnyH_ready (rs := [4]) (by kernel_rfl) (by simp) ?_
          refine AllReadyH.cons (i := 4) rfl (fun K hK => ?_) AllReadyH.nil
          simp only [List.getElem_toArray, List.getElem_cons_succ, List.getElem_cons_zero]
          rw [if_pos (by rfl)]
          refine wp_append_lies _ (.tmp 39) (.tmp 41) 24 rfl w3.heap.size 9 ii (.string ⟨#[]⟩) 1 16 Tryd.underlying24 hi hz0 hz1 hz2 rfl (by decide) (.slice au x.keys.length cu) x.keys.length (strCellsL x.keys) (by first | rfl | simp [Act.eval, Act.put]) ST2.hu ⟨a_N.drew.heap.size, 0, none⟩ 1 1 [.string s] (by first | rfl | simp [Act.eval, Act.put]) rfl (World.news_of_block (cs := #[.string s]) (t := 9) (fr := (0, 0)) BA.hp) (by intro u hu; simp at hu; subst hu; rfl) (by decide) (by unfold maxLen; omega) (by omega) ST2.hB _ rfl ?_
          intro g3 p3 q3 how hgw haw hlw
          have ST3 := ST2.apU rfl how hgw haw
          have hb9_3 := (ST2.box_u hgw).trans hb9_2
          replace BA := BA.apU (n' := x.keys.length + 1) (cap := p3) rfl hgw haw
          replace BB := BB.apU (n' := x.keys.length + 1) (cap := p3) rfl hgw haw
          clear how hgw haw hlw
          have r_0 := (ST3.bel.cell (p := ⟨W.heap.size + 1 + 1, 0, none⟩) hR).trans c_R_0
          have r_1 := (ST3.bel.cell (p := ⟨W.heap.size + 1 + 1, 1, none⟩) hR).trans c_R_1
          have rz_0 := (ST3.bel.frozen (p := ⟨W.heap.size + 1 + 1, 0, none⟩) hR).trans z_R_0
          have rz_1 := (ST3.bel.frozen (p := ⟨W.heap.size + 1 + 1, 1, none⟩) hR).trans z_R_1
          have rl : W.heap.size + 1 + 1 < q3.heap.size := Nat.lt_of_lt_of_le l_R ST3.bel.size
          refine hK.out _ _ ?_ (fun hHeld => ?_)
          · first | trivial | ((try dsimp only); exact ⟨hb9_3, ST3.bel.block _ (by omega)⟩)
          clear hK K
          try simp only [Act.put, List.setIfInBounds_toArray, List.set_cons_zero, List.set_cons_succ]
          refine wpAnyH_ready (rs := [9]) (by kernel_rfl) (by simp) ?_
          refine AllReadyH.cons (i := 9) rfl (fun K hK => ?_) AllReadyH.nil
          simp only [List.getElem_toArray, List.getElem_cons_succ, List.getElem_cons_zero]
          rw [if_pos (by rfl)]
          refine wp_append_lies _ (.tmp 44) (.tmp 46) 25 rfl w3.heap.size 31 jj (.agg #[.int .i64 0, .bool false, .string ⟨#[]⟩, .int .i64 0, .string ⟨#[]⟩]) 5 56 Tryd.underlying25 ki kz0 kz1 kz2 rfl (by decide) (.slice (some ⟨gv, 0, none⟩) x.keys.length x.keys.length) x.keys.length (valsCells (fillK x.vals x.keys.length)) (by first | rfl | simp [Act.eval, Act.put]) ST3.hv ⟨(a_N.drew.alloc (.cells #[.string s] 9)).heap.size, 0, none⟩ 1 1 [.int .i64 y.kind, .bool y.num.neg, .string y.num.dig, .int .i64 y.num.exp, .string y.text] (by first | rfl | simp [Act.eval, Act.put]) rfl (World.news_of_block (cs := #[.int .i64 y.kind, .bool y.num.neg, .string y.num.dig, .int .i64 y.num.exp, .string y.text]) (t := 31) (fr := (0, 0)) BB.hp) (one_valCells y) (by decide) (by unfold maxLen; omega) (by omega) ST3.hB _ rfl ?_
          intro g4 p4 q4 how hgw haw hlw
          have ST4 := ST3.apV rfl how hgw haw
          have hb9_4 := (ST3.box_v hgw).trans hb9_3
          replace BA := BA.apV (m' := x.keys.length + 1) (cap := p4) rfl hgw haw
          replace BB := BB.apV (m' := x.keys.length + 1) (cap := p4) rfl hgw haw
          clear how hgw haw hlw
          have r_0 := (ST4.bel.cell (p := ⟨W.heap.size + 1 + 1, 0, none⟩) hR).trans c_R_0
          have r_1 := (ST4.bel.cell (p := ⟨W.heap.size + 1 + 1, 1, none⟩) hR).trans c_R_1
          have rz_0 := (ST4.bel.frozen (p := ⟨W.heap.size + 1 + 1, 0, none⟩) hR).trans z_R_0
          have rz_1 := (ST4.bel.frozen (p := ⟨W.heap.size + 1 + 1, 1, none⟩) hR).trans z_R_1
          have rl : W.heap.size + 1 + 1 < q4.heap.size := Nat.lt_of_lt_of_le l_R ST4.bel.size
          refine hK.out _ _ ?_ (fun hHeld => ?_)
          · first | trivial | ((try dsimp only); exact ⟨hb9_4, ST4.bel.block _ (by omega)⟩)
          clear hK K
          try simp only [Act.put, List.setIfInBounds_toArray, List.set_cons_zero, List.set_cons_succ]
          refine wpAnyH_take (i := 10) (v := ?_) rfl (by kernel_rfl) (by kernel_rfl) (by kernel_rfl) (fun _ _ _ h => h) (Or.inl ⟨by rfl, ?_⟩) (by assumption) ?_
          rotate_left
          · (intro w' hSw; (try dsimp only at hSw); go_simp; try (with_reducible rfl))
          change wpAnyH _ _ _ _ _ _ _ (Act.put _ (some 48) _) _
          try simp only [Act.put, List.setIfInBounds_toArray, List.set_cons_zero, List.set_cons_succ]
          refine wpAnyH_ready (rs := [11]) (by kernel_rfl) (by simp) ?_
          refine AllReadyH.cons (i := 11) rfl (fun K hK => ?_) AllReadyH.nil
          simp only [List.getElem_toArray, List.getElem_cons_succ, List.getElem_cons_zero]
          rw [if_pos (by rfl)]
          go_simp
          refine hK.out _ _ ?_ (fun hHeld => ?_)
          · first | trivial | ((try dsimp only); exact ⟨(heap_setCell_other _ _ _ _ (by intro e; simp only at e; omega)).trans ((heap_setCell_other _ _ _ _ (by intro e; simp only at e; omega)).trans hb9_4), (heap_setCell_other _ _ _ _ (by intro e; simp only at e; omega)).trans ((heap_setCell_other _ _ _ _ (by intro e; simp only at e; omega)).trans (ST4.bel.block _ (by omega)))⟩)
          clear hK K
          try simp only [Act.put, List.setIfInBounds_toArray, List.set_cons_zero, List.set_cons_succ]
          refine wpAnyH_take (i := 12) (v := ?_) rfl (by kernel_rfl) (by kernel_rfl) (by kernel_rfl) (fun _ _ _ h => h) (Or.inl ⟨by rfl, ?_⟩) (by assumption) ?_
          rotate_left
          · (intro w' hSw; (try dsimp only at hSw); go_simp; try (with_reducible rfl))
          change wpAnyH _ _ _ _ _ _ _ (Act.put _ (some 7) _) _
          try simp only [Act.put, List.setIfInBounds_toArray, List.set_cons_zero, List.set_cons_succ]
          refine wpAnyH_done (by kernel_rfl) ?_ _
          have bF : Below W.heap.size W q4 := ⟨ST4.bel.os.trans bP.os, ST4.bel.tape.trans bP.tape, ST4.bel.output.trans bP.output, Nat.le_trans bP.size ST4.bel.size, fun c hc => (ST4.bel.block c (by omega)).trans (bP.block c hc)⟩
          have HU := hid ST4.hu
          have HV := hid ST4.hv
          have HNE := hid ST4.ne
          have hsz := ST4.hB
          clear ST0 hb9_0 ST1 hb9_1 ST2 hb9_2 ST3 hb9_3 ST4 hb9_4 hHeld
          go_wp2
          refine bodyPost_ret (v := .tuple #[.agg #[.slice (some ⟨g3, 0, none⟩) (x.keys.length + 1) p3, .slice (some ⟨g4, 0, none⟩) (x.keys.length + 1) p4], .bool true]) (by simp [results, Tryd.results8, go_sem, r_0, r_1, rz_0, rz_1, rl]) rfl ⟨_, by rw [HP.out], ?_, ?_, ?_⟩
          · rw [HR.out]
            exact rdArr_own (B := w3.heap.size) (C := w3.heap.size) (e1 := 9) (e2 := 31) (by repeat' (first | exact (show World.ownsRow _ _ _ _ _ (x.keys ++ [s]).length _ by rw [List.length_append, strCells_append]; exact HU.out) | (refine ownsRow_setCell_below ?_ ?_ _) | (refine ownsRow_setCell_other ?_ hgu _) | (show W.heap.size + 1 + 1 < _; omega))) (by repeat' (first | exact (show World.ownsRow _ _ _ _ _ (fillK x.vals x.keys.length ++ [y]).length _ by rw [List.length_append, fillK_len, valsCells_append, (show valsCells [y] = valCells y by simp [valsCells])]; exact HV.out) | (refine ownsRow_setCell_below ?_ ?_ _) | (refine ownsRow_setCell_other ?_ hgu _) | (show W.heap.size + 1 + 1 < _; omega))) (by omega) (by omega) (by intro t ht; rcases List.mem_append.1 ht with h | h; exact HSK.out t h; (simp only [List.mem_singleton] at h; subst h; exact hss)) (by intro t ht; rcases List.mem_append.1 ht with h | h; exact HVK.out t h; (simp only [List.mem_singleton] at h; subst h; exact HYK.out))
          · rw [HR.out]
            exact owArr_own (B := w3.heap.size) (C := w3.heap.size) (e1 := 9) (e2 := 31) (by repeat' (first | exact (show World.ownsRow _ _ _ _ _ (x.keys ++ [s]).length _ by rw [List.length_append, strCells_append]; exact HU.out) | (refine ownsRow_setCell_below ?_ ?_ _) | (refine ownsRow_setCell_other ?_ hgu _) | (show W.heap.size + 1 + 1 < _; omega))) (by repeat' (first | exact (show World.ownsRow _ _ _ _ _ (fillK x.vals x.keys.length ++ [y]).length _ by rw [List.length_append, fillK_len, valsCells_append, (show valsCells [y] = valCells y by simp [valsCells])]; exact HV.out) | (refine ownsRow_setCell_below ?_ ?_ _) | (refine ownsRow_setCell_other ?_ hgu _) | (show W.heap.size + 1 + 1 < _; omega))) (by omega) (by omega) (HNE.out)
          · repeat' (first | (with_reducible exact bF) | (with_reducible refine Below.setCell ?_ ?_ _) | (with_reducible refine Below.alloc ?_ ?_ _) | (simp; done) | (simp; omega) | omega)
        exact AllReadyH.nil
      refine AllReadyH.cons (i := 8) rfl (fun K hK => ?_) ?_
      · simp only [List.getElem_toArray, List.getElem_cons_succ, List.getElem_cons_zero]
        rw [if_pos (by rfl)]
        go_simp
        have ST1 := ST0.alloc (.cells #[.int .i64 y.kind, .bool y.num.neg, .string y.num.dig, .int .i64 y.num.exp, .string y.text] 31)
        have hb9_1 : (a_N.drew.alloc (.cells #[.int .i64 y.kind, .bool y.num.neg, .string y.num.dig, .int .i64 y.num.exp, .string y.text] 31)).heap[w4.heap.size]? = a_N.heap[w4.heap.size]? := (heap_alloc_old a_N.drew _ ST0.h9).trans hb9_0
        have BB := ST0.blk #[.int .i64 y.kind, .bool y.num.neg, .string y.num.dig, .int .i64 y.num.exp, .string y.text] 31
        refine hK.out _ _ ?_ (fun hHeld => ?_)
        · first | trivial | ((try dsimp only); exact ⟨hb9_1, ST1.bel.block _ (by omega)⟩)
        clear hK K
        try simp only [Act.put, List.setIfInBounds_toArray, List.set_cons_zero, List.set_cons_succ]
        refine wpAnyH_ready (rs := [3]) (by kernel_rfl) (by simp) ?_
        refine AllReadyH.cons (i := 3) rfl (fun K hK => ?_) AllReadyH.nil
        simp only [List.getElem_toArray, List.getElem_cons_succ, List.getElem_cons_zero]
        rw [if_pos (by rfl)]
        go_simp
        have ST2 := ST1.alloc (.cells #[.string s] 9)
        have hb9_2 : ((a_N.drew.alloc (.cells #[.int .i64 y.kind, .bool y.num.neg, .string y.num.dig, .int .i64 y.num.exp, .string y.text] 31)).alloc (.cells #[.string s] 9)).heap[w4.heap.size]? = a_N.heap[w4.heap.size]? := (heap_alloc_old (a_N.drew.alloc (.cells #[.int .i64 y.kind, .bool y.num.neg, .string y.num.dig, .int .i64 y.num.exp, .string y.text] 31)) _ ST1.h9).trans hb9_1
        have BA := ST1.blk #[.string s] 9
        replace BB := BB.alloc (.cells #[.string s] 9)
        refine hK.out _ _ ?_ (fun hHeld => ?_)
        · first | trivial | ((try dsimp only); exact ⟨hb9_2, ST2.bel.block _ (by omega)⟩)
        clear hK K
        try simp only [Act.put, List.setIfInBounds_toArray, List.set_cons_zero, List.set_cons_succ]
        refine wpAnyH_ready (rs := [4]) (by kernel_rfl) (by simp) ?_
        refine AllReadyH.cons (i := 4) rfl (fun K hK => ?_) AllReadyH.nil
        simp only [List.getElem_toArray, List.getElem_cons_succ, List.getElem_cons_zero]
        rw [if_pos (by rfl)]
        refine wp_append_lies _ (.tmp 39) (.tmp 41) 24 rfl w3.heap.size 9 ii (.string ⟨#[]⟩) 1 16 Tryd.underlying24 hi hz0 hz1 hz2 rfl (by decide) (.slice au x.keys.length cu) x.keys.length (strCellsL x.keys) (by first | rfl | simp [Act.eval, Act.put]) ST2.hu ⟨(a_N.drew.alloc (.cells #[.int .i64 y.kind, .bool y.num.neg, .string y.num.dig, .int .i64 y.num.exp, .string y.text] 31)).heap.size, 0, none⟩ 1 1 [.string s] (by first | rfl | simp [Act.eval, Act.put]) rfl (World.news_of_block (cs := #[.string s]) (t := 9) (fr := (0, 0)) BA.hp) (by intro u hu; simp at hu; subst hu; rfl) (by decide) (by unfold maxLen; omega) (by omega) ST2.hB _ rfl ?_
        intro g3 p3 q3 how hgw haw hlw
        have ST3 := ST2.apU rfl how hgw haw
        have hb9_3 := (ST2.box_u hgw).trans hb9_2
        replace BB := BB.apU (n' := x.keys.length + 1) (cap := p3) rfl hgw haw
        replace BA := BA.apU (n' := x.keys.length + 1) (cap := p3) rfl hgw haw
        clear how hgw haw hlw
        have r_0 := (ST3.bel.cell (p := ⟨W.heap.size + 1 + 1, 0, none⟩) hR).trans c_R_0
        have r_1 := (ST3.bel.cell (p := ⟨W.heap.size + 1 + 1, 1, none⟩) hR).trans c_R_1
        have rz_0 := (ST3.bel.frozen (p := ⟨W.heap.size + 1 + 1, 0, none⟩) hR).trans z_R_0
        have rz_1 := (ST3.bel.frozen (p := ⟨W.heap.size + 1 + 1, 1, none⟩) hR).trans z_R_1
        have rl : W.heap.size + 1 + 1 < q3.heap.size := Nat.lt_of_lt_of_le l_R ST3.bel.size
        refine hK.out _ _ ?_ (fun hHeld => ?_)
        · first | trivial | ((try dsimp only); exact ⟨hb9_3, ST3.bel.block _ (by omega)⟩)
        clear hK K
        try simp only [Act.put, List.setIfInBounds_toArray, List.set_cons_zero, List.set_cons_succ]
        refine wpAnyH_ready (rs := [9]) (by kernel_rfl) (by simp) ?_
        refine AllReadyH.cons (i := 9) rfl (fun K hK => ?_) AllReadyH.nil
        simp only [List.getElem_toArray, List.getElem_cons_succ, List.getElem_cons_zero]
        rw [if_pos (by rfl)]
        refine wp_append_lies _ (.tmp 44) (.tmp 46) 25 rfl w3.heap.size 31 jj (.agg #[.int .i64 0, .bool false, .string ⟨#[]⟩, .int .i64 0, .string ⟨#[]⟩]) 5 56 Tryd.underlying25 ki kz0 kz1 kz2 rfl (by decide) (.slice (some ⟨gv, 0, none⟩) x.keys.length x.keys.length) x.keys.length (valsCells (fillK x.vals x.keys.length)) (by first | rfl | simp [Act.eval, Act.put]) ST3.hv ⟨a_N.drew.heap.size, 0, none⟩ 1 1 [.int .i64 y.kind, .bool y.num.neg, .string y.num.dig, .int .i64 y.num.exp, .string y.text] (by first | rfl | simp [Act.eval, Act.put]) rfl (World.news_of_block (cs := #[.int .i64 y.kind, .bool y.num.neg, .string y.num.dig, .int .i64 y.num.exp, .string y.text]) (t := 31) (fr := (0, 0)) BB.hp) (one_valCells y) (by decide) (by unfold maxLen; omega) (by omega) ST3.hB _ rfl ?_
        intro g4 p4 q4 how hgw haw hlw
        have ST4 := ST3.apV rfl how hgw haw
        have hb9_4 := (ST3.box_v hgw).trans hb9_3
        replace BB := BB.apV (m' := x.keys.length + 1) (cap := p4) rfl hgw haw
        replace BA := BA.apV (m' := x.keys.length + 1) (cap := p4) rfl hgw haw
        clear how hgw haw hlw
        have r_0 := (ST4.bel.cell (p := ⟨W.heap.size + 1 + 1, 0, none⟩) hR).trans c_R_0
        have r_1 := (ST4.bel.cell (p := ⟨W.heap.size + 1 + 1, 1, none⟩) hR).trans c_R_1
        have rz_0 := (ST4.bel.frozen (p := ⟨W.heap.size + 1 + 1, 0, none⟩) hR).trans z_R_0
        have rz_1 := (ST4.bel.frozen (p := ⟨W.heap.size + 1 + 1, 1, none⟩) hR).trans z_R_1
        have rl : W.heap.size + 1 + 1 < q4.heap.size := Nat.lt_of_lt_of_le l_R ST4.bel.size
        refine hK.out _ _ ?_ (fun hHeld => ?_)
        · first | trivial | ((try dsimp only); exact ⟨hb9_4, ST4.bel.block _ (by omega)⟩)
        clear hK K
        try simp only [Act.put, List.setIfInBounds_toArray, List.set_cons_zero, List.set_cons_succ]
        refine wpAnyH_take (i := 10) (v := ?_) rfl (by kernel_rfl) (by kernel_rfl) (by kernel_rfl) (fun _ _ _ h => h) (Or.inl ⟨by rfl, ?_⟩) (by assumption) ?_
        rotate_left
        · (intro w' hSw; (try dsimp only at hSw); go_simp; try (with_reducible rfl))
        change wpAnyH _ _ _ _ _ _ _ (Act.put _ (some 48) _) _
        try simp only [Act.put, List.setIfInBounds_toArray, List.set_cons_zero, List.set_cons_succ]
        refine wpAnyH_ready (rs := [11]) (by kernel_rfl) (by simp) ?_
        refine AllReadyH.cons (i := 11) rfl (fun K hK => ?_) AllReadyH.nil
        simp only [List.getElem_toArray, List.getElem_cons_succ, List.getElem_cons_zero]
        rw [if_pos (by rfl)]
        go_simp
        refine hK.out _ _ ?_ (fun hHeld => ?_)
        · first | trivial | ((try dsimp only); exact ⟨(heap_setCell_other _ _ _ _ (by intro e; simp only at e; omega)).trans ((heap_setCell_other _ _ _ _ (by intro e; simp only at e; omega)).trans hb9_4), (heap_setCell_other _ _ _ _ (by intro e; simp only at e; omega)).trans ((heap_setCell_other _ _ _ _ (by intro e; simp only at e; omega)).trans (ST4.bel.block _ (by omega)))⟩)
        clear hK K
        try simp only [Act.put, List.setIfInBounds_toArray, List.set_cons_zero, List.set_cons_succ]
        refine wpAnyH_take (i := 12) (v := ?_) rfl (by kernel_rfl) (by kernel_rfl) (by kernel_rfl) (fun _ _ _ h => h) (Or.inl ⟨by rfl, ?_⟩) (by assumption) ?_
        rotate_left
        · (intro w' hSw; (try dsimp only at hSw); go_simp; try (with_reducible rfl))
        change wpAnyH _ _ _ _ _ _ _ (Act.put _ (some 7) _) _
        try simp only [Act.put, List.setIfInBounds_toArray, List.set_cons_zero, List.set_cons_succ]
        refine wpAnyH_done (by kernel_rfl) ?_ _
        have bF : Below W.heap.size W q4 := ⟨ST4.bel.os.trans bP.os, ST4.bel.tape.trans bP.tape, ST4.bel.output.trans bP.output, Nat.le_trans bP.size ST4.bel.size, fun c hc => (ST4.bel.block c (by omega)).trans (bP.block c hc)⟩
        have HU := hid ST4.hu
        have HV := hid ST4.hv
        have HNE := hid ST4.ne
        have hsz := ST4.hB
        clear ST0 hb9_0 ST1 hb9_1 ST2 hb9_2 ST3 hb9_3 ST4 hb9_4 hHeld
        go_wp2
        refine bodyPost_ret (v := .tuple #[.agg #[.slice (some ⟨g3, 0, none⟩) (x.keys.length + 1) p3, .slice (some ⟨g4, 0, none⟩) (x.keys.length + 1) p4], .bool true]) (by simp [results, Tryd.results8, go_sem, r_0, r_1, rz_0, rz_1, rl]) rfl ⟨_, by rw [HP.out], ?_, ?_, ?_⟩
        · rw [HR.out]
          exact rdArr_own (B := w3.heap.size) (C := w3.heap.size) (e1 := 9) (e2 := 31) (by repeat' (first | exact (show World.ownsRow _ _ _ _ _ (x.keys ++ [s]).length _ by rw [List.length_append, strCells_append]; exact HU.out) | (refine ownsRow_setCell_below ?_ ?_ _) | (refine ownsRow_setCell_other ?_ hgu _) | (show W.heap.size + 1 + 1 < _; omega))) (by repeat' (first | exact (show World.ownsRow _ _ _ _ _ (fillK x.vals x.keys.length ++ [y]).length _ by rw [List.length_append, fillK_len, valsCells_append, (show valsCells [y] = valCells y by simp [valsCells])]; exact HV.out) | (refine ownsRow_setCell_below ?_ ?_ _) | (refine ownsRow_setCell_other ?_ hgu _) | (show W.heap.size + 1 + 1 < _; omega))) (by omega) (by omega) (by intro t ht; rcases List.mem_append.1 ht with h | h; exact HSK.out t h; (simp only [List.mem_singleton] at h; subst h; exact hss)) (by intro t ht; rcases List.mem_append.1 ht with h | h; exact HVK.out t h; (simp only [List.mem_singleton] at h; subst h; exact HYK.out))
        · rw [HR.out]
          exact owArr_own (B := w3.heap.size) (C := w3.heap.size) (e1 := 9) (e2 := 31) (by repeat' (first | exact (show World.ownsRow _ _ _ _ _ (x.keys ++ [s]).length _ by rw [List.length_append, strCells_append]; exact HU.out) | (refine ownsRow_setCell_below ?_ ?_ _) | (refine ownsRow_setCell_other ?_ hgu _) | (show W.heap.size + 1 + 1 < _; omega))) (by repeat' (first | exact (show World.ownsRow _ _ _ _ _ (fillK x.vals x.keys.length ++ [y]).length _ by rw [List.length_append, fillK_len, valsCells_append, (show valsCells [y] = valCells y by simp [valsCells])]; exact HV.out) | (refine ownsRow_setCell_below ?_ ?_ _) | (refine ownsRow_setCell_other ?_ hgu _) | (show W.heap.size + 1 + 1 < _; omega))) (by omega) (by omega) (HNE.out)
        · repeat' (first | (with_reducible exact bF) | (with_reducible refine Below.setCell ?_ ?_ _) | (with_reducible refine Below.alloc ?_ ?_ _) | (simp; done) | (simp; omega) | omega)
      exact AllReadyH.nil
  · have HP : Hid (putOk x s y = true) := hid (by unfold putOk; rw [hts, hvs, HK.out, decide_eq_false hat]; rfl)
    obtain ⟨j, rfl⟩ := Int.eq_ofNat_of_zero_le (show 0 ≤ k by omega)
    have hjn : j < x.keys.length := by omega
    have HR := hid (show arrPut x s y = ⟨x.keys, (fillK x.vals x.keys.length).set j y⟩ by unfold arrPut arrSet; rw [HP.out, HK.out, if_pos rfl, if_neg hat]; rfl)
    clear hts hvs
    go_wp2_with fail
    have l_R_g := l_R
    refine (implFilled _ (by exact LA.rd H0) hn).mono ?_
    rintro e w4 ⟨_, u, v, rfl, rfl, hb, C, hC, hou, ⟨gv, rfl, hgv⟩, hov⟩
    replace z_R_0 : w4.frozen? ⟨W.heap.size + 1 + 1, 0, none⟩ = false := (hb.frozen (p := ⟨W.heap.size + 1 + 1, 0, none⟩) l_R).trans z_R_0
    replace z_R_1 : w4.frozen? ⟨W.heap.size + 1 + 1, 1, none⟩ = false := (hb.frozen (p := ⟨W.heap.size + 1 + 1, 1, none⟩) l_R).trans z_R_1
    replace hT : Tabs w4 := tabs_below hT hb
    replace bP : Below W.heap.size W w4 := bw_call bP zP hb
    replace c_A_0 : w4.cell? ⟨W.heap.size, 0, none⟩ = some (.slice a0 x.keys.length c0) := (hb.cell (p := ⟨W.heap.size, 0, none⟩) l_A).trans c_A_0
    replace c_A_1 : w4.cell? ⟨W.heap.size, 1, none⟩ = some (.slice a1 x.vals.length c1) := (hb.cell (p := ⟨W.heap.size, 1, none⟩) l_A).trans c_A_1
    replace c_V_0 : w4.cell? ⟨W.heap.size + 1, 0, none⟩ = some (.int .i64 y.kind) := (hb.cell (p := ⟨W.heap.size + 1, 0, none⟩) l_V).trans c_V_0
    replace c_V_1 : w4.cell? ⟨W.heap.size + 1, 1, none⟩ = some (.bool y.num.neg) := (hb.cell (p := ⟨W.heap.size + 1, 1, none⟩) l_V).trans c_V_1
    replace c_V_2 : w4.cell? ⟨W.heap.size + 1, 2, none⟩ = some (.string y.num.dig) := (hb.cell (p := ⟨W.heap.size + 1, 2, none⟩) l_V).trans c_V_2
    replace c_V_3 : w4.cell? ⟨W.heap.size + 1, 3, none⟩ = some (.int .i64 y.num.exp) := (hb.cell (p := ⟨W.heap.size + 1, 3, none⟩) l_V).trans c_V_3
    replace c_V_4 : w4.cell? ⟨W.heap.size + 1, 4, none⟩ = some (.string y.text) := (hb.cell (p := ⟨W.heap.size + 1, 4, none⟩) l_V).trans c_V_4
    replace c_R_0 : w4.cell? ⟨W.heap.size + 1 + 1, 0, none⟩ = some (.slice none 0 0) := (hb.cell (p := ⟨W.heap.size + 1 + 1, 0, none⟩) l_R).trans c_R_0
    replace c_R_1 : w4.cell? ⟨W.heap.size + 1 + 1, 1, none⟩ = some (.slice none 0 0) := (hb.cell (p := ⟨W.heap.size + 1 + 1, 1, none⟩) l_R).trans c_R_1
    replace l_A : W.heap.size < w4.heap.size := Nat.lt_of_lt_of_le l_A hb.size
    replace l_V : W.heap.size + 1 < w4.heap.size := Nat.lt_of_lt_of_le l_V hb.size
    replace l_R : W.heap.size + 1 + 1 < w4.heap.size := Nat.lt_of_lt_of_le l_R hb.size
    replace LA : Live (Old W) W w4 := LA.call hb
    have y_w4 : w3.heap.size ≤ w4.heap.size := hb.size
    replace zP : W.heap.size ≤ w4.heap.size := bP.size
    clear hb
    obtain ⟨au, cu, rfl⟩ := own_sl hou
    have hgv1 := hov.lt gv rfl
    have hR : W.heap.size + 1 + 1 < w3.heap.size := l_R_g
    clear l_R_g
    have hjz : (j : Int) < (x.keys.length : Int) := by omega
    obtain ⟨e0, m0⟩ : ∃ v, w4.cell? ⟨gv, j * 5, none⟩ = some v := by rw [hov.cellAt _ (by omega)]; exact ⟨_, List.getElem?_eq_getElem (by rw [valsCells_len, fillK_len]; omega)⟩
    have n0 := hov.frozenAt (j * 5)
    obtain ⟨e1, m1⟩ : ∃ v, w4.cell? ⟨gv, j * 5 + 1, none⟩ = some v := by rw [hov.cellAt _ (by omega)]; exact ⟨_, List.getElem?_eq_getElem (by rw [valsCells_len, fillK_len]; omega)⟩
    have n1 := hov.frozenAt (j * 5 + 1)
    obtain ⟨e2, m2⟩ : ∃ v, w4.cell? ⟨gv, j * 5 + 2, none⟩ = some v := by rw [hov.cellAt _ (by omega)]; exact ⟨_, List.getElem?_eq_getElem (by rw [valsCells_len, fillK_len]; omega)⟩
    have n2 := hov.frozenAt (j * 5 + 2)
    obtain ⟨e3, m3⟩ : ∃ v, w4.cell? ⟨gv, j * 5 + 3, none⟩ = some v := by rw [hov.cellAt _ (by omega)]; exact ⟨_, List.getElem?_eq_getElem (by rw [valsCells_len, fillK_len]; omega)⟩
    have n3 := hov.frozenAt (j * 5 + 3)
    obtain ⟨e4, m4⟩ : ∃ v, w4.cell? ⟨gv, j * 5 + 4, none⟩ = some v := by rw [hov.cellAt _ (by omega)]; exact ⟨_, List.getElem?_eq_getElem (by rw [valsCells_len, fillK_len]; omega)⟩
    have n4 := hov.frozenAt (j * 5 + 4)
    have gl : gv < w4.heap.size := by omega
    have HOU := hid hou
    have HOV := hid hov
    clear hou hov
    have HS5 := hid (own_set5 HOV.out j y (by rw [fillK_len]; exact hjn))
    have HU9 := HOU
    have HS6 : Hid (World.ownsRow _ _ _ _ _ ((fillK x.vals x.keys.length).set j y).length _) := hid (by rw [List.length_set, fillK_len]; exact HS5.out)
    have hgN : gv ≠ w4.heap.size := by omega
    have hgR : gv ≠ W.heap.size + 1 + 1 := by omega
    have hgu : (Value.slice au x.keys.length cu).ownBlock ≠ some gv := fun e => by have := (HOU.out.lt _ e).1; omega
    have hRC : W.heap.size + 1 + 1 < C := by omega
    go_wp2
    refine bodyPost_ret (v := .tuple #[.agg #[.slice au x.keys.length cu, .slice (some ⟨gv, 0, none⟩) x.keys.length x.keys.length], .bool true]) (by simp [results, Tryd.results8, go_sem, c_R_0, c_R_1, z_R_0, z_R_1, l_R]) rfl ⟨_, by rw [HP.out], ?_, ?_, ?_⟩
    · rw [HR.out]
      exact rdArr_own (B := C) (C := w3.heap.size) (e1 := 9) (e2 := 31) (by exact World.ownsRow.alloc (ownsRow_setCell_below (ownsRow_setCell_below (ownsRow_setCell_other (ownsRow_setCell_other (ownsRow_setCell_other (ownsRow_setCell_other (ownsRow_setCell_other HU9.out hgu _) hgu _) hgu _) hgu _) hgu _) hRC _) hRC _) _) (by exact World.ownsRow.alloc (ownsRow_setCell_below (ownsRow_setCell_below HS6.out hR _) hR _) _) (by omega) (by omega) (HSK.out) (by intro t ht; rcases List.mem_or_eq_of_mem_set ht with h | h; exact HVK.out t h; (subst h; exact HYK.out))
    · rw [HR.out]
      exact owArr_own (B := C) (C := w3.heap.size) (e1 := 9) (e2 := 31) (by exact World.ownsRow.alloc (ownsRow_setCell_below (ownsRow_setCell_below (ownsRow_setCell_other (ownsRow_setCell_other (ownsRow_setCell_other (ownsRow_setCell_other (ownsRow_setCell_other HU9.out hgu _) hgu _) hgu _) hgu _) hgu _) hRC _) hRC _) _) (by exact World.ownsRow.alloc (ownsRow_setCell_below (ownsRow_setCell_below HS6.out hR _) hR _) _) (by omega) (by omega) (fun q h1 h2 => by simp only [Value.ownBlock, Option.some.injEq] at h2; subst h2; exact hgu h1)
    · repeat' (first | (with_reducible exact bP) | (with_reducible refine Below.setCell ?_ ?_ _) | (with_reducible refine Below.alloc ?_ ?_ _) | (simp; done) | (simp; omega) | omega)
end Go.Proofs.YtommldonooicjaaDoor

namespace Go.Proofs.YtommldonooicjaaDoor
open Go.RowKit
set_option linter.unusedVariables false
set_option linter.unusedSimpArgs false

theorem ba_toA {a b : ByteArray} (h : a.data.toList = b.data.toList) : a = b := by
  cases a with | mk a => cases b with | mk b => cases a with | mk a => cases b with | mk b => simp at h; subst h; rfl
set_option maxHeartbeats 64000000 in
set_option maxRecDepth 100000 in
theorem fnArrKept_walk (W : World) (hT : Tabs W) {v0 v1 : Value} {x0 x1 : List UInt8} (h0 : Rd.rd (Old W) W [v0] x0) (h1 : Rd.rd (Old W) W [v1] x1) :
    Calls Tryd.prog 3 #[v0, v1] W fun e W' => e = .returned (.bool true) ∧ Below W.heap.size W W' := by
  by_cases hb : 1048576 < (x0.length : Int)
  · go_enter Tryd.func3, Tryd.ntmps3
    go_wp2_with fail
    refine (lawBig _ h0).mono ?_
    rintro e w1 ⟨rfl, rfl⟩
    rw [decide_eq_true hb]
    go_wp2
    go_ret
    exact ⟨rfl, Below.refl _ _⟩
  have HBF := hid (decide_eq_false hb)
  by_cases hb1 : 1048576 < (x1.length : Int)
  · have HBT := hid (decide_eq_true hb1)
    clear hb hb1
    go_enter Tryd.func3, Tryd.ntmps3
    go_wp2_with fail
    refine (lawBig _ h0).mono ?_
    rintro e w1 ⟨rfl, rfl⟩
    rw [HBF.out]
    go_wp2_with fail
    refine (lawBig _ h1).mono ?_
    rintro e w1 ⟨rfl, rfl⟩
    rw [HBT.out]
    go_wp2
    go_ret
    exact ⟨rfl, Below.refl _ _⟩
  have HBG := hid (decide_eq_false hb1)
  have hn0 : x0.length ≤ 1048576 := by omega
  have hn1 : x1.length ≤ 1048576 := by omega
  clear hb hb1
  go_enter Tryd.func3, Tryd.ntmps3
  go_wp2_with fail
  refine (lawBig _ h0).mono ?_
  rintro e w1 ⟨rfl, rfl⟩
  rw [HBF.out]
  go_wp2_with fail
  refine (lawBig _ h1).mono ?_
  rintro e w1 ⟨rfl, rfl⟩
  rw [HBG.out]
  go_wp2_with fail
  refine (drawArrPut _ h0 hn0).mono ?_
  rintro e w1 ⟨ua, va, uc, vc, x, s, y, rfl, hr, hok, hl1, hl2, hss, hy, hb1⟩
  go_upto_region 4 with fail
  obtain ⟨wB, hwB⟩ : ∃ z, (w1.alloc (.cells #[.slice ua x.keys.length uc, .slice va x.vals.length vc] 27)).alloc (.cells #[.int .i64 y.kind, .bool y.num.neg, .string y.num.dig, .int .i64 y.num.exp, .string y.text] 31) = z := ⟨_, rfl⟩
  have hbB : Below w1.heap.size w1 wB := by rw [← hwB]; exact ext_trans (ext_alloc _ _) (ext_alloc _ _)
  have HA := hid (show wB.heap[w1.heap.size]? = some (.cells #[.slice ua x.keys.length uc, .slice va x.vals.length vc] 27 (0, 0)) by rw [← hwB]; exact ((ext_alloc _ _).block w1.heap.size (by simp)).trans (heap_alloc_new w1 _))
  have HV := hid (show VB wB (w1.heap.size + 1) y by
    rw [← hwB]
    have := heap_alloc_new (w1.alloc (.cells #[.slice ua x.keys.length uc, .slice va x.vals.length vc] 27)) (.cells #[.int .i64 y.kind, .bool y.num.neg, .string y.num.dig, .int .i64 y.num.exp, .string y.text] 31)
    rw [show (w1.alloc (.cells #[.slice ua x.keys.length uc, .slice va x.vals.length vc] 27)).heap.size = w1.heap.size + 1 by simp] at this
    exact this)
  have HRX := hid (Rd.later hbB (Rd.old hr))
  have HT := hid (tabs_below hT (ext_trans hb1 hbB))
  have HW := hid (ext_trans hb1 hbB)
  have H1 := hid (Rd.later (ext_trans hb1 hbB) h1)
  have HY := hid hy
  have HPL := hid (put_len x s y)
  try rw [hwB]
  clear hwB hbB hr hb1 hT h0 h1 hok hy
  have a0 := cell_of_row _ _ 0 _ _ _ HA.out
  have a1 := cell_of_row _ _ 1 _ _ _ HA.out
  have al := (Array.getElem?_eq_some_iff.1 HA.out).1
  obtain ⟨⟨v0, v1, v2, v3, v4⟩, ⟨vy0, vy1, vy2, vy3, vy4⟩, vl⟩ := HV.out.cells
  go_wp2_with fail
  refine (implPut (cs := #[.slice ua x.keys.length uc, .slice va x.vals.length vc]) (ys := #[.int .i64 y.kind, .bool y.num.neg, .string y.num.dig, .int .i64 y.num.exp, .string y.text]) (x := x) (y := y) s wB HRX.out (vS_rd HY.out (by decide)) (by omega) (hid (by omega)) HT.out).mono ?_
  rintro e w2 ⟨csb, rfl, hrb, _, hb2⟩
  obtain ⟨q, hq⟩ : ∃ q, putOk x s y = q := ⟨_, rfl⟩
  obtain ⟨b, hbe⟩ : ∃ b, arrPut x s y = b := ⟨_, rfl⟩
  have HPE := hid hbe
  have HQ := hid hq
  rw [hbe] at hrb HPL
  rw [hq]
  clear hbe hq
  obtain ⟨ub, cb, vb, db, hcs, _, _⟩ := rdArr hrb
  obtain rfl := arr_of_list hcs
  have HRB0 := hid (Rd.old hrb)
  clear a0 a1 al
  clear v0 v1 v2 v3 v4 vy0 vy1 vy2 vy3 vy4 vl
  replace HA := hid ((hb2.block _ (Array.getElem?_eq_some_iff.1 HA.out).1).trans HA.out)
  replace HV := hid (HV.out.later hb2)
  replace HRX := hid (Rd.later hb2 HRX.out)
  replace HT := hid (tabs_below HT.out hb2)
  replace HW := hid (ext_trans HW.out hb2)
  replace H1 := hid (Rd.later hb2 H1.out)
  clear hrb hcs hb2
  go_upto_region 5 with fail
  have hb3 := ext_alloc w2 (.cells #[.slice ub b.keys.length cb, .slice vb b.vals.length db] 27)
  obtain ⟨w3, hw3⟩ : ∃ z, w2.alloc (.cells #[.slice ub b.keys.length cb, .slice vb b.vals.length db] 27) = z := ⟨_, rfl⟩
  rw [hw3] at hb3
  have HB := hid (show w3.heap[w2.heap.size]? = some (.cells #[.slice ub b.keys.length cb, .slice vb b.vals.length db] 27 (0, 0)) by rw [← hw3]; exact heap_alloc_new w2 _)
  have HRB := hid (Rd.later hb3 HRB0.out)
  replace HA := hid ((hb3.block _ (Array.getElem?_eq_some_iff.1 HA.out).1).trans HA.out)
  replace HV := hid (HV.out.later hb3)
  replace HRX := hid (Rd.later hb3 HRX.out)
  replace HT := hid (tabs_below HT.out hb3)
  replace HW := hid (ext_trans HW.out hb3)
  replace H1 := hid (Rd.later hb3 H1.out)
  try rw [hw3]
  clear hw3 hb3 HRB0
  have a0 := cell_of_row _ _ 0 _ _ _ HA.out
  have a1 := cell_of_row _ _ 1 _ _ _ HA.out
  have al := (Array.getElem?_eq_some_iff.1 HA.out).1
  obtain ⟨⟨v0, v1, v2, v3, v4⟩, ⟨vy0, vy1, vy2, vy3, vy4⟩, vl⟩ := HV.out.cells
  go_wp2_with fail
  refine (specPutO (cs := #[.slice ua x.keys.length uc, .slice va x.vals.length vc]) (ys := #[.int .i64 y.kind, .bool y.num.neg, .string y.num.dig, .int .i64 y.num.exp, .string y.text]) (x := x) (y := y) s w3 HRX.out (vS_rd HY.out (by decide)) (by omega) (hid (by omega))).mono ?_
  rintro e w4 ⟨cse, rfl, _, ⟨u4, v4', rfl, ho1, ho2, _⟩, hb4⟩
  rw [HQ.out]
  obtain ⟨ua4, uc4, rfl⟩ := own_sl ho1
  obtain ⟨va4, vc4, rfl⟩ := own_sl ho2
  clear a0 a1 al
  clear v0 v1 v2 v3 v4 vy0 vy1 vy2 vy3 vy4 vl
  replace HA := hid ((hb4.block _ (Array.getElem?_eq_some_iff.1 HA.out).1).trans HA.out)
  replace HV := hid (HV.out.later hb4)
  replace HB := hid ((hb4.block _ (Array.getElem?_eq_some_iff.1 HB.out).1).trans HB.out)
  replace HRX := hid (Rd.later hb4 HRX.out)
  replace HRB := hid (Rd.later hb4 HRB.out)
  replace HT := hid (tabs_below HT.out hb4)
  replace HW := hid (ext_trans HW.out hb4)
  replace H1 := hid (Rd.later hb4 H1.out)
  clear hb4 ho1 ho2
  go_upto_region 6 with fail
  have hb5 := ext_alloc w4 (.cells #[.slice ua4 (arrPut x s y).keys.length uc4, .slice va4 (arrPut x s y).vals.length vc4] 27)
  obtain ⟨w5, hw5⟩ : ∃ z, w4.alloc (.cells #[.slice ua4 (arrPut x s y).keys.length uc4, .slice va4 (arrPut x s y).vals.length vc4] 27) = z := ⟨_, rfl⟩
  rw [hw5] at hb5
  replace HA := hid ((hb5.block _ (Array.getElem?_eq_some_iff.1 HA.out).1).trans HA.out)
  replace HV := hid (HV.out.later hb5)
  replace HB := hid ((hb5.block _ (Array.getElem?_eq_some_iff.1 HB.out).1).trans HB.out)
  replace HRX := hid (Rd.later hb5 HRX.out)
  replace HRB := hid (Rd.later hb5 HRB.out)
  replace HT := hid (tabs_below HT.out hb5)
  replace HW := hid (ext_trans HW.out hb5)
  replace H1 := hid (Rd.later hb5 H1.out)
  try rw [hw5]
  clear hw5 hb5
  have a0 := cell_of_row _ _ 0 _ _ _ HA.out
  have a1 := cell_of_row _ _ 1 _ _ _ HA.out
  have al := (Array.getElem?_eq_some_iff.1 HA.out).1
  have CAO := hid (specArrOk (cs := #[.slice ua x.keys.length uc, .slice va x.vals.length vc]) (x := x) w5 HRX.out)
  obtain ⟨o, ho⟩ : ∃ o, arrOk x = o := ⟨_, rfl⟩
  rw [ho] at CAO
  have HO := hid ho
  clear ho
  cases o with
  | false =>
    go_wp2_with fail
    refine CAO.out.mono ?_
    rintro e w6 ⟨rfl, hb6⟩
    go_wp2
    go_ret
    exact ⟨rfl, ext_trans HW.out hb6⟩
  | true =>
  go_wp2_with fail
  refine CAO.out.mono ?_
  rintro e wr0 ⟨rfl, hb6⟩
  clear a0 a1 al
  replace HA := hid ((hb6.block _ (Array.getElem?_eq_some_iff.1 HA.out).1).trans HA.out)
  replace HV := hid (HV.out.later hb6)
  replace HB := hid ((hb6.block _ (Array.getElem?_eq_some_iff.1 HB.out).1).trans HB.out)
  replace HRX := hid (Rd.later hb6 HRX.out)
  replace HRB := hid (Rd.later hb6 HRB.out)
  replace HT := hid (tabs_below HT.out hb6)
  replace HW := hid (ext_trans HW.out hb6)
  replace H1 := hid (Rd.later hb6 H1.out)
  clear hb6 CAO
  have hgx : Good x := arrOk_iff.1 HO.out
  have hgb : Good b := by
    rw [← HPE.out]
    cases q with
    | false => rw [put_bad hgx HQ.out]; exact hgx
    | true => exact (put_good hgx HQ.out).1
  have hbk : Besides x b s := by
    rw [← HPE.out]
    cases q with
    | false => rw [put_bad hgx HQ.out]; exact Besides.refl x s
    | true => exact (put_good hgx HQ.out).2.2.2
  have HGB := hid (show q = true → arrOk b = true ∧ arrGet b s = y ∧ 0 ≤ arrAt b s from fun hq => by
    have := put_good hgx (HQ.out.trans hq)
    rw [HPE.out] at this
    exact ⟨arrOk_iff.2 this.1, this.2.1, this.2.2.1⟩)
  have hdg := drop_good s hgb
  obtain ⟨c, hce⟩ : ∃ c, arrDrop b s = c := ⟨_, rfl⟩
  rw [hce] at hdg
  have HCE := hid hce
  have HCG := hid (show arrOk c = true ∧ arrAt c s = -1 from ⟨arrOk_iff.2 hdg.1, hdg.2.1⟩)
  have HKEPT := hid (show ∀ k, k ≠ s → arrGet b k = arrGet x k ∧ arrGet c k = arrGet x k ∧ (arrAt c k < 0 ↔ arrAt x k < 0) from fun k hk => ⟨hbk.got k hk, (hdg.2.2.got k hk).trans (hbk.got k hk), (hdg.2.2.is k hk).trans (hbk.is k hk)⟩)
  clear hgx hgb hbk hdg hce
  go_upto_region 10 with fail
  go_cut [67] from 17 (fun v wx => v = .bool false ∧ Below wr0.heap.size wr0 wx)
  case first =>
    cases q with
    | false =>
      refine wp_region_held_drew (S := fun w' => Below wr0.heap.size wr0 w') (by kernel_rfl) ?_ (fun hHeld => ?_)
      · exact ⟨rfl, rfl, rfl, Nat.le_refl _, fun _ _ => rfl⟩
      refine wpAnyH_take (i := 0) (v := ?_) rfl (by kernel_rfl) (by kernel_rfl) (by kernel_rfl) (fun _ _ _ h => h) (Or.inl ⟨by rfl, ?_⟩) (by assumption) ?_
      rotate_left
      · (intro w' hSw; (try dsimp only at hSw); go_simp; try (with_reducible rfl))
      change wpAnyH _ _ _ _ _ _ _ (Act.put _ (some 49) _) _
      try simp only [Act.put, List.setIfInBounds_toArray, List.set_cons_zero, List.set_cons_succ]
      refine wpAnyH_take (i := 1) (v := ?_) rfl (by kernel_rfl) (by kernel_rfl) (by kernel_rfl) (fun _ _ _ h => h) (Or.inl ⟨by rfl, ?_⟩) (by assumption) ?_
      rotate_left
      · (intro w' hSw; (try dsimp only at hSw); go_simp; try (with_reducible rfl))
      change wpAnyH _ _ _ _ _ _ _ (Act.put _ (some 50) _) _
      try simp only [Act.put, List.setIfInBounds_toArray, List.set_cons_zero, List.set_cons_succ]
      refine wpAnyH_take (i := 2) (v := undef) rfl (by kernel_rfl) (by kernel_rfl) (by kernel_rfl) (fun _ _ _ h => h) (Or.inr ⟨by rfl, rfl⟩) (by assumption) ?_
      change wpAnyH _ _ _ _ _ _ _ (Act.put _ (some 51) _) _
      try simp only [Act.put, List.setIfInBounds_toArray, List.set_cons_zero, List.set_cons_succ]
      refine wpAnyH_take (i := 3) (v := undef) rfl (by kernel_rfl) (by kernel_rfl) (by kernel_rfl) (fun _ _ _ h => h) (Or.inr ⟨by rfl, rfl⟩) (by assumption) ?_
      change wpAnyH _ _ _ _ _ _ _ (Act.put _ (some 52) _) _
      try simp only [Act.put, List.setIfInBounds_toArray, List.set_cons_zero, List.set_cons_succ]
      refine wpAnyH_take (i := 4) (v := undef) rfl (by kernel_rfl) (by kernel_rfl) (by kernel_rfl) (fun _ _ _ h => h) (Or.inr ⟨by rfl, rfl⟩) (by assumption) ?_
      change wpAnyH _ _ _ _ _ _ _ (Act.put _ (some 53) _) _
      try simp only [Act.put, List.setIfInBounds_toArray, List.set_cons_zero, List.set_cons_succ]
      refine wpAnyH_take (i := 5) (v := undef) rfl (by kernel_rfl) (by kernel_rfl) (by kernel_rfl) (fun _ _ _ h => h) (Or.inr ⟨by rfl, rfl⟩) (by assumption) ?_
      change wpAnyH _ _ _ _ _ _ _ (Act.put _ (some 54) _) _
      try simp only [Act.put, List.setIfInBounds_toArray, List.set_cons_zero, List.set_cons_succ]
      refine wpAnyH_take (i := 6) (v := undef) rfl (by kernel_rfl) (by kernel_rfl) (by kernel_rfl) (fun _ _ _ h => h) (Or.inr ⟨by rfl, rfl⟩) (by assumption) ?_
      change wpAnyH _ _ _ _ _ _ _ (Act.put _ (some 55) _) _
      try simp only [Act.put, List.setIfInBounds_toArray, List.set_cons_zero, List.set_cons_succ]
      refine wpAnyH_take (i := 7) (v := undef) rfl (by kernel_rfl) (by kernel_rfl) (by kernel_rfl) (fun _ _ _ h => h) (Or.inr ⟨by rfl, rfl⟩) (by assumption) ?_
      change wpAnyH _ _ _ _ _ _ _ (Act.put _ (some 56) _) _
      try simp only [Act.put, List.setIfInBounds_toArray, List.set_cons_zero, List.set_cons_succ]
      refine wpAnyH_take (i := 8) (v := undef) rfl (by kernel_rfl) (by kernel_rfl) (by kernel_rfl) (fun _ _ _ h => h) (Or.inr ⟨by rfl, rfl⟩) (by assumption) ?_
      change wpAnyH _ _ _ _ _ _ _ (Act.put _ (some 57) _) _
      try simp only [Act.put, List.setIfInBounds_toArray, List.set_cons_zero, List.set_cons_succ]
      refine wpAnyH_take (i := 9) (v := undef) rfl (by kernel_rfl) (by kernel_rfl) (by kernel_rfl) (fun _ _ _ h => h) (Or.inr ⟨by rfl, rfl⟩) (by assumption) ?_
      change wpAnyH _ _ _ _ _ _ _ (Act.put _ (some 58) _) _
      try simp only [Act.put, List.setIfInBounds_toArray, List.set_cons_zero, List.set_cons_succ]
      refine wpAnyH_take (i := 10) (v := undef) rfl (by kernel_rfl) (by kernel_rfl) (by kernel_rfl) (fun _ _ _ h => h) (Or.inr ⟨by rfl, rfl⟩) (by assumption) ?_
      change wpAnyH _ _ _ _ _ _ _ (Act.put _ (some 59) _) _
      try simp only [Act.put, List.setIfInBounds_toArray, List.set_cons_zero, List.set_cons_succ]
      refine wpAnyH_take (i := 11) (v := undef) rfl (by kernel_rfl) (by kernel_rfl) (by kernel_rfl) (fun _ _ _ h => h) (Or.inr ⟨by rfl, rfl⟩) (by assumption) ?_
      change wpAnyH _ _ _ _ _ _ _ (Act.put _ (some 60) _) _
      try simp only [Act.put, List.setIfInBounds_toArray, List.set_cons_zero, List.set_cons_succ]
      refine wpAnyH_take (i := 12) (v := undef) rfl (by kernel_rfl) (by kernel_rfl) (by kernel_rfl) (fun _ _ _ h => h) (Or.inr ⟨by rfl, rfl⟩) (by assumption) ?_
      change wpAnyH _ _ _ _ _ _ _ (Act.put _ (some 61) _) _
      try simp only [Act.put, List.setIfInBounds_toArray, List.set_cons_zero, List.set_cons_succ]
      refine wpAnyH_take (i := 13) (v := undef) rfl (by kernel_rfl) (by kernel_rfl) (by kernel_rfl) (fun _ _ _ h => h) (Or.inr ⟨by rfl, rfl⟩) (by assumption) ?_
      change wpAnyH _ _ _ _ _ _ _ (Act.put _ (some 62) _) _
      try simp only [Act.put, List.setIfInBounds_toArray, List.set_cons_zero, List.set_cons_succ]
      refine wpAnyH_take (i := 14) (v := undef) rfl (by kernel_rfl) (by kernel_rfl) (by kernel_rfl) (fun _ _ _ h => h) (Or.inr ⟨by rfl, rfl⟩) (by assumption) ?_
      change wpAnyH _ _ _ _ _ _ _ (Act.put _ (some 63) _) _
      try simp only [Act.put, List.setIfInBounds_toArray, List.set_cons_zero, List.set_cons_succ]
      refine wpAnyH_take (i := 15) (v := undef) rfl (by kernel_rfl) (by kernel_rfl) (by kernel_rfl) (fun _ _ _ h => h) (Or.inr ⟨by rfl, rfl⟩) (by assumption) ?_
      change wpAnyH _ _ _ _ _ _ _ (Act.put _ (some 64) _) _
      try simp only [Act.put, List.setIfInBounds_toArray, List.set_cons_zero, List.set_cons_succ]
      refine wpAnyH_take (i := 16) (v := undef) rfl (by kernel_rfl) (by kernel_rfl) (by kernel_rfl) (fun _ _ _ h => h) (Or.inr ⟨by rfl, rfl⟩) (by assumption) ?_
      change wpAnyH _ _ _ _ _ _ _ (Act.put _ (some 65) _) _
      try simp only [Act.put, List.setIfInBounds_toArray, List.set_cons_zero, List.set_cons_succ]
      refine wpAnyH_take (i := 17) (v := undef) rfl (by kernel_rfl) (by kernel_rfl) (by kernel_rfl) (fun _ _ _ h => h) (Or.inr ⟨by rfl, rfl⟩) (by assumption) ?_
      change wpAnyH _ _ _ _ _ _ _ (Act.put _ (some 66) _) _
      try simp only [Act.put, List.setIfInBounds_toArray, List.set_cons_zero, List.set_cons_succ]
      refine wpAnyH_take (i := 18) (v := ?_) rfl (by kernel_rfl) (by kernel_rfl) (by kernel_rfl) (fun _ _ _ h => h) (Or.inl ⟨by rfl, ?_⟩) (by assumption) ?_
      rotate_left
      · (intro w' hSw; (try dsimp only at hSw); go_simp; try (with_reducible rfl))
      change wpAnyH _ _ _ _ _ _ _ (Act.put _ (some 67) _) _
      try simp only [Act.put, List.setIfInBounds_toArray, List.set_cons_zero, List.set_cons_succ]
      refine wpAnyH_done (by kernel_rfl) ?_ _
      go_wp2
      go_meet
      case rel => exact ⟨rfl, hHeld⟩
    | true =>
      replace HGB := hid (HGB.out rfl)
      have hgat := HGB.out.2.2
      have hgan : ¬ arrAt b s < 0 := by omega
      have hgad : decide (arrAt b s < 0) = false := decide_eq_false hgan
      have p0 := cell_of_row _ _ 0 _ _ _ HB.out
      have p1 := cell_of_row _ _ 1 _ _ _ HB.out
      have pl := (Array.getElem?_eq_some_iff.1 HB.out).1
      obtain ⟨⟨v0, v1, v2, v3, v4⟩, ⟨vy0, vy1, vy2, vy3, vy4⟩, vl⟩ := HV.out.cells
      refine wp_region_held_drew (S := fun w' => Below wr0.heap.size wr0 w') (by kernel_rfl) ?_ (fun hHeld => ?_)
      · exact ⟨rfl, rfl, rfl, Nat.le_refl _, fun _ _ => rfl⟩
      refine wpAnyH_take (i := 0) (v := ?_) rfl (by kernel_rfl) (by kernel_rfl) (by kernel_rfl) (fun _ _ _ h => h) (Or.inl ⟨by rfl, ?_⟩) (by assumption) ?_
      rotate_left
      · (intro w' hSw; (try dsimp only at hSw); go_simp; try (with_reducible rfl))
      change wpAnyH _ _ _ _ _ _ _ (Act.put _ (some 49) _) _
      try simp only [Act.put, List.setIfInBounds_toArray, List.set_cons_zero, List.set_cons_succ]
      refine wpAnyH_take (i := 1) (v := ?_) rfl (by kernel_rfl) (by kernel_rfl) (by kernel_rfl) (fun _ _ _ h => h) (Or.inl ⟨by rfl, ?_⟩) (by assumption) ?_
      rotate_left
      · (intro w' hSw; (try dsimp only at hSw); go_simp; try (with_reducible rfl))
      change wpAnyH _ _ _ _ _ _ _ (Act.put _ (some 50) _) _
      try simp only [Act.put, List.setIfInBounds_toArray, List.set_cons_zero, List.set_cons_succ]
      refine wpAnyH_take (i := 2) (v := ?_) rfl (by kernel_rfl) (by kernel_rfl) (by kernel_rfl) (fun _ _ _ h => h) (Or.inl ⟨by rfl, ?_⟩) (by assumption) ?_
      rotate_left
      · (intro w' hSw; (try dsimp only at hSw); (have z0 := (hSw.cell (p := ⟨w2.heap.size, 0, none⟩) pl).trans p0; have z1 := (hSw.cell (p := ⟨w2.heap.size, 1, none⟩) pl).trans p1; go_simp; try (with_reducible rfl)))
      change wpAnyH _ _ _ _ _ _ _ (Act.put _ (some 51) _) _
      try simp only [Act.put, List.setIfInBounds_toArray, List.set_cons_zero, List.set_cons_succ]
      refine wpAnyH_ready (rs := [3]) (by kernel_rfl) (by simp) ?_
      refine AllReadyH.cons (i := 3) rfl (fun K hK => ?_) AllReadyH.nil
      simp only [List.getElem_toArray, List.getElem_cons_succ, List.getElem_cons_zero]
      rw [if_pos (by rfl)]
      go_simp
      (go_at_call 11; refine (implArrOk (cs := #[.slice ub b.keys.length cb, .slice vb b.vals.length db]) (x := b) _ (by exact Rd.later hHeld HRB.out) (by exact tabs_below HT.out hHeld)).mono ?_; rintro e w_3 ⟨rfl, hb_3⟩; rw [HGB.out.1]; go_wp2_with fail)
      refine hK.out _ _ ?_ (fun hHeld => ?_)
      · first | trivial | ((try dsimp only); exact ext_trans hHeld hb_3)
      clear hK K
      try simp only [Act.put, List.setIfInBounds_toArray, List.set_cons_zero, List.set_cons_succ]
      refine wpAnyH_take (i := 4) (v := ?_) rfl (by kernel_rfl) (by kernel_rfl) (by kernel_rfl) (fun _ _ _ h => h) (Or.inl ⟨by rfl, ?_⟩) (by assumption) ?_
      rotate_left
      · (intro w' hSw; (try dsimp only at hSw); go_simp; try (with_reducible rfl))
      change wpAnyH _ _ _ _ _ _ _ (Act.put _ (some 53) _) _
      try simp only [Act.put, List.setIfInBounds_toArray, List.set_cons_zero, List.set_cons_succ]
      refine wpAnyH_take (i := 5) (v := ?_) rfl (by kernel_rfl) (by kernel_rfl) (by kernel_rfl) (fun _ _ _ h => h) (Or.inl ⟨by rfl, ?_⟩) (by assumption) ?_
      rotate_left
      · (intro w' hSw; (try dsimp only at hSw); go_simp; try (with_reducible rfl))
      change wpAnyH _ _ _ _ _ _ _ (Act.put _ (some 54) _) _
      try simp only [Act.put, List.setIfInBounds_toArray, List.set_cons_zero, List.set_cons_succ]
      refine wpAnyH_take (i := 6) (v := ?_) rfl (by kernel_rfl) (by kernel_rfl) (by kernel_rfl) (fun _ _ _ h => h) (Or.inl ⟨by rfl, ?_⟩) (by assumption) ?_
      rotate_left
      · (intro w' hSw; (try dsimp only at hSw); (have z0 := (hSw.cell (p := ⟨w2.heap.size, 0, none⟩) pl).trans p0; have z1 := (hSw.cell (p := ⟨w2.heap.size, 1, none⟩) pl).trans p1; go_simp; try (with_reducible rfl)))
      change wpAnyH _ _ _ _ _ _ _ (Act.put _ (some 55) _) _
      try simp only [Act.put, List.setIfInBounds_toArray, List.set_cons_zero, List.set_cons_succ]
      refine wpAnyH_take (i := 7) (v := ?_) rfl (by kernel_rfl) (by kernel_rfl) (by kernel_rfl) (fun _ _ _ h => h) (Or.inl ⟨by rfl, ?_⟩) (by assumption) ?_
      rotate_left
      · (intro w' hSw; (try dsimp only at hSw); go_simp; try (with_reducible rfl))
      change wpAnyH _ _ _ _ _ _ _ (Act.put _ (some 56) _) _
      try simp only [Act.put, List.setIfInBounds_toArray, List.set_cons_zero, List.set_cons_succ]
      refine wpAnyH_take (i := 9) (v := ?_) rfl (by kernel_rfl) (by kernel_rfl) (by kernel_rfl) (fun _ _ _ h => h) (Or.inl ⟨by rfl, ?_⟩) (by assumption) ?_
      rotate_left
      · (intro w' hSw; (try dsimp only at hSw); (have z0 := (hSw.cell (p := ⟨w1.heap.size + 1, 0, none⟩) vl).trans v0; have z1 := (hSw.cell (p := ⟨w1.heap.size + 1, 1, none⟩) vl).trans v1; have z2 := (hSw.cell (p := ⟨w1.heap.size + 1, 2, none⟩) vl).trans v2; have z3 := (hSw.cell (p := ⟨w1.heap.size + 1, 3, none⟩) vl).trans v3; have z4 := (hSw.cell (p := ⟨w1.heap.size + 1, 4, none⟩) vl).trans v4; go_simp; try (with_reducible rfl)))
      change wpAnyH _ _ _ _ _ _ _ (Act.put _ (some 58) _) _
      try simp only [Act.put, List.setIfInBounds_toArray, List.set_cons_zero, List.set_cons_succ]
      refine wpAnyH_ready (rs := [8]) (by kernel_rfl) (by simp) ?_
      refine AllReadyH.cons (i := 8) rfl (fun K hK => ?_) AllReadyH.nil
      simp only [List.getElem_toArray, List.getElem_cons_succ, List.getElem_cons_zero]
      rw [if_pos (by rfl)]
      go_simp
      (go_at_call 12; refine (implArrGet (cs := #[.slice ub b.keys.length cb, .slice vb b.vals.length db]) (x := b) s _ (by exact Rd.later hHeld HRB.out)).mono ?_; rintro e w_8 ⟨cs_8, rfl, hr_8, hb_8⟩; rw [HGB.out.2.1] at hr_8; obtain ⟨hcs_8, _⟩ := rdVal hr_8; obtain rfl := arr_of_list hcs_8; go_wp2_with fail)
      clear hr_8 hcs_8
      refine hK.out _ _ ?_ (fun hHeld => ?_)
      · first | trivial | ((try dsimp only); exact ext_trans hHeld hb_8)
      clear hK K
      try simp only [Act.put, List.setIfInBounds_toArray, List.set_cons_zero, List.set_cons_succ]
      refine wpAnyH_take (i := 10) (v := ?_) rfl (by kernel_rfl) (by kernel_rfl) (by kernel_rfl) (fun _ _ _ h => h) (Or.inl ⟨by rfl, ?_⟩) (by assumption) ?_
      rotate_left
      · (intro w' hSw; (try dsimp only at hSw); go_simp; try (with_reducible rfl))
      change wpAnyH _ _ _ _ _ _ _ (Act.put _ (some 59) _) _
      try simp only [Act.put, List.setIfInBounds_toArray, List.set_cons_zero, List.set_cons_succ]
      refine wpAnyH_take (i := 11) (v := ?_) rfl (by kernel_rfl) (by kernel_rfl) (by kernel_rfl) (fun _ _ _ h => h) (Or.inl ⟨by rfl, ?_⟩) (by assumption) ?_
      rotate_left
      · (intro w' hSw; (try dsimp only at hSw); go_simp; try (with_reducible rfl))
      change wpAnyH _ _ _ _ _ _ _ (Act.put _ (some 60) _) _
      try simp only [Act.put, List.setIfInBounds_toArray, List.set_cons_zero, List.set_cons_succ]
      refine wpAnyH_take (i := 12) (v := ?_) rfl (by kernel_rfl) (by kernel_rfl) (by kernel_rfl) (fun _ _ _ h => h) (Or.inl ⟨by rfl, ?_⟩) (by assumption) ?_
      rotate_left
      · (intro w' hSw; (try dsimp only at hSw); go_simp; try (with_reducible rfl))
      change wpAnyH _ _ _ _ _ _ _ (Act.put _ (some 61) _) _
      try simp only [Act.put, List.setIfInBounds_toArray, List.set_cons_zero, List.set_cons_succ]
      refine wpAnyH_take (i := 13) (v := ?_) rfl (by kernel_rfl) (by kernel_rfl) (by kernel_rfl) (fun _ _ _ h => h) (Or.inl ⟨by rfl, ?_⟩) (by assumption) ?_
      rotate_left
      · (intro w' hSw; (try dsimp only at hSw); (have z0 := (hSw.cell (p := ⟨w2.heap.size, 0, none⟩) pl).trans p0; have z1 := (hSw.cell (p := ⟨w2.heap.size, 1, none⟩) pl).trans p1; go_simp; try (with_reducible rfl)))
      change wpAnyH _ _ _ _ _ _ _ (Act.put _ (some 62) _) _
      try simp only [Act.put, List.setIfInBounds_toArray, List.set_cons_zero, List.set_cons_succ]
      refine wpAnyH_take (i := 14) (v := ?_) rfl (by kernel_rfl) (by kernel_rfl) (by kernel_rfl) (fun _ _ _ h => h) (Or.inl ⟨by rfl, ?_⟩) (by assumption) ?_
      rotate_left
      · (intro w' hSw; (try dsimp only at hSw); go_simp; try (with_reducible rfl))
      change wpAnyH _ _ _ _ _ _ _ (Act.put _ (some 63) _) _
      try simp only [Act.put, List.setIfInBounds_toArray, List.set_cons_zero, List.set_cons_succ]
      refine wpAnyH_ready (rs := [15]) (by kernel_rfl) (by simp) ?_
      refine AllReadyH.cons (i := 15) rfl (fun K hK => ?_) AllReadyH.nil
      simp only [List.getElem_toArray, List.getElem_cons_succ, List.getElem_cons_zero]
      rw [if_pos (by rfl)]
      go_simp
      (go_at_call 13; refine (implArrAt (cs := #[.slice ub b.keys.length cb, .slice vb b.vals.length db]) (x := b) s _ (by exact Rd.later hHeld HRB.out)).mono ?_; rintro e w_15 ⟨rfl, hb_15⟩; go_wp2_with fail)
      refine hK.out _ _ ?_ (fun hHeld => ?_)
      · first | trivial | ((try dsimp only); exact ext_trans hHeld hb_15)
      clear hK K
      try simp only [Act.put, List.setIfInBounds_toArray, List.set_cons_zero, List.set_cons_succ]
      refine wpAnyH_take (i := 16) (v := ?_) rfl (by kernel_rfl) (by kernel_rfl) (by kernel_rfl) (fun _ _ _ h => h) (Or.inl ⟨by rfl, ?_⟩) (by assumption) ?_
      rotate_left
      · (intro w' hSw; (try dsimp only at hSw); go_simp; try (with_reducible rfl))
      change wpAnyH _ _ _ _ _ _ _ (Act.put _ (some 65) _) _
      try simp only [Act.put, List.setIfInBounds_toArray, List.set_cons_zero, List.set_cons_succ]
      refine wpAnyH_take (i := 17) (v := ?_) rfl (by kernel_rfl) (by kernel_rfl) (by kernel_rfl) (fun _ _ _ h => h) (Or.inl ⟨by rfl, ?_⟩) (by assumption) ?_
      rotate_left
      · (intro w' hSw; (try dsimp only at hSw); go_simp; try (with_reducible rfl))
      change wpAnyH _ _ _ _ _ _ _ (Act.put _ (some 66) _) _
      try simp only [Act.put, List.setIfInBounds_toArray, List.set_cons_zero, List.set_cons_succ]
      refine wpAnyH_take (i := 18) (v := ?_) rfl (by kernel_rfl) (by kernel_rfl) (by kernel_rfl) (fun _ _ _ h => h) (Or.inl ⟨by rfl, ?_⟩) (by assumption) ?_
      rotate_left
      · (intro w' hSw; (try dsimp only at hSw); go_simp; try (with_reducible rfl))
      change wpAnyH _ _ _ _ _ _ _ (Act.put _ (some 67) _) _
      try simp only [Act.put, List.setIfInBounds_toArray, List.set_cons_zero, List.set_cons_succ]
      refine wpAnyH_done (by kernel_rfl) ?_ _
      go_wp2
      go_meet
      case rel => exact ⟨by first | rfl | (rw [hgad]), hHeld⟩
  case rest =>
  obtain ⟨w7c, rfl⟩ : ∃ z, z = wc := ⟨_, rfl⟩
  obtain ⟨rfl, hb7⟩ := hcut
  replace HA := hid ((hb7.block _ (Array.getElem?_eq_some_iff.1 HA.out).1).trans HA.out)
  replace HV := hid (HV.out.later hb7)
  replace HB := hid ((hb7.block _ (Array.getElem?_eq_some_iff.1 HB.out).1).trans HB.out)
  replace HRX := hid (Rd.later hb7 HRX.out)
  replace HRB := hid (Rd.later hb7 HRB.out)
  replace HT := hid (tabs_below HT.out hb7)
  replace HW := hid (ext_trans HW.out hb7)
  replace H1 := hid (Rd.later hb7 H1.out)
  clear hb7 HGB
  have p0 := cell_of_row _ _ 0 _ _ _ HB.out
  have p1 := cell_of_row _ _ 1 _ _ _ HB.out
  have pl := (Array.getElem?_eq_some_iff.1 HB.out).1
  go_wp2_with fail
  refine (implDrop (cs := #[.slice ub b.keys.length cb, .slice vb b.vals.length db]) (x := b) s w7c HRB.out (by have := HPL.out.1; omega)).mono ?_
  rintro e w7 ⟨csc, rfl, hrc, _, hb8⟩
  rw [HCE.out] at hrc
  obtain ⟨ud, cd, vd, dd, hcs, _, _⟩ := rdArr hrc
  obtain rfl := arr_of_list hcs
  have HRC0 := hid (Rd.old hrc)
  clear p0 p1 pl
  replace HA := hid ((hb8.block _ (Array.getElem?_eq_some_iff.1 HA.out).1).trans HA.out)
  replace HV := hid (HV.out.later hb8)
  replace HB := hid ((hb8.block _ (Array.getElem?_eq_some_iff.1 HB.out).1).trans HB.out)
  replace HRX := hid (Rd.later hb8 HRX.out)
  replace HRB := hid (Rd.later hb8 HRB.out)
  replace HT := hid (tabs_below HT.out hb8)
  replace HW := hid (ext_trans HW.out hb8)
  replace H1 := hid (Rd.later hb8 H1.out)
  clear hrc hcs hb8
  go_upto_region 13 with fail
  have hb8 := ext_alloc w7 (.cells #[.slice ud c.keys.length cd, .slice vd c.vals.length dd] 27)
  obtain ⟨w8, hw8⟩ : ∃ z, w7.alloc (.cells #[.slice ud c.keys.length cd, .slice vd c.vals.length dd] 27) = z := ⟨_, rfl⟩
  rw [hw8] at hb8
  have HC := hid (show w8.heap[w7.heap.size]? = some (.cells #[.slice ud c.keys.length cd, .slice vd c.vals.length dd] 27 (0, 0)) by rw [← hw8]; exact heap_alloc_new w7 _)
  have HRC := hid (Rd.later hb8 HRC0.out)
  replace HA := hid ((hb8.block _ (Array.getElem?_eq_some_iff.1 HA.out).1).trans HA.out)
  replace HV := hid (HV.out.later hb8)
  replace HB := hid ((hb8.block _ (Array.getElem?_eq_some_iff.1 HB.out).1).trans HB.out)
  replace HRX := hid (Rd.later hb8 HRX.out)
  replace HRB := hid (Rd.later hb8 HRB.out)
  replace HT := hid (tabs_below HT.out hb8)
  replace HW := hid (ext_trans HW.out hb8)
  replace H1 := hid (Rd.later hb8 H1.out)
  try rw [hw8]
  clear hw8 hb8 HRC0
  have q0 := cell_of_row _ _ 0 _ _ _ HC.out
  have q1 := cell_of_row _ _ 1 _ _ _ HC.out
  have ql := (Array.getElem?_eq_some_iff.1 HC.out).1
  go_wp2_with fail
  refine (implArrAt (cs := #[.slice ud c.keys.length cd, .slice vd c.vals.length dd]) (x := c) s w8 HRC.out).mono ?_
  rintro e w9 ⟨rfl, hb9⟩
  rw [HCG.out.2]
  clear q0 q1 ql
  replace HA := hid ((hb9.block _ (Array.getElem?_eq_some_iff.1 HA.out).1).trans HA.out)
  replace HV := hid (HV.out.later hb9)
  replace HB := hid ((hb9.block _ (Array.getElem?_eq_some_iff.1 HB.out).1).trans HB.out)
  replace HC := hid ((hb9.block _ (Array.getElem?_eq_some_iff.1 HC.out).1).trans HC.out)
  replace HRX := hid (Rd.later hb9 HRX.out)
  replace HRB := hid (Rd.later hb9 HRB.out)
  replace HRC := hid (Rd.later hb9 HRC.out)
  replace HT := hid (tabs_below HT.out hb9)
  replace HW := hid (ext_trans HW.out hb9)
  replace H1 := hid (Rd.later hb9 H1.out)
  clear hb9
  have q0 := cell_of_row _ _ 0 _ _ _ HC.out
  have q1 := cell_of_row _ _ 1 _ _ _ HC.out
  have ql := (Array.getElem?_eq_some_iff.1 HC.out).1
  go_wp2_with fail
  refine (implArrOk (cs := #[.slice ud c.keys.length cd, .slice vd c.vals.length dd]) (x := c) w9 HRC.out HT.out).mono ?_
  rintro e w10 ⟨rfl, hb10⟩
  rw [HCG.out.1]
  clear q0 q1 ql
  replace HA := hid ((hb10.block _ (Array.getElem?_eq_some_iff.1 HA.out).1).trans HA.out)
  replace HV := hid (HV.out.later hb10)
  replace HB := hid ((hb10.block _ (Array.getElem?_eq_some_iff.1 HB.out).1).trans HB.out)
  replace HC := hid ((hb10.block _ (Array.getElem?_eq_some_iff.1 HC.out).1).trans HC.out)
  replace HRX := hid (Rd.later hb10 HRX.out)
  replace HRB := hid (Rd.later hb10 HRB.out)
  replace HRC := hid (Rd.later hb10 HRC.out)
  replace HT := hid (tabs_below HT.out hb10)
  replace HW := hid (ext_trans HW.out hb10)
  replace H1 := hid (Rd.later hb10 H1.out)
  clear hb10
  go_wp2_with fail
  refine (drawArrGet _ H1.out hn1).mono ?_
  rintro e w11 ⟨ga, ga', gn, gn', gc, gc', other, rfl, hso, hb11⟩
  replace HA := hid ((hb11.block _ (Array.getElem?_eq_some_iff.1 HA.out).1).trans HA.out)
  replace HV := hid (HV.out.later hb11)
  replace HB := hid ((hb11.block _ (Array.getElem?_eq_some_iff.1 HB.out).1).trans HB.out)
  replace HC := hid ((hb11.block _ (Array.getElem?_eq_some_iff.1 HC.out).1).trans HC.out)
  replace HRX := hid (Rd.later hb11 HRX.out)
  replace HRB := hid (Rd.later hb11 HRB.out)
  replace HRC := hid (Rd.later hb11 HRC.out)
  replace HT := hid (tabs_below HT.out hb11)
  replace HW := hid (ext_trans HW.out hb11)
  replace H1 := hid (Rd.later hb11 H1.out)
  clear hb11
  go_upto_region 16 with fail
  have hb12 := ext_alloc w11 (.cells #[.slice ga gn gc, .slice ga' gn' gc'] 27)
  obtain ⟨w12, hw12⟩ : ∃ z, w11.alloc (.cells #[.slice ga gn gc, .slice ga' gn' gc'] 27) = z := ⟨_, rfl⟩
  rw [hw12] at hb12
  replace HA := hid ((hb12.block _ (Array.getElem?_eq_some_iff.1 HA.out).1).trans HA.out)
  replace HV := hid (HV.out.later hb12)
  replace HB := hid ((hb12.block _ (Array.getElem?_eq_some_iff.1 HB.out).1).trans HB.out)
  replace HC := hid ((hb12.block _ (Array.getElem?_eq_some_iff.1 HC.out).1).trans HC.out)
  replace HRX := hid (Rd.later hb12 HRX.out)
  replace HRB := hid (Rd.later hb12 HRB.out)
  replace HRC := hid (Rd.later hb12 HRC.out)
  replace HT := hid (tabs_below HT.out hb12)
  replace HW := hid (ext_trans HW.out hb12)
  replace H1 := hid (Rd.later hb12 H1.out)
  try rw [hw12]
  clear hw12 hb12 H1
  go_wp2
  go_loopw [15, 16] (fun v15 _ wr => ∃ j : Nat, j ≤ x.keys.length + 1 ∧ v15 = .int .i64 ((j : Int) - 1) ∧ Below w12.heap.size w12 wr) (fun v15 _ _ => x.keys.length + 1 - (intOf v15 + 1).toNat)
  case atStart => exact ⟨0, by omega, by first | rfl | simp, Below.refl _ _⟩
  case round =>
    obtain ⟨j, hj, rfl, hbj⟩ := hrel
    obtain ⟨wr0, rfl⟩ : ∃ z, z = wr := ⟨_, rfl⟩
    have HBJ := hid hbj
    replace HA := hid ((hbj.block _ (Array.getElem?_eq_some_iff.1 HA.out).1).trans HA.out)
    replace HV := hid (HV.out.later hbj)
    replace HB := hid ((hbj.block _ (Array.getElem?_eq_some_iff.1 HB.out).1).trans HB.out)
    replace HC := hid ((hbj.block _ (Array.getElem?_eq_some_iff.1 HC.out).1).trans HC.out)
    replace HRX := hid (Rd.later hbj HRX.out)
    replace HRB := hid (Rd.later hbj HRB.out)
    replace HRC := hid (Rd.later hbj HRC.out)
    replace HT := hid (tabs_below HT.out hbj)
    replace HW := hid (ext_trans HW.out hbj)
    clear hbj
    have a0 := cell_of_row _ _ 0 _ _ _ HA.out
    have a1 := cell_of_row _ _ 1 _ _ _ HA.out
    have al := (Array.getElem?_eq_some_iff.1 HA.out).1
    obtain ⟨i, hi⟩ : ∃ i : Int, (j : Int) - 1 = i := ⟨_, rfl⟩
    rw [hi]
    have HI := hid hi
    by_cases hlt : i < (x.keys.length : Int)
    · have hiw : IntKind.i64.wrap (i + 1) = i + 1 := IntWalk.i64_in _ (by omega)
      have p0 := cell_of_row _ _ 0 _ _ _ HB.out
      have p1 := cell_of_row _ _ 1 _ _ _ HB.out
      have pl := (Array.getElem?_eq_some_iff.1 HB.out).1
      have q0 := cell_of_row _ _ 0 _ _ _ HC.out
      have q1 := cell_of_row _ _ 1 _ _ _ HC.out
      have ql := (Array.getElem?_eq_some_iff.1 HC.out).1
      by_cases hj0 : j = 0
      · have hneg : ¬ (0 : Int) ≤ i := by omega
        by_cases hks : other = s
        · subst hks
          have ks1 : (other.toList != other.toList) = false := by simp
          have ks2 : (other.toList == other.toList) = true := by simp
          go_upto_region 22 with fail
          refine wp_region_held_drew (S := fun w' => Below wr0.heap.size wr0 w') (by kernel_rfl) ?_ (fun hHeld => ?_)
          · exact ⟨rfl, rfl, rfl, Nat.le_refl _, fun _ _ => rfl⟩
          refine wpAnyH_take (i := 0) (v := ?_) rfl (by kernel_rfl) (by kernel_rfl) (by kernel_rfl) (fun _ _ _ h => h) (Or.inl ⟨by rfl, ?_⟩) (by assumption) ?_
          rotate_left
          · (intro w' hSw; (try dsimp only at hSw); go_simp; try (with_reducible rfl))
          change wpAnyH _ _ _ _ _ _ _ (Act.put _ (some 100) _) _
          try simp only [Act.put, List.setIfInBounds_toArray, List.set_cons_zero, List.set_cons_succ]
          refine wpAnyH_take (i := 1) (v := ?_) rfl (by kernel_rfl) (by kernel_rfl) (by kernel_rfl) (fun _ _ _ h => h) (Or.inl ⟨by rfl, ?_⟩) (by assumption) ?_
          rotate_left
          · (intro w' hSw; (try dsimp only at hSw); go_simp; try (with_reducible rfl))
          change wpAnyH _ _ _ _ _ _ _ (Act.put _ (some 101) _) _
          try simp only [Act.put, List.setIfInBounds_toArray, List.set_cons_zero, List.set_cons_succ]
          refine wpAnyH_take (i := 2) (v := ?_) rfl (by kernel_rfl) (by kernel_rfl) (by kernel_rfl) (fun _ _ _ h => h) (Or.inl ⟨by rfl, ?_⟩) (by assumption) ?_
          rotate_left
          · (intro w' hSw; (try dsimp only at hSw); go_simp; try (with_reducible rfl))
          change wpAnyH _ _ _ _ _ _ _ (Act.put _ (some 102) _) _
          try simp only [Act.put, List.setIfInBounds_toArray, List.set_cons_zero, List.set_cons_succ]
          refine wpAnyH_take (i := 3) (v := ?_) rfl (by kernel_rfl) (by kernel_rfl) (by kernel_rfl) (fun _ _ _ h => h) (Or.inl ⟨by rfl, ?_⟩) (by assumption) ?_
          rotate_left
          · (intro w' hSw; (try dsimp only at hSw); go_simp; try (with_reducible rfl))
          change wpAnyH _ _ _ _ _ _ _ (Act.put _ (some 103) _) _
          try simp only [Act.put, List.setIfInBounds_toArray, List.set_cons_zero, List.set_cons_succ]
          refine wpAnyH_take (i := 4) (v := undef) rfl (by kernel_rfl) (by kernel_rfl) (by kernel_rfl) (fun _ _ _ h => h) (Or.inr ⟨by rfl, rfl⟩) (by assumption) ?_
          change wpAnyH _ _ _ _ _ _ _ (Act.put _ (some 104) _) _
          try simp only [Act.put, List.setIfInBounds_toArray, List.set_cons_zero, List.set_cons_succ]
          refine wpAnyH_take (i := 5) (v := undef) rfl (by kernel_rfl) (by kernel_rfl) (by kernel_rfl) (fun _ _ _ h => h) (Or.inr ⟨by rfl, rfl⟩) (by assumption) ?_
          change wpAnyH _ _ _ _ _ _ _ (Act.put _ (some 105) _) _
          try simp only [Act.put, List.setIfInBounds_toArray, List.set_cons_zero, List.set_cons_succ]
          refine wpAnyH_take (i := 6) (v := undef) rfl (by kernel_rfl) (by kernel_rfl) (by kernel_rfl) (fun _ _ _ h => h) (Or.inr ⟨by rfl, rfl⟩) (by assumption) ?_
          change wpAnyH _ _ _ _ _ _ _ (Act.put _ (some 106) _) _
          try simp only [Act.put, List.setIfInBounds_toArray, List.set_cons_zero, List.set_cons_succ]
          refine wpAnyH_take (i := 7) (v := undef) rfl (by kernel_rfl) (by kernel_rfl) (by kernel_rfl) (fun _ _ _ h => h) (Or.inr ⟨by rfl, rfl⟩) (by assumption) ?_
          change wpAnyH _ _ _ _ _ _ _ (Act.put _ (some 107) _) _
          try simp only [Act.put, List.setIfInBounds_toArray, List.set_cons_zero, List.set_cons_succ]
          refine wpAnyH_take (i := 8) (v := undef) rfl (by kernel_rfl) (by kernel_rfl) (by kernel_rfl) (fun _ _ _ h => h) (Or.inr ⟨by rfl, rfl⟩) (by assumption) ?_
          change wpAnyH _ _ _ _ _ _ _ (Act.put _ (some 108) _) _
          try simp only [Act.put, List.setIfInBounds_toArray, List.set_cons_zero, List.set_cons_succ]
          refine wpAnyH_take (i := 9) (v := undef) rfl (by kernel_rfl) (by kernel_rfl) (by kernel_rfl) (fun _ _ _ h => h) (Or.inr ⟨by rfl, rfl⟩) (by assumption) ?_
          change wpAnyH _ _ _ _ _ _ _ (Act.put _ (some 109) _) _
          try simp only [Act.put, List.setIfInBounds_toArray, List.set_cons_zero, List.set_cons_succ]
          refine wpAnyH_take (i := 10) (v := undef) rfl (by kernel_rfl) (by kernel_rfl) (by kernel_rfl) (fun _ _ _ h => h) (Or.inr ⟨by rfl, rfl⟩) (by assumption) ?_
          change wpAnyH _ _ _ _ _ _ _ (Act.put _ (some 110) _) _
          try simp only [Act.put, List.setIfInBounds_toArray, List.set_cons_zero, List.set_cons_succ]
          refine wpAnyH_take (i := 11) (v := undef) rfl (by kernel_rfl) (by kernel_rfl) (by kernel_rfl) (fun _ _ _ h => h) (Or.inr ⟨by rfl, rfl⟩) (by assumption) ?_
          change wpAnyH _ _ _ _ _ _ _ (Act.put _ (some 111) _) _
          try simp only [Act.put, List.setIfInBounds_toArray, List.set_cons_zero, List.set_cons_succ]
          refine wpAnyH_take (i := 12) (v := undef) rfl (by kernel_rfl) (by kernel_rfl) (by kernel_rfl) (fun _ _ _ h => h) (Or.inr ⟨by rfl, rfl⟩) (by assumption) ?_
          change wpAnyH _ _ _ _ _ _ _ (Act.put _ (some 112) _) _
          try simp only [Act.put, List.setIfInBounds_toArray, List.set_cons_zero, List.set_cons_succ]
          refine wpAnyH_take (i := 13) (v := undef) rfl (by kernel_rfl) (by kernel_rfl) (by kernel_rfl) (fun _ _ _ h => h) (Or.inr ⟨by rfl, rfl⟩) (by assumption) ?_
          change wpAnyH _ _ _ _ _ _ _ (Act.put _ (some 113) _) _
          try simp only [Act.put, List.setIfInBounds_toArray, List.set_cons_zero, List.set_cons_succ]
          refine wpAnyH_take (i := 14) (v := undef) rfl (by kernel_rfl) (by kernel_rfl) (by kernel_rfl) (fun _ _ _ h => h) (Or.inr ⟨by rfl, rfl⟩) (by assumption) ?_
          change wpAnyH _ _ _ _ _ _ _ (Act.put _ (some 114) _) _
          try simp only [Act.put, List.setIfInBounds_toArray, List.set_cons_zero, List.set_cons_succ]
          refine wpAnyH_take (i := 15) (v := undef) rfl (by kernel_rfl) (by kernel_rfl) (by kernel_rfl) (fun _ _ _ h => h) (Or.inr ⟨by rfl, rfl⟩) (by assumption) ?_
          change wpAnyH _ _ _ _ _ _ _ (Act.put _ (some 115) _) _
          try simp only [Act.put, List.setIfInBounds_toArray, List.set_cons_zero, List.set_cons_succ]
          refine wpAnyH_take (i := 16) (v := undef) rfl (by kernel_rfl) (by kernel_rfl) (by kernel_rfl) (fun _ _ _ h => h) (Or.inr ⟨by rfl, rfl⟩) (by assumption) ?_
          change wpAnyH _ _ _ _ _ _ _ (Act.put _ (some 116) _) _
          try simp only [Act.put, List.setIfInBounds_toArray, List.set_cons_zero, List.set_cons_succ]
          refine wpAnyH_take (i := 17) (v := undef) rfl (by kernel_rfl) (by kernel_rfl) (by kernel_rfl) (fun _ _ _ h => h) (Or.inr ⟨by rfl, rfl⟩) (by assumption) ?_
          change wpAnyH _ _ _ _ _ _ _ (Act.put _ (some 117) _) _
          try simp only [Act.put, List.setIfInBounds_toArray, List.set_cons_zero, List.set_cons_succ]
          refine wpAnyH_take (i := 18) (v := undef) rfl (by kernel_rfl) (by kernel_rfl) (by kernel_rfl) (fun _ _ _ h => h) (Or.inr ⟨by rfl, rfl⟩) (by assumption) ?_
          change wpAnyH _ _ _ _ _ _ _ (Act.put _ (some 118) _) _
          try simp only [Act.put, List.setIfInBounds_toArray, List.set_cons_zero, List.set_cons_succ]
          refine wpAnyH_take (i := 19) (v := undef) rfl (by kernel_rfl) (by kernel_rfl) (by kernel_rfl) (fun _ _ _ h => h) (Or.inr ⟨by rfl, rfl⟩) (by assumption) ?_
          change wpAnyH _ _ _ _ _ _ _ (Act.put _ (some 119) _) _
          try simp only [Act.put, List.setIfInBounds_toArray, List.set_cons_zero, List.set_cons_succ]
          refine wpAnyH_take (i := 20) (v := undef) rfl (by kernel_rfl) (by kernel_rfl) (by kernel_rfl) (fun _ _ _ h => h) (Or.inr ⟨by rfl, rfl⟩) (by assumption) ?_
          change wpAnyH _ _ _ _ _ _ _ (Act.put _ (some 120) _) _
          try simp only [Act.put, List.setIfInBounds_toArray, List.set_cons_zero, List.set_cons_succ]
          refine wpAnyH_take (i := 21) (v := undef) rfl (by kernel_rfl) (by kernel_rfl) (by kernel_rfl) (fun _ _ _ h => h) (Or.inr ⟨by rfl, rfl⟩) (by assumption) ?_
          change wpAnyH _ _ _ _ _ _ _ (Act.put _ (some 121) _) _
          try simp only [Act.put, List.setIfInBounds_toArray, List.set_cons_zero, List.set_cons_succ]
          refine wpAnyH_take (i := 22) (v := undef) rfl (by kernel_rfl) (by kernel_rfl) (by kernel_rfl) (fun _ _ _ h => h) (Or.inr ⟨by rfl, rfl⟩) (by assumption) ?_
          change wpAnyH _ _ _ _ _ _ _ (Act.put _ (some 122) _) _
          try simp only [Act.put, List.setIfInBounds_toArray, List.set_cons_zero, List.set_cons_succ]
          refine wpAnyH_take (i := 23) (v := undef) rfl (by kernel_rfl) (by kernel_rfl) (by kernel_rfl) (fun _ _ _ h => h) (Or.inr ⟨by rfl, rfl⟩) (by assumption) ?_
          change wpAnyH _ _ _ _ _ _ _ (Act.put _ (some 123) _) _
          try simp only [Act.put, List.setIfInBounds_toArray, List.set_cons_zero, List.set_cons_succ]
          refine wpAnyH_take (i := 24) (v := undef) rfl (by kernel_rfl) (by kernel_rfl) (by kernel_rfl) (fun _ _ _ h => h) (Or.inr ⟨by rfl, rfl⟩) (by assumption) ?_
          change wpAnyH _ _ _ _ _ _ _ (Act.put _ (some 124) _) _
          try simp only [Act.put, List.setIfInBounds_toArray, List.set_cons_zero, List.set_cons_succ]
          refine wpAnyH_take (i := 25) (v := undef) rfl (by kernel_rfl) (by kernel_rfl) (by kernel_rfl) (fun _ _ _ h => h) (Or.inr ⟨by rfl, rfl⟩) (by assumption) ?_
          change wpAnyH _ _ _ _ _ _ _ (Act.put _ (some 125) _) _
          try simp only [Act.put, List.setIfInBounds_toArray, List.set_cons_zero, List.set_cons_succ]
          refine wpAnyH_take (i := 26) (v := undef) rfl (by kernel_rfl) (by kernel_rfl) (by kernel_rfl) (fun _ _ _ h => h) (Or.inr ⟨by rfl, rfl⟩) (by assumption) ?_
          change wpAnyH _ _ _ _ _ _ _ (Act.put _ (some 126) _) _
          try simp only [Act.put, List.setIfInBounds_toArray, List.set_cons_zero, List.set_cons_succ]
          refine wpAnyH_take (i := 27) (v := undef) rfl (by kernel_rfl) (by kernel_rfl) (by kernel_rfl) (fun _ _ _ h => h) (Or.inr ⟨by rfl, rfl⟩) (by assumption) ?_
          change wpAnyH _ _ _ _ _ _ _ (Act.put _ (some 127) _) _
          try simp only [Act.put, List.setIfInBounds_toArray, List.set_cons_zero, List.set_cons_succ]
          refine wpAnyH_take (i := 28) (v := undef) rfl (by kernel_rfl) (by kernel_rfl) (by kernel_rfl) (fun _ _ _ h => h) (Or.inr ⟨by rfl, rfl⟩) (by assumption) ?_
          change wpAnyH _ _ _ _ _ _ _ (Act.put _ (some 128) _) _
          try simp only [Act.put, List.setIfInBounds_toArray, List.set_cons_zero, List.set_cons_succ]
          refine wpAnyH_take (i := 29) (v := undef) rfl (by kernel_rfl) (by kernel_rfl) (by kernel_rfl) (fun _ _ _ h => h) (Or.inr ⟨by rfl, rfl⟩) (by assumption) ?_
          change wpAnyH _ _ _ _ _ _ _ (Act.put _ (some 129) _) _
          try simp only [Act.put, List.setIfInBounds_toArray, List.set_cons_zero, List.set_cons_succ]
          refine wpAnyH_take (i := 30) (v := undef) rfl (by kernel_rfl) (by kernel_rfl) (by kernel_rfl) (fun _ _ _ h => h) (Or.inr ⟨by rfl, rfl⟩) (by assumption) ?_
          change wpAnyH _ _ _ _ _ _ _ (Act.put _ (some 130) _) _
          try simp only [Act.put, List.setIfInBounds_toArray, List.set_cons_zero, List.set_cons_succ]
          refine wpAnyH_take (i := 31) (v := ?_) rfl (by kernel_rfl) (by kernel_rfl) (by kernel_rfl) (fun _ _ _ h => h) (Or.inl ⟨by rfl, ?_⟩) (by assumption) ?_
          rotate_left
          · (intro w' hSw; (try dsimp only at hSw); go_simp; try (with_reducible rfl))
          change wpAnyH _ _ _ _ _ _ _ (Act.put _ (some 131) _) _
          try simp only [Act.put, List.setIfInBounds_toArray, List.set_cons_zero, List.set_cons_succ]
          refine wpAnyH_done (by kernel_rfl) ?_ _
          go_wp2
          go_roundw
          case rel => exact ⟨j + 1, by omega, by first | rfl | (congr 1; omega), ext_trans HBJ.out hHeld⟩
          case measure => simp [intOf]; omega
        · have ks2 : (other.toList == s.toList) = false := by
            rw [beq_eq_false_iff_ne, Lib.toList_data, Lib.toList_data]
            intro h
            exact hks (ba_toA h)
          have ks1 : (other.toList != s.toList) = true := by rw [bne, ks2]; rfl
          have hkk := HKEPT.out other hks
          obtain ⟨z, hz⟩ : ∃ z, arrGet x other = z := ⟨_, rfl⟩
          have HGE := hid (show arrGet b other = z ∧ arrGet c other = z ∧ arrGet x other = z from ⟨hkk.1.trans hz, hkk.2.1.trans hz, hz⟩)
          obtain ⟨pn, hpn⟩ : ∃ p, decide (arrAt x other < 0) = p := ⟨_, rfl⟩
          have hpc : decide (arrAt c other < 0) = pn := by rw [← hpn]; exact decide_eq_decide.2 hkk.2.2
          clear hkk hz
          go_upto_region 22 with fail
          refine wp_region_held_drew (S := fun w' => Below wr0.heap.size wr0 w') (by kernel_rfl) ?_ (fun hHeld => ?_)
          · exact ⟨rfl, rfl, rfl, Nat.le_refl _, fun _ _ => rfl⟩
          refine wpAnyH_take (i := 0) (v := ?_) rfl (by kernel_rfl) (by kernel_rfl) (by kernel_rfl) (fun _ _ _ h => h) (Or.inl ⟨by rfl, ?_⟩) (by assumption) ?_
          rotate_left
          · (intro w' hSw; (try dsimp only at hSw); go_simp; try (with_reducible rfl))
          change wpAnyH _ _ _ _ _ _ _ (Act.put _ (some 100) _) _
          try simp only [Act.put, List.setIfInBounds_toArray, List.set_cons_zero, List.set_cons_succ]
          refine wpAnyH_take (i := 1) (v := ?_) rfl (by kernel_rfl) (by kernel_rfl) (by kernel_rfl) (fun _ _ _ h => h) (Or.inl ⟨by rfl, ?_⟩) (by assumption) ?_
          rotate_left
          · (intro w' hSw; (try dsimp only at hSw); go_simp; try (with_reducible rfl))
          change wpAnyH _ _ _ _ _ _ _ (Act.put _ (some 101) _) _
          try simp only [Act.put, List.setIfInBounds_toArray, List.set_cons_zero, List.set_cons_succ]
          refine wpAnyH_take (i := 2) (v := ?_) rfl (by kernel_rfl) (by kernel_rfl) (by kernel_rfl) (fun _ _ _ h => h) (Or.inl ⟨by rfl, ?_⟩) (by assumption) ?_
          rotate_left
          · (intro w' hSw; (try dsimp only at hSw); go_simp; try (with_reducible rfl))
          change wpAnyH _ _ _ _ _ _ _ (Act.put _ (some 102) _) _
          try simp only [Act.put, List.setIfInBounds_toArray, List.set_cons_zero, List.set_cons_succ]
          refine wpAnyH_take (i := 3) (v := ?_) rfl (by kernel_rfl) (by kernel_rfl) (by kernel_rfl) (fun _ _ _ h => h) (Or.inl ⟨by rfl, ?_⟩) (by assumption) ?_
          rotate_left
          · (intro w' hSw; (try dsimp only at hSw); go_simp; try (with_reducible rfl))
          change wpAnyH _ _ _ _ _ _ _ (Act.put _ (some 103) _) _
          try simp only [Act.put, List.setIfInBounds_toArray, List.set_cons_zero, List.set_cons_succ]
          refine wpAnyH_take (i := 4) (v := ?_) rfl (by kernel_rfl) (by kernel_rfl) (by kernel_rfl) (fun _ _ _ h => h) (Or.inl ⟨by rfl, ?_⟩) (by assumption) ?_
          rotate_left
          · (intro w' hSw; (try dsimp only at hSw); (have z0 := (hSw.cell (p := ⟨w2.heap.size, 0, none⟩) pl).trans p0; have z1 := (hSw.cell (p := ⟨w2.heap.size, 1, none⟩) pl).trans p1; go_simp; try (with_reducible rfl)))
          change wpAnyH _ _ _ _ _ _ _ (Act.put _ (some 104) _) _
          try simp only [Act.put, List.setIfInBounds_toArray, List.set_cons_zero, List.set_cons_succ]
          refine wpAnyH_take (i := 5) (v := ?_) rfl (by kernel_rfl) (by kernel_rfl) (by kernel_rfl) (fun _ _ _ h => h) (Or.inl ⟨by rfl, ?_⟩) (by assumption) ?_
          rotate_left
          · (intro w' hSw; (try dsimp only at hSw); go_simp; try (with_reducible rfl))
          change wpAnyH _ _ _ _ _ _ _ (Act.put _ (some 105) _) _
          try simp only [Act.put, List.setIfInBounds_toArray, List.set_cons_zero, List.set_cons_succ]
          refine wpAnyH_take (i := 7) (v := ?_) rfl (by kernel_rfl) (by kernel_rfl) (by kernel_rfl) (fun _ _ _ h => h) (Or.inl ⟨by rfl, ?_⟩) (by assumption) ?_
          rotate_left
          · (intro w' hSw; (try dsimp only at hSw); (have z0 := (hSw.cell (p := ⟨w1.heap.size, 0, none⟩) al).trans a0; have z1 := (hSw.cell (p := ⟨w1.heap.size, 1, none⟩) al).trans a1; go_simp; try (with_reducible rfl)))
          change wpAnyH _ _ _ _ _ _ _ (Act.put _ (some 107) _) _
          try simp only [Act.put, List.setIfInBounds_toArray, List.set_cons_zero, List.set_cons_succ]
          refine wpAnyH_take (i := 8) (v := ?_) rfl (by kernel_rfl) (by kernel_rfl) (by kernel_rfl) (fun _ _ _ h => h) (Or.inl ⟨by rfl, ?_⟩) (by assumption) ?_
          rotate_left
          · (intro w' hSw; (try dsimp only at hSw); go_simp; try (with_reducible rfl))
          change wpAnyH _ _ _ _ _ _ _ (Act.put _ (some 108) _) _
          try simp only [Act.put, List.setIfInBounds_toArray, List.set_cons_zero, List.set_cons_succ]
          refine wpAnyH_ready (rs := [6]) (by kernel_rfl) (by simp) ?_
          refine AllReadyH.cons (i := 6) rfl (fun K hK => ?_) AllReadyH.nil
          simp only [List.getElem_toArray, List.getElem_cons_succ, List.getElem_cons_zero]
          rw [if_pos (by rfl)]
          go_simp
          (go_at_call 12; refine (implArrGet (cs := #[.slice ub b.keys.length cb, .slice vb b.vals.length db]) (x := b) other _ (by exact Rd.later hHeld HRB.out)).mono ?_; rintro e w_6 ⟨cs_6, rfl, hr_6, hb_6⟩; rw [HGE.out.1] at hr_6; obtain ⟨hcs_6, _⟩ := rdVal hr_6; obtain rfl := arr_of_list hcs_6; go_wp2_with fail)
          clear hr_6 hcs_6
          refine hK.out _ _ ?_ (fun hHeld => ?_)
          · first | trivial | ((try dsimp only); exact ext_trans hHeld hb_6)
          clear hK K
          try simp only [Act.put, List.setIfInBounds_toArray, List.set_cons_zero, List.set_cons_succ]
          refine wpAnyH_ready (rs := [9]) (by kernel_rfl) (by simp) ?_
          refine AllReadyH.cons (i := 9) rfl (fun K hK => ?_) AllReadyH.nil
          simp only [List.getElem_toArray, List.getElem_cons_succ, List.getElem_cons_zero]
          rw [if_pos (by rfl)]
          go_simp
          (go_at_call 16; refine (specArrGet (cs := #[.slice ua x.keys.length uc, .slice va x.vals.length vc]) (x := x) other _ (by exact Rd.later hHeld HRX.out)).mono ?_; rintro e w_9 ⟨cs_9, rfl, hr_9, hb_9⟩; rw [HGE.out.2.2] at hr_9; obtain ⟨hcs_9, _⟩ := rdVal hr_9; obtain rfl := arr_of_list hcs_9; go_wp2_with fail)
          clear hr_9 hcs_9
          refine hK.out _ _ ?_ (fun hHeld => ?_)
          · first | trivial | ((try dsimp only); exact ext_trans hHeld hb_9)
          clear hK K
          try simp only [Act.put, List.setIfInBounds_toArray, List.set_cons_zero, List.set_cons_succ]
          refine wpAnyH_take (i := 10) (v := ?_) rfl (by kernel_rfl) (by kernel_rfl) (by kernel_rfl) (fun _ _ _ h => h) (Or.inl ⟨by rfl, ?_⟩) (by assumption) ?_
          rotate_left
          · (intro w' hSw; (try dsimp only at hSw); go_simp; try (with_reducible rfl))
          change wpAnyH _ _ _ _ _ _ _ (Act.put _ (some 110) _) _
          try simp only [Act.put, List.setIfInBounds_toArray, List.set_cons_zero, List.set_cons_succ]
          refine wpAnyH_take (i := 11) (v := ?_) rfl (by kernel_rfl) (by kernel_rfl) (by kernel_rfl) (fun _ _ _ h => h) (Or.inl ⟨by rfl, ?_⟩) (by assumption) ?_
          rotate_left
          · (intro w' hSw; (try dsimp only at hSw); go_simp; try (with_reducible rfl))
          change wpAnyH _ _ _ _ _ _ _ (Act.put _ (some 111) _) _
          try simp only [Act.put, List.setIfInBounds_toArray, List.set_cons_zero, List.set_cons_succ]
          refine wpAnyH_take (i := 12) (v := ?_) rfl (by kernel_rfl) (by kernel_rfl) (by kernel_rfl) (fun _ _ _ h => h) (Or.inl ⟨by rfl, ?_⟩) (by assumption) ?_
          rotate_left
          · (intro w' hSw; (try dsimp only at hSw); (have z0 := (hSw.cell (p := ⟨w7.heap.size, 0, none⟩) ql).trans q0; have z1 := (hSw.cell (p := ⟨w7.heap.size, 1, none⟩) ql).trans q1; go_simp; try (with_reducible rfl)))
          change wpAnyH _ _ _ _ _ _ _ (Act.put _ (some 112) _) _
          try simp only [Act.put, List.setIfInBounds_toArray, List.set_cons_zero, List.set_cons_succ]
          refine wpAnyH_take (i := 13) (v := ?_) rfl (by kernel_rfl) (by kernel_rfl) (by kernel_rfl) (fun _ _ _ h => h) (Or.inl ⟨by rfl, ?_⟩) (by assumption) ?_
          rotate_left
          · (intro w' hSw; (try dsimp only at hSw); go_simp; try (with_reducible rfl))
          change wpAnyH _ _ _ _ _ _ _ (Act.put _ (some 113) _) _
          try simp only [Act.put, List.setIfInBounds_toArray, List.set_cons_zero, List.set_cons_succ]
          refine wpAnyH_take (i := 15) (v := ?_) rfl (by kernel_rfl) (by kernel_rfl) (by kernel_rfl) (fun _ _ _ h => h) (Or.inl ⟨by rfl, ?_⟩) (by assumption) ?_
          rotate_left
          · (intro w' hSw; (try dsimp only at hSw); (have z0 := (hSw.cell (p := ⟨w1.heap.size, 0, none⟩) al).trans a0; have z1 := (hSw.cell (p := ⟨w1.heap.size, 1, none⟩) al).trans a1; go_simp; try (with_reducible rfl)))
          change wpAnyH _ _ _ _ _ _ _ (Act.put _ (some 115) _) _
          try simp only [Act.put, List.setIfInBounds_toArray, List.set_cons_zero, List.set_cons_succ]
          refine wpAnyH_take (i := 16) (v := ?_) rfl (by kernel_rfl) (by kernel_rfl) (by kernel_rfl) (fun _ _ _ h => h) (Or.inl ⟨by rfl, ?_⟩) (by assumption) ?_
          rotate_left
          · (intro w' hSw; (try dsimp only at hSw); go_simp; try (with_reducible rfl))
          change wpAnyH _ _ _ _ _ _ _ (Act.put _ (some 116) _) _
          try simp only [Act.put, List.setIfInBounds_toArray, List.set_cons_zero, List.set_cons_succ]
          refine wpAnyH_ready (rs := [14]) (by kernel_rfl) (by simp) ?_
          refine AllReadyH.cons (i := 14) rfl (fun K hK => ?_) AllReadyH.nil
          simp only [List.getElem_toArray, List.getElem_cons_succ, List.getElem_cons_zero]
          rw [if_pos (by rfl)]
          go_simp
          (go_at_call 12; refine (implArrGet (cs := #[.slice ud c.keys.length cd, .slice vd c.vals.length dd]) (x := c) other _ (by exact Rd.later hHeld HRC.out)).mono ?_; rintro e w_14 ⟨cs_14, rfl, hr_14, hb_14⟩; rw [HGE.out.2.1] at hr_14; obtain ⟨hcs_14, _⟩ := rdVal hr_14; obtain rfl := arr_of_list hcs_14; go_wp2_with fail)
          clear hr_14 hcs_14
          refine hK.out _ _ ?_ (fun hHeld => ?_)
          · first | trivial | ((try dsimp only); exact ext_trans hHeld hb_14)
          clear hK K
          try simp only [Act.put, List.setIfInBounds_toArray, List.set_cons_zero, List.set_cons_succ]
          refine wpAnyH_ready (rs := [17]) (by kernel_rfl) (by simp) ?_
          refine AllReadyH.cons (i := 17) rfl (fun K hK => ?_) AllReadyH.nil
          simp only [List.getElem_toArray, List.getElem_cons_succ, List.getElem_cons_zero]
          rw [if_pos (by rfl)]
          go_simp
          (go_at_call 16; refine (specArrGet (cs := #[.slice ua x.keys.length uc, .slice va x.vals.length vc]) (x := x) other _ (by exact Rd.later hHeld HRX.out)).mono ?_; rintro e w_17 ⟨cs_17, rfl, hr_17, hb_17⟩; rw [HGE.out.2.2] at hr_17; obtain ⟨hcs_17, _⟩ := rdVal hr_17; obtain rfl := arr_of_list hcs_17; go_wp2_with fail)
          clear hr_17 hcs_17
          refine hK.out _ _ ?_ (fun hHeld => ?_)
          · first | trivial | ((try dsimp only); exact ext_trans hHeld hb_17)
          clear hK K
          try simp only [Act.put, List.setIfInBounds_toArray, List.set_cons_zero, List.set_cons_succ]
          refine wpAnyH_take (i := 18) (v := ?_) rfl (by kernel_rfl) (by kernel_rfl) (by kernel_rfl) (fun _ _ _ h => h) (Or.inl ⟨by rfl, ?_⟩) (by assumption) ?_
          rotate_left
          · (intro w' hSw; (try dsimp only at hSw); go_simp; try (with_reducible rfl))
          change wpAnyH _ _ _ _ _ _ _ (Act.put _ (some 118) _) _
          try simp only [Act.put, List.setIfInBounds_toArray, List.set_cons_zero, List.set_cons_succ]
          refine wpAnyH_take (i := 19) (v := ?_) rfl (by kernel_rfl) (by kernel_rfl) (by kernel_rfl) (fun _ _ _ h => h) (Or.inl ⟨by rfl, ?_⟩) (by assumption) ?_
          rotate_left
          · (intro w' hSw; (try dsimp only at hSw); go_simp; try (with_reducible rfl))
          change wpAnyH _ _ _ _ _ _ _ (Act.put _ (some 119) _) _
          try simp only [Act.put, List.setIfInBounds_toArray, List.set_cons_zero, List.set_cons_succ]
          refine wpAnyH_take (i := 20) (v := ?_) rfl (by kernel_rfl) (by kernel_rfl) (by kernel_rfl) (fun _ _ _ h => h) (Or.inl ⟨by rfl, ?_⟩) (by assumption) ?_
          rotate_left
          · (intro w' hSw; (try dsimp only at hSw); go_simp; try (with_reducible rfl))
          change wpAnyH _ _ _ _ _ _ _ (Act.put _ (some 120) _) _
          try simp only [Act.put, List.setIfInBounds_toArray, List.set_cons_zero, List.set_cons_succ]
          refine wpAnyH_take (i := 21) (v := ?_) rfl (by kernel_rfl) (by kernel_rfl) (by kernel_rfl) (fun _ _ _ h => h) (Or.inl ⟨by rfl, ?_⟩) (by assumption) ?_
          rotate_left
          · (intro w' hSw; (try dsimp only at hSw); (have z0 := (hSw.cell (p := ⟨w7.heap.size, 0, none⟩) ql).trans q0; have z1 := (hSw.cell (p := ⟨w7.heap.size, 1, none⟩) ql).trans q1; go_simp; try (with_reducible rfl)))
          change wpAnyH _ _ _ _ _ _ _ (Act.put _ (some 121) _) _
          try simp only [Act.put, List.setIfInBounds_toArray, List.set_cons_zero, List.set_cons_succ]
          refine wpAnyH_take (i := 22) (v := ?_) rfl (by kernel_rfl) (by kernel_rfl) (by kernel_rfl) (fun _ _ _ h => h) (Or.inl ⟨by rfl, ?_⟩) (by assumption) ?_
          rotate_left
          · (intro w' hSw; (try dsimp only at hSw); go_simp; try (with_reducible rfl))
          change wpAnyH _ _ _ _ _ _ _ (Act.put _ (some 122) _) _
          try simp only [Act.put, List.setIfInBounds_toArray, List.set_cons_zero, List.set_cons_succ]
          refine wpAnyH_take (i := 25) (v := ?_) rfl (by kernel_rfl) (by kernel_rfl) (by kernel_rfl) (fun _ _ _ h => h) (Or.inl ⟨by rfl, ?_⟩) (by assumption) ?_
          rotate_left
          · (intro w' hSw; (try dsimp only at hSw); (have z0 := (hSw.cell (p := ⟨w1.heap.size, 0, none⟩) al).trans a0; have z1 := (hSw.cell (p := ⟨w1.heap.size, 1, none⟩) al).trans a1; go_simp; try (with_reducible rfl)))
          change wpAnyH _ _ _ _ _ _ _ (Act.put _ (some 125) _) _
          try simp only [Act.put, List.setIfInBounds_toArray, List.set_cons_zero, List.set_cons_succ]
          refine wpAnyH_take (i := 26) (v := ?_) rfl (by kernel_rfl) (by kernel_rfl) (by kernel_rfl) (fun _ _ _ h => h) (Or.inl ⟨by rfl, ?_⟩) (by assumption) ?_
          rotate_left
          · (intro w' hSw; (try dsimp only at hSw); go_simp; try (with_reducible rfl))
          change wpAnyH _ _ _ _ _ _ _ (Act.put _ (some 126) _) _
          try simp only [Act.put, List.setIfInBounds_toArray, List.set_cons_zero, List.set_cons_succ]
          refine wpAnyH_ready (rs := [23]) (by kernel_rfl) (by simp) ?_
          refine AllReadyH.cons (i := 23) rfl (fun K hK => ?_) AllReadyH.nil
          simp only [List.getElem_toArray, List.getElem_cons_succ, List.getElem_cons_zero]
          rw [if_pos (by rfl)]
          go_simp
          (go_at_call 13; refine (implArrAt (cs := #[.slice ud c.keys.length cd, .slice vd c.vals.length dd]) (x := c) other _ (by exact Rd.later hHeld HRC.out)).mono ?_; rintro e w_23 ⟨rfl, hb_23⟩; go_wp2_with fail)
          refine hK.out _ _ ?_ (fun hHeld => ?_)
          · first | trivial | ((try dsimp only); exact ext_trans hHeld hb_23)
          clear hK K
          try simp only [Act.put, List.setIfInBounds_toArray, List.set_cons_zero, List.set_cons_succ]
          refine wpAnyH_take (i := 24) (v := ?_) rfl (by kernel_rfl) (by kernel_rfl) (by kernel_rfl) (fun _ _ _ h => h) (Or.inl ⟨by rfl, ?_⟩) (by assumption) ?_
          rotate_left
          · (intro w' hSw; (try dsimp only at hSw); go_simp; try (with_reducible rfl))
          change wpAnyH _ _ _ _ _ _ _ (Act.put _ (some 124) _) _
          try simp only [Act.put, List.setIfInBounds_toArray, List.set_cons_zero, List.set_cons_succ]
          refine wpAnyH_ready (rs := [27]) (by kernel_rfl) (by simp) ?_
          refine AllReadyH.cons (i := 27) rfl (fun K hK => ?_) AllReadyH.nil
          simp only [List.getElem_toArray, List.getElem_cons_succ, List.getElem_cons_zero]
          rw [if_pos (by rfl)]
          go_simp
          (go_at_call 17; refine (specArrAt (cs := #[.slice ua x.keys.length uc, .slice va x.vals.length vc]) (x := x) other _ (by exact Rd.later hHeld HRX.out)).mono ?_; rintro e w_27 ⟨rfl, hb_27⟩; go_wp2_with fail)
          refine hK.out _ _ ?_ (fun hHeld => ?_)
          · first | trivial | ((try dsimp only); exact ext_trans hHeld hb_27)
          clear hK K
          try simp only [Act.put, List.setIfInBounds_toArray, List.set_cons_zero, List.set_cons_succ]
          refine wpAnyH_take (i := 28) (v := ?_) rfl (by kernel_rfl) (by kernel_rfl) (by kernel_rfl) (fun _ _ _ h => h) (Or.inl ⟨by rfl, ?_⟩) (by assumption) ?_
          rotate_left
          · (intro w' hSw; (try dsimp only at hSw); go_simp; try (with_reducible rfl))
          change wpAnyH _ _ _ _ _ _ _ (Act.put _ (some 128) _) _
          try simp only [Act.put, List.setIfInBounds_toArray, List.set_cons_zero, List.set_cons_succ]
          refine wpAnyH_take (i := 29) (v := ?_) rfl (by kernel_rfl) (by kernel_rfl) (by kernel_rfl) (fun _ _ _ h => h) (Or.inl ⟨by rfl, ?_⟩) (by assumption) ?_
          rotate_left
          · (intro w' hSw; (try dsimp only at hSw); go_simp; try (with_reducible rfl))
          change wpAnyH _ _ _ _ _ _ _ (Act.put _ (some 129) _) _
          try simp only [Act.put, List.setIfInBounds_toArray, List.set_cons_zero, List.set_cons_succ]
          refine wpAnyH_take (i := 30) (v := ?_) rfl (by kernel_rfl) (by kernel_rfl) (by kernel_rfl) (fun _ _ _ h => h) (Or.inl ⟨by rfl, ?_⟩) (by assumption) ?_
          rotate_left
          · (intro w' hSw; (try dsimp only at hSw); go_simp; try (with_reducible rfl))
          change wpAnyH _ _ _ _ _ _ _ (Act.put _ (some 130) _) _
          try simp only [Act.put, List.setIfInBounds_toArray, List.set_cons_zero, List.set_cons_succ]
          refine wpAnyH_take (i := 31) (v := ?_) rfl (by kernel_rfl) (by kernel_rfl) (by kernel_rfl) (fun _ _ _ h => h) (Or.inl ⟨by rfl, ?_⟩) (by assumption) ?_
          rotate_left
          · (intro w' hSw; (try dsimp only at hSw); go_simp; try (with_reducible rfl))
          change wpAnyH _ _ _ _ _ _ _ (Act.put _ (some 131) _) _
          try simp only [Act.put, List.setIfInBounds_toArray, List.set_cons_zero, List.set_cons_succ]
          refine wpAnyH_done (by kernel_rfl) ?_ _
          go_wp2
          go_roundw
          case rel => exact ⟨j + 1, by omega, by first | rfl | (congr 1; omega), ext_trans HBJ.out hHeld⟩
          case measure => simp [intOf]; omega
      · have hpos : (0 : Int) ≤ i := by omega
        obtain ⟨m, hm⟩ : ∃ m : Nat, i = (m : Int) := ⟨j - 1, by omega⟩
        subst hm
        have hmn : m < x.keys.length := by omega
        obtain ⟨_, _, _, _, hcs', f0, _⟩ := rdArr HRX.out
        obtain ⟨⟨rfl, rfl⟩, ⟨rfl, rfl⟩⟩ : (ua = _ ∧ uc = _) ∧ (va = _ ∧ vc = _) := by simpa using hcs'
        obtain ⟨bb, off, hua, _, hcl⟩ := rdStrs_at f0 hmn
        obtain ⟨kx, hkx⟩ : ∃ k, x.keys[m] = k := ⟨_, rfl⟩
        rw [hkx] at hcl
        clear f0 hcs' hkx
        subst hua
        by_cases hks : kx = s
        · subst hks
          have ks1 : (kx.toList != kx.toList) = false := by simp
          have ks2 : (kx.toList == kx.toList) = true := by simp
          go_upto_region 22 with fail
          refine wp_region_held_drew (S := fun w' => Below wr0.heap.size wr0 w') (by kernel_rfl) ?_ (fun hHeld => ?_)
          · exact ⟨rfl, rfl, rfl, Nat.le_refl _, fun _ _ => rfl⟩
          refine wpAnyH_take (i := 0) (v := ?_) rfl (by kernel_rfl) (by kernel_rfl) (by kernel_rfl) (fun _ _ _ h => h) (Or.inl ⟨by rfl, ?_⟩) (by assumption) ?_
          rotate_left
          · (intro w' hSw; (try dsimp only at hSw); go_simp; try (with_reducible rfl))
          change wpAnyH _ _ _ _ _ _ _ (Act.put _ (some 100) _) _
          try simp only [Act.put, List.setIfInBounds_toArray, List.set_cons_zero, List.set_cons_succ]
          refine wpAnyH_take (i := 1) (v := ?_) rfl (by kernel_rfl) (by kernel_rfl) (by kernel_rfl) (fun _ _ _ h => h) (Or.inl ⟨by rfl, ?_⟩) (by assumption) ?_
          rotate_left
          · (intro w' hSw; (try dsimp only at hSw); go_simp; try (with_reducible rfl))
          change wpAnyH _ _ _ _ _ _ _ (Act.put _ (some 101) _) _
          try simp only [Act.put, List.setIfInBounds_toArray, List.set_cons_zero, List.set_cons_succ]
          refine wpAnyH_take (i := 2) (v := ?_) rfl (by kernel_rfl) (by kernel_rfl) (by kernel_rfl) (fun _ _ _ h => h) (Or.inl ⟨by rfl, ?_⟩) (by assumption) ?_
          rotate_left
          · (intro w' hSw; (try dsimp only at hSw); go_simp; try (with_reducible rfl))
          change wpAnyH _ _ _ _ _ _ _ (Act.put _ (some 102) _) _
          try simp only [Act.put, List.setIfInBounds_toArray, List.set_cons_zero, List.set_cons_succ]
          refine wpAnyH_take (i := 3) (v := ?_) rfl (by kernel_rfl) (by kernel_rfl) (by kernel_rfl) (fun _ _ _ h => h) (Or.inl ⟨by rfl, ?_⟩) (by assumption) ?_
          rotate_left
          · (intro w' hSw; (try dsimp only at hSw); go_simp; try (with_reducible rfl))
          change wpAnyH _ _ _ _ _ _ _ (Act.put _ (some 103) _) _
          try simp only [Act.put, List.setIfInBounds_toArray, List.set_cons_zero, List.set_cons_succ]
          refine wpAnyH_take (i := 4) (v := undef) rfl (by kernel_rfl) (by kernel_rfl) (by kernel_rfl) (fun _ _ _ h => h) (Or.inr ⟨by rfl, rfl⟩) (by assumption) ?_
          change wpAnyH _ _ _ _ _ _ _ (Act.put _ (some 104) _) _
          try simp only [Act.put, List.setIfInBounds_toArray, List.set_cons_zero, List.set_cons_succ]
          refine wpAnyH_take (i := 5) (v := undef) rfl (by kernel_rfl) (by kernel_rfl) (by kernel_rfl) (fun _ _ _ h => h) (Or.inr ⟨by rfl, rfl⟩) (by assumption) ?_
          change wpAnyH _ _ _ _ _ _ _ (Act.put _ (some 105) _) _
          try simp only [Act.put, List.setIfInBounds_toArray, List.set_cons_zero, List.set_cons_succ]
          refine wpAnyH_take (i := 6) (v := undef) rfl (by kernel_rfl) (by kernel_rfl) (by kernel_rfl) (fun _ _ _ h => h) (Or.inr ⟨by rfl, rfl⟩) (by assumption) ?_
          change wpAnyH _ _ _ _ _ _ _ (Act.put _ (some 106) _) _
          try simp only [Act.put, List.setIfInBounds_toArray, List.set_cons_zero, List.set_cons_succ]
          refine wpAnyH_take (i := 7) (v := undef) rfl (by kernel_rfl) (by kernel_rfl) (by kernel_rfl) (fun _ _ _ h => h) (Or.inr ⟨by rfl, rfl⟩) (by assumption) ?_
          change wpAnyH _ _ _ _ _ _ _ (Act.put _ (some 107) _) _
          try simp only [Act.put, List.setIfInBounds_toArray, List.set_cons_zero, List.set_cons_succ]
          refine wpAnyH_take (i := 8) (v := undef) rfl (by kernel_rfl) (by kernel_rfl) (by kernel_rfl) (fun _ _ _ h => h) (Or.inr ⟨by rfl, rfl⟩) (by assumption) ?_
          change wpAnyH _ _ _ _ _ _ _ (Act.put _ (some 108) _) _
          try simp only [Act.put, List.setIfInBounds_toArray, List.set_cons_zero, List.set_cons_succ]
          refine wpAnyH_take (i := 9) (v := undef) rfl (by kernel_rfl) (by kernel_rfl) (by kernel_rfl) (fun _ _ _ h => h) (Or.inr ⟨by rfl, rfl⟩) (by assumption) ?_
          change wpAnyH _ _ _ _ _ _ _ (Act.put _ (some 109) _) _
          try simp only [Act.put, List.setIfInBounds_toArray, List.set_cons_zero, List.set_cons_succ]
          refine wpAnyH_take (i := 10) (v := undef) rfl (by kernel_rfl) (by kernel_rfl) (by kernel_rfl) (fun _ _ _ h => h) (Or.inr ⟨by rfl, rfl⟩) (by assumption) ?_
          change wpAnyH _ _ _ _ _ _ _ (Act.put _ (some 110) _) _
          try simp only [Act.put, List.setIfInBounds_toArray, List.set_cons_zero, List.set_cons_succ]
          refine wpAnyH_take (i := 11) (v := undef) rfl (by kernel_rfl) (by kernel_rfl) (by kernel_rfl) (fun _ _ _ h => h) (Or.inr ⟨by rfl, rfl⟩) (by assumption) ?_
          change wpAnyH _ _ _ _ _ _ _ (Act.put _ (some 111) _) _
          try simp only [Act.put, List.setIfInBounds_toArray, List.set_cons_zero, List.set_cons_succ]
          refine wpAnyH_take (i := 12) (v := undef) rfl (by kernel_rfl) (by kernel_rfl) (by kernel_rfl) (fun _ _ _ h => h) (Or.inr ⟨by rfl, rfl⟩) (by assumption) ?_
          change wpAnyH _ _ _ _ _ _ _ (Act.put _ (some 112) _) _
          try simp only [Act.put, List.setIfInBounds_toArray, List.set_cons_zero, List.set_cons_succ]
          refine wpAnyH_take (i := 13) (v := undef) rfl (by kernel_rfl) (by kernel_rfl) (by kernel_rfl) (fun _ _ _ h => h) (Or.inr ⟨by rfl, rfl⟩) (by assumption) ?_
          change wpAnyH _ _ _ _ _ _ _ (Act.put _ (some 113) _) _
          try simp only [Act.put, List.setIfInBounds_toArray, List.set_cons_zero, List.set_cons_succ]
          refine wpAnyH_take (i := 14) (v := undef) rfl (by kernel_rfl) (by kernel_rfl) (by kernel_rfl) (fun _ _ _ h => h) (Or.inr ⟨by rfl, rfl⟩) (by assumption) ?_
          change wpAnyH _ _ _ _ _ _ _ (Act.put _ (some 114) _) _
          try simp only [Act.put, List.setIfInBounds_toArray, List.set_cons_zero, List.set_cons_succ]
          refine wpAnyH_take (i := 15) (v := undef) rfl (by kernel_rfl) (by kernel_rfl) (by kernel_rfl) (fun _ _ _ h => h) (Or.inr ⟨by rfl, rfl⟩) (by assumption) ?_
          change wpAnyH _ _ _ _ _ _ _ (Act.put _ (some 115) _) _
          try simp only [Act.put, List.setIfInBounds_toArray, List.set_cons_zero, List.set_cons_succ]
          refine wpAnyH_take (i := 16) (v := undef) rfl (by kernel_rfl) (by kernel_rfl) (by kernel_rfl) (fun _ _ _ h => h) (Or.inr ⟨by rfl, rfl⟩) (by assumption) ?_
          change wpAnyH _ _ _ _ _ _ _ (Act.put _ (some 116) _) _
          try simp only [Act.put, List.setIfInBounds_toArray, List.set_cons_zero, List.set_cons_succ]
          refine wpAnyH_take (i := 17) (v := undef) rfl (by kernel_rfl) (by kernel_rfl) (by kernel_rfl) (fun _ _ _ h => h) (Or.inr ⟨by rfl, rfl⟩) (by assumption) ?_
          change wpAnyH _ _ _ _ _ _ _ (Act.put _ (some 117) _) _
          try simp only [Act.put, List.setIfInBounds_toArray, List.set_cons_zero, List.set_cons_succ]
          refine wpAnyH_take (i := 18) (v := undef) rfl (by kernel_rfl) (by kernel_rfl) (by kernel_rfl) (fun _ _ _ h => h) (Or.inr ⟨by rfl, rfl⟩) (by assumption) ?_
          change wpAnyH _ _ _ _ _ _ _ (Act.put _ (some 118) _) _
          try simp only [Act.put, List.setIfInBounds_toArray, List.set_cons_zero, List.set_cons_succ]
          refine wpAnyH_take (i := 19) (v := undef) rfl (by kernel_rfl) (by kernel_rfl) (by kernel_rfl) (fun _ _ _ h => h) (Or.inr ⟨by rfl, rfl⟩) (by assumption) ?_
          change wpAnyH _ _ _ _ _ _ _ (Act.put _ (some 119) _) _
          try simp only [Act.put, List.setIfInBounds_toArray, List.set_cons_zero, List.set_cons_succ]
          refine wpAnyH_take (i := 20) (v := undef) rfl (by kernel_rfl) (by kernel_rfl) (by kernel_rfl) (fun _ _ _ h => h) (Or.inr ⟨by rfl, rfl⟩) (by assumption) ?_
          change wpAnyH _ _ _ _ _ _ _ (Act.put _ (some 120) _) _
          try simp only [Act.put, List.setIfInBounds_toArray, List.set_cons_zero, List.set_cons_succ]
          refine wpAnyH_take (i := 21) (v := undef) rfl (by kernel_rfl) (by kernel_rfl) (by kernel_rfl) (fun _ _ _ h => h) (Or.inr ⟨by rfl, rfl⟩) (by assumption) ?_
          change wpAnyH _ _ _ _ _ _ _ (Act.put _ (some 121) _) _
          try simp only [Act.put, List.setIfInBounds_toArray, List.set_cons_zero, List.set_cons_succ]
          refine wpAnyH_take (i := 22) (v := undef) rfl (by kernel_rfl) (by kernel_rfl) (by kernel_rfl) (fun _ _ _ h => h) (Or.inr ⟨by rfl, rfl⟩) (by assumption) ?_
          change wpAnyH _ _ _ _ _ _ _ (Act.put _ (some 122) _) _
          try simp only [Act.put, List.setIfInBounds_toArray, List.set_cons_zero, List.set_cons_succ]
          refine wpAnyH_take (i := 23) (v := undef) rfl (by kernel_rfl) (by kernel_rfl) (by kernel_rfl) (fun _ _ _ h => h) (Or.inr ⟨by rfl, rfl⟩) (by assumption) ?_
          change wpAnyH _ _ _ _ _ _ _ (Act.put _ (some 123) _) _
          try simp only [Act.put, List.setIfInBounds_toArray, List.set_cons_zero, List.set_cons_succ]
          refine wpAnyH_take (i := 24) (v := undef) rfl (by kernel_rfl) (by kernel_rfl) (by kernel_rfl) (fun _ _ _ h => h) (Or.inr ⟨by rfl, rfl⟩) (by assumption) ?_
          change wpAnyH _ _ _ _ _ _ _ (Act.put _ (some 124) _) _
          try simp only [Act.put, List.setIfInBounds_toArray, List.set_cons_zero, List.set_cons_succ]
          refine wpAnyH_take (i := 25) (v := undef) rfl (by kernel_rfl) (by kernel_rfl) (by kernel_rfl) (fun _ _ _ h => h) (Or.inr ⟨by rfl, rfl⟩) (by assumption) ?_
          change wpAnyH _ _ _ _ _ _ _ (Act.put _ (some 125) _) _
          try simp only [Act.put, List.setIfInBounds_toArray, List.set_cons_zero, List.set_cons_succ]
          refine wpAnyH_take (i := 26) (v := undef) rfl (by kernel_rfl) (by kernel_rfl) (by kernel_rfl) (fun _ _ _ h => h) (Or.inr ⟨by rfl, rfl⟩) (by assumption) ?_
          change wpAnyH _ _ _ _ _ _ _ (Act.put _ (some 126) _) _
          try simp only [Act.put, List.setIfInBounds_toArray, List.set_cons_zero, List.set_cons_succ]
          refine wpAnyH_take (i := 27) (v := undef) rfl (by kernel_rfl) (by kernel_rfl) (by kernel_rfl) (fun _ _ _ h => h) (Or.inr ⟨by rfl, rfl⟩) (by assumption) ?_
          change wpAnyH _ _ _ _ _ _ _ (Act.put _ (some 127) _) _
          try simp only [Act.put, List.setIfInBounds_toArray, List.set_cons_zero, List.set_cons_succ]
          refine wpAnyH_take (i := 28) (v := undef) rfl (by kernel_rfl) (by kernel_rfl) (by kernel_rfl) (fun _ _ _ h => h) (Or.inr ⟨by rfl, rfl⟩) (by assumption) ?_
          change wpAnyH _ _ _ _ _ _ _ (Act.put _ (some 128) _) _
          try simp only [Act.put, List.setIfInBounds_toArray, List.set_cons_zero, List.set_cons_succ]
          refine wpAnyH_take (i := 29) (v := undef) rfl (by kernel_rfl) (by kernel_rfl) (by kernel_rfl) (fun _ _ _ h => h) (Or.inr ⟨by rfl, rfl⟩) (by assumption) ?_
          change wpAnyH _ _ _ _ _ _ _ (Act.put _ (some 129) _) _
          try simp only [Act.put, List.setIfInBounds_toArray, List.set_cons_zero, List.set_cons_succ]
          refine wpAnyH_take (i := 30) (v := undef) rfl (by kernel_rfl) (by kernel_rfl) (by kernel_rfl) (fun _ _ _ h => h) (Or.inr ⟨by rfl, rfl⟩) (by assumption) ?_
          change wpAnyH _ _ _ _ _ _ _ (Act.put _ (some 130) _) _
          try simp only [Act.put, List.setIfInBounds_toArray, List.set_cons_zero, List.set_cons_succ]
          refine wpAnyH_take (i := 31) (v := ?_) rfl (by kernel_rfl) (by kernel_rfl) (by kernel_rfl) (fun _ _ _ h => h) (Or.inl ⟨by rfl, ?_⟩) (by assumption) ?_
          rotate_left
          · (intro w' hSw; (try dsimp only at hSw); go_simp; try (with_reducible rfl))
          change wpAnyH _ _ _ _ _ _ _ (Act.put _ (some 131) _) _
          try simp only [Act.put, List.setIfInBounds_toArray, List.set_cons_zero, List.set_cons_succ]
          refine wpAnyH_done (by kernel_rfl) ?_ _
          go_wp2
          go_roundw
          case rel => exact ⟨j + 1, by omega, by first | rfl | (congr 1; omega), ext_trans HBJ.out hHeld⟩
          case measure => simp [intOf]; omega
        · have ks2 : (kx.toList == s.toList) = false := by
            rw [beq_eq_false_iff_ne, Lib.toList_data, Lib.toList_data]
            intro h
            exact hks (ba_toA h)
          have ks1 : (kx.toList != s.toList) = true := by rw [bne, ks2]; rfl
          have hkk := HKEPT.out kx hks
          obtain ⟨z, hz⟩ : ∃ z, arrGet x kx = z := ⟨_, rfl⟩
          have HGE := hid (show arrGet b kx = z ∧ arrGet c kx = z ∧ arrGet x kx = z from ⟨hkk.1.trans hz, hkk.2.1.trans hz, hz⟩)
          obtain ⟨pn, hpn⟩ : ∃ p, decide (arrAt x kx < 0) = p := ⟨_, rfl⟩
          have hpc : decide (arrAt c kx < 0) = pn := by rw [← hpn]; exact decide_eq_decide.2 hkk.2.2
          clear hkk hz
          go_upto_region 22 with fail
          refine wp_region_held_drew (S := fun w' => Below wr0.heap.size wr0 w') (by kernel_rfl) ?_ (fun hHeld => ?_)
          · exact ⟨rfl, rfl, rfl, Nat.le_refl _, fun _ _ => rfl⟩
          refine wpAnyH_take (i := 0) (v := ?_) rfl (by kernel_rfl) (by kernel_rfl) (by kernel_rfl) (fun _ _ _ h => h) (Or.inl ⟨by rfl, ?_⟩) (by assumption) ?_
          rotate_left
          · (intro w' hSw; (try dsimp only at hSw); go_simp; try (with_reducible rfl))
          change wpAnyH _ _ _ _ _ _ _ (Act.put _ (some 100) _) _
          try simp only [Act.put, List.setIfInBounds_toArray, List.set_cons_zero, List.set_cons_succ]
          refine wpAnyH_take (i := 1) (v := ?_) rfl (by kernel_rfl) (by kernel_rfl) (by kernel_rfl) (fun _ _ _ h => h) (Or.inl ⟨by rfl, ?_⟩) (by assumption) ?_
          rotate_left
          · (intro w' hSw; (try dsimp only at hSw); go_simp; try (with_reducible rfl))
          change wpAnyH _ _ _ _ _ _ _ (Act.put _ (some 101) _) _
          try simp only [Act.put, List.setIfInBounds_toArray, List.set_cons_zero, List.set_cons_succ]
          refine wpAnyH_take (i := 2) (v := ?_) rfl (by kernel_rfl) (by kernel_rfl) (by kernel_rfl) (fun _ _ _ h => h) (Or.inl ⟨by rfl, ?_⟩) (by assumption) ?_
          rotate_left
          · (intro w' hSw; (try dsimp only at hSw); go_simp; try (with_reducible rfl))
          change wpAnyH _ _ _ _ _ _ _ (Act.put _ (some 102) _) _
          try simp only [Act.put, List.setIfInBounds_toArray, List.set_cons_zero, List.set_cons_succ]
          refine wpAnyH_take (i := 3) (v := ?_) rfl (by kernel_rfl) (by kernel_rfl) (by kernel_rfl) (fun _ _ _ h => h) (Or.inl ⟨by rfl, ?_⟩) (by assumption) ?_
          rotate_left
          · (intro w' hSw; (try dsimp only at hSw); go_simp; try (with_reducible rfl))
          change wpAnyH _ _ _ _ _ _ _ (Act.put _ (some 103) _) _
          try simp only [Act.put, List.setIfInBounds_toArray, List.set_cons_zero, List.set_cons_succ]
          refine wpAnyH_take (i := 4) (v := ?_) rfl (by kernel_rfl) (by kernel_rfl) (by kernel_rfl) (fun _ _ _ h => h) (Or.inl ⟨by rfl, ?_⟩) (by assumption) ?_
          rotate_left
          · (intro w' hSw; (try dsimp only at hSw); (have z0 := (hSw.cell (p := ⟨w2.heap.size, 0, none⟩) pl).trans p0; have z1 := (hSw.cell (p := ⟨w2.heap.size, 1, none⟩) pl).trans p1; go_simp; try (with_reducible rfl)))
          change wpAnyH _ _ _ _ _ _ _ (Act.put _ (some 104) _) _
          try simp only [Act.put, List.setIfInBounds_toArray, List.set_cons_zero, List.set_cons_succ]
          refine wpAnyH_take (i := 5) (v := ?_) rfl (by kernel_rfl) (by kernel_rfl) (by kernel_rfl) (fun _ _ _ h => h) (Or.inl ⟨by rfl, ?_⟩) (by assumption) ?_
          rotate_left
          · (intro w' hSw; (try dsimp only at hSw); go_simp; try (with_reducible rfl))
          change wpAnyH _ _ _ _ _ _ _ (Act.put _ (some 105) _) _
          try simp only [Act.put, List.setIfInBounds_toArray, List.set_cons_zero, List.set_cons_succ]
          refine wpAnyH_take (i := 7) (v := ?_) rfl (by kernel_rfl) (by kernel_rfl) (by kernel_rfl) (fun _ _ _ h => h) (Or.inl ⟨by rfl, ?_⟩) (by assumption) ?_
          rotate_left
          · (intro w' hSw; (try dsimp only at hSw); (have z0 := (hSw.cell (p := ⟨w1.heap.size, 0, none⟩) al).trans a0; have z1 := (hSw.cell (p := ⟨w1.heap.size, 1, none⟩) al).trans a1; go_simp; try (with_reducible rfl)))
          change wpAnyH _ _ _ _ _ _ _ (Act.put _ (some 107) _) _
          try simp only [Act.put, List.setIfInBounds_toArray, List.set_cons_zero, List.set_cons_succ]
          refine wpAnyH_take (i := 8) (v := ?_) rfl (by kernel_rfl) (by kernel_rfl) (by kernel_rfl) (fun _ _ _ h => h) (Or.inl ⟨by rfl, ?_⟩) (by assumption) ?_
          rotate_left
          · (intro w' hSw; (try dsimp only at hSw); go_simp; try (with_reducible rfl))
          change wpAnyH _ _ _ _ _ _ _ (Act.put _ (some 108) _) _
          try simp only [Act.put, List.setIfInBounds_toArray, List.set_cons_zero, List.set_cons_succ]
          refine wpAnyH_ready (rs := [6]) (by kernel_rfl) (by simp) ?_
          refine AllReadyH.cons (i := 6) rfl (fun K hK => ?_) AllReadyH.nil
          simp only [List.getElem_toArray, List.getElem_cons_succ, List.getElem_cons_zero]
          rw [if_pos (by rfl)]
          go_simp
          (go_at_call 12; refine (implArrGet (cs := #[.slice ub b.keys.length cb, .slice vb b.vals.length db]) (x := b) kx _ (by exact Rd.later hHeld HRB.out)).mono ?_; rintro e w_6 ⟨cs_6, rfl, hr_6, hb_6⟩; rw [HGE.out.1] at hr_6; obtain ⟨hcs_6, _⟩ := rdVal hr_6; obtain rfl := arr_of_list hcs_6; go_wp2_with fail)
          clear hr_6 hcs_6
          refine hK.out _ _ ?_ (fun hHeld => ?_)
          · first | trivial | ((try dsimp only); exact ext_trans hHeld hb_6)
          clear hK K
          try simp only [Act.put, List.setIfInBounds_toArray, List.set_cons_zero, List.set_cons_succ]
          refine wpAnyH_ready (rs := [9]) (by kernel_rfl) (by simp) ?_
          refine AllReadyH.cons (i := 9) rfl (fun K hK => ?_) AllReadyH.nil
          simp only [List.getElem_toArray, List.getElem_cons_succ, List.getElem_cons_zero]
          rw [if_pos (by rfl)]
          go_simp
          (go_at_call 16; refine (specArrGet (cs := #[.slice (some ⟨bb, off, none⟩) x.keys.length uc, .slice va x.vals.length vc]) (x := x) kx _ (by exact Rd.later hHeld HRX.out)).mono ?_; rintro e w_9 ⟨cs_9, rfl, hr_9, hb_9⟩; rw [HGE.out.2.2] at hr_9; obtain ⟨hcs_9, _⟩ := rdVal hr_9; obtain rfl := arr_of_list hcs_9; go_wp2_with fail)
          clear hr_9 hcs_9
          refine hK.out _ _ ?_ (fun hHeld => ?_)
          · first | trivial | ((try dsimp only); exact ext_trans hHeld hb_9)
          clear hK K
          try simp only [Act.put, List.setIfInBounds_toArray, List.set_cons_zero, List.set_cons_succ]
          refine wpAnyH_take (i := 10) (v := ?_) rfl (by kernel_rfl) (by kernel_rfl) (by kernel_rfl) (fun _ _ _ h => h) (Or.inl ⟨by rfl, ?_⟩) (by assumption) ?_
          rotate_left
          · (intro w' hSw; (try dsimp only at hSw); go_simp; try (with_reducible rfl))
          change wpAnyH _ _ _ _ _ _ _ (Act.put _ (some 110) _) _
          try simp only [Act.put, List.setIfInBounds_toArray, List.set_cons_zero, List.set_cons_succ]
          refine wpAnyH_take (i := 11) (v := ?_) rfl (by kernel_rfl) (by kernel_rfl) (by kernel_rfl) (fun _ _ _ h => h) (Or.inl ⟨by rfl, ?_⟩) (by assumption) ?_
          rotate_left
          · (intro w' hSw; (try dsimp only at hSw); go_simp; try (with_reducible rfl))
          change wpAnyH _ _ _ _ _ _ _ (Act.put _ (some 111) _) _
          try simp only [Act.put, List.setIfInBounds_toArray, List.set_cons_zero, List.set_cons_succ]
          refine wpAnyH_take (i := 12) (v := ?_) rfl (by kernel_rfl) (by kernel_rfl) (by kernel_rfl) (fun _ _ _ h => h) (Or.inl ⟨by rfl, ?_⟩) (by assumption) ?_
          rotate_left
          · (intro w' hSw; (try dsimp only at hSw); (have z0 := (hSw.cell (p := ⟨w7.heap.size, 0, none⟩) ql).trans q0; have z1 := (hSw.cell (p := ⟨w7.heap.size, 1, none⟩) ql).trans q1; go_simp; try (with_reducible rfl)))
          change wpAnyH _ _ _ _ _ _ _ (Act.put _ (some 112) _) _
          try simp only [Act.put, List.setIfInBounds_toArray, List.set_cons_zero, List.set_cons_succ]
          refine wpAnyH_take (i := 13) (v := ?_) rfl (by kernel_rfl) (by kernel_rfl) (by kernel_rfl) (fun _ _ _ h => h) (Or.inl ⟨by rfl, ?_⟩) (by assumption) ?_
          rotate_left
          · (intro w' hSw; (try dsimp only at hSw); go_simp; try (with_reducible rfl))
          change wpAnyH _ _ _ _ _ _ _ (Act.put _ (some 113) _) _
          try simp only [Act.put, List.setIfInBounds_toArray, List.set_cons_zero, List.set_cons_succ]
          refine wpAnyH_take (i := 15) (v := ?_) rfl (by kernel_rfl) (by kernel_rfl) (by kernel_rfl) (fun _ _ _ h => h) (Or.inl ⟨by rfl, ?_⟩) (by assumption) ?_
          rotate_left
          · (intro w' hSw; (try dsimp only at hSw); (have z0 := (hSw.cell (p := ⟨w1.heap.size, 0, none⟩) al).trans a0; have z1 := (hSw.cell (p := ⟨w1.heap.size, 1, none⟩) al).trans a1; go_simp; try (with_reducible rfl)))
          change wpAnyH _ _ _ _ _ _ _ (Act.put _ (some 115) _) _
          try simp only [Act.put, List.setIfInBounds_toArray, List.set_cons_zero, List.set_cons_succ]
          refine wpAnyH_take (i := 16) (v := ?_) rfl (by kernel_rfl) (by kernel_rfl) (by kernel_rfl) (fun _ _ _ h => h) (Or.inl ⟨by rfl, ?_⟩) (by assumption) ?_
          rotate_left
          · (intro w' hSw; (try dsimp only at hSw); go_simp; try (with_reducible rfl))
          change wpAnyH _ _ _ _ _ _ _ (Act.put _ (some 116) _) _
          try simp only [Act.put, List.setIfInBounds_toArray, List.set_cons_zero, List.set_cons_succ]
          refine wpAnyH_ready (rs := [14]) (by kernel_rfl) (by simp) ?_
          refine AllReadyH.cons (i := 14) rfl (fun K hK => ?_) AllReadyH.nil
          simp only [List.getElem_toArray, List.getElem_cons_succ, List.getElem_cons_zero]
          rw [if_pos (by rfl)]
          go_simp
          (go_at_call 12; refine (implArrGet (cs := #[.slice ud c.keys.length cd, .slice vd c.vals.length dd]) (x := c) kx _ (by exact Rd.later hHeld HRC.out)).mono ?_; rintro e w_14 ⟨cs_14, rfl, hr_14, hb_14⟩; rw [HGE.out.2.1] at hr_14; obtain ⟨hcs_14, _⟩ := rdVal hr_14; obtain rfl := arr_of_list hcs_14; go_wp2_with fail)
          clear hr_14 hcs_14
          refine hK.out _ _ ?_ (fun hHeld => ?_)
          · first | trivial | ((try dsimp only); exact ext_trans hHeld hb_14)
          clear hK K
          try simp only [Act.put, List.setIfInBounds_toArray, List.set_cons_zero, List.set_cons_succ]
          refine wpAnyH_ready (rs := [17]) (by kernel_rfl) (by simp) ?_
          refine AllReadyH.cons (i := 17) rfl (fun K hK => ?_) AllReadyH.nil
          simp only [List.getElem_toArray, List.getElem_cons_succ, List.getElem_cons_zero]
          rw [if_pos (by rfl)]
          go_simp
          (go_at_call 16; refine (specArrGet (cs := #[.slice (some ⟨bb, off, none⟩) x.keys.length uc, .slice va x.vals.length vc]) (x := x) kx _ (by exact Rd.later hHeld HRX.out)).mono ?_; rintro e w_17 ⟨cs_17, rfl, hr_17, hb_17⟩; rw [HGE.out.2.2] at hr_17; obtain ⟨hcs_17, _⟩ := rdVal hr_17; obtain rfl := arr_of_list hcs_17; go_wp2_with fail)
          clear hr_17 hcs_17
          refine hK.out _ _ ?_ (fun hHeld => ?_)
          · first | trivial | ((try dsimp only); exact ext_trans hHeld hb_17)
          clear hK K
          try simp only [Act.put, List.setIfInBounds_toArray, List.set_cons_zero, List.set_cons_succ]
          refine wpAnyH_take (i := 18) (v := ?_) rfl (by kernel_rfl) (by kernel_rfl) (by kernel_rfl) (fun _ _ _ h => h) (Or.inl ⟨by rfl, ?_⟩) (by assumption) ?_
          rotate_left
          · (intro w' hSw; (try dsimp only at hSw); go_simp; try (with_reducible rfl))
          change wpAnyH _ _ _ _ _ _ _ (Act.put _ (some 118) _) _
          try simp only [Act.put, List.setIfInBounds_toArray, List.set_cons_zero, List.set_cons_succ]
          refine wpAnyH_take (i := 19) (v := ?_) rfl (by kernel_rfl) (by kernel_rfl) (by kernel_rfl) (fun _ _ _ h => h) (Or.inl ⟨by rfl, ?_⟩) (by assumption) ?_
          rotate_left
          · (intro w' hSw; (try dsimp only at hSw); go_simp; try (with_reducible rfl))
          change wpAnyH _ _ _ _ _ _ _ (Act.put _ (some 119) _) _
          try simp only [Act.put, List.setIfInBounds_toArray, List.set_cons_zero, List.set_cons_succ]
          refine wpAnyH_take (i := 20) (v := ?_) rfl (by kernel_rfl) (by kernel_rfl) (by kernel_rfl) (fun _ _ _ h => h) (Or.inl ⟨by rfl, ?_⟩) (by assumption) ?_
          rotate_left
          · (intro w' hSw; (try dsimp only at hSw); go_simp; try (with_reducible rfl))
          change wpAnyH _ _ _ _ _ _ _ (Act.put _ (some 120) _) _
          try simp only [Act.put, List.setIfInBounds_toArray, List.set_cons_zero, List.set_cons_succ]
          refine wpAnyH_take (i := 21) (v := ?_) rfl (by kernel_rfl) (by kernel_rfl) (by kernel_rfl) (fun _ _ _ h => h) (Or.inl ⟨by rfl, ?_⟩) (by assumption) ?_
          rotate_left
          · (intro w' hSw; (try dsimp only at hSw); (have z0 := (hSw.cell (p := ⟨w7.heap.size, 0, none⟩) ql).trans q0; have z1 := (hSw.cell (p := ⟨w7.heap.size, 1, none⟩) ql).trans q1; go_simp; try (with_reducible rfl)))
          change wpAnyH _ _ _ _ _ _ _ (Act.put _ (some 121) _) _
          try simp only [Act.put, List.setIfInBounds_toArray, List.set_cons_zero, List.set_cons_succ]
          refine wpAnyH_take (i := 22) (v := ?_) rfl (by kernel_rfl) (by kernel_rfl) (by kernel_rfl) (fun _ _ _ h => h) (Or.inl ⟨by rfl, ?_⟩) (by assumption) ?_
          rotate_left
          · (intro w' hSw; (try dsimp only at hSw); go_simp; try (with_reducible rfl))
          change wpAnyH _ _ _ _ _ _ _ (Act.put _ (some 122) _) _
          try simp only [Act.put, List.setIfInBounds_toArray, List.set_cons_zero, List.set_cons_succ]
          refine wpAnyH_take (i := 25) (v := ?_) rfl (by kernel_rfl) (by kernel_rfl) (by kernel_rfl) (fun _ _ _ h => h) (Or.inl ⟨by rfl, ?_⟩) (by assumption) ?_
          rotate_left
          · (intro w' hSw; (try dsimp only at hSw); (have z0 := (hSw.cell (p := ⟨w1.heap.size, 0, none⟩) al).trans a0; have z1 := (hSw.cell (p := ⟨w1.heap.size, 1, none⟩) al).trans a1; go_simp; try (with_reducible rfl)))
          change wpAnyH _ _ _ _ _ _ _ (Act.put _ (some 125) _) _
          try simp only [Act.put, List.setIfInBounds_toArray, List.set_cons_zero, List.set_cons_succ]
          refine wpAnyH_take (i := 26) (v := ?_) rfl (by kernel_rfl) (by kernel_rfl) (by kernel_rfl) (fun _ _ _ h => h) (Or.inl ⟨by rfl, ?_⟩) (by assumption) ?_
          rotate_left
          · (intro w' hSw; (try dsimp only at hSw); go_simp; try (with_reducible rfl))
          change wpAnyH _ _ _ _ _ _ _ (Act.put _ (some 126) _) _
          try simp only [Act.put, List.setIfInBounds_toArray, List.set_cons_zero, List.set_cons_succ]
          refine wpAnyH_ready (rs := [23]) (by kernel_rfl) (by simp) ?_
          refine AllReadyH.cons (i := 23) rfl (fun K hK => ?_) AllReadyH.nil
          simp only [List.getElem_toArray, List.getElem_cons_succ, List.getElem_cons_zero]
          rw [if_pos (by rfl)]
          go_simp
          (go_at_call 13; refine (implArrAt (cs := #[.slice ud c.keys.length cd, .slice vd c.vals.length dd]) (x := c) kx _ (by exact Rd.later hHeld HRC.out)).mono ?_; rintro e w_23 ⟨rfl, hb_23⟩; go_wp2_with fail)
          refine hK.out _ _ ?_ (fun hHeld => ?_)
          · first | trivial | ((try dsimp only); exact ext_trans hHeld hb_23)
          clear hK K
          try simp only [Act.put, List.setIfInBounds_toArray, List.set_cons_zero, List.set_cons_succ]
          refine wpAnyH_take (i := 24) (v := ?_) rfl (by kernel_rfl) (by kernel_rfl) (by kernel_rfl) (fun _ _ _ h => h) (Or.inl ⟨by rfl, ?_⟩) (by assumption) ?_
          rotate_left
          · (intro w' hSw; (try dsimp only at hSw); go_simp; try (with_reducible rfl))
          change wpAnyH _ _ _ _ _ _ _ (Act.put _ (some 124) _) _
          try simp only [Act.put, List.setIfInBounds_toArray, List.set_cons_zero, List.set_cons_succ]
          refine wpAnyH_ready (rs := [27]) (by kernel_rfl) (by simp) ?_
          refine AllReadyH.cons (i := 27) rfl (fun K hK => ?_) AllReadyH.nil
          simp only [List.getElem_toArray, List.getElem_cons_succ, List.getElem_cons_zero]
          rw [if_pos (by rfl)]
          go_simp
          (go_at_call 17; refine (specArrAt (cs := #[.slice (some ⟨bb, off, none⟩) x.keys.length uc, .slice va x.vals.length vc]) (x := x) kx _ (by exact Rd.later hHeld HRX.out)).mono ?_; rintro e w_27 ⟨rfl, hb_27⟩; go_wp2_with fail)
          refine hK.out _ _ ?_ (fun hHeld => ?_)
          · first | trivial | ((try dsimp only); exact ext_trans hHeld hb_27)
          clear hK K
          try simp only [Act.put, List.setIfInBounds_toArray, List.set_cons_zero, List.set_cons_succ]
          refine wpAnyH_take (i := 28) (v := ?_) rfl (by kernel_rfl) (by kernel_rfl) (by kernel_rfl) (fun _ _ _ h => h) (Or.inl ⟨by rfl, ?_⟩) (by assumption) ?_
          rotate_left
          · (intro w' hSw; (try dsimp only at hSw); go_simp; try (with_reducible rfl))
          change wpAnyH _ _ _ _ _ _ _ (Act.put _ (some 128) _) _
          try simp only [Act.put, List.setIfInBounds_toArray, List.set_cons_zero, List.set_cons_succ]
          refine wpAnyH_take (i := 29) (v := ?_) rfl (by kernel_rfl) (by kernel_rfl) (by kernel_rfl) (fun _ _ _ h => h) (Or.inl ⟨by rfl, ?_⟩) (by assumption) ?_
          rotate_left
          · (intro w' hSw; (try dsimp only at hSw); go_simp; try (with_reducible rfl))
          change wpAnyH _ _ _ _ _ _ _ (Act.put _ (some 129) _) _
          try simp only [Act.put, List.setIfInBounds_toArray, List.set_cons_zero, List.set_cons_succ]
          refine wpAnyH_take (i := 30) (v := ?_) rfl (by kernel_rfl) (by kernel_rfl) (by kernel_rfl) (fun _ _ _ h => h) (Or.inl ⟨by rfl, ?_⟩) (by assumption) ?_
          rotate_left
          · (intro w' hSw; (try dsimp only at hSw); go_simp; try (with_reducible rfl))
          change wpAnyH _ _ _ _ _ _ _ (Act.put _ (some 130) _) _
          try simp only [Act.put, List.setIfInBounds_toArray, List.set_cons_zero, List.set_cons_succ]
          refine wpAnyH_take (i := 31) (v := ?_) rfl (by kernel_rfl) (by kernel_rfl) (by kernel_rfl) (fun _ _ _ h => h) (Or.inl ⟨by rfl, ?_⟩) (by assumption) ?_
          rotate_left
          · (intro w' hSw; (try dsimp only at hSw); go_simp; try (with_reducible rfl))
          change wpAnyH _ _ _ _ _ _ _ (Act.put _ (some 131) _) _
          try simp only [Act.put, List.setIfInBounds_toArray, List.set_cons_zero, List.set_cons_succ]
          refine wpAnyH_done (by kernel_rfl) ?_ _
          go_wp2
          go_roundw
          case rel => exact ⟨j + 1, by omega, by first | rfl | (congr 1; omega), ext_trans HBJ.out hHeld⟩
          case measure => simp [intOf]; omega
    · clear hi
      go_wp2
      go_ret
      exact ⟨rfl, HW.out⟩
end Go.Proofs.YtommldonooicjaaDoor
