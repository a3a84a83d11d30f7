/-
  What is proved here: the drawn numbers (DrawNumVal, DrawFixText) and DecRead at texts that are numbers. Conditions: sizes; 'Mx' speaks of the library's MaxLen.
-/
import Derived.Test.YtomcoilmpkpoeaaGreatDoorVCurDec
import Derived.Test.YtomcoilmpkpoeaaGreatDoorVReadI
import Derived.Test.YtomcoilmpkpoeaaGreatDoorVE
namespace Go.Proofs.YtomcoilmpkpoeaaGreatDoor
open Go.RowKit
set_option linter.unusedVariables false
set_option linter.unusedSimpArgs false

set_option maxHeartbeats 1000000 in
set_option maxRecDepth 100000 in
theorem drawNumVal {v : Value} {c : List UInt8} (w : World) (h : Rd.rd (Old w) w [v] c) (hn : c.length ≤ 1048576) :
    Calls Tryz.prog 12 #[v] w fun e w' => DecE e ∧ Below w.heap.size w w' := by
  obtain ⟨a, cap, rfl, h1, h2, hc⟩ := rdBytes h
  have e0 := ext_alloc w (.cells #[.bool false, .string ⟨#[]⟩, .int .i64 0] 36)
  have CO := curOpen (a := a) (cap := cap) (w.alloc (.cells #[.bool false, .string ⟨#[]⟩, .int .i64 0] 36)) hn (fun h0 => by
    obtain ⟨g, off, ha, hg, hx⟩ := hc h0
    exact ⟨g, off, ha, Nat.lt_of_lt_of_le hg e0.size, fun i hi => let ⟨x, hx1, hx2⟩ := hx i hi; ⟨x, hx1, keeps_cells e0 _ _ hx2⟩⟩)
  have hD0 := dbox_new w false ⟨#[]⟩ 0
  have hsz : (w.alloc (.cells #[.bool false, .string ⟨#[]⟩, .int .i64 0] 36)).heap.size = w.heap.size + 1 := by simp
  rw [hsz] at CO
  have CO2 := hid CO
  clear hc h h1 h2 CO
  go_enter Tryz.func12, Tryz.ntmps12
  go_wp2_with fail
  refine CO2.out.mono ?_
  rintro e w1 ⟨rfl, hc1, hb1⟩
  have hB1 := e0.trans (hb1.mono (Nat.le_succ _))
  have D1 := hD0.later (by rw [hsz]; exact hb1)
  have hlt := hc1.lt
  clear hb1 e0 hsz
  go_wp2_with fail
  refine (curDec _ hc1 (by omega)).mono ?_
  rintro e w2 ⟨⟨rn, rg, re, rfl, hr1, hr2, hr3⟩, k, hk, hc2, hg2⟩
  have hB2 : Below w.heap.size w w2 := hB1.grown hg2 hB1.size (fun q hq => by cases hq; omega)
  obtain ⟨⟨y0, y1, y2⟩, ⟨z0, z1, z2⟩, hl⟩ := D1.grown hg2 (by omega)
  clear D1 hB1 hg2 hc1 hc2 hD0
  go_wp2
  refine bodyPost_ret (v := .agg #[.bool rn, .string rg, .int .i64 re]) (by simp [results, Tryz.results12, go_sem, y0, y1, y2, z0, z1, z2, hl]) rfl ⟨⟨rn, rg, re, rfl, hr1, hr2, hr3⟩, ?_⟩
  repeat' (first | (with_reducible exact hB2) | (with_reducible refine Below.setCell ?_ ?_ _) | (simp; done) | (simp; omega) | omega)
set_option maxHeartbeats 4000000 in
set_option maxRecDepth 100000 in
theorem drawFixText {v : Value} {c : List UInt8} (w : World) (h : Rd.rd (Old w) w [v] c) (hn : c.length ≤ 1048576) :
    Calls Tryz.prog 21 #[v] w fun e w' => ∃ (neg : Bool) (dig : ByteArray) (exp pl : Int), e = .returned (.tuple #[.agg #[.bool neg, .string dig, .int .i64 exp], .int .i64 pl]) ∧ dig.size ≤ 100 ∧ (-9223372036854775808 ≤ exp ∧ exp ≤ 9223372036854775807) ∧ (-9223372036854775808 ≤ pl ∧ pl ≤ 9223372036854775807) ∧ Below w.heap.size w w' := by
  obtain ⟨a, cap, rfl, h1, h2, hc⟩ := rdBytes h
  have e0 := ext_alloc w (.cells #[.bool false, .string ⟨#[]⟩, .int .i64 0] 36)
  have CO := curOpen (a := a) (cap := cap) (w.alloc (.cells #[.bool false, .string ⟨#[]⟩, .int .i64 0] 36)) hn (fun h0 => by
    obtain ⟨g, off, ha, hg, hx⟩ := hc h0
    exact ⟨g, off, ha, Nat.lt_of_lt_of_le hg e0.size, fun i hi => let ⟨x, hx1, hx2⟩ := hx i hi; ⟨x, hx1, keeps_cells e0 _ _ hx2⟩⟩)
  have hD0 := dbox_new w false ⟨#[]⟩ 0
  have hsz : (w.alloc (.cells #[.bool false, .string ⟨#[]⟩, .int .i64 0] 36)).heap.size = w.heap.size + 1 := by simp
  rw [hsz] at CO
  have CO2 := hid CO
  clear hc h h1 h2 CO
  go_enter Tryz.func21, Tryz.ntmps21
  go_wp2_with fail
  refine CO2.out.mono ?_
  rintro e w1 ⟨rfl, hc1, hb1⟩
  have hB1 := e0.trans (hb1.mono (Nat.le_succ _))
  have D1 := hD0.later (by rw [hsz]; exact hb1)
  have hlt := hc1.lt
  clear hb1 e0 hsz
  go_wp2_with fail
  refine (curDec _ hc1 (by omega)).mono ?_
  rintro e w2 ⟨⟨rn, rg, re, rfl, hr1, hr2, hr3⟩, k, hk, hc2, hg2⟩
  have hB2 : Below w.heap.size w w2 := hB1.grown hg2 hB1.size (fun q hq => by cases hq; omega)
  have D2 := D1.grown hg2 (by omega)
  have A3 := dbox_new w2 rn rg re
  have e3 := ext_alloc w2 (.cells #[.bool rn, .string rg, .int .i64 re] 36)
  have D3 := D2.later e3
  have hB3 := ext_trans hB2 e3
  have hc3 := hc2.alloc (.cells #[.bool rn, .string rg, .int .i64 re] 36)
  have hlt2 := hc2.lt
  have hl2 := D2.2.2
  clear D1 hB1 hg2 hc1 hc2 hD0 e3 D2
  go_wp2_with fail
  refine (curOnce 6 _ hc3 (by omega) (by omega) (by omega)).mono ?_
  rintro e w4 ⟨b, rfl, k4, hk4, hc4, hg4⟩
  have hB4 : Below w.heap.size w w4 := hB3.grown hg4 hB3.size (fun q hq => by cases hq; omega)
  have D4 := D3.grown hg4 (by omega)
  have A4 := A3.grown hg4 (by omega)
  clear D3 A3 hB3 hc3 hg4
  obtain ⟨⟨y0, y1, y2⟩, ⟨z0, z1, z2⟩, hl⟩ := D4
  obtain ⟨⟨a0, a1, a2⟩, ⟨b0, b1, b2⟩, hla⟩ := A4
  cases b with
  | true =>
    go_upto_region 4 with fail
    refine wp_region_held_drew (S := fun w' => w'.cell? ⟨w2.heap.size, 0, none⟩ = some (.bool rn) ∧ w'.cell? ⟨w2.heap.size, 1, none⟩ = some (.string rg) ∧ w'.cell? ⟨w2.heap.size, 2, none⟩ = some (.int .i64 re)) (by kernel_rfl) ?_ (fun hHeld => ?_)
    · exact ⟨a0, a1, a2⟩
    refine wpAnyH_take (i := 0) (v := ?_) rfl (by kernel_rfl) (by kernel_rfl) (by kernel_rfl) (fun _ _ _ h => h) (Or.inl ⟨by rfl, ?_⟩) (by assumption) ?_
    rotate_left
    · (intro w' hSw; (try dsimp only at hSw); go_simp; try (with_reducible rfl))
    change wpAnyH _ _ _ _ _ _ _ (Act.put _ (some 12) _) _
    try simp only [Act.put, List.setIfInBounds_toArray, List.set_cons_zero, List.set_cons_succ]
    refine wpAnyH_take (i := 1) (v := ?_) rfl (by kernel_rfl) (by kernel_rfl) (by kernel_rfl) (fun _ _ _ h => h) (Or.inl ⟨by rfl, ?_⟩) (by assumption) ?_
    rotate_left
    · (intro w' hSw; (try dsimp only at hSw); go_simp; try (with_reducible rfl))
    change wpAnyH _ _ _ _ _ _ _ (Act.put _ (some 13) _) _
    try simp only [Act.put, List.setIfInBounds_toArray, List.set_cons_zero, List.set_cons_succ]
    refine wpAnyH_ready (rs := [2]) (by kernel_rfl) (by simp) ?_
    refine AllReadyH.cons (i := 2) rfl (fun K hK => ?_) AllReadyH.nil
    simp only [List.getElem_toArray, List.getElem_cons_succ, List.getElem_cons_zero]
    rw [if_pos (by rfl)]
    go_simp
    (go_at_call 53; refine (curRaw _ hc4.drew (by omega)).mono ?_; rintro e' w5 ⟨r, rfl, hr, k5, hk5, hc5, hg5⟩; obtain ⟨⟨u0, u1, u2⟩, ⟨v0, v1, v2⟩, hl5⟩ := (show DBox w4.drew w.heap.size false ⟨#[]⟩ 0 from ⟨⟨y0, y1, y2⟩, ⟨z0, z1, z2⟩, hl⟩).grown hg5 (by omega); go_wp2_with fail)
    have hOld := hHeld
    clear hHeld
    refine hK.out _ _ ?_ (fun hHeld => ?_)
    · (try dsimp only); first | exact ⟨hg5.cell hOld.1 (fun e => absurd (show w2.heap.size = w.heap.size + 1 from Option.some.inj e) (by omega)), hg5.cell hOld.2.1 (fun e => absurd (show w2.heap.size = w.heap.size + 1 from Option.some.inj e) (by omega)), hg5.cell hOld.2.2 (fun e => absurd (show w2.heap.size = w.heap.size + 1 from Option.some.inj e) (by omega))⟩ | (obtain ⟨o1, o2, o3⟩ := hOld; refine ⟨?_, ?_, ?_⟩ <;> go_simp)
    clear hK K hOld
    try simp only [Act.put, List.setIfInBounds_toArray, List.set_cons_zero, List.set_cons_succ]
    refine wpAnyH_ready (rs := [3]) (by kernel_rfl) (by simp) ?_
    refine AllReadyH.cons (i := 3) rfl (fun K hK => ?_) AllReadyH.nil
    simp only [List.getElem_toArray, List.getElem_cons_succ, List.getElem_cons_zero]
    rw [if_pos (by rfl)]
    go_simp
    have hOld := hHeld
    clear hHeld
    refine hK.out _ _ ?_ (fun hHeld => ?_)
    · (try dsimp only); first | exact ⟨hg5.cell hOld.1 (fun e => absurd (show w2.heap.size = w.heap.size + 1 from Option.some.inj e) (by omega)), hg5.cell hOld.2.1 (fun e => absurd (show w2.heap.size = w.heap.size + 1 from Option.some.inj e) (by omega)), hg5.cell hOld.2.2 (fun e => absurd (show w2.heap.size = w.heap.size + 1 from Option.some.inj e) (by omega))⟩ | (obtain ⟨o1, o2, o3⟩ := hOld; refine ⟨?_, ?_, ?_⟩ <;> go_simp)
    clear hK K hOld
    try simp only [Act.put, List.setIfInBounds_toArray, List.set_cons_zero, List.set_cons_succ]
    refine wpAnyH_take (i := 4) (v := ?_) rfl (by kernel_rfl) (by kernel_rfl) (by kernel_rfl) (fun _ _ _ h => h) (Or.inl ⟨by rfl, ?_⟩) (by assumption) ?_
    rotate_left
    · (intro w' hSw; (try dsimp only at hSw); go_simp; try (with_reducible rfl))
    change wpAnyH _ _ _ _ _ _ _ (Act.put _ (some 3) _) _
    try simp only [Act.put, List.setIfInBounds_toArray, List.set_cons_zero, List.set_cons_succ]
    refine wpAnyH_done (by kernel_rfl) ?_ _
    clear hHeld
    have hB5 : Below w.heap.size w w5 := (Below.drew hB4).grown hg5 (by have := hB4.size; exact this) (fun q hq => by cases hq; omega)
    go_wp2
    refine bodyPost_ret (v := .tuple #[.agg #[.bool rn, .string rg, .int .i64 re], .int .i64 r]) (by simp [results, Tryz.results21, go_sem, u0, u1, u2, v0, v1, v2, hl5]) rfl ⟨rn, rg, re, r, rfl, hr1, ⟨hr2, hr3⟩, hr, ?_⟩
    repeat' (first | (with_reducible exact hB5) | (with_reducible refine Below.setCell ?_ ?_ _) | (simp; done) | (simp; omega) | omega)
  | false =>
    go_upto_region 5 with fail
    refine wp_region_held_drew (S := fun w' => w'.cell? ⟨w2.heap.size, 0, none⟩ = some (.bool rn) ∧ w'.cell? ⟨w2.heap.size, 1, none⟩ = some (.string rg) ∧ w'.cell? ⟨w2.heap.size, 2, none⟩ = some (.int .i64 re)) (by kernel_rfl) ?_ (fun hHeld => ?_)
    · exact ⟨a0, a1, a2⟩
    refine wpAnyH_take (i := 0) (v := ?_) rfl (by kernel_rfl) (by kernel_rfl) (by kernel_rfl) (fun _ _ _ h => h) (Or.inl ⟨by rfl, ?_⟩) (by assumption) ?_
    rotate_left
    · (intro w' hSw; (try dsimp only at hSw); go_simp; try (with_reducible rfl))
    change wpAnyH _ _ _ _ _ _ _ (Act.put _ (some 15) _) _
    try simp only [Act.put, List.setIfInBounds_toArray, List.set_cons_zero, List.set_cons_succ]
    refine wpAnyH_take (i := 1) (v := ?_) rfl (by kernel_rfl) (by kernel_rfl) (by kernel_rfl) (fun _ _ _ h => h) (Or.inl ⟨by rfl, ?_⟩) (by assumption) ?_
    rotate_left
    · (intro w' hSw; (try dsimp only at hSw); go_simp; try (with_reducible rfl))
    change wpAnyH _ _ _ _ _ _ _ (Act.put _ (some 16) _) _
    try simp only [Act.put, List.setIfInBounds_toArray, List.set_cons_zero, List.set_cons_succ]
    refine wpAnyH_ready (rs := [2]) (by kernel_rfl) (by simp) ?_
    refine AllReadyH.cons (i := 2) rfl (fun K hK => ?_) AllReadyH.nil
    simp only [List.getElem_toArray, List.getElem_cons_succ, List.getElem_cons_zero]
    rw [if_pos (by rfl)]
    go_simp
    (go_at_call 54; refine (curPick 8 _ hc4.drew (by omega) (by omega)).mono ?_; rintro e' w5 ⟨r, rfl, hr, k5, hk5, hc5, hg5⟩; obtain ⟨⟨u0, u1, u2⟩, ⟨v0, v1, v2⟩, hl5⟩ := (show DBox w4.drew w.heap.size false ⟨#[]⟩ 0 from ⟨⟨y0, y1, y2⟩, ⟨z0, z1, z2⟩, hl⟩).grown hg5 (by omega); go_wp2_with fail)
    have hOld := hHeld
    clear hHeld
    refine hK.out _ _ ?_ (fun hHeld => ?_)
    · (try dsimp only); first | exact ⟨hg5.cell hOld.1 (fun e => absurd (show w2.heap.size = w.heap.size + 1 from Option.some.inj e) (by omega)), hg5.cell hOld.2.1 (fun e => absurd (show w2.heap.size = w.heap.size + 1 from Option.some.inj e) (by omega)), hg5.cell hOld.2.2 (fun e => absurd (show w2.heap.size = w.heap.size + 1 from Option.some.inj e) (by omega))⟩ | (obtain ⟨o1, o2, o3⟩ := hOld; refine ⟨?_, ?_, ?_⟩ <;> go_simp)
    clear hK K hOld
    try simp only [Act.put, List.setIfInBounds_toArray, List.set_cons_zero, List.set_cons_succ]
    refine wpAnyH_ready (rs := [3]) (by kernel_rfl) (by simp) ?_
    refine AllReadyH.cons (i := 3) rfl (fun K hK => ?_) AllReadyH.nil
    simp only [List.getElem_toArray, List.getElem_cons_succ, List.getElem_cons_zero]
    rw [if_pos (by rfl)]
    go_simp
    have hOld := hHeld
    clear hHeld
    refine hK.out _ _ ?_ (fun hHeld => ?_)
    · (try dsimp only); first | exact ⟨hg5.cell hOld.1 (fun e => absurd (show w2.heap.size = w.heap.size + 1 from Option.some.inj e) (by omega)), hg5.cell hOld.2.1 (fun e => absurd (show w2.heap.size = w.heap.size + 1 from Option.some.inj e) (by omega)), hg5.cell hOld.2.2 (fun e => absurd (show w2.heap.size = w.heap.size + 1 from Option.some.inj e) (by omega))⟩ | (obtain ⟨o1, o2, o3⟩ := hOld; refine ⟨?_, ?_, ?_⟩ <;> go_simp)
    clear hK K hOld
    try simp only [Act.put, List.setIfInBounds_toArray, List.set_cons_zero, List.set_cons_succ]
    refine wpAnyH_take (i := 4) (v := ?_) rfl (by kernel_rfl) (by kernel_rfl) (by kernel_rfl) (fun _ _ _ h => h) (Or.inl ⟨by rfl, ?_⟩) (by assumption) ?_
    rotate_left
    · (intro w' hSw; (try dsimp only at hSw); go_simp; try (with_reducible rfl))
    change wpAnyH _ _ _ _ _ _ _ (Act.put _ (some 3) _) _
    try simp only [Act.put, List.setIfInBounds_toArray, List.set_cons_zero, List.set_cons_succ]
    refine wpAnyH_done (by kernel_rfl) ?_ _
    clear hHeld
    have hB5 : Below w.heap.size w w5 := (Below.drew hB4).grown hg5 (by have := hB4.size; exact this) (fun q hq => by cases hq; omega)
    go_wp2
    refine bodyPost_ret (v := .tuple #[.agg #[.bool rn, .string rg, .int .i64 re], .int .i64 (r : Int)]) (by simp [results, Tryz.results21, go_sem, u0, u1, u2, v0, v1, v2, hl5]) rfl ⟨rn, rg, re, (r : Int), rfl, hr1, ⟨hr2, hr3⟩, (by omega), ?_⟩
    repeat' (first | (with_reducible exact hB5) | (with_reducible refine Below.setCell ?_ ?_ _) | (simp; done) | (simp; omega) | omega)
set_option maxHeartbeats 4000000 in
set_option maxRecDepth 100000 in
theorem implDecRead {sg A P B X : List UInt8} {x : Int} (s : ByteArray) (w : World) (hM : Mx w) (hs : s.data.toList = sg ++ (A ++ (P ++ (B ++ X)))) (hn : isNum sg A P B X) (hX : isExp X x) (hsz : s.size ≤ 1000) :
    Calls Tryz.prog 24 #[.string s] w fun e w' => e = .returned (formV (formD (decide (sg = [45])) (A ++ B) (x - (B.length : Int)))) ∧ Below w.heap.size w w' := by
  have e0 := ext_alloc w (.cells #[.bool false, .string ⟨#[]⟩, .int .i64 0] 36)
  have hD0 := dbox_new w false ⟨#[]⟩ 0
  have CE := hid (fun (w : World) => implDecEnd s w (by omega))
  have CR := hid (implRead s (w.alloc (.cells #[.bool false, .string ⟨#[]⟩, .int .i64 0] 36)) (mx_below hM e0) hs hn hX hsz)
  obtain ⟨R, hR⟩ : ∃ r, formD (decide (sg = [45])) (A ++ B) (x - (B.length : Int)) = r := ⟨_, rfl⟩
  rw [hR] at CR ⊢
  obtain ⟨⟨rn, rg, re⟩, rc⟩ := R
  have CR2 : Hid (Calls Tryz.prog 61 #[.string s] (w.alloc (.cells #[.bool false, .string ⟨#[]⟩, .int .i64 0] 36)) fun e w' => e = .returned (.tuple #[.agg #[.bool rn, .string rg, .int .i64 re], .int .i64 rc]) ∧ Below (w.alloc (.cells #[.bool false, .string ⟨#[]⟩, .int .i64 0] 36)).heap.size (w.alloc (.cells #[.bool false, .string ⟨#[]⟩, .int .i64 0] 36)) w') := CR
  have hsc : (scanL s.data.toList : Int) = (s.size : Int) := by rw [hs, scan_all hn hX, ← hs, ← Lib.size_eq]
  rw [hsc] at CE
  obtain ⟨c, r, hR2, _⟩ := body_head hn
  have hpos : 0 < s.size := by rw [Lib.size_eq, hs, hR2, List.length_append, List.length_cons]; omega
  have g1 : ¬ (1000 : Int) < (s.size : Int) := by omega
  have g2 : (s.toList == []) = false := by
    rw [beq_eq_false_iff_ne, Lib.toList_data, hs, hR2]; simp
  have g3 : s.toList.isEmpty = false := by rw [empty_size, decide_eq_false (by omega)]
  clear hs hn hX hR hR2 hsc CR
  go_enter Tryz.func24, Tryz.ntmps24
  go_wp2_with fail
  refine (CE.out _).mono ?_
  rintro e w1 ⟨rfl, rfl⟩
  go_wp2_with fail
  refine CR2.out.mono ?_
  rintro e w2 ⟨rfl, hb2⟩
  have hB2 := ext_trans e0 hb2
  obtain ⟨⟨y0, y1, y2⟩, ⟨z0, z1, z2⟩, hl⟩ := hD0.later hb2
  clear hb2 hD0 e0 CR2 CE
  go_wp2
  refine bodyPost_ret (v := .tuple #[.agg #[.bool rn, .string rg, .int .i64 re], .int .i64 rc]) (by simp [results, Tryz.results24, go_sem, y0, y1, y2, z0, z1, z2, hl]) rfl ⟨rfl, ?_⟩
  repeat' (first | (with_reducible exact hB2) | (with_reducible refine Below.setCell ?_ ?_ _) | (simp; done) | (simp; omega) | omega)
set_option maxHeartbeats 4000000 in
set_option maxRecDepth 100000 in
theorem specDecRead {sg A P B X : List UInt8} {x : Int} (s : ByteArray) (w : World) (hs : s.data.toList = sg ++ (A ++ (P ++ (B ++ X)))) (hn : isNum sg A P B X) (hX : isExp X x) (hsz : s.size ≤ 1000) :
    Calls Tryz.prog 26 #[.string s] w fun e w' => e = .returned (formV (formD (decide (sg = [45])) (A ++ B) (x - (B.length : Int)))) ∧ Below w.heap.size w w' := by
  have e0 := ext_alloc w (.cells #[.bool false, .string ⟨#[]⟩, .int .i64 0] 36)
  have hD0 := dbox_new w false ⟨#[]⟩ 0
  have CE := hid (fun (w : World) => specScan s 0 w (Nat.zero_le _) (by omega))
  have CR := hid (specRead s (w.alloc (.cells #[.bool false, .string ⟨#[]⟩, .int .i64 0] 36)) hs hn hX hsz)
  obtain ⟨R, hR⟩ : ∃ r, formD (decide (sg = [45])) (A ++ B) (x - (B.length : Int)) = r := ⟨_, rfl⟩
  rw [hR] at CR ⊢
  obtain ⟨⟨rn, rg, re⟩, rc⟩ := R
  have CR2 : Hid (Calls Tryz.prog 65 #[.string s] (w.alloc (.cells #[.bool false, .string ⟨#[]⟩, .int .i64 0] 36)) fun e w' => e = .returned (.tuple #[.agg #[.bool rn, .string rg, .int .i64 re], .int .i64 rc]) ∧ Below (w.alloc (.cells #[.bool false, .string ⟨#[]⟩, .int .i64 0] 36)).heap.size (w.alloc (.cells #[.bool false, .string ⟨#[]⟩, .int .i64 0] 36)) w') := CR
  have hsc : ((0 + scanL (s.data.toList.drop 0) : Nat) : Int) = (s.size : Int) := by rw [List.drop_zero, hs, scan_all hn hX, ← hs, ← Lib.size_eq, Nat.zero_add]
  rw [hsc] at CE
  have CE2 : Hid (∀ w : World, Calls Tryz.prog 64 #[.string s, .int .i64 0] w fun e w' => e = .returned (.int .i64 (s.size : Int)) ∧ w = w') := CE
  obtain ⟨c, r, hR2, _⟩ := body_head hn
  have hpos : 0 < s.size := by rw [Lib.size_eq, hs, hR2, List.length_append, List.length_cons]; omega
  have g1 : ¬ (1000 : Int) < (s.size : Int) := by omega
  have g2 : (s.toList == []) = false := by
    rw [beq_eq_false_iff_ne, Lib.toList_data, hs, hR2]; simp
  have g3 : s.toList.isEmpty = false := by rw [empty_size, decide_eq_false (by omega)]
  clear hs hn hX hR hR2 hsc CR CE
  go_enter Tryz.func26, Tryz.ntmps26
  go_wp2_with fail
  refine (CE2.out _).mono ?_
  rintro e w1 ⟨rfl, rfl⟩
  go_wp2_with fail
  refine CR2.out.mono ?_
  rintro e w2 ⟨rfl, hb2⟩
  have hB2 := ext_trans e0 hb2
  obtain ⟨⟨y0, y1, y2⟩, ⟨z0, z1, z2⟩, hl⟩ := hD0.later hb2
  clear hb2 hD0 e0 CR2 CE2
  go_wp2
  refine bodyPost_ret (v := .tuple #[.agg #[.bool rn, .string rg, .int .i64 re], .int .i64 rc]) (by simp [results, Tryz.results26, go_sem, y0, y1, y2, z0, z1, z2, hl]) rfl ⟨rfl, ?_⟩
  repeat' (first | (with_reducible exact hB2) | (with_reducible refine Below.setCell ?_ ?_ _) | (simp; done) | (simp; omega) | omega)
end Go.Proofs.YtomcoilmpkpoeaaGreatDoor
