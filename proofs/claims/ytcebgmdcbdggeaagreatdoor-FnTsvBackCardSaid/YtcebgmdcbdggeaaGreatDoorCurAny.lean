/-
  What is proved here: the drawing of a text, one in so many spoilt (any): the string that is returned is of a bounded size; nothing but the cursor's own block changes. No condition.
-/
import Derived.Test.YtcebgmdcbdggeaaGreatDoorCurT
import Derived.Lib.ConvBytes
import Derived.Laws.IdiomStrings
import Derived.Laws.Slices
namespace Go.Proofs.YtcebgmdcbdggeaaGreatDoor
open Go.RowKit
set_option linter.unusedVariables false
set_option linter.unusedSimpArgs false

theorem wpAnyH_lit_u8 {P : Program} {ops : Array Oper} {Q : Exit → Act → World → Prop} {md : Region.Mode} {S : World → Prop} {fuel : Nat} {listed : Array Bool} {a : Act} {w : World} {cs : Array Value} {e : TypeId} {r : Nat}
    (ha : cs.toList.all isU8 = true) (hr : r < cs.size) (h : ∀ x : Nat, x < 256 → (w.alloc (.cells cs e)).cell? ⟨w.heap.size, r, none⟩ = some (.int .u8 (x : Int)) → wpAnyH P md ops Q S fuel listed a (w.alloc (.cells cs e))) : wpAnyH P md ops Q S fuel listed a (w.alloc (.cells cs e)) := by
  obtain ⟨x, h1, h2⟩ := lit_u8 (heap_alloc_new w (.cells cs e)) ha hr
  exact h x h1 h2
theorem wpAnyH_cell {P : Program} {ops : Array Oper} {Q : Exit → Act → World → Prop} {md : Region.Mode} {S : World → Prop} {fuel : Nat} {listed : Array Bool} {a : Act} {w : World} {ad : Addr} {v : Value} (hc : w.cell? ad = some v) (hS : S w)
    (h : (S w ∧ w.cell? ad = some v) → wpAnyH P md ops Q (fun w' => S w' ∧ w'.cell? ad = some v) fuel listed a w) : wpAnyH P md ops Q S fuel listed a w :=
  wpAnyH_weaken (fun _ h => h.1) (h ⟨hS, hc⟩)
theorem wpAnyH_three {P : Program} {ops : Array Oper} {Q : Exit → Act → World → Prop} {md : Region.Mode} {S : World → Prop} {fuel : Nat} {listed : Array Bool} {a : Act} {w : World} {c0 c1 c2 : Value} {e : TypeId}
    (hS : S (w.alloc (.cells #[c0, c1, c2] e)))
    (h : (((S (w.alloc (.cells #[c0, c1, c2] e)) ∧ (w.alloc (.cells #[c0, c1, c2] e)).cell? ⟨w.heap.size, 0, none⟩ = some c0) ∧ (w.alloc (.cells #[c0, c1, c2] e)).cell? ⟨w.heap.size, 1, none⟩ = some c1) ∧ (w.alloc (.cells #[c0, c1, c2] e)).cell? ⟨w.heap.size, 2, none⟩ = some c2) →
      wpAnyH P md ops Q (fun w' => ((S w' ∧ w'.cell? ⟨w.heap.size, 0, none⟩ = some c0) ∧ w'.cell? ⟨w.heap.size, 1, none⟩ = some c1) ∧ w'.cell? ⟨w.heap.size, 2, none⟩ = some c2) fuel listed a (w.alloc (.cells #[c0, c1, c2] e))) : wpAnyH P md ops Q S fuel listed a (w.alloc (.cells #[c0, c1, c2] e)) :=
  wpAnyH_weaken (fun _ h => h.1.1.1) (h ⟨⟨⟨hS, cell_of_row _ _ 0 _ _ _ (heap_alloc_new w _)⟩, cell_of_row _ _ 1 _ _ _ (heap_alloc_new w _)⟩, cell_of_row _ _ 2 _ _ _ (heap_alloc_new w _)⟩)

def strOf : Value → ByteArray
  | .string t => t
  | _ => ⟨#[]⟩
theorem u8_in {n : Int} (h0 : 0 ≤ n) (h1 : n < 256) : IntKind.u8.wrap n = n := by simp [IntKind.wrap, IntKind.bits, IntKind.signed]; omega
theorem conv3 {P : Program} {src dst e : TypeId} (hs : P.underlying src = some (.slice e)) (he : P.underlying e = some (.int .u8)) (hd : P.underlying dst = some .string) (c0 c1 c2 : Int) (g0 : 0 ≤ c0 ∧ c0 < 256) (g1 : 0 ≤ c1 ∧ c1 < 256) (g2 : 0 ≤ c2 ∧ c2 < 256) :
    ∃ t1 t2 t3 : ByteArray, t1.size = 1 ∧ t2.size = 2 ∧ t3.size = 3 ∧ ∀ (b : Nat) (w' : World), w'.cell? ⟨b, 0, none⟩ = some (.int .u8 c0) → w'.cell? ⟨b, 1, none⟩ = some (.int .u8 c1) → w'.cell? ⟨b, 2, none⟩ = some (.int .u8 c2) →
      (convert src dst (.slice (some ⟨b, 0, none⟩) 1 3)).run P w' = .ok (.string t1) w' ∧ (convert src dst (.slice (some ⟨b, 0, none⟩) 2 3)).run P w' = .ok (.string t2) w' ∧ (convert src dst (.slice (some ⟨b, 0, none⟩) 3 3)).run P w' = .ok (.string t3) w' := by
  have u : ∀ c : Int, 0 ≤ c ∧ c < 256 → ((UInt8.ofNat c.toNat).toNat : Int) = c := fun c h => by rw [UInt8.toNat_ofNat']; omega
  refine ⟨⟨[UInt8.ofNat c0.toNat].toArray⟩, ⟨[UInt8.ofNat c0.toNat, UInt8.ofNat c1.toNat].toArray⟩, ⟨[UInt8.ofNat c0.toNat, UInt8.ofNat c1.toNat, UInt8.ofNat c2.toNat].toArray⟩, rfl, rfl, rfl, fun b w' h0 h1 h2 => ⟨?_, ?_, ?_⟩⟩
  · refine run_convert_bytes_back w' src dst e ⟨b, 0, none⟩ 3 [UInt8.ofNat c0.toNat] hs he hd (fun j hj => ?_)
    match j, hj with
    | 0, _ => show w'.cell? _ = some (.int .u8 ((UInt8.ofNat c0.toNat).toNat : Int)); rw [u c0 g0]; simpa [Addr.add_lit] using h0
  · refine run_convert_bytes_back w' src dst e ⟨b, 0, none⟩ 3 [UInt8.ofNat c0.toNat, UInt8.ofNat c1.toNat] hs he hd (fun j hj => ?_)
    match j, hj with
    | 0, _ => show w'.cell? _ = some (.int .u8 ((UInt8.ofNat c0.toNat).toNat : Int)); rw [u c0 g0]; simpa [Addr.add_lit] using h0
    | 1, _ => show w'.cell? _ = some (.int .u8 ((UInt8.ofNat c1.toNat).toNat : Int)); rw [u c1 g1]; simpa [Addr.add_lit] using h1
  · refine run_convert_bytes_back w' src dst e ⟨b, 0, none⟩ 3 [UInt8.ofNat c0.toNat, UInt8.ofNat c1.toNat, UInt8.ofNat c2.toNat] hs he hd (fun j hj => ?_)
    match j, hj with
    | 0, _ => show w'.cell? _ = some (.int .u8 ((UInt8.ofNat c0.toNat).toNat : Int)); rw [u c0 g0]; simpa [Addr.add_lit] using h0
    | 1, _ => show w'.cell? _ = some (.int .u8 ((UInt8.ofNat c1.toNat).toNat : Int)); rw [u c1 g1]; simpa [Addr.add_lit] using h1
    | 2, _ => show w'.cell? _ = some (.int .u8 ((UInt8.ofNat c2.toNat).toNat : Int)); rw [u c2 g2]; simpa [Addr.add_lit] using h2

theorem convN {P : Program} {src dst e : TypeId} (hs : P.underlying src = some (.slice e)) (he : P.underlying e = some (.int .u8)) (hd : P.underlying dst = some .string) {r : Nat} (hr : r < 3) (c0 c1 c2 : Int) (g0 : 0 ≤ c0 ∧ c0 < 256) (g1 : 0 ≤ c1 ∧ c1 < 256) (g2 : 0 ≤ c2 ∧ c2 < 256) :
    ∃ t : ByteArray, t.size = 1 + r ∧ ∀ (b : Nat) (w' : World), w'.cell? ⟨b, 0, none⟩ = some (.int .u8 c0) → w'.cell? ⟨b, 1, none⟩ = some (.int .u8 c1) → w'.cell? ⟨b, 2, none⟩ = some (.int .u8 c2) →
      (convert src dst (.slice (some ⟨b, 0, none⟩) (1 + r) 3)).run P w' = .ok (.string t) w' := by
  obtain ⟨t1, t2, t3, h1, h2, h3, hc⟩ := conv3 (P := P) hs he hd c0 c1 c2 g0 g1 g2
  have : r = 0 ∨ r = 1 ∨ r = 2 := by omega
  rcases this with rfl | rfl | rfl
  · exact ⟨t1, h1, fun b w' a0 a1 a2 => (hc b w' a0 a1 a2).1⟩
  · exact ⟨t2, h2, fun b w' a0 a1 a2 => (hc b w' a0 a1 a2).2.1⟩
  · exact ⟨t3, h3, fun b w' a0 a1 a2 => (hc b w' a0 a1 a2).2.2⟩

set_option maxHeartbeats 16000000 in
set_option maxRecDepth 100000 in
theorem curAny {B p k : Nat} (n : Nat) (w : World) (hc : Cur B w p k) (hk : k ≤ 800000000000) (hn : n ≤ 1000) :
    Calls Tryz.prog 27 #[.pointer (some ⟨p, 0, none⟩), .int .i64 (n : Int)] w fun e w' => ∃ s : ByteArray, e = .returned (.string s) ∧ s.size ≤ 3 * n + 1024 ∧ ∃ k', k' ≤ k + 6 + n ∧ Cur B w' p k' ∧ w.grownBy w' (some p) := by
  go_enter Tryz.func27, Tryz.ntmps27
  go_wp2_with fail
  refine (curWord n _ hc (by omega) hn).mono ?_
  rintro e w1 ⟨s, rfl, hs, k1, hk1, hc1, hg1⟩
  go_wp2_with fail
  refine (curPick 14 _ hc1 (by omega) (by omega)).mono ?_
  rintro e w2 ⟨r, rfl, hr, k2, hk2, hc_r, hg2⟩
  by_cases h0 : r = 0
  · subst h0
    go_wp2_with fail
    refine wp_region_held_drew (S := fun w' => True) (by kernel_rfl) ?_ (fun hHeld => ?_)
    · trivial
    refine wpAnyH_take (i := 0) (v := ?_) rfl (by kernel_rfl) (by kernel_rfl) (by kernel_rfl) (fun _ _ _ h => h) (Or.inl ⟨by rfl, ?_⟩) (by assumption) ?_
    rotate_left
    · (intro w' hSw; (try dsimp only at hSw); go_simp; try (with_reducible rfl))
    change wpAnyH _ _ _ _ _ _ _ (Act.put _ (some 14) _) _
    try simp only [Act.put, List.setIfInBounds_toArray, List.set_cons_zero, List.set_cons_succ]
    refine wpAnyH_take (i := 2) (v := ?_) rfl (by kernel_rfl) (by kernel_rfl) (by kernel_rfl) (fun _ _ _ h => h) (Or.inl ⟨by rfl, ?_⟩) (by assumption) ?_
    rotate_left
    · (intro w' hSw; (try dsimp only at hSw); go_simp; try (with_reducible rfl))
    change wpAnyH _ _ _ _ _ _ _ (Act.put _ (some 16) _) _
    try simp only [Act.put, List.setIfInBounds_toArray, List.set_cons_zero, List.set_cons_succ]
    refine wpAnyH_take (i := 6) (v := ?_) rfl (by kernel_rfl) (by kernel_rfl) (by kernel_rfl) (fun _ _ _ h => h) (Or.inl ⟨by rfl, ?_⟩) (by assumption) ?_
    rotate_left
    · (intro w' hSw; (try dsimp only at hSw); go_simp; try (with_reducible rfl))
    change wpAnyH _ _ _ _ _ _ _ (Act.put _ (some 20) _) _
    try simp only [Act.put, List.setIfInBounds_toArray, List.set_cons_zero, List.set_cons_succ]
    refine wpAnyH_take (i := 10) (v := ?_) rfl (by kernel_rfl) (by kernel_rfl) (by kernel_rfl) (fun _ _ _ h => h) (Or.inl ⟨by rfl, ?_⟩) (by assumption) ?_
    rotate_left
    · (intro w' hSw; (try dsimp only at hSw); go_simp; try (with_reducible rfl))
    change wpAnyH _ _ _ _ _ _ _ (Act.put _ (some 24) _) _
    try simp only [Act.put, List.setIfInBounds_toArray, List.set_cons_zero, List.set_cons_succ]
    refine wpAnyH_take (i := 15) (v := ?_) rfl (by kernel_rfl) (by kernel_rfl) (by kernel_rfl) (fun _ _ _ h => h) (Or.inl ⟨by rfl, ?_⟩) (by assumption) ?_
    rotate_left
    · (intro w' hSw; (try dsimp only at hSw); go_simp; try (with_reducible rfl))
    change wpAnyH _ _ _ _ _ _ _ (Act.put _ (some 29) _) _
    try simp only [Act.put, List.setIfInBounds_toArray, List.set_cons_zero, List.set_cons_succ]
    refine wpAnyH_ready (rs := [1, 3]) (by kernel_rfl) (by simp) ?_
    refine AllReadyH.cons (i := 1) rfl (fun K hK => ?_) ?_
    · simp only [List.getElem_toArray, List.getElem_cons_succ, List.getElem_cons_zero]
      rw [if_pos (by rfl)]
      go_simp
      have hb_1 := ((Cur.drew hc_r)).lt.2
      refine hK.out _ _ ?_ (fun hHeld => ?_)
      · first | trivial | ((try dsimp only); exact trivial)
      clear hK K
      try simp only [Act.put, List.setIfInBounds_toArray, List.set_cons_zero, List.set_cons_succ]
      refine wpAnyH_ready (rs := [3]) (by kernel_rfl) (by simp) ?_
      refine AllReadyH.cons (i := 3) rfl (fun K hK => ?_) AllReadyH.nil
      simp only [List.getElem_toArray, List.getElem_cons_succ, List.getElem_cons_zero]
      rw [if_pos (by rfl)]
      go_simp
      (go_at_call 24; refine (curPick 8 _ (Cur.alloc (Cur.drew hc_r) (.cells #[.int .u8 128, .int .u8 255, .int .u8 192, .int .u8 224, .int .u8 237, .int .u8 0, .int .u8 240, .int .u8 244] 5)) (by omega) (by omega)).mono ?_; rintro e w_3 ⟨r_3, rfl, hr_3, k_3, hk_3, hc_3, hg_3⟩; go_wp2_with fail)
      have hq_3 : (r_3 : Int) < 8 := by omega
      have hz_3 : (0 : Int) ≤ (r_3 : Int) := by omega
      refine hK.out _ _ ?_ (fun hHeld => ?_)
      · first | trivial | ((try dsimp only); exact trivial)
      clear hK K
      try simp only [Act.put, List.setIfInBounds_toArray, List.set_cons_zero, List.set_cons_succ]
      have hxc0 := lit_u8' (r := r_3) hg_3 hb_1 (by decide) (by show r_3 < 8; omega)
      dsimp only [World.drew, World.drewN] at hxc0
      obtain ⟨x, hx, hxc⟩ := hxc0
      refine wpAnyH_cell hxc hHeld ?_
      intro hHeld
      refine wpAnyH_take (i := 4) (v := ?_) rfl (by kernel_rfl) (by kernel_rfl) (by kernel_rfl) (fun _ _ _ h => h) (Or.inl ⟨by rfl, ?_⟩) (by assumption) ?_
      rotate_left
      · (intro w' hSw; (try dsimp only at hSw); go_simp; try (with_reducible rfl))
      change wpAnyH _ _ _ _ _ _ _ (Act.put _ (some 18) _) _
      try simp only [Act.put, List.setIfInBounds_toArray, List.set_cons_zero, List.set_cons_succ]
      refine wpAnyH_take (i := 5) (v := ?_) rfl (by kernel_rfl) (by kernel_rfl) (by kernel_rfl) (fun _ _ _ h => h) (Or.inl ⟨by rfl, ?_⟩) (by assumption) ?_
      rotate_left
      · (intro w' hSw; (try dsimp only at hSw); go_simp; try (with_reducible rfl))
      change wpAnyH _ _ _ _ _ _ _ (Act.put _ (some 19) _) _
      try simp only [Act.put, List.setIfInBounds_toArray, List.set_cons_zero, List.set_cons_succ]
      refine wpAnyH_ready (rs := [7]) (by kernel_rfl) (by simp) ?_
      refine AllReadyH.cons (i := 7) rfl (fun K hK => ?_) AllReadyH.nil
      simp only [List.getElem_toArray, List.getElem_cons_succ, List.getElem_cons_zero]
      rw [if_pos (by rfl)]
      go_simp
      (go_at_call 24; refine (curPick 64 _ hc_3 (by omega) (by omega)).mono ?_; rintro e w_7 ⟨r_7, rfl, hr_7, k_7, hk_7, hc_7, hg_7⟩; go_wp2_with fail)
      have hq_7 : (r_7 : Int) < 64 := by omega
      have hz_7 : (0 : Int) ≤ (r_7 : Int) := by omega
      have hw_7 : IntKind.i64.wrap (128 + (r_7 : Int)) = 128 + (r_7 : Int) := IntWalk.i64_in _ (by omega)
      have hv_7 : IntKind.u8.wrap (128 + (r_7 : Int)) = 128 + (r_7 : Int) := u8_in (by omega) (by omega)
      refine hK.out _ _ ?_ (fun hHeld => ?_)
      · first | trivial | ((try dsimp only); exact ⟨trivial, hg_7.cell hHeld.2 (fun e => absurd (Option.some.inj e) (Nat.ne_of_gt hb_1))⟩)
      clear hK K
      try simp only [Act.put, List.setIfInBounds_toArray, List.set_cons_zero, List.set_cons_succ]
      refine wpAnyH_take (i := 8) (v := ?_) rfl (by kernel_rfl) (by kernel_rfl) (by kernel_rfl) (fun _ _ _ h => h) (Or.inl ⟨by rfl, ?_⟩) (by assumption) ?_
      rotate_left
      · (intro w' hSw; (try dsimp only at hSw); go_simp; try (with_reducible rfl))
      change wpAnyH _ _ _ _ _ _ _ (Act.put _ (some 22) _) _
      try simp only [Act.put, List.setIfInBounds_toArray, List.set_cons_zero, List.set_cons_succ]
      refine wpAnyH_take (i := 9) (v := ?_) rfl (by kernel_rfl) (by kernel_rfl) (by kernel_rfl) (fun _ _ _ h => h) (Or.inl ⟨by rfl, ?_⟩) (by assumption) ?_
      rotate_left
      · (intro w' hSw; (try dsimp only at hSw); go_simp; try (with_reducible rfl))
      change wpAnyH _ _ _ _ _ _ _ (Act.put _ (some 23) _) _
      try simp only [Act.put, List.setIfInBounds_toArray, List.set_cons_zero, List.set_cons_succ]
      refine wpAnyH_ready (rs := [11]) (by kernel_rfl) (by simp) ?_
      refine AllReadyH.cons (i := 11) rfl (fun K hK => ?_) AllReadyH.nil
      simp only [List.getElem_toArray, List.getElem_cons_succ, List.getElem_cons_zero]
      rw [if_pos (by rfl)]
      go_simp
      (go_at_call 24; refine (curPick 64 _ hc_7 (by omega) (by omega)).mono ?_; rintro e w_11 ⟨r_11, rfl, hr_11, k_11, hk_11, hc_11, hg_11⟩; go_wp2_with fail)
      have hq_11 : (r_11 : Int) < 64 := by omega
      have hz_11 : (0 : Int) ≤ (r_11 : Int) := by omega
      have hw_11 : IntKind.i64.wrap (128 + (r_11 : Int)) = 128 + (r_11 : Int) := IntWalk.i64_in _ (by omega)
      have hv_11 : IntKind.u8.wrap (128 + (r_11 : Int)) = 128 + (r_11 : Int) := u8_in (by omega) (by omega)
      refine hK.out _ _ ?_ (fun hHeld => ?_)
      · first | trivial | ((try dsimp only); exact ⟨trivial, hg_11.cell hHeld.2 (fun e => absurd (Option.some.inj e) (Nat.ne_of_gt hb_1))⟩)
      clear hK K
      try simp only [Act.put, List.setIfInBounds_toArray, List.set_cons_zero, List.set_cons_succ]
      refine wpAnyH_take (i := 12) (v := ?_) rfl (by kernel_rfl) (by kernel_rfl) (by kernel_rfl) (fun _ _ _ h => h) (Or.inl ⟨by rfl, ?_⟩) (by assumption) ?_
      rotate_left
      · (intro w' hSw; (try dsimp only at hSw); go_simp; try (with_reducible rfl))
      change wpAnyH _ _ _ _ _ _ _ (Act.put _ (some 26) _) _
      try simp only [Act.put, List.setIfInBounds_toArray, List.set_cons_zero, List.set_cons_succ]
      refine wpAnyH_take (i := 13) (v := ?_) rfl (by kernel_rfl) (by kernel_rfl) (by kernel_rfl) (fun _ _ _ h => h) (Or.inl ⟨by rfl, ?_⟩) (by assumption) ?_
      rotate_left
      · (intro w' hSw; (try dsimp only at hSw); go_simp; try (with_reducible rfl))
      change wpAnyH _ _ _ _ _ _ _ (Act.put _ (some 27) _) _
      try simp only [Act.put, List.setIfInBounds_toArray, List.set_cons_zero, List.set_cons_succ]
      refine wpAnyH_ready (rs := [14, 16]) (by kernel_rfl) (by simp) ?_
      refine AllReadyH.cons (i := 14) rfl (fun K hK => ?_) ?_
      · simp only [List.getElem_toArray, List.getElem_cons_succ, List.getElem_cons_zero]
        rw [if_pos (by rfl)]
        go_simp
        have hb_14 := (hc_11).lt.2
        refine hK.out _ _ ?_ (fun hHeld => ?_)
        · first | trivial | ((try dsimp only); exact ⟨trivial, keeps_cells (ext_alloc _ _) _ _ hHeld.2⟩)
        clear hK K
        try simp only [Act.put, List.setIfInBounds_toArray, List.set_cons_zero, List.set_cons_succ]
        refine wpAnyH_three hHeld ?_
        intro hHeld
        refine wpAnyH_ready (rs := [16]) (by kernel_rfl) (by simp) ?_
        refine AllReadyH.cons (i := 16) rfl (fun K hK => ?_) AllReadyH.nil
        simp only [List.getElem_toArray, List.getElem_cons_succ, List.getElem_cons_zero]
        rw [if_pos (by rfl)]
        go_simp
        (go_at_call 24; refine (curPick 3 _ (Cur.alloc hc_11 _) (by omega) (by omega)).mono ?_; rintro e w_16 ⟨r_16, rfl, hr_16, k_16, hk_16, hc_16, hg_16⟩; go_wp2_with fail)
        have hq_16 : (r_16 : Int) < 3 := by omega
        have hz_16 : (0 : Int) ≤ (r_16 : Int) := by omega
        refine hK.out _ _ ?_ (fun hHeld => ?_)
        · first | trivial | ((try dsimp only); exact ⟨⟨⟨⟨trivial, hg_16.cell hHeld.1.1.1.2 (fun e => absurd (Option.some.inj e) (Nat.ne_of_gt hb_1))⟩, hg_16.cell hHeld.1.1.2 (fun e => absurd (Option.some.inj e) (Nat.ne_of_gt hb_14))⟩, hg_16.cell hHeld.1.2 (fun e => absurd (Option.some.inj e) (Nat.ne_of_gt hb_14))⟩, hg_16.cell hHeld.2 (fun e => absurd (Option.some.inj e) (Nat.ne_of_gt hb_14))⟩)
        clear hK K
        try simp only [Act.put, List.setIfInBounds_toArray, List.set_cons_zero, List.set_cons_succ]
        have hw_16 : IntKind.i64.wrap (1 + (r_16 : Int)) = 1 + (r_16 : Int) := IntWalk.i64_in _ (by omega)
        have hb0_16 : (0 : Int) ≤ 1 + (r_16 : Int) := by omega
        have hb1_16 : 1 + (r_16 : Int) ≤ 3 := by omega
        have hn_16 : (1 + (r_16 : Int)).toNat = 1 + r_16 := by omega
        obtain ⟨t1, ht1, hconv⟩ := convN (P := Tryz.prog) (src := 22) (dst := 9) (e := 5) rfl rfl rfl (r := r_16) (by omega) (x : Int) (128 + (r_7 : Int)) (128 + (r_11 : Int)) (by omega) (by omega) (by omega)
        have hsz1 : ¬ 9223372036854775807 < s.size + t1.size := by omega
        have HT1 := hid ht1
        clear ht1
        refine wpAnyH_take (i := 17) (v := ?_) rfl (by kernel_rfl) (by kernel_rfl) (by kernel_rfl) (fun _ _ _ h => h) (Or.inl ⟨by rfl, ?_⟩) (by assumption) ?_
        rotate_left
        · (intro w' hSw; (try dsimp only at hSw); go_simp; try (with_reducible rfl))
        change wpAnyH _ _ _ _ _ _ _ (Act.put _ (some 31) _) _
        try simp only [Act.put, List.setIfInBounds_toArray, List.set_cons_zero, List.set_cons_succ]
        refine wpAnyH_take (i := 18) (v := ?_) rfl (by kernel_rfl) (by kernel_rfl) (by kernel_rfl) (fun _ _ _ h => h) (Or.inl ⟨by rfl, ?_⟩) (by assumption) ?_
        rotate_left
        · (intro w' hSw; (try dsimp only at hSw); go_simp; try (with_reducible rfl))
        change wpAnyH _ _ _ _ _ _ _ (Act.put _ (some 32) _) _
        try simp only [Act.put, List.setIfInBounds_toArray, List.set_cons_zero, List.set_cons_succ]
        refine wpAnyH_take (i := 19) (v := ?_) rfl (by kernel_rfl) (by kernel_rfl) (by kernel_rfl) (fun _ _ _ h => h) (Or.inl ⟨by rfl, ?_⟩) (by assumption) ?_
        rotate_left
        · (intro w' hSw; (try dsimp only at hSw); have hcv := hconv _ w' hSw.1.1.2 hSw.1.2 hSw.2; (try simp only [World.size_alloc] at hcv); go_simp; try (with_reducible rfl))
        change wpAnyH _ _ _ _ _ _ _ (Act.put _ (some 33) _) _
        try simp only [Act.put, List.setIfInBounds_toArray, List.set_cons_zero, List.set_cons_succ]
        refine wpAnyH_take (i := 20) (v := ?_) rfl (by kernel_rfl) (by kernel_rfl) (by kernel_rfl) (fun _ _ _ h => h) (Or.inl ⟨by rfl, ?_⟩) (by assumption) ?_
        rotate_left
        · (intro w' hSw; (try dsimp only at hSw); go_simp; try (with_reducible rfl))
        change wpAnyH _ _ _ _ _ _ _ (Act.put _ (some 34) _) _
        try simp only [Act.put, List.setIfInBounds_toArray, List.set_cons_zero, List.set_cons_succ]
        refine wpAnyH_take (i := 21) (v := ?_) rfl (by kernel_rfl) (by kernel_rfl) (by kernel_rfl) (fun _ _ _ h => h) (Or.inl ⟨by rfl, ?_⟩) (by assumption) ?_
        rotate_left
        · (intro w' hSw; (try dsimp only at hSw); go_simp; try (with_reducible rfl))
        change wpAnyH _ _ _ _ _ _ _ (Act.put _ (some 4) _) _
        try simp only [Act.put, List.setIfInBounds_toArray, List.set_cons_zero, List.set_cons_succ]
        refine wpAnyH_done (by kernel_rfl) ?_ _
        go_wp2
        go_ret
        refine ⟨_, rfl, ?_, k_16, by omega, hc_16, grown_trans (grown_alloc (grown_trans (grown_trans (grown_trans (grown_alloc (grown_drew (grown_trans hg1 hg2)) _) hg_3) hg_7) hg_11) _) hg_16⟩
        rw [ByteArray.size_append]
        have := HT1.out
        omega
      refine AllReadyH.cons (i := 16) rfl (fun K hK => ?_) ?_
      · simp only [List.getElem_toArray, List.getElem_cons_succ, List.getElem_cons_zero]
        rw [if_pos (by rfl)]
        go_simp
        (go_at_call 24; refine (curPick 3 _ hc_11 (by omega) (by omega)).mono ?_; rintro e w_16 ⟨r_16, rfl, hr_16, k_16, hk_16, hc_16, hg_16⟩; go_wp2_with fail)
        have hq_16 : (r_16 : Int) < 3 := by omega
        have hz_16 : (0 : Int) ≤ (r_16 : Int) := by omega
        refine hK.out _ _ ?_ (fun hHeld => ?_)
        · first | trivial | ((try dsimp only); exact ⟨trivial, hg_16.cell hHeld.2 (fun e => absurd (Option.some.inj e) (Nat.ne_of_gt hb_1))⟩)
        clear hK K
        try simp only [Act.put, List.setIfInBounds_toArray, List.set_cons_zero, List.set_cons_succ]
        refine wpAnyH_take (i := 17) (v := ?_) rfl (by kernel_rfl) (by kernel_rfl) (by kernel_rfl) (fun _ _ _ h => h) (Or.inl ⟨by rfl, ?_⟩) (by assumption) ?_
        rotate_left
        · (intro w' hSw; (try dsimp only at hSw); go_simp; try (with_reducible rfl))
        change wpAnyH _ _ _ _ _ _ _ (Act.put _ (some 31) _) _
        try simp only [Act.put, List.setIfInBounds_toArray, List.set_cons_zero, List.set_cons_succ]
        refine wpAnyH_ready (rs := [14]) (by kernel_rfl) (by simp) ?_
        refine AllReadyH.cons (i := 14) rfl (fun K hK => ?_) AllReadyH.nil
        simp only [List.getElem_toArray, List.getElem_cons_succ, List.getElem_cons_zero]
        rw [if_pos (by rfl)]
        go_simp
        have hb_14 := (hc_16).lt.2
        refine hK.out _ _ ?_ (fun hHeld => ?_)
        · first | trivial | ((try dsimp only); exact ⟨trivial, keeps_cells (ext_alloc _ _) _ _ hHeld.2⟩)
        clear hK K
        try simp only [Act.put, List.setIfInBounds_toArray, List.set_cons_zero, List.set_cons_succ]
        refine wpAnyH_three hHeld ?_
        intro hHeld
        have hw_16 : IntKind.i64.wrap (1 + (r_16 : Int)) = 1 + (r_16 : Int) := IntWalk.i64_in _ (by omega)
        have hb0_16 : (0 : Int) ≤ 1 + (r_16 : Int) := by omega
        have hb1_16 : 1 + (r_16 : Int) ≤ 3 := by omega
        have hn_16 : (1 + (r_16 : Int)).toNat = 1 + r_16 := by omega
        obtain ⟨t1, ht1, hconv⟩ := convN (P := Tryz.prog) (src := 22) (dst := 9) (e := 5) rfl rfl rfl (r := r_16) (by omega) (x : Int) (128 + (r_7 : Int)) (128 + (r_11 : Int)) (by omega) (by omega) (by omega)
        have hsz1 : ¬ 9223372036854775807 < s.size + t1.size := by omega
        have HT1 := hid ht1
        clear ht1
        refine wpAnyH_take (i := 18) (v := ?_) rfl (by kernel_rfl) (by kernel_rfl) (by kernel_rfl) (fun _ _ _ h => h) (Or.inl ⟨by rfl, ?_⟩) (by assumption) ?_
        rotate_left
        · (intro w' hSw; (try dsimp only at hSw); go_simp; try (with_reducible rfl))
        change wpAnyH _ _ _ _ _ _ _ (Act.put _ (some 32) _) _
        try simp only [Act.put, List.setIfInBounds_toArray, List.set_cons_zero, List.set_cons_succ]
        refine wpAnyH_take (i := 19) (v := ?_) rfl (by kernel_rfl) (by kernel_rfl) (by kernel_rfl) (fun _ _ _ h => h) (Or.inl ⟨by rfl, ?_⟩) (by assumption) ?_
        rotate_left
        · (intro w' hSw; (try dsimp only at hSw); have hcv := hconv _ w' hSw.1.1.2 hSw.1.2 hSw.2; (try simp only [World.size_alloc] at hcv); go_simp; try (with_reducible rfl))
        change wpAnyH _ _ _ _ _ _ _ (Act.put _ (some 33) _) _
        try simp only [Act.put, List.setIfInBounds_toArray, List.set_cons_zero, List.set_cons_succ]
        refine wpAnyH_take (i := 20) (v := ?_) rfl (by kernel_rfl) (by kernel_rfl) (by kernel_rfl) (fun _ _ _ h => h) (Or.inl ⟨by rfl, ?_⟩) (by assumption) ?_
        rotate_left
        · (intro w' hSw; (try dsimp only at hSw); go_simp; try (with_reducible rfl))
        change wpAnyH _ _ _ _ _ _ _ (Act.put _ (some 34) _) _
        try simp only [Act.put, List.setIfInBounds_toArray, List.set_cons_zero, List.set_cons_succ]
        refine wpAnyH_take (i := 21) (v := ?_) rfl (by kernel_rfl) (by kernel_rfl) (by kernel_rfl) (fun _ _ _ h => h) (Or.inl ⟨by rfl, ?_⟩) (by assumption) ?_
        rotate_left
        · (intro w' hSw; (try dsimp only at hSw); go_simp; try (with_reducible rfl))
        change wpAnyH _ _ _ _ _ _ _ (Act.put _ (some 4) _) _
        try simp only [Act.put, List.setIfInBounds_toArray, List.set_cons_zero, List.set_cons_succ]
        refine wpAnyH_done (by kernel_rfl) ?_ _
        go_wp2
        go_ret
        refine ⟨_, rfl, ?_, k_16, by omega, (Cur.alloc hc_16 _), grown_alloc (grown_trans (grown_trans (grown_trans (grown_trans (grown_alloc (grown_drew (grown_trans hg1 hg2)) _) hg_3) hg_7) hg_11) hg_16) _⟩
        rw [ByteArray.size_append]
        have := HT1.out
        omega
      exact AllReadyH.nil
    refine AllReadyH.cons (i := 3) rfl (fun K hK => ?_) ?_
    · simp only [List.getElem_toArray, List.getElem_cons_succ, List.getElem_cons_zero]
      rw [if_pos (by rfl)]
      go_simp
      (go_at_call 24; refine (curPick 8 _ (Cur.drew hc_r) (by omega) (by omega)).mono ?_; rintro e w_3 ⟨r_3, rfl, hr_3, k_3, hk_3, hc_3, hg_3⟩; go_wp2_with fail)
      have hq_3 : (r_3 : Int) < 8 := by omega
      have hz_3 : (0 : Int) ≤ (r_3 : Int) := by omega
      refine hK.out _ _ ?_ (fun hHeld => ?_)
      · first | trivial | ((try dsimp only); exact trivial)
      clear hK K
      try simp only [Act.put, List.setIfInBounds_toArray, List.set_cons_zero, List.set_cons_succ]
      refine wpAnyH_ready (rs := [1, 7]) (by kernel_rfl) (by simp) ?_
      refine AllReadyH.cons (i := 1) rfl (fun K hK => ?_) ?_
      · simp only [List.getElem_toArray, List.getElem_cons_succ, List.getElem_cons_zero]
        rw [if_pos (by rfl)]
        go_simp
        have hb_1 := (hc_3).lt.2
        refine hK.out _ _ ?_ (fun hHeld => ?_)
        · first | trivial | ((try dsimp only); exact trivial)
        clear hK K
        try simp only [Act.put, List.setIfInBounds_toArray, List.set_cons_zero, List.set_cons_succ]
        refine wpAnyH_lit_u8 (r := r_3) (by decide) (by show r_3 < 8; omega) ?_
        intro x hx hxc
        refine wpAnyH_cell hxc hHeld ?_
        intro hHeld
        refine wpAnyH_take (i := 4) (v := ?_) rfl (by kernel_rfl) (by kernel_rfl) (by kernel_rfl) (fun _ _ _ h => h) (Or.inl ⟨by rfl, ?_⟩) (by assumption) ?_
        rotate_left
        · (intro w' hSw; (try dsimp only at hSw); go_simp; try (with_reducible rfl))
        change wpAnyH _ _ _ _ _ _ _ (Act.put _ (some 18) _) _
        try simp only [Act.put, List.setIfInBounds_toArray, List.set_cons_zero, List.set_cons_succ]
        refine wpAnyH_take (i := 5) (v := ?_) rfl (by kernel_rfl) (by kernel_rfl) (by kernel_rfl) (fun _ _ _ h => h) (Or.inl ⟨by rfl, ?_⟩) (by assumption) ?_
        rotate_left
        · (intro w' hSw; (try dsimp only at hSw); go_simp; try (with_reducible rfl))
        change wpAnyH _ _ _ _ _ _ _ (Act.put _ (some 19) _) _
        try simp only [Act.put, List.setIfInBounds_toArray, List.set_cons_zero, List.set_cons_succ]
        refine wpAnyH_ready (rs := [7]) (by kernel_rfl) (by simp) ?_
        refine AllReadyH.cons (i := 7) rfl (fun K hK => ?_) AllReadyH.nil
        simp only [List.getElem_toArray, List.getElem_cons_succ, List.getElem_cons_zero]
        rw [if_pos (by rfl)]
        go_simp
        (go_at_call 24; refine (curPick 64 _ (Cur.alloc hc_3 (.cells #[.int .u8 128, .int .u8 255, .int .u8 192, .int .u8 224, .int .u8 237, .int .u8 0, .int .u8 240, .int .u8 244] 5)) (by omega) (by omega)).mono ?_; rintro e w_7 ⟨r_7, rfl, hr_7, k_7, hk_7, hc_7, hg_7⟩; go_wp2_with fail)
        have hq_7 : (r_7 : Int) < 64 := by omega
        have hz_7 : (0 : Int) ≤ (r_7 : Int) := by omega
        have hw_7 : IntKind.i64.wrap (128 + (r_7 : Int)) = 128 + (r_7 : Int) := IntWalk.i64_in _ (by omega)
        have hv_7 : IntKind.u8.wrap (128 + (r_7 : Int)) = 128 + (r_7 : Int) := u8_in (by omega) (by omega)
        refine hK.out _ _ ?_ (fun hHeld => ?_)
        · first | trivial | ((try dsimp only); exact ⟨trivial, hg_7.cell hHeld.2 (fun e => absurd (Option.some.inj e) (Nat.ne_of_gt hb_1))⟩)
        clear hK K
        try simp only [Act.put, List.setIfInBounds_toArray, List.set_cons_zero, List.set_cons_succ]
        refine wpAnyH_take (i := 8) (v := ?_) rfl (by kernel_rfl) (by kernel_rfl) (by kernel_rfl) (fun _ _ _ h => h) (Or.inl ⟨by rfl, ?_⟩) (by assumption) ?_
        rotate_left
        · (intro w' hSw; (try dsimp only at hSw); go_simp; try (with_reducible rfl))
        change wpAnyH _ _ _ _ _ _ _ (Act.put _ (some 22) _) _
        try simp only [Act.put, List.setIfInBounds_toArray, List.set_cons_zero, List.set_cons_succ]
        refine wpAnyH_take (i := 9) (v := ?_) rfl (by kernel_rfl) (by kernel_rfl) (by kernel_rfl) (fun _ _ _ h => h) (Or.inl ⟨by rfl, ?_⟩) (by assumption) ?_
        rotate_left
        · (intro w' hSw; (try dsimp only at hSw); go_simp; try (with_reducible rfl))
        change wpAnyH _ _ _ _ _ _ _ (Act.put _ (some 23) _) _
        try simp only [Act.put, List.setIfInBounds_toArray, List.set_cons_zero, List.set_cons_succ]
        refine wpAnyH_ready (rs := [11]) (by kernel_rfl) (by simp) ?_
        refine AllReadyH.cons (i := 11) rfl (fun K hK => ?_) AllReadyH.nil
        simp only [List.getElem_toArray, List.getElem_cons_succ, List.getElem_cons_zero]
        rw [if_pos (by rfl)]
        go_simp
        (go_at_call 24; refine (curPick 64 _ hc_7 (by omega) (by omega)).mono ?_; rintro e w_11 ⟨r_11, rfl, hr_11, k_11, hk_11, hc_11, hg_11⟩; go_wp2_with fail)
        have hq_11 : (r_11 : Int) < 64 := by omega
        have hz_11 : (0 : Int) ≤ (r_11 : Int) := by omega
        have hw_11 : IntKind.i64.wrap (128 + (r_11 : Int)) = 128 + (r_11 : Int) := IntWalk.i64_in _ (by omega)
        have hv_11 : IntKind.u8.wrap (128 + (r_11 : Int)) = 128 + (r_11 : Int) := u8_in (by omega) (by omega)
        refine hK.out _ _ ?_ (fun hHeld => ?_)
        · first | trivial | ((try dsimp only); exact ⟨trivial, hg_11.cell hHeld.2 (fun e => absurd (Option.some.inj e) (Nat.ne_of_gt hb_1))⟩)
        clear hK K
        try simp only [Act.put, List.setIfInBounds_toArray, List.set_cons_zero, List.set_cons_succ]
        refine wpAnyH_take (i := 12) (v := ?_) rfl (by kernel_rfl) (by kernel_rfl) (by kernel_rfl) (fun _ _ _ h => h) (Or.inl ⟨by rfl, ?_⟩) (by assumption) ?_
        rotate_left
        · (intro w' hSw; (try dsimp only at hSw); go_simp; try (with_reducible rfl))
        change wpAnyH _ _ _ _ _ _ _ (Act.put _ (some 26) _) _
        try simp only [Act.put, List.setIfInBounds_toArray, List.set_cons_zero, List.set_cons_succ]
        refine wpAnyH_take (i := 13) (v := ?_) rfl (by kernel_rfl) (by kernel_rfl) (by kernel_rfl) (fun _ _ _ h => h) (Or.inl ⟨by rfl, ?_⟩) (by assumption) ?_
        rotate_left
        · (intro w' hSw; (try dsimp only at hSw); go_simp; try (with_reducible rfl))
        change wpAnyH _ _ _ _ _ _ _ (Act.put _ (some 27) _) _
        try simp only [Act.put, List.setIfInBounds_toArray, List.set_cons_zero, List.set_cons_succ]
        refine wpAnyH_ready (rs := [14, 16]) (by kernel_rfl) (by simp) ?_
        refine AllReadyH.cons (i := 14) rfl (fun K hK => ?_) ?_
        · simp only [List.getElem_toArray, List.getElem_cons_succ, List.getElem_cons_zero]
          rw [if_pos (by rfl)]
          go_simp
          have hb_14 := (hc_11).lt.2
          refine hK.out _ _ ?_ (fun hHeld => ?_)
          · first | trivial | ((try dsimp only); exact ⟨trivial, keeps_cells (ext_alloc _ _) _ _ hHeld.2⟩)
          clear hK K
          try simp only [Act.put, List.setIfInBounds_toArray, List.set_cons_zero, List.set_cons_succ]
          refine wpAnyH_three hHeld ?_
          intro hHeld
          refine wpAnyH_ready (rs := [16]) (by kernel_rfl) (by simp) ?_
          refine AllReadyH.cons (i := 16) rfl (fun K hK => ?_) AllReadyH.nil
          simp only [List.getElem_toArray, List.getElem_cons_succ, List.getElem_cons_zero]
          rw [if_pos (by rfl)]
          go_simp
          (go_at_call 24; refine (curPick 3 _ (Cur.alloc hc_11 _) (by omega) (by omega)).mono ?_; rintro e w_16 ⟨r_16, rfl, hr_16, k_16, hk_16, hc_16, hg_16⟩; go_wp2_with fail)
          have hq_16 : (r_16 : Int) < 3 := by omega
          have hz_16 : (0 : Int) ≤ (r_16 : Int) := by omega
          refine hK.out _ _ ?_ (fun hHeld => ?_)
          · first | trivial | ((try dsimp only); exact ⟨⟨⟨⟨trivial, hg_16.cell hHeld.1.1.1.2 (fun e => absurd (Option.some.inj e) (Nat.ne_of_gt hb_1))⟩, hg_16.cell hHeld.1.1.2 (fun e => absurd (Option.some.inj e) (Nat.ne_of_gt hb_14))⟩, hg_16.cell hHeld.1.2 (fun e => absurd (Option.some.inj e) (Nat.ne_of_gt hb_14))⟩, hg_16.cell hHeld.2 (fun e => absurd (Option.some.inj e) (Nat.ne_of_gt hb_14))⟩)
          clear hK K
          try simp only [Act.put, List.setIfInBounds_toArray, List.set_cons_zero, List.set_cons_succ]
          have hw_16 : IntKind.i64.wrap (1 + (r_16 : Int)) = 1 + (r_16 : Int) := IntWalk.i64_in _ (by omega)
          have hb0_16 : (0 : Int) ≤ 1 + (r_16 : Int) := by omega
          have hb1_16 : 1 + (r_16 : Int) ≤ 3 := by omega
          have hn_16 : (1 + (r_16 : Int)).toNat = 1 + r_16 := by omega
          obtain ⟨t1, ht1, hconv⟩ := convN (P := Tryz.prog) (src := 22) (dst := 9) (e := 5) rfl rfl rfl (r := r_16) (by omega) (x : Int) (128 + (r_7 : Int)) (128 + (r_11 : Int)) (by omega) (by omega) (by omega)
          have hsz1 : ¬ 9223372036854775807 < s.size + t1.size := by omega
          have HT1 := hid ht1
          clear ht1
          refine wpAnyH_take (i := 17) (v := ?_) rfl (by kernel_rfl) (by kernel_rfl) (by kernel_rfl) (fun _ _ _ h => h) (Or.inl ⟨by rfl, ?_⟩) (by assumption) ?_
          rotate_left
          · (intro w' hSw; (try dsimp only at hSw); go_simp; try (with_reducible rfl))
          change wpAnyH _ _ _ _ _ _ _ (Act.put _ (some 31) _) _
          try simp only [Act.put, List.setIfInBounds_toArray, List.set_cons_zero, List.set_cons_succ]
          refine wpAnyH_take (i := 18) (v := ?_) rfl (by kernel_rfl) (by kernel_rfl) (by kernel_rfl) (fun _ _ _ h => h) (Or.inl ⟨by rfl, ?_⟩) (by assumption) ?_
          rotate_left
          · (intro w' hSw; (try dsimp only at hSw); go_simp; try (with_reducible rfl))
          change wpAnyH _ _ _ _ _ _ _ (Act.put _ (some 32) _) _
          try simp only [Act.put, List.setIfInBounds_toArray, List.set_cons_zero, List.set_cons_succ]
          refine wpAnyH_take (i := 19) (v := ?_) rfl (by kernel_rfl) (by kernel_rfl) (by kernel_rfl) (fun _ _ _ h => h) (Or.inl ⟨by rfl, ?_⟩) (by assumption) ?_
          rotate_left
          · (intro w' hSw; (try dsimp only at hSw); have hcv := hconv _ w' hSw.1.1.2 hSw.1.2 hSw.2; (try simp only [World.size_alloc] at hcv); go_simp; try (with_reducible rfl))
          change wpAnyH _ _ _ _ _ _ _ (Act.put _ (some 33) _) _
          try simp only [Act.put, List.setIfInBounds_toArray, List.set_cons_zero, List.set_cons_succ]
          refine wpAnyH_take (i := 20) (v := ?_) rfl (by kernel_rfl) (by kernel_rfl) (by kernel_rfl) (fun _ _ _ h => h) (Or.inl ⟨by rfl, ?_⟩) (by assumption) ?_
          rotate_left
          · (intro w' hSw; (try dsimp only at hSw); go_simp; try (with_reducible rfl))
          change wpAnyH _ _ _ _ _ _ _ (Act.put _ (some 34) _) _
          try simp only [Act.put, List.setIfInBounds_toArray, List.set_cons_zero, List.set_cons_succ]
          refine wpAnyH_take (i := 21) (v := ?_) rfl (by kernel_rfl) (by kernel_rfl) (by kernel_rfl) (fun _ _ _ h => h) (Or.inl ⟨by rfl, ?_⟩) (by assumption) ?_
          rotate_left
          · (intro w' hSw; (try dsimp only at hSw); go_simp; try (with_reducible rfl))
          change wpAnyH _ _ _ _ _ _ _ (Act.put _ (some 4) _) _
          try simp only [Act.put, List.setIfInBounds_toArray, List.set_cons_zero, List.set_cons_succ]
          refine wpAnyH_done (by kernel_rfl) ?_ _
          go_wp2
          go_ret
          refine ⟨_, rfl, ?_, k_16, by omega, hc_16, grown_trans (grown_alloc (grown_trans (grown_trans (grown_alloc (grown_trans (grown_drew (grown_trans hg1 hg2)) hg_3) _) hg_7) hg_11) _) hg_16⟩
          rw [ByteArray.size_append]
          have := HT1.out
          omega
        refine AllReadyH.cons (i := 16) rfl (fun K hK => ?_) ?_
        · simp only [List.getElem_toArray, List.getElem_cons_succ, List.getElem_cons_zero]
          rw [if_pos (by rfl)]
          go_simp
          (go_at_call 24; refine (curPick 3 _ hc_11 (by omega) (by omega)).mono ?_; rintro e w_16 ⟨r_16, rfl, hr_16, k_16, hk_16, hc_16, hg_16⟩; go_wp2_with fail)
          have hq_16 : (r_16 : Int) < 3 := by omega
          have hz_16 : (0 : Int) ≤ (r_16 : Int) := by omega
          refine hK.out _ _ ?_ (fun hHeld => ?_)
          · first | trivial | ((try dsimp only); exact ⟨trivial, hg_16.cell hHeld.2 (fun e => absurd (Option.some.inj e) (Nat.ne_of_gt hb_1))⟩)
          clear hK K
          try simp only [Act.put, List.setIfInBounds_toArray, List.set_cons_zero, List.set_cons_succ]
          refine wpAnyH_take (i := 17) (v := ?_) rfl (by kernel_rfl) (by kernel_rfl) (by kernel_rfl) (fun _ _ _ h => h) (Or.inl ⟨by rfl, ?_⟩) (by assumption) ?_
          rotate_left
          · (intro w' hSw; (try dsimp only at hSw); go_simp; try (with_reducible rfl))
          change wpAnyH _ _ _ _ _ _ _ (Act.put _ (some 31) _) _
          try simp only [Act.put, List.setIfInBounds_toArray, List.set_cons_zero, List.set_cons_succ]
          refine wpAnyH_ready (rs := [14]) (by kernel_rfl) (by simp) ?_
          refine AllReadyH.cons (i := 14) rfl (fun K hK => ?_) AllReadyH.nil
          simp only [List.getElem_toArray, List.getElem_cons_succ, List.getElem_cons_zero]
          rw [if_pos (by rfl)]
          go_simp
          have hb_14 := (hc_16).lt.2
          refine hK.out _ _ ?_ (fun hHeld => ?_)
          · first | trivial | ((try dsimp only); exact ⟨trivial, keeps_cells (ext_alloc _ _) _ _ hHeld.2⟩)
          clear hK K
          try simp only [Act.put, List.setIfInBounds_toArray, List.set_cons_zero, List.set_cons_succ]
          refine wpAnyH_three hHeld ?_
          intro hHeld
          have hw_16 : IntKind.i64.wrap (1 + (r_16 : Int)) = 1 + (r_16 : Int) := IntWalk.i64_in _ (by omega)
          have hb0_16 : (0 : Int) ≤ 1 + (r_16 : Int) := by omega
          have hb1_16 : 1 + (r_16 : Int) ≤ 3 := by omega
          have hn_16 : (1 + (r_16 : Int)).toNat = 1 + r_16 := by omega
          obtain ⟨t1, ht1, hconv⟩ := convN (P := Tryz.prog) (src := 22) (dst := 9) (e := 5) rfl rfl rfl (r := r_16) (by omega) (x : Int) (128 + (r_7 : Int)) (128 + (r_11 : Int)) (by omega) (by omega) (by omega)
          have hsz1 : ¬ 9223372036854775807 < s.size + t1.size := by omega
          have HT1 := hid ht1
          clear ht1
          refine wpAnyH_take (i := 18) (v := ?_) rfl (by kernel_rfl) (by kernel_rfl) (by kernel_rfl) (fun _ _ _ h => h) (Or.inl ⟨by rfl, ?_⟩) (by assumption) ?_
          rotate_left
          · (intro w' hSw; (try dsimp only at hSw); go_simp; try (with_reducible rfl))
          change wpAnyH _ _ _ _ _ _ _ (Act.put _ (some 32) _) _
          try simp only [Act.put, List.setIfInBounds_toArray, List.set_cons_zero, List.set_cons_succ]
          refine wpAnyH_take (i := 19) (v := ?_) rfl (by kernel_rfl) (by kernel_rfl) (by kernel_rfl) (fun _ _ _ h => h) (Or.inl ⟨by rfl, ?_⟩) (by assumption) ?_
          rotate_left
          · (intro w' hSw; (try dsimp only at hSw); have hcv := hconv _ w' hSw.1.1.2 hSw.1.2 hSw.2; (try simp only [World.size_alloc] at hcv); go_simp; try (with_reducible rfl))
          change wpAnyH _ _ _ _ _ _ _ (Act.put _ (some 33) _) _
          try simp only [Act.put, List.setIfInBounds_toArray, List.set_cons_zero, List.set_cons_succ]
          refine wpAnyH_take (i := 20) (v := ?_) rfl (by kernel_rfl) (by kernel_rfl) (by kernel_rfl) (fun _ _ _ h => h) (Or.inl ⟨by rfl, ?_⟩) (by assumption) ?_
          rotate_left
          · (intro w' hSw; (try dsimp only at hSw); go_simp; try (with_reducible rfl))
          change wpAnyH _ _ _ _ _ _ _ (Act.put _ (some 34) _) _
          try simp only [Act.put, List.setIfInBounds_toArray, List.set_cons_zero, List.set_cons_succ]
          refine wpAnyH_take (i := 21) (v := ?_) rfl (by kernel_rfl) (by kernel_rfl) (by kernel_rfl) (fun _ _ _ h => h) (Or.inl ⟨by rfl, ?_⟩) (by assumption) ?_
          rotate_left
          · (intro w' hSw; (try dsimp only at hSw); go_simp; try (with_reducible rfl))
          change wpAnyH _ _ _ _ _ _ _ (Act.put _ (some 4) _) _
          try simp only [Act.put, List.setIfInBounds_toArray, List.set_cons_zero, List.set_cons_succ]
          refine wpAnyH_done (by kernel_rfl) ?_ _
          go_wp2
          go_ret
          refine ⟨_, rfl, ?_, k_16, by omega, (Cur.alloc hc_16 _), grown_alloc (grown_trans (grown_trans (grown_trans (grown_alloc (grown_trans (grown_drew (grown_trans hg1 hg2)) hg_3) _) hg_7) hg_11) hg_16) _⟩
          rw [ByteArray.size_append]
          have := HT1.out
          omega
        exact AllReadyH.nil
      refine AllReadyH.cons (i := 7) rfl (fun K hK => ?_) ?_
      · simp only [List.getElem_toArray, List.getElem_cons_succ, List.getElem_cons_zero]
        rw [if_pos (by rfl)]
        go_simp
        (go_at_call 24; refine (curPick 64 _ hc_3 (by omega) (by omega)).mono ?_; rintro e w_7 ⟨r_7, rfl, hr_7, k_7, hk_7, hc_7, hg_7⟩; go_wp2_with fail)
        have hq_7 : (r_7 : Int) < 64 := by omega
        have hz_7 : (0 : Int) ≤ (r_7 : Int) := by omega
        have hw_7 : IntKind.i64.wrap (128 + (r_7 : Int)) = 128 + (r_7 : Int) := IntWalk.i64_in _ (by omega)
        have hv_7 : IntKind.u8.wrap (128 + (r_7 : Int)) = 128 + (r_7 : Int) := u8_in (by omega) (by omega)
        refine hK.out _ _ ?_ (fun hHeld => ?_)
        · first | trivial | ((try dsimp only); exact trivial)
        clear hK K
        try simp only [Act.put, List.setIfInBounds_toArray, List.set_cons_zero, List.set_cons_succ]
        refine wpAnyH_take (i := 8) (v := ?_) rfl (by kernel_rfl) (by kernel_rfl) (by kernel_rfl) (fun _ _ _ h => h) (Or.inl ⟨by rfl, ?_⟩) (by assumption) ?_
        rotate_left
        · (intro w' hSw; (try dsimp only at hSw); go_simp; try (with_reducible rfl))
        change wpAnyH _ _ _ _ _ _ _ (Act.put _ (some 22) _) _
        try simp only [Act.put, List.setIfInBounds_toArray, List.set_cons_zero, List.set_cons_succ]
        refine wpAnyH_take (i := 9) (v := ?_) rfl (by kernel_rfl) (by kernel_rfl) (by kernel_rfl) (fun _ _ _ h => h) (Or.inl ⟨by rfl, ?_⟩) (by assumption) ?_
        rotate_left
        · (intro w' hSw; (try dsimp only at hSw); go_simp; try (with_reducible rfl))
        change wpAnyH _ _ _ _ _ _ _ (Act.put _ (some 23) _) _
        try simp only [Act.put, List.setIfInBounds_toArray, List.set_cons_zero, List.set_cons_succ]
        refine wpAnyH_ready (rs := [1, 11]) (by kernel_rfl) (by simp) ?_
        refine AllReadyH.cons (i := 1) rfl (fun K hK => ?_) ?_
        · simp only [List.getElem_toArray, List.getElem_cons_succ, List.getElem_cons_zero]
          rw [if_pos (by rfl)]
          go_simp
          have hb_1 := (hc_7).lt.2
          refine hK.out _ _ ?_ (fun hHeld => ?_)
          · first | trivial | ((try dsimp only); exact trivial)
          clear hK K
          try simp only [Act.put, List.setIfInBounds_toArray, List.set_cons_zero, List.set_cons_succ]
          refine wpAnyH_lit_u8 (r := r_3) (by decide) (by show r_3 < 8; omega) ?_
          intro x hx hxc
          refine wpAnyH_cell hxc hHeld ?_
          intro hHeld
          refine wpAnyH_take (i := 4) (v := ?_) rfl (by kernel_rfl) (by kernel_rfl) (by kernel_rfl) (fun _ _ _ h => h) (Or.inl ⟨by rfl, ?_⟩) (by assumption) ?_
          rotate_left
          · (intro w' hSw; (try dsimp only at hSw); go_simp; try (with_reducible rfl))
          change wpAnyH _ _ _ _ _ _ _ (Act.put _ (some 18) _) _
          try simp only [Act.put, List.setIfInBounds_toArray, List.set_cons_zero, List.set_cons_succ]
          refine wpAnyH_take (i := 5) (v := ?_) rfl (by kernel_rfl) (by kernel_rfl) (by kernel_rfl) (fun _ _ _ h => h) (Or.inl ⟨by rfl, ?_⟩) (by assumption) ?_
          rotate_left
          · (intro w' hSw; (try dsimp only at hSw); go_simp; try (with_reducible rfl))
          change wpAnyH _ _ _ _ _ _ _ (Act.put _ (some 19) _) _
          try simp only [Act.put, List.setIfInBounds_toArray, List.set_cons_zero, List.set_cons_succ]
          refine wpAnyH_ready (rs := [11]) (by kernel_rfl) (by simp) ?_
          refine AllReadyH.cons (i := 11) rfl (fun K hK => ?_) AllReadyH.nil
          simp only [List.getElem_toArray, List.getElem_cons_succ, List.getElem_cons_zero]
          rw [if_pos (by rfl)]
          go_simp
          (go_at_call 24; refine (curPick 64 _ (Cur.alloc hc_7 (.cells #[.int .u8 128, .int .u8 255, .int .u8 192, .int .u8 224, .int .u8 237, .int .u8 0, .int .u8 240, .int .u8 244] 5)) (by omega) (by omega)).mono ?_; rintro e w_11 ⟨r_11, rfl, hr_11, k_11, hk_11, hc_11, hg_11⟩; go_wp2_with fail)
          have hq_11 : (r_11 : Int) < 64 := by omega
          have hz_11 : (0 : Int) ≤ (r_11 : Int) := by omega
          have hw_11 : IntKind.i64.wrap (128 + (r_11 : Int)) = 128 + (r_11 : Int) := IntWalk.i64_in _ (by omega)
          have hv_11 : IntKind.u8.wrap (128 + (r_11 : Int)) = 128 + (r_11 : Int) := u8_in (by omega) (by omega)
          refine hK.out _ _ ?_ (fun hHeld => ?_)
          · first | trivial | ((try dsimp only); exact ⟨trivial, hg_11.cell hHeld.2 (fun e => absurd (Option.some.inj e) (Nat.ne_of_gt hb_1))⟩)
          clear hK K
          try simp only [Act.put, List.setIfInBounds_toArray, List.set_cons_zero, List.set_cons_succ]
          refine wpAnyH_take (i := 12) (v := ?_) rfl (by kernel_rfl) (by kernel_rfl) (by kernel_rfl) (fun _ _ _ h => h) (Or.inl ⟨by rfl, ?_⟩) (by assumption) ?_
          rotate_left
          · (intro w' hSw; (try dsimp only at hSw); go_simp; try (with_reducible rfl))
          change wpAnyH _ _ _ _ _ _ _ (Act.put _ (some 26) _) _
          try simp only [Act.put, List.setIfInBounds_toArray, List.set_cons_zero, List.set_cons_succ]
          refine wpAnyH_take (i := 13) (v := ?_) rfl (by kernel_rfl) (by kernel_rfl) (by kernel_rfl) (fun _ _ _ h => h) (Or.inl ⟨by rfl, ?_⟩) (by assumption) ?_
          rotate_left
          · (intro w' hSw; (try dsimp only at hSw); go_simp; try (with_reducible rfl))
          change wpAnyH _ _ _ _ _ _ _ (Act.put _ (some 27) _) _
          try simp only [Act.put, List.setIfInBounds_toArray, List.set_cons_zero, List.set_cons_succ]
          refine wpAnyH_ready (rs := [14, 16]) (by kernel_rfl) (by simp) ?_
          refine AllReadyH.cons (i := 14) rfl (fun K hK => ?_) ?_
          · simp only [List.getElem_toArray, List.getElem_cons_succ, List.getElem_cons_zero]
            rw [if_pos (by rfl)]
            go_simp
            have hb_14 := (hc_11).lt.2
            refine hK.out _ _ ?_ (fun hHeld => ?_)
            · first | trivial | ((try dsimp only); exact ⟨trivial, keeps_cells (ext_alloc _ _) _ _ hHeld.2⟩)
            clear hK K
            try simp only [Act.put, List.setIfInBounds_toArray, List.set_cons_zero, List.set_cons_succ]
            refine wpAnyH_three hHeld ?_
            intro hHeld
            refine wpAnyH_ready (rs := [16]) (by kernel_rfl) (by simp) ?_
            refine AllReadyH.cons (i := 16) rfl (fun K hK => ?_) AllReadyH.nil
            simp only [List.getElem_toArray, List.getElem_cons_succ, List.getElem_cons_zero]
            rw [if_pos (by rfl)]
            go_simp
            (go_at_call 24; refine (curPick 3 _ (Cur.alloc hc_11 _) (by omega) (by omega)).mono ?_; rintro e w_16 ⟨r_16, rfl, hr_16, k_16, hk_16, hc_16, hg_16⟩; go_wp2_with fail)
            have hq_16 : (r_16 : Int) < 3 := by omega
            have hz_16 : (0 : Int) ≤ (r_16 : Int) := by omega
            refine hK.out _ _ ?_ (fun hHeld => ?_)
            · first | trivial | ((try dsimp only); exact ⟨⟨⟨⟨trivial, hg_16.cell hHeld.1.1.1.2 (fun e => absurd (Option.some.inj e) (Nat.ne_of_gt hb_1))⟩, hg_16.cell hHeld.1.1.2 (fun e => absurd (Option.some.inj e) (Nat.ne_of_gt hb_14))⟩, hg_16.cell hHeld.1.2 (fun e => absurd (Option.some.inj e) (Nat.ne_of_gt hb_14))⟩, hg_16.cell hHeld.2 (fun e => absurd (Option.some.inj e) (Nat.ne_of_gt hb_14))⟩)
            clear hK K
            try simp only [Act.put, List.setIfInBounds_toArray, List.set_cons_zero, List.set_cons_succ]
            have hw_16 : IntKind.i64.wrap (1 + (r_16 : Int)) = 1 + (r_16 : Int) := IntWalk.i64_in _ (by omega)
            have hb0_16 : (0 : Int) ≤ 1 + (r_16 : Int) := by omega
            have hb1_16 : 1 + (r_16 : Int) ≤ 3 := by omega
            have hn_16 : (1 + (r_16 : Int)).toNat = 1 + r_16 := by omega
            obtain ⟨t1, ht1, hconv⟩ := convN (P := Tryz.prog) (src := 22) (dst := 9) (e := 5) rfl rfl rfl (r := r_16) (by omega) (x : Int) (128 + (r_7 : Int)) (128 + (r_11 : Int)) (by omega) (by omega) (by omega)
            have hsz1 : ¬ 9223372036854775807 < s.size + t1.size := by omega
            have HT1 := hid ht1
            clear ht1
            refine wpAnyH_take (i := 17) (v := ?_) rfl (by kernel_rfl) (by kernel_rfl) (by kernel_rfl) (fun _ _ _ h => h) (Or.inl ⟨by rfl, ?_⟩) (by assumption) ?_
            rotate_left
            · (intro w' hSw; (try dsimp only at hSw); go_simp; try (with_reducible rfl))
            change wpAnyH _ _ _ _ _ _ _ (Act.put _ (some 31) _) _
            try simp only [Act.put, List.setIfInBounds_toArray, List.set_cons_zero, List.set_cons_succ]
            refine wpAnyH_take (i := 18) (v := ?_) rfl (by kernel_rfl) (by kernel_rfl) (by kernel_rfl) (fun _ _ _ h => h) (Or.inl ⟨by rfl, ?_⟩) (by assumption) ?_
            rotate_left
            · (intro w' hSw; (try dsimp only at hSw); go_simp; try (with_reducible rfl))
            change wpAnyH _ _ _ _ _ _ _ (Act.put _ (some 32) _) _
            try simp only [Act.put, List.setIfInBounds_toArray, List.set_cons_zero, List.set_cons_succ]
            refine wpAnyH_take (i := 19) (v := ?_) rfl (by kernel_rfl) (by kernel_rfl) (by kernel_rfl) (fun _ _ _ h => h) (Or.inl ⟨by rfl, ?_⟩) (by assumption) ?_
            rotate_left
            · (intro w' hSw; (try dsimp only at hSw); have hcv := hconv _ w' hSw.1.1.2 hSw.1.2 hSw.2; (try simp only [World.size_alloc] at hcv); go_simp; try (with_reducible rfl))
            change wpAnyH _ _ _ _ _ _ _ (Act.put _ (some 33) _) _
            try simp only [Act.put, List.setIfInBounds_toArray, List.set_cons_zero, List.set_cons_succ]
            refine wpAnyH_take (i := 20) (v := ?_) rfl (by kernel_rfl) (by kernel_rfl) (by kernel_rfl) (fun _ _ _ h => h) (Or.inl ⟨by rfl, ?_⟩) (by assumption) ?_
            rotate_left
            · (intro w' hSw; (try dsimp only at hSw); go_simp; try (with_reducible rfl))
            change wpAnyH _ _ _ _ _ _ _ (Act.put _ (some 34) _) _
            try simp only [Act.put, List.setIfInBounds_toArray, List.set_cons_zero, List.set_cons_succ]
            refine wpAnyH_take (i := 21) (v := ?_) rfl (by kernel_rfl) (by kernel_rfl) (by kernel_rfl) (fun _ _ _ h => h) (Or.inl ⟨by rfl, ?_⟩) (by assumption) ?_
            rotate_left
            · (intro w' hSw; (try dsimp only at hSw); go_simp; try (with_reducible rfl))
            change wpAnyH _ _ _ _ _ _ _ (Act.put _ (some 4) _) _
            try simp only [Act.put, List.setIfInBounds_toArray, List.set_cons_zero, List.set_cons_succ]
            refine wpAnyH_done (by kernel_rfl) ?_ _
            go_wp2
            go_ret
            refine ⟨_, rfl, ?_, k_16, by omega, hc_16, grown_trans (grown_alloc (grown_trans (grown_alloc (grown_trans (grown_trans (grown_drew (grown_trans hg1 hg2)) hg_3) hg_7) _) hg_11) _) hg_16⟩
            rw [ByteArray.size_append]
            have := HT1.out
            omega
          refine AllReadyH.cons (i := 16) rfl (fun K hK => ?_) ?_
          · simp only [List.getElem_toArray, List.getElem_cons_succ, List.getElem_cons_zero]
            rw [if_pos (by rfl)]
            go_simp
            (go_at_call 24; refine (curPick 3 _ hc_11 (by omega) (by omega)).mono ?_; rintro e w_16 ⟨r_16, rfl, hr_16, k_16, hk_16, hc_16, hg_16⟩; go_wp2_with fail)
            have hq_16 : (r_16 : Int) < 3 := by omega
            have hz_16 : (0 : Int) ≤ (r_16 : Int) := by omega
            refine hK.out _ _ ?_ (fun hHeld => ?_)
            · first | trivial | ((try dsimp only); exact ⟨trivial, hg_16.cell hHeld.2 (fun e => absurd (Option.some.inj e) (Nat.ne_of_gt hb_1))⟩)
            clear hK K
            try simp only [Act.put, List.setIfInBounds_toArray, List.set_cons_zero, List.set_cons_succ]
            refine wpAnyH_take (i := 17) (v := ?_) rfl (by kernel_rfl) (by kernel_rfl) (by kernel_rfl) (fun _ _ _ h => h) (Or.inl ⟨by rfl, ?_⟩) (by assumption) ?_
            rotate_left
            · (intro w' hSw; (try dsimp only at hSw); go_simp; try (with_reducible rfl))
            change wpAnyH _ _ _ _ _ _ _ (Act.put _ (some 31) _) _
            try simp only [Act.put, List.setIfInBounds_toArray, List.set_cons_zero, List.set_cons_succ]
            refine wpAnyH_ready (rs := [14]) (by kernel_rfl) (by simp) ?_
            refine AllReadyH.cons (i := 14) rfl (fun K hK => ?_) AllReadyH.nil
            simp only [List.getElem_toArray, List.getElem_cons_succ, List.getElem_cons_zero]
            rw [if_pos (by rfl)]
            go_simp
            have hb_14 := (hc_16).lt.2
            refine hK.out _ _ ?_ (fun hHeld => ?_)
            · first | trivial | ((try dsimp only); exact ⟨trivial, keeps_cells (ext_alloc _ _) _ _ hHeld.2⟩)
            clear hK K
            try simp only [Act.put, List.setIfInBounds_toArray, List.set_cons_zero, List.set_cons_succ]
            refine wpAnyH_three hHeld ?_
            intro hHeld
            have hw_16 : IntKind.i64.wrap (1 + (r_16 : Int)) = 1 + (r_16 : Int) := IntWalk.i64_in _ (by omega)
            have hb0_16 : (0 : Int) ≤ 1 + (r_16 : Int) := by omega
            have hb1_16 : 1 + (r_16 : Int) ≤ 3 := by omega
            have hn_16 : (1 + (r_16 : Int)).toNat = 1 + r_16 := by omega
            obtain ⟨t1, ht1, hconv⟩ := convN (P := Tryz.prog) (src := 22) (dst := 9) (e := 5) rfl rfl rfl (r := r_16) (by omega) (x : Int) (128 + (r_7 : Int)) (128 + (r_11 : Int)) (by omega) (by omega) (by omega)
            have hsz1 : ¬ 9223372036854775807 < s.size + t1.size := by omega
            have HT1 := hid ht1
            clear ht1
            refine wpAnyH_take (i := 18) (v := ?_) rfl (by kernel_rfl) (by kernel_rfl) (by kernel_rfl) (fun _ _ _ h => h) (Or.inl ⟨by rfl, ?_⟩) (by assumption) ?_
            rotate_left
            · (intro w' hSw; (try dsimp only at hSw); go_simp; try (with_reducible rfl))
            change wpAnyH _ _ _ _ _ _ _ (Act.put _ (some 32) _) _
            try simp only [Act.put, List.setIfInBounds_toArray, List.set_cons_zero, List.set_cons_succ]
            refine wpAnyH_take (i := 19) (v := ?_) rfl (by kernel_rfl) (by kernel_rfl) (by kernel_rfl) (fun _ _ _ h => h) (Or.inl ⟨by rfl, ?_⟩) (by assumption) ?_
            rotate_left
            · (intro w' hSw; (try dsimp only at hSw); have hcv := hconv _ w' hSw.1.1.2 hSw.1.2 hSw.2; (try simp only [World.size_alloc] at hcv); go_simp; try (with_reducible rfl))
            change wpAnyH _ _ _ _ _ _ _ (Act.put _ (some 33) _) _
            try simp only [Act.put, List.setIfInBounds_toArray, List.set_cons_zero, List.set_cons_succ]
            refine wpAnyH_take (i := 20) (v := ?_) rfl (by kernel_rfl) (by kernel_rfl) (by kernel_rfl) (fun _ _ _ h => h) (Or.inl ⟨by rfl, ?_⟩) (by assumption) ?_
            rotate_left
            · (intro w' hSw; (try dsimp only at hSw); go_simp; try (with_reducible rfl))
            change wpAnyH _ _ _ _ _ _ _ (Act.put _ (some 34) _) _
            try simp only [Act.put, List.setIfInBounds_toArray, List.set_cons_zero, List.set_cons_succ]
            refine wpAnyH_take (i := 21) (v := ?_) rfl (by kernel_rfl) (by kernel_rfl) (by kernel_rfl) (fun _ _ _ h => h) (Or.inl ⟨by rfl, ?_⟩) (by assumption) ?_
            rotate_left
            · (intro w' hSw; (try dsimp only at hSw); go_simp; try (with_reducible rfl))
            change wpAnyH _ _ _ _ _ _ _ (Act.put _ (some 4) _) _
            try simp only [Act.put, List.setIfInBounds_toArray, List.set_cons_zero, List.set_cons_succ]
            refine wpAnyH_done (by kernel_rfl) ?_ _
            go_wp2
            go_ret
            refine ⟨_, rfl, ?_, k_16, by omega, (Cur.alloc hc_16 _), grown_alloc (grown_trans (grown_trans (grown_alloc (grown_trans (grown_trans (grown_drew (grown_trans hg1 hg2)) hg_3) hg_7) _) hg_11) hg_16) _⟩
            rw [ByteArray.size_append]
            have := HT1.out
            omega
          exact AllReadyH.nil
        refine AllReadyH.cons (i := 11) rfl (fun K hK => ?_) ?_
        · simp only [List.getElem_toArray, List.getElem_cons_succ, List.getElem_cons_zero]
          rw [if_pos (by rfl)]
          go_simp
          (go_at_call 24; refine (curPick 64 _ hc_7 (by omega) (by omega)).mono ?_; rintro e w_11 ⟨r_11, rfl, hr_11, k_11, hk_11, hc_11, hg_11⟩; go_wp2_with fail)
          have hq_11 : (r_11 : Int) < 64 := by omega
          have hz_11 : (0 : Int) ≤ (r_11 : Int) := by omega
          have hw_11 : IntKind.i64.wrap (128 + (r_11 : Int)) = 128 + (r_11 : Int) := IntWalk.i64_in _ (by omega)
          have hv_11 : IntKind.u8.wrap (128 + (r_11 : Int)) = 128 + (r_11 : Int) := u8_in (by omega) (by omega)
          refine hK.out _ _ ?_ (fun hHeld => ?_)
          · first | trivial | ((try dsimp only); exact trivial)
          clear hK K
          try simp only [Act.put, List.setIfInBounds_toArray, List.set_cons_zero, List.set_cons_succ]
          refine wpAnyH_take (i := 12) (v := ?_) rfl (by kernel_rfl) (by kernel_rfl) (by kernel_rfl) (fun _ _ _ h => h) (Or.inl ⟨by rfl, ?_⟩) (by assumption) ?_
          rotate_left
          · (intro w' hSw; (try dsimp only at hSw); go_simp; try (with_reducible rfl))
          change wpAnyH _ _ _ _ _ _ _ (Act.put _ (some 26) _) _
          try simp only [Act.put, List.setIfInBounds_toArray, List.set_cons_zero, List.set_cons_succ]
          refine wpAnyH_take (i := 13) (v := ?_) rfl (by kernel_rfl) (by kernel_rfl) (by kernel_rfl) (fun _ _ _ h => h) (Or.inl ⟨by rfl, ?_⟩) (by assumption) ?_
          rotate_left
          · (intro w' hSw; (try dsimp only at hSw); go_simp; try (with_reducible rfl))
          change wpAnyH _ _ _ _ _ _ _ (Act.put _ (some 27) _) _
          try simp only [Act.put, List.setIfInBounds_toArray, List.set_cons_zero, List.set_cons_succ]
          refine wpAnyH_ready (rs := [1, 16]) (by kernel_rfl) (by simp) ?_
          refine AllReadyH.cons (i := 1) rfl (fun K hK => ?_) ?_
          · simp only [List.getElem_toArray, List.getElem_cons_succ, List.getElem_cons_zero]
            rw [if_pos (by rfl)]
            go_simp
            have hb_1 := (hc_11).lt.2
            refine hK.out _ _ ?_ (fun hHeld => ?_)
            · first | trivial | ((try dsimp only); exact trivial)
            clear hK K
            try simp only [Act.put, List.setIfInBounds_toArray, List.set_cons_zero, List.set_cons_succ]
            refine wpAnyH_lit_u8 (r := r_3) (by decide) (by show r_3 < 8; omega) ?_
            intro x hx hxc
            refine wpAnyH_cell hxc hHeld ?_
            intro hHeld
            refine wpAnyH_take (i := 4) (v := ?_) rfl (by kernel_rfl) (by kernel_rfl) (by kernel_rfl) (fun _ _ _ h => h) (Or.inl ⟨by rfl, ?_⟩) (by assumption) ?_
            rotate_left
            · (intro w' hSw; (try dsimp only at hSw); go_simp; try (with_reducible rfl))
            change wpAnyH _ _ _ _ _ _ _ (Act.put _ (some 18) _) _
            try simp only [Act.put, List.setIfInBounds_toArray, List.set_cons_zero, List.set_cons_succ]
            refine wpAnyH_take (i := 5) (v := ?_) rfl (by kernel_rfl) (by kernel_rfl) (by kernel_rfl) (fun _ _ _ h => h) (Or.inl ⟨by rfl, ?_⟩) (by assumption) ?_
            rotate_left
            · (intro w' hSw; (try dsimp only at hSw); go_simp; try (with_reducible rfl))
            change wpAnyH _ _ _ _ _ _ _ (Act.put _ (some 19) _) _
            try simp only [Act.put, List.setIfInBounds_toArray, List.set_cons_zero, List.set_cons_succ]
            refine wpAnyH_ready (rs := [14, 16]) (by kernel_rfl) (by simp) ?_
            refine AllReadyH.cons (i := 14) rfl (fun K hK => ?_) ?_
            · simp only [List.getElem_toArray, List.getElem_cons_succ, List.getElem_cons_zero]
              rw [if_pos (by rfl)]
              go_simp
              have hb_14 := ((Cur.alloc hc_11 (.cells #[.int .u8 128, .int .u8 255, .int .u8 192, .int .u8 224, .int .u8 237, .int .u8 0, .int .u8 240, .int .u8 244] 5))).lt.2
              refine hK.out _ _ ?_ (fun hHeld => ?_)
              · first | trivial | ((try dsimp only); exact ⟨trivial, keeps_cells (ext_alloc _ _) _ _ hHeld.2⟩)
              clear hK K
              try simp only [Act.put, List.setIfInBounds_toArray, List.set_cons_zero, List.set_cons_succ]
              refine wpAnyH_three hHeld ?_
              intro hHeld
              refine wpAnyH_ready (rs := [16]) (by kernel_rfl) (by simp) ?_
              refine AllReadyH.cons (i := 16) rfl (fun K hK => ?_) AllReadyH.nil
              simp only [List.getElem_toArray, List.getElem_cons_succ, List.getElem_cons_zero]
              rw [if_pos (by rfl)]
              go_simp
              (go_at_call 24; refine (curPick 3 _ (Cur.alloc (Cur.alloc hc_11 (.cells #[.int .u8 128, .int .u8 255, .int .u8 192, .int .u8 224, .int .u8 237, .int .u8 0, .int .u8 240, .int .u8 244] 5)) _) (by omega) (by omega)).mono ?_; rintro e w_16 ⟨r_16, rfl, hr_16, k_16, hk_16, hc_16, hg_16⟩; go_wp2_with fail)
              have hq_16 : (r_16 : Int) < 3 := by omega
              have hz_16 : (0 : Int) ≤ (r_16 : Int) := by omega
              refine hK.out _ _ ?_ (fun hHeld => ?_)
              · first | trivial | ((try dsimp only); exact ⟨⟨⟨⟨trivial, hg_16.cell hHeld.1.1.1.2 (fun e => absurd (Option.some.inj e) (Nat.ne_of_gt hb_1))⟩, hg_16.cell hHeld.1.1.2 (fun e => absurd (Option.some.inj e) (Nat.ne_of_gt hb_14))⟩, hg_16.cell hHeld.1.2 (fun e => absurd (Option.some.inj e) (Nat.ne_of_gt hb_14))⟩, hg_16.cell hHeld.2 (fun e => absurd (Option.some.inj e) (Nat.ne_of_gt hb_14))⟩)
              clear hK K
              try simp only [Act.put, List.setIfInBounds_toArray, List.set_cons_zero, List.set_cons_succ]
              have hw_16 : IntKind.i64.wrap (1 + (r_16 : Int)) = 1 + (r_16 : Int) := IntWalk.i64_in _ (by omega)
              have hb0_16 : (0 : Int) ≤ 1 + (r_16 : Int) := by omega
              have hb1_16 : 1 + (r_16 : Int) ≤ 3 := by omega
              have hn_16 : (1 + (r_16 : Int)).toNat = 1 + r_16 := by omega
              obtain ⟨t1, ht1, hconv⟩ := convN (P := Tryz.prog) (src := 22) (dst := 9) (e := 5) rfl rfl rfl (r := r_16) (by omega) (x : Int) (128 + (r_7 : Int)) (128 + (r_11 : Int)) (by omega) (by omega) (by omega)
              have hsz1 : ¬ 9223372036854775807 < s.size + t1.size := by omega
              have HT1 := hid ht1
              clear ht1
              refine wpAnyH_take (i := 17) (v := ?_) rfl (by kernel_rfl) (by kernel_rfl) (by kernel_rfl) (fun _ _ _ h => h) (Or.inl ⟨by rfl, ?_⟩) (by assumption) ?_
              rotate_left
              · (intro w' hSw; (try dsimp only at hSw); go_simp; try (with_reducible rfl))
              change wpAnyH _ _ _ _ _ _ _ (Act.put _ (some 31) _) _
              try simp only [Act.put, List.setIfInBounds_toArray, List.set_cons_zero, List.set_cons_succ]
              refine wpAnyH_take (i := 18) (v := ?_) rfl (by kernel_rfl) (by kernel_rfl) (by kernel_rfl) (fun _ _ _ h => h) (Or.inl ⟨by rfl, ?_⟩) (by assumption) ?_
              rotate_left
              · (intro w' hSw; (try dsimp only at hSw); go_simp; try (with_reducible rfl))
              change wpAnyH _ _ _ _ _ _ _ (Act.put _ (some 32) _) _
              try simp only [Act.put, List.setIfInBounds_toArray, List.set_cons_zero, List.set_cons_succ]
              refine wpAnyH_take (i := 19) (v := ?_) rfl (by kernel_rfl) (by kernel_rfl) (by kernel_rfl) (fun _ _ _ h => h) (Or.inl ⟨by rfl, ?_⟩) (by assumption) ?_
              rotate_left
              · (intro w' hSw; (try dsimp only at hSw); have hcv := hconv _ w' hSw.1.1.2 hSw.1.2 hSw.2; (try simp only [World.size_alloc] at hcv); go_simp; try (with_reducible rfl))
              change wpAnyH _ _ _ _ _ _ _ (Act.put _ (some 33) _) _
              try simp only [Act.put, List.setIfInBounds_toArray, List.set_cons_zero, List.set_cons_succ]
              refine wpAnyH_take (i := 20) (v := ?_) rfl (by kernel_rfl) (by kernel_rfl) (by kernel_rfl) (fun _ _ _ h => h) (Or.inl ⟨by rfl, ?_⟩) (by assumption) ?_
              rotate_left
              · (intro w' hSw; (try dsimp only at hSw); go_simp; try (with_reducible rfl))
              change wpAnyH _ _ _ _ _ _ _ (Act.put _ (some 34) _) _
              try simp only [Act.put, List.setIfInBounds_toArray, List.set_cons_zero, List.set_cons_succ]
              refine wpAnyH_take (i := 21) (v := ?_) rfl (by kernel_rfl) (by kernel_rfl) (by kernel_rfl) (fun _ _ _ h => h) (Or.inl ⟨by rfl, ?_⟩) (by assumption) ?_
              rotate_left
              · (intro w' hSw; (try dsimp only at hSw); go_simp; try (with_reducible rfl))
              change wpAnyH _ _ _ _ _ _ _ (Act.put _ (some 4) _) _
              try simp only [Act.put, List.setIfInBounds_toArray, List.set_cons_zero, List.set_cons_succ]
              refine wpAnyH_done (by kernel_rfl) ?_ _
              go_wp2
              go_ret
              refine ⟨_, rfl, ?_, k_16, by omega, hc_16, grown_trans (grown_alloc (grown_alloc (grown_trans (grown_trans (grown_trans (grown_drew (grown_trans hg1 hg2)) hg_3) hg_7) hg_11) _) _) hg_16⟩
              rw [ByteArray.size_append]
              have := HT1.out
              omega
            refine AllReadyH.cons (i := 16) rfl (fun K hK => ?_) ?_
            · simp only [List.getElem_toArray, List.getElem_cons_succ, List.getElem_cons_zero]
              rw [if_pos (by rfl)]
              go_simp
              (go_at_call 24; refine (curPick 3 _ (Cur.alloc hc_11 (.cells #[.int .u8 128, .int .u8 255, .int .u8 192, .int .u8 224, .int .u8 237, .int .u8 0, .int .u8 240, .int .u8 244] 5)) (by omega) (by omega)).mono ?_; rintro e w_16 ⟨r_16, rfl, hr_16, k_16, hk_16, hc_16, hg_16⟩; go_wp2_with fail)
              have hq_16 : (r_16 : Int) < 3 := by omega
              have hz_16 : (0 : Int) ≤ (r_16 : Int) := by omega
              refine hK.out _ _ ?_ (fun hHeld => ?_)
              · first | trivial | ((try dsimp only); exact ⟨trivial, hg_16.cell hHeld.2 (fun e => absurd (Option.some.inj e) (Nat.ne_of_gt hb_1))⟩)
              clear hK K
              try simp only [Act.put, List.setIfInBounds_toArray, List.set_cons_zero, List.set_cons_succ]
              refine wpAnyH_take (i := 17) (v := ?_) rfl (by kernel_rfl) (by kernel_rfl) (by kernel_rfl) (fun _ _ _ h => h) (Or.inl ⟨by rfl, ?_⟩) (by assumption) ?_
              rotate_left
              · (intro w' hSw; (try dsimp only at hSw); go_simp; try (with_reducible rfl))
              change wpAnyH _ _ _ _ _ _ _ (Act.put _ (some 31) _) _
              try simp only [Act.put, List.setIfInBounds_toArray, List.set_cons_zero, List.set_cons_succ]
              refine wpAnyH_ready (rs := [14]) (by kernel_rfl) (by simp) ?_
              refine AllReadyH.cons (i := 14) rfl (fun K hK => ?_) AllReadyH.nil
              simp only [List.getElem_toArray, List.getElem_cons_succ, List.getElem_cons_zero]
              rw [if_pos (by rfl)]
              go_simp
              have hb_14 := (hc_16).lt.2
              refine hK.out _ _ ?_ (fun hHeld => ?_)
              · first | trivial | ((try dsimp only); exact ⟨trivial, keeps_cells (ext_alloc _ _) _ _ hHeld.2⟩)
              clear hK K
              try simp only [Act.put, List.setIfInBounds_toArray, List.set_cons_zero, List.set_cons_succ]
              refine wpAnyH_three hHeld ?_
              intro hHeld
              have hw_16 : IntKind.i64.wrap (1 + (r_16 : Int)) = 1 + (r_16 : Int) := IntWalk.i64_in _ (by omega)
              have hb0_16 : (0 : Int) ≤ 1 + (r_16 : Int) := by omega
              have hb1_16 : 1 + (r_16 : Int) ≤ 3 := by omega
              have hn_16 : (1 + (r_16 : Int)).toNat = 1 + r_16 := by omega
              obtain ⟨t1, ht1, hconv⟩ := convN (P := Tryz.prog) (src := 22) (dst := 9) (e := 5) rfl rfl rfl (r := r_16) (by omega) (x : Int) (128 + (r_7 : Int)) (128 + (r_11 : Int)) (by omega) (by omega) (by omega)
              have hsz1 : ¬ 9223372036854775807 < s.size + t1.size := by omega
              have HT1 := hid ht1
              clear ht1
              refine wpAnyH_take (i := 18) (v := ?_) rfl (by kernel_rfl) (by kernel_rfl) (by kernel_rfl) (fun _ _ _ h => h) (Or.inl ⟨by rfl, ?_⟩) (by assumption) ?_
              rotate_left
              · (intro w' hSw; (try dsimp only at hSw); go_simp; try (with_reducible rfl))
              change wpAnyH _ _ _ _ _ _ _ (Act.put _ (some 32) _) _
              try simp only [Act.put, List.setIfInBounds_toArray, List.set_cons_zero, List.set_cons_succ]
              refine wpAnyH_take (i := 19) (v := ?_) rfl (by kernel_rfl) (by kernel_rfl) (by kernel_rfl) (fun _ _ _ h => h) (Or.inl ⟨by rfl, ?_⟩) (by assumption) ?_
              rotate_left
              · (intro w' hSw; (try dsimp only at hSw); have hcv := hconv _ w' hSw.1.1.2 hSw.1.2 hSw.2; (try simp only [World.size_alloc] at hcv); go_simp; try (with_reducible rfl))
              change wpAnyH _ _ _ _ _ _ _ (Act.put _ (some 33) _) _
              try simp only [Act.put, List.setIfInBounds_toArray, List.set_cons_zero, List.set_cons_succ]
              refine wpAnyH_take (i := 20) (v := ?_) rfl (by kernel_rfl) (by kernel_rfl) (by kernel_rfl) (fun _ _ _ h => h) (Or.inl ⟨by rfl, ?_⟩) (by assumption) ?_
              rotate_left
              · (intro w' hSw; (try dsimp only at hSw); go_simp; try (with_reducible rfl))
              change wpAnyH _ _ _ _ _ _ _ (Act.put _ (some 34) _) _
              try simp only [Act.put, List.setIfInBounds_toArray, List.set_cons_zero, List.set_cons_succ]
              refine wpAnyH_take (i := 21) (v := ?_) rfl (by kernel_rfl) (by kernel_rfl) (by kernel_rfl) (fun _ _ _ h => h) (Or.inl ⟨by rfl, ?_⟩) (by assumption) ?_
              rotate_left
              · (intro w' hSw; (try dsimp only at hSw); go_simp; try (with_reducible rfl))
              change wpAnyH _ _ _ _ _ _ _ (Act.put _ (some 4) _) _
              try simp only [Act.put, List.setIfInBounds_toArray, List.set_cons_zero, List.set_cons_succ]
              refine wpAnyH_done (by kernel_rfl) ?_ _
              go_wp2
              go_ret
              refine ⟨_, rfl, ?_, k_16, by omega, (Cur.alloc hc_16 _), grown_alloc (grown_trans (grown_alloc (grown_trans (grown_trans (grown_trans (grown_drew (grown_trans hg1 hg2)) hg_3) hg_7) hg_11) _) hg_16) _⟩
              rw [ByteArray.size_append]
              have := HT1.out
              omega
            exact AllReadyH.nil
          refine AllReadyH.cons (i := 16) rfl (fun K hK => ?_) ?_
          · simp only [List.getElem_toArray, List.getElem_cons_succ, List.getElem_cons_zero]
            rw [if_pos (by rfl)]
            go_simp
            (go_at_call 24; refine (curPick 3 _ hc_11 (by omega) (by omega)).mono ?_; rintro e w_16 ⟨r_16, rfl, hr_16, k_16, hk_16, hc_16, hg_16⟩; go_wp2_with fail)
            have hq_16 : (r_16 : Int) < 3 := by omega
            have hz_16 : (0 : Int) ≤ (r_16 : Int) := by omega
            refine hK.out _ _ ?_ (fun hHeld => ?_)
            · first | trivial | ((try dsimp only); exact trivial)
            clear hK K
            try simp only [Act.put, List.setIfInBounds_toArray, List.set_cons_zero, List.set_cons_succ]
            refine wpAnyH_take (i := 17) (v := ?_) rfl (by kernel_rfl) (by kernel_rfl) (by kernel_rfl) (fun _ _ _ h => h) (Or.inl ⟨by rfl, ?_⟩) (by assumption) ?_
            rotate_left
            · (intro w' hSw; (try dsimp only at hSw); go_simp; try (with_reducible rfl))
            change wpAnyH _ _ _ _ _ _ _ (Act.put _ (some 31) _) _
            try simp only [Act.put, List.setIfInBounds_toArray, List.set_cons_zero, List.set_cons_succ]
            refine wpAnyH_ready (rs := [1]) (by kernel_rfl) (by simp) ?_
            refine AllReadyH.cons (i := 1) rfl (fun K hK => ?_) AllReadyH.nil
            simp only [List.getElem_toArray, List.getElem_cons_succ, List.getElem_cons_zero]
            rw [if_pos (by rfl)]
            go_simp
            have hb_1 := (hc_16).lt.2
            refine hK.out _ _ ?_ (fun hHeld => ?_)
            · first | trivial | ((try dsimp only); exact trivial)
            clear hK K
            try simp only [Act.put, List.setIfInBounds_toArray, List.set_cons_zero, List.set_cons_succ]
            refine wpAnyH_lit_u8 (r := r_3) (by decide) (by show r_3 < 8; omega) ?_
            intro x hx hxc
            refine wpAnyH_cell hxc hHeld ?_
            intro hHeld
            refine wpAnyH_take (i := 4) (v := ?_) rfl (by kernel_rfl) (by kernel_rfl) (by kernel_rfl) (fun _ _ _ h => h) (Or.inl ⟨by rfl, ?_⟩) (by assumption) ?_
            rotate_left
            · (intro w' hSw; (try dsimp only at hSw); go_simp; try (with_reducible rfl))
            change wpAnyH _ _ _ _ _ _ _ (Act.put _ (some 18) _) _
            try simp only [Act.put, List.setIfInBounds_toArray, List.set_cons_zero, List.set_cons_succ]
            refine wpAnyH_take (i := 5) (v := ?_) rfl (by kernel_rfl) (by kernel_rfl) (by kernel_rfl) (fun _ _ _ h => h) (Or.inl ⟨by rfl, ?_⟩) (by assumption) ?_
            rotate_left
            · (intro w' hSw; (try dsimp only at hSw); go_simp; try (with_reducible rfl))
            change wpAnyH _ _ _ _ _ _ _ (Act.put _ (some 19) _) _
            try simp only [Act.put, List.setIfInBounds_toArray, List.set_cons_zero, List.set_cons_succ]
            refine wpAnyH_ready (rs := [14]) (by kernel_rfl) (by simp) ?_
            refine AllReadyH.cons (i := 14) rfl (fun K hK => ?_) AllReadyH.nil
            simp only [List.getElem_toArray, List.getElem_cons_succ, List.getElem_cons_zero]
            rw [if_pos (by rfl)]
            go_simp
            have hb_14 := ((Cur.alloc hc_16 (.cells #[.int .u8 128, .int .u8 255, .int .u8 192, .int .u8 224, .int .u8 237, .int .u8 0, .int .u8 240, .int .u8 244] 5))).lt.2
            refine hK.out _ _ ?_ (fun hHeld => ?_)
            · first | trivial | ((try dsimp only); exact ⟨trivial, keeps_cells (ext_alloc _ _) _ _ hHeld.2⟩)
            clear hK K
            try simp only [Act.put, List.setIfInBounds_toArray, List.set_cons_zero, List.set_cons_succ]
            refine wpAnyH_three hHeld ?_
            intro hHeld
            have hw_16 : IntKind.i64.wrap (1 + (r_16 : Int)) = 1 + (r_16 : Int) := IntWalk.i64_in _ (by omega)
            have hb0_16 : (0 : Int) ≤ 1 + (r_16 : Int) := by omega
            have hb1_16 : 1 + (r_16 : Int) ≤ 3 := by omega
            have hn_16 : (1 + (r_16 : Int)).toNat = 1 + r_16 := by omega
            obtain ⟨t1, ht1, hconv⟩ := convN (P := Tryz.prog) (src := 22) (dst := 9) (e := 5) rfl rfl rfl (r := r_16) (by omega) (x : Int) (128 + (r_7 : Int)) (128 + (r_11 : Int)) (by omega) (by omega) (by omega)
            have hsz1 : ¬ 9223372036854775807 < s.size + t1.size := by omega
            have HT1 := hid ht1
            clear ht1
            refine wpAnyH_take (i := 18) (v := ?_) rfl (by kernel_rfl) (by kernel_rfl) (by kernel_rfl) (fun _ _ _ h => h) (Or.inl ⟨by rfl, ?_⟩) (by assumption) ?_
            rotate_left
            · (intro w' hSw; (try dsimp only at hSw); go_simp; try (with_reducible rfl))
            change wpAnyH _ _ _ _ _ _ _ (Act.put _ (some 32) _) _
            try simp only [Act.put, List.setIfInBounds_toArray, List.set_cons_zero, List.set_cons_succ]
            refine wpAnyH_take (i := 19) (v := ?_) rfl (by kernel_rfl) (by kernel_rfl) (by kernel_rfl) (fun _ _ _ h => h) (Or.inl ⟨by rfl, ?_⟩) (by assumption) ?_
            rotate_left
            · (intro w' hSw; (try dsimp only at hSw); have hcv := hconv _ w' hSw.1.1.2 hSw.1.2 hSw.2; (try simp only [World.size_alloc] at hcv); go_simp; try (with_reducible rfl))
            change wpAnyH _ _ _ _ _ _ _ (Act.put _ (some 33) _) _
            try simp only [Act.put, List.setIfInBounds_toArray, List.set_cons_zero, List.set_cons_succ]
            refine wpAnyH_take (i := 20) (v := ?_) rfl (by kernel_rfl) (by kernel_rfl) (by kernel_rfl) (fun _ _ _ h => h) (Or.inl ⟨by rfl, ?_⟩) (by assumption) ?_
            rotate_left
            · (intro w' hSw; (try dsimp only at hSw); go_simp; try (with_reducible rfl))
            change wpAnyH _ _ _ _ _ _ _ (Act.put _ (some 34) _) _
            try simp only [Act.put, List.setIfInBounds_toArray, List.set_cons_zero, List.set_cons_succ]
            refine wpAnyH_take (i := 21) (v := ?_) rfl (by kernel_rfl) (by kernel_rfl) (by kernel_rfl) (fun _ _ _ h => h) (Or.inl ⟨by rfl, ?_⟩) (by assumption) ?_
            rotate_left
            · (intro w' hSw; (try dsimp only at hSw); go_simp; try (with_reducible rfl))
            change wpAnyH _ _ _ _ _ _ _ (Act.put _ (some 4) _) _
            try simp only [Act.put, List.setIfInBounds_toArray, List.set_cons_zero, List.set_cons_succ]
            refine wpAnyH_done (by kernel_rfl) ?_ _
            go_wp2
            go_ret
            refine ⟨_, rfl, ?_, k_16, by omega, (Cur.alloc (Cur.alloc hc_16 (.cells #[.int .u8 128, .int .u8 255, .int .u8 192, .int .u8 224, .int .u8 237, .int .u8 0, .int .u8 240, .int .u8 244] 5)) _), grown_alloc (grown_alloc (grown_trans (grown_trans (grown_trans (grown_trans (grown_drew (grown_trans hg1 hg2)) hg_3) hg_7) hg_11) hg_16) _) _⟩
            rw [ByteArray.size_append]
            have := HT1.out
            omega
          exact AllReadyH.nil
        exact AllReadyH.nil
      exact AllReadyH.nil
    exact AllReadyH.nil
  have g0 : ((r : Int) == 0) = false := by rw [beq_eq_false_iff_ne]; omega
  by_cases h1 : r = 1
  · subst h1
    go_wp2
    go_loop [6] (fun o => ∃ t : ByteArray, o = .string t ∧ (t.size = 2 ∨ t.size = 4 ∨ t.size = 8 ∨ t.size = 16 ∨ t.size = 32 ∨ t.size = 64 ∨ t.size = 128 ∨ t.size = 256 ∨ t.size = 512 ∨ t.size = 1024)) (fun o => 2000 - (strOf o).size)
    case atStart => exact ⟨_, rfl, Or.inl rfl⟩
    case round =>
      obtain ⟨t, rfl, ht⟩ := hrel
      by_cases hlt : (t.size : Int) < 1000
      · have hsz : ¬ 9223372036854775807 < t.size + t.size := by omega
        go_wp2
        go_round
        case rel => exact ⟨_, rfl, by rw [ByteArray.size_append]; omega⟩
        case measure => simp only [strOf]; rw [ByteArray.size_append]; omega
      · have h4 : t.size = 1024 := by omega
        go_wp2_with fail
        refine (curPick 3 _ hc_r (by omega) (by omega)).mono ?_
        rintro e w3 ⟨r3, rfl, hr3, k3, hk3, hc3, hg3⟩
        have hq : (r3 : Int) < 3 := by omega
        have hw : IntKind.i64.wrap (999 + (r3 : Int)) = 999 + (r3 : Int) := IntWalk.i64_in _ (by omega)
        have hz0 : (0 : Int) ≤ 999 + (r3 : Int) := by omega
        have H4 := hid h4
        clear h4
        have hz1 : 999 + (r3 : Int) ≤ (t.size : Int) := by have := H4.out; omega
        go_wp2
        go_ret
        refine ⟨_, rfl, ?_, k3, by omega, hc3, grown_trans (grown_trans hg1 hg2) hg3⟩
        rw [ByteArray.size_extract]
        have := H4.out
        omega
  have g1 : ((r : Int) == 1) = false := by rw [beq_eq_false_iff_ne]; omega
  by_cases h2 : r = 2
  · subst h2
    have hsz : ¬ 9223372036854775807 < s.size + 11 := by omega
    go_wp2
    go_ret
    refine ⟨_, rfl, ?_, k2, by omega, hc_r, grown_trans hg1 hg2⟩
    rw [ByteArray.size_append]
    show s.size + 11 ≤ _
    omega
  · have g2 : ((r : Int) == 2) = false := by rw [beq_eq_false_iff_ne]; omega
    go_wp2
    go_ret
    exact ⟨_, rfl, by omega, k2, by omega, hc_r, grown_trans hg1 hg2⟩
end Go.Proofs.YtcebgmdcbdggeaaGreatDoor
