/-
  What is proved here: the drawing of a file's text and of a separator: their sizes; which separators there are. No condition.
-/
import Derived.Test.YtenfpfjpcpmhiaaDoorDraw
import Derived.Test.YtenfpfjpcpmhiaaDoorLen
import Derived.Test.YtenfpfjpcpmhiaaDoorSplitLaw
namespace Go.Proofs.YtenfpfjpcpmhiaaDoor
open Go.RowKit
set_option linter.unusedVariables false
set_option linter.unusedSimpArgs false

theorem lit_pred {w : World} {g r : Nat} {p : Value → Bool} {cs : Array Value} {e : TypeId} {fr : Nat × Nat} (hg : w.heap[g]? = some (.cells cs e fr)) (ha : cs.toList.all p = true) (hr : r < cs.size) : ∃ v, p v = true ∧ w.cell? ⟨g, r, none⟩ = some v := by
  have h1 : w.cell? ⟨g, r, none⟩ = cs[r]? := cell_of_row w g r cs e fr hg
  exact ⟨cs[r], List.all_eq_true.1 ha cs[r] (by simp), h1.trans (Array.getElem?_eq_getElem hr)⟩
theorem lit_pred' {w w' : World} {p : Value → Bool} {cs : Array Value} {e : TypeId} {r q : Nat} (hg : (w.alloc (.cells cs e)).grownBy w' (some q)) (hp : q < w.heap.size) (ha : cs.toList.all p = true) (hr : r < cs.size) : ∃ v, p v = true ∧ w'.cell? ⟨w.heap.size, r, none⟩ = some v := by
  obtain ⟨t, h1, h2⟩ := lit_pred (heap_alloc_new w (.cells cs e)) ha hr
  exact ⟨t, h1, hg.cell h2 (fun e => absurd (Option.some.inj e) (Nat.ne_of_gt hp))⟩
/-- the separators -/
def rsIn (s : ByteArray) : Bool := (decide (s = ⟨#[10]⟩) || decide (s = ⟨#[]⟩) || decide (s = ⟨#[59]⟩) || decide (s = ⟨#[97]⟩) || decide (s = ⟨#[97, 98]⟩) || decide (s = ⟨#[195, 169]⟩))
def isRs : Value → Bool
  | .string s => rsIn s
  | _ => false
theorem isRs_str {v : Value} (h : isRs v = true) : ∃ s, v = .string s ∧ rsIn s = true := by
  cases v with
  | string s => exact ⟨s, rfl, h⟩
  | _ => cases h
theorem rs_len {s : ByteArray} (h : rsIn s = true) : (s.size = 0 ∧ lenOf s = 0) ∨ (s.size = 1 ∧ lenOf s = 1) ∨ (s.size = 2 ∧ (lenOf s = 1 ∨ lenOf s = 2)) := by
  unfold rsIn at h
  simp only [Bool.or_eq_true, decide_eq_true_eq] at h
  rcases h with ((((h | h) | h) | h) | h) | h <;> subst h <;> decide
set_option maxHeartbeats 4000000 in
set_option maxRecDepth 100000 in
theorem curFile {B p k : Nat} (w : World) (hc : Cur B w p k) (hk : k ≤ 800000000000) :
    Calls Tryd.prog 51 #[.pointer (some ⟨p, 0, none⟩)] w fun e w' => ∃ s : ByteArray, e = .returned (.string s) ∧ s.size ≤ 5000 ∧ ∃ k', k' ≤ k + 200 ∧ Cur B w' p k' ∧ w.grownBy w' (some p) := by
  go_enter Tryd.func51, Tryd.ntmps51
  go_wp2_with fail
  refine (curSize 8 _ hc (by omega) (by omega) (by omega)).mono ?_
  rintro e w1 ⟨r, rfl, hr, k1, hk1, hc1, hg1⟩
  have hrn : r ≤ 8 := by omega
  clear hr
  go_wp2
  go_loopw [3, 4] (fun out kk wr => ∃ (j : Nat) (o : ByteArray) (k2 : Nat), out = .string o ∧ kk = .int .i64 (j : Int) ∧ j ≤ r ∧ o.size ≤ 45 * (r - j) ∧ k2 ≤ k1 + 16 * (r - j) ∧ Cur B wr p k2 ∧ w.grownBy wr (some p)) (fun _ kk _ => (intOf kk).toNat)
  case atStart => exact ⟨r, ⟨#[]⟩, k1, rfl, rfl, Nat.le_refl _, Nat.zero_le _, by omega, hc1, hg1⟩
  case round =>
    obtain ⟨j, o, k2, rfl, rfl, hj, ho, hk2, hc2, hg2⟩ := hrel
    by_cases hz : (0 : Int) < (j : Int)
    · go_wp2_with fail
      refine (curLine _ hc2 (by omega)).mono ?_
      rintro e w3 ⟨s1, rfl, hs1, k3, hk3, hc3, hg3⟩
      have hsum1 : ¬ 9223372036854775807 < o.size + s1.size := by omega
      go_wp2_with fail
      refine (curPick 6 _ (hc3.alloc _) (by omega) (by omega)).mono ?_
      rintro e w4 ⟨q, rfl, hq, k4, hk4, hc4, hg4⟩
      have hq1 : (q : Int) < 6 := by omega
      have hq0 : (0 : Int) ≤ (q : Int) := by omega
      have hlt := hc3.lt
      obtain ⟨t, ht, htc⟩ := lit_str' (m := 3) (r := q) hg4 hlt.2 (by decide) (by show q < 6; omega)
      have hsum2 : ¬ 9223372036854775807 < (o ++ s1).size + t.size := by rw [ByteArray.size_append]; omega
      have hsum3 : ¬ 9223372036854775807 < o.size + s1.size + t.size := by omega
      go_wp2
      go_roundw
      case rel => exact ⟨j - 1, o ++ s1 ++ t, k4, rfl, by first | go_num | (congr 1; omega), by omega, by rw [ByteArray.size_append, ByteArray.size_append]; omega, by omega, hc4, grown_trans (grown_trans hg2 hg3) (grown_trans (grown_alloc (grown_refl _ _) _) hg4)⟩
      case measure => simp [intOf]; omega
    · go_wp2_with fail
      refine (curPick 20 _ hc2 (by omega) (by omega)).mono ?_
      rintro e w3 ⟨q, rfl, hq, k3, hk3, hc3, hg3⟩
      clear hq
      by_cases h0 : q = 0
      · subst h0
        have hlt := hc3.lt
        have hcv : (convert 45 9 (.slice (some ⟨w3.heap.size, 0, none⟩) 1 1)).run Tryd.prog (w3.alloc (.cells #[.int .u8 200] 5)) = .ok (.string ⟨#[200]⟩) (w3.alloc (.cells #[.int .u8 200] 5)) := run_convert_bytes_back (P := Tryd.prog) (w3.alloc (.cells #[.int .u8 200] 5)) 45 9 5 ⟨w3.heap.size, 0, none⟩ 1 [200] rfl rfl rfl (fun j hj => by
          match j, hj with
          | 0, _ => simp [Addr.add_lit])
        have hsum : ¬ 9223372036854775807 < o.size + 1 := by omega
        go_wp2
        go_ret
        exact ⟨_, rfl, by rw [ByteArray.size_append]; show o.size + 1 ≤ _; omega, k3, by omega, hc3.alloc _, grown_trans hg2 (grown_alloc hg3 _)⟩
      · have g0 : ((q : Int) == 0) = false := by rw [beq_eq_false_iff_ne]; omega
        by_cases h1 : q = 1
        · subst h1
          go_wp2
          go_loop [3] (fun o => ∃ t : ByteArray, o = .string t ∧ t.size ≤ 4000) (fun o => 5000 - (strOf o).size)
          case atStart => exact ⟨_, rfl, by omega⟩
          case round =>
            obtain ⟨t, rfl, ht⟩ := hrel
            by_cases hlt : (t.size : Int) ≤ 3900
            · have hsz : ¬ 9223372036854775807 < t.size + 80 := by omega
              go_wp2
              go_round
              case rel => exact ⟨_, rfl, by rw [ByteArray.size_append]; show t.size + 80 ≤ _; omega⟩
              case measure => simp only [strOf]; rw [ByteArray.size_append]; show 5000 - (t.size + 80) < _; omega
            · go_wp2
              go_ret
              exact ⟨t, rfl, by omega, k3, by omega, hc3, grown_trans hg2 hg3⟩
        · have g1 : ((q : Int) == 1) = false := by rw [beq_eq_false_iff_ne]; omega
          go_wp2
          go_ret
          exact ⟨o, rfl, by omega, k3, by omega, hc3, grown_trans hg2 hg3⟩
set_option maxHeartbeats 4000000 in
set_option maxRecDepth 100000 in
theorem drawLines {v : Value} {c : List UInt8} (w : World) (h : Rd.rd (Old w) w [v] c) (hn : c.length ≤ 1048576) :
    Calls Tryd.prog 16 #[v] w fun e w' => ∃ s rs : ByteArray, e = .returned (.tuple #[.string s, .string rs]) ∧ s.size ≤ 5000 ∧ rsIn rs = true ∧ Below w.heap.size w w' := by
  obtain ⟨a, cap, rfl, h1, h2, hc⟩ := rdBytes h
  have CO := fun w' (e : w = w') => curOpen (a := a) (cap := cap) w hn hc
  clear hc h h1 h2
  go_enter Tryd.func16, Tryd.ntmps16
  go_wp2_with fail
  refine (CO _ rfl).mono ?_
  rintro e w1 ⟨rfl, hc1, hb1⟩
  go_wp2_with fail
  refine (curFile _ hc1 (by omega)).mono ?_
  rintro e w2 ⟨s, rfl, hs, k, hk, hc2, hg2⟩
  go_wp2_with fail
  refine wp_region_held_drew (S := fun w' => True) (by kernel_rfl) ?_ (fun hHeld => ?_)
  · trivial
  refine wpAnyH_take (i := 0) (v := ?_) rfl (by kernel_rfl) (by kernel_rfl) (by kernel_rfl) (fun _ _ _ h => h) (Or.inl ⟨by rfl, ?_⟩) (by assumption) ?_
  rotate_left
  · (intro w' hSw; (try dsimp only at hSw); go_simp; try (with_reducible rfl))
  change wpAnyH _ _ _ _ _ _ _ (Act.put _ (some 10) _) _
  try simp only [Act.put, List.setIfInBounds_toArray, List.set_cons_zero, List.set_cons_succ]
  refine wpAnyH_take (i := 2) (v := ?_) rfl (by kernel_rfl) (by kernel_rfl) (by kernel_rfl) (fun _ _ _ h => h) (Or.inl ⟨by rfl, ?_⟩) (by assumption) ?_
  rotate_left
  · (intro w' hSw; (try dsimp only at hSw); go_simp; try (with_reducible rfl))
  change wpAnyH _ _ _ _ _ _ _ (Act.put _ (some 12) _) _
  try simp only [Act.put, List.setIfInBounds_toArray, List.set_cons_zero, List.set_cons_succ]
  refine wpAnyH_ready (rs := [1, 3]) (by kernel_rfl) (by simp) ?_
  refine AllReadyH.cons (i := 1) rfl (fun K hK => ?_) ?_
  · simp only [List.getElem_toArray, List.getElem_cons_succ, List.getElem_cons_zero]
    rw [if_pos (by rfl)]
    go_simp
    have hb_b := ((Cur.drew hc2)).lt.2
    refine hK.out _ _ ?_ (fun hHeld => ?_)
    · first | trivial | ((try dsimp only); trivial)
    clear hK K
    try simp only [Act.put, List.setIfInBounds_toArray, List.set_cons_zero, List.set_cons_succ]
    refine wpAnyH_ready (rs := [3]) (by kernel_rfl) (by simp) ?_
    refine AllReadyH.cons (i := 3) rfl (fun K hK => ?_) AllReadyH.nil
    simp only [List.getElem_toArray, List.getElem_cons_succ, List.getElem_cons_zero]
    rw [if_pos (by rfl)]
    go_simp
    (go_at_call 52; refine (curPick 7 _ (Cur.alloc (Cur.drew hc2) (.cells #[.string ⟨#[10]⟩, .string ⟨#[10]⟩, .string ⟨#[]⟩, .string ⟨#[59]⟩, .string ⟨#[97]⟩, .string ⟨#[97, 98]⟩, .string ⟨#[195, 169]⟩] 9)) (by omega) (by omega)).mono ?_; rintro e w_c ⟨r_c, rfl, hr_c, k_c, hk_c, hc_c, hg_c⟩; go_wp2_with fail)
    have hq_c : (r_c : Int) < 7 := by omega
    have hz_c : (0 : Int) ≤ (r_c : Int) := by omega
    refine hK.out _ _ ?_ (fun hHeld => ?_)
    · first | trivial | ((try dsimp only); trivial)
    clear hK K
    try simp only [Act.put, List.setIfInBounds_toArray, List.set_cons_zero, List.set_cons_succ]
    obtain ⟨x, hx, hxc⟩ := lit_pred' (p := isRs) (r := r_c) hg_c hb_b (by decide) (by show r_c < 7; omega)
    obtain ⟨rs, rfl, hrs⟩ := isRs_str hx
    refine wpAnyH_cell hxc hHeld ?_
    intro hHeld
    refine wpAnyH_take (i := 4) (v := ?_) rfl (by kernel_rfl) (by kernel_rfl) (by kernel_rfl) (fun _ _ _ h => h) (Or.inl ⟨by rfl, ?_⟩) (by assumption) ?_
    rotate_left
    · (intro w' hSw; (try dsimp only at hSw); go_simp; try (with_reducible rfl))
    change wpAnyH _ _ _ _ _ _ _ (Act.put _ (some 14) _) _
    try simp only [Act.put, List.setIfInBounds_toArray, List.set_cons_zero, List.set_cons_succ]
    refine wpAnyH_take (i := 5) (v := ?_) rfl (by kernel_rfl) (by kernel_rfl) (by kernel_rfl) (fun _ _ _ h => h) (Or.inl ⟨by rfl, ?_⟩) (by assumption) ?_
    rotate_left
    · (intro w' hSw; (try dsimp only at hSw); (first | (have g0 := hSw.2; (try dsimp only [World.drew, World.drewN] at g0); go_simp; (try (with_reducible rfl)); done) | (have g0 := hSw.2; go_simp; try (with_reducible rfl))))
    change wpAnyH _ _ _ _ _ _ _ (Act.put _ (some 15) _) _
    try simp only [Act.put, List.setIfInBounds_toArray, List.set_cons_zero, List.set_cons_succ]
    refine wpAnyH_take (i := 6) (v := ?_) rfl (by kernel_rfl) (by kernel_rfl) (by kernel_rfl) (fun _ _ _ h => h) (Or.inl ⟨by rfl, ?_⟩) (by assumption) ?_
    rotate_left
    · (intro w' hSw; (try dsimp only at hSw); go_simp; try (with_reducible rfl))
    change wpAnyH _ _ _ _ _ _ _ (Act.put _ (some 2) _) _
    try simp only [Act.put, List.setIfInBounds_toArray, List.set_cons_zero, List.set_cons_succ]
    refine wpAnyH_take (i := 7) (v := ?_) rfl (by kernel_rfl) (by kernel_rfl) (by kernel_rfl) (fun _ _ _ h => h) (Or.inl ⟨by rfl, ?_⟩) (by assumption) ?_
    rotate_left
    · (intro w' hSw; (try dsimp only at hSw); go_simp; try (with_reducible rfl))
    change wpAnyH _ _ _ _ _ _ _ (Act.put _ (some 3) _) _
    try simp only [Act.put, List.setIfInBounds_toArray, List.set_cons_zero, List.set_cons_succ]
    refine wpAnyH_done (by kernel_rfl) ?_ _
    go_wp2
    go_ret2
    exact ⟨s, rs, rfl, hs, hrs, drawn_below hb1 (grown_trans hg2 (grown_trans (grown_alloc (grown_drew (grown_refl _ _)) _) hg_c))⟩
  refine AllReadyH.cons (i := 3) rfl (fun K hK => ?_) ?_
  · simp only [List.getElem_toArray, List.getElem_cons_succ, List.getElem_cons_zero]
    rw [if_pos (by rfl)]
    go_simp
    (go_at_call 52; refine (curPick 7 _ (Cur.drew hc2) (by omega) (by omega)).mono ?_; rintro e w_c ⟨r_c, rfl, hr_c, k_c, hk_c, hc_c, hg_c⟩; go_wp2_with fail)
    have hq_c : (r_c : Int) < 7 := by omega
    have hz_c : (0 : Int) ≤ (r_c : Int) := by omega
    refine hK.out _ _ ?_ (fun hHeld => ?_)
    · first | trivial | ((try dsimp only); trivial)
    clear hK K
    try simp only [Act.put, List.setIfInBounds_toArray, List.set_cons_zero, List.set_cons_succ]
    refine wpAnyH_take (i := 6) (v := ?_) rfl (by kernel_rfl) (by kernel_rfl) (by kernel_rfl) (fun _ _ _ h => h) (Or.inl ⟨by rfl, ?_⟩) (by assumption) ?_
    rotate_left
    · (intro w' hSw; (try dsimp only at hSw); go_simp; try (with_reducible rfl))
    change wpAnyH _ _ _ _ _ _ _ (Act.put _ (some 2) _) _
    try simp only [Act.put, List.setIfInBounds_toArray, List.set_cons_zero, List.set_cons_succ]
    refine wpAnyH_ready (rs := [1]) (by kernel_rfl) (by simp) ?_
    refine AllReadyH.cons (i := 1) rfl (fun K hK => ?_) AllReadyH.nil
    simp only [List.getElem_toArray, List.getElem_cons_succ, List.getElem_cons_zero]
    rw [if_pos (by rfl)]
    go_simp
    have hb_b := (hc_c).lt.2
    refine hK.out _ _ ?_ (fun hHeld => ?_)
    · first | trivial | ((try dsimp only); trivial)
    clear hK K
    try simp only [Act.put, List.setIfInBounds_toArray, List.set_cons_zero, List.set_cons_succ]
    obtain ⟨x, hx, hxc⟩ := lit_pred (p := isRs) (r := r_c) (heap_alloc_new w_c (.cells #[.string ⟨#[10]⟩, .string ⟨#[10]⟩, .string ⟨#[]⟩, .string ⟨#[59]⟩, .string ⟨#[97]⟩, .string ⟨#[97, 98]⟩, .string ⟨#[195, 169]⟩] 9)) (by decide) (by show r_c < 7; omega)
    obtain ⟨rs, rfl, hrs⟩ := isRs_str hx
    refine wpAnyH_cell hxc hHeld ?_
    intro hHeld
    refine wpAnyH_take (i := 4) (v := ?_) rfl (by kernel_rfl) (by kernel_rfl) (by kernel_rfl) (fun _ _ _ h => h) (Or.inl ⟨by rfl, ?_⟩) (by assumption) ?_
    rotate_left
    · (intro w' hSw; (try dsimp only at hSw); go_simp; try (with_reducible rfl))
    change wpAnyH _ _ _ _ _ _ _ (Act.put _ (some 14) _) _
    try simp only [Act.put, List.setIfInBounds_toArray, List.set_cons_zero, List.set_cons_succ]
    refine wpAnyH_take (i := 5) (v := ?_) rfl (by kernel_rfl) (by kernel_rfl) (by kernel_rfl) (fun _ _ _ h => h) (Or.inl ⟨by rfl, ?_⟩) (by assumption) ?_
    rotate_left
    · (intro w' hSw; (try dsimp only at hSw); (first | (have g0 := hSw.2; (try dsimp only [World.drew, World.drewN] at g0); go_simp; (try (with_reducible rfl)); done) | (have g0 := hSw.2; go_simp; try (with_reducible rfl))))
    change wpAnyH _ _ _ _ _ _ _ (Act.put _ (some 15) _) _
    try simp only [Act.put, List.setIfInBounds_toArray, List.set_cons_zero, List.set_cons_succ]
    refine wpAnyH_take (i := 7) (v := ?_) rfl (by kernel_rfl) (by kernel_rfl) (by kernel_rfl) (fun _ _ _ h => h) (Or.inl ⟨by rfl, ?_⟩) (by assumption) ?_
    rotate_left
    · (intro w' hSw; (try dsimp only at hSw); go_simp; try (with_reducible rfl))
    change wpAnyH _ _ _ _ _ _ _ (Act.put _ (some 3) _) _
    try simp only [Act.put, List.setIfInBounds_toArray, List.set_cons_zero, List.set_cons_succ]
    refine wpAnyH_done (by kernel_rfl) ?_ _
    go_wp2
    go_ret2
    exact ⟨s, rs, rfl, hs, hrs, drawn_below hb1 (grown_trans hg2 (grown_alloc (grown_trans (grown_drew (grown_refl _ _)) hg_c) _))⟩
  exact AllReadyH.nil
end Go.Proofs.YtenfpfjpcpmhiaaDoor
