/-
  What is proved here: ArrOk on both sides. The condition 'Tabs' says that the library's tables for UTF-8 lie in the world.
-/
import Derived.Test.YtommldonooicjaaDoorValOk
import Derived.Test.YtommldonooicjaaDoorArr1
namespace Go.Proofs.YtommldonooicjaaDoor
open Go.RowKit
set_option linter.unusedVariables false
set_option linter.unusedSimpArgs false

def arrOkAt (a : Arr) (k : Nat) : Bool := match a.keys[k]?, a.vals[k]? with | some s, some v => okText s && valOk v && decide (arrAt a s = k) | _, _ => false
def arrOk (a : Arr) : Bool := decide (a.keys.length ≤ 200) && decide (a.vals.length = a.keys.length) && (List.range a.keys.length).all (arrOkAt a)
theorem arrOkAt_eq {a : Arr} {k : Nat} (h : k < a.keys.length) (h' : k < a.vals.length) : arrOkAt a k = (okText a.keys[k] && valOk a.vals[k] && decide (arrAt a a.keys[k] = k)) := by
  unfold arrOkAt
  rw [List.getElem?_eq_getElem h, List.getElem?_eq_getElem h']
theorem arrOk_long {a : Arr} (h : 200 < a.keys.length) : arrOk a = false := by
  unfold arrOk
  rw [decide_eq_false (by omega)]; rfl
theorem arrOk_len {a : Arr} (h : a.vals.length ≠ a.keys.length) : arrOk a = false := by
  unfold arrOk
  rw [decide_eq_false h, Bool.and_false]; rfl
theorem arrOk_all {a : Arr} (h1 : a.keys.length ≤ 200) (h2 : a.vals.length = a.keys.length) (h : ∀ k, k < a.keys.length → arrOkAt a k = true) : arrOk a = true := by
  unfold arrOk
  rw [decide_eq_true h1, decide_eq_true h2]
  simpa using h
theorem arrOk_not {a : Arr} {k : Nat} (hk : k < a.keys.length) (h : arrOkAt a k = false) : arrOk a = false := by
  unfold arrOk
  have : (List.range a.keys.length).all (arrOkAt a) = false := by
    rw [List.all_eq_false]
    exact ⟨k, by simpa using hk, by simp [h]⟩
  rw [this, Bool.and_false]

set_option maxHeartbeats 8000000 in
set_option maxRecDepth 100000 in
theorem specArrOk {cs : Array Value} {x : Arr} (w : World) (h : Rd.rd (Old w) w cs.toList x) :
    Calls Tryd.prog 10 #[.agg cs] w fun e w' => e = .returned (.bool (arrOk x)) ∧ Below w.heap.size w w' := by
  obtain ⟨a, c, a1, c1, hcs, h0, hv⟩ := rdArr h
  obtain rfl := arr_of_list hcs
  clear hcs
  obtain ⟨a', cap, ha, n1, n2, hc⟩ := rdStrs h0
  simp only [Value.slice.injEq, true_and] at ha
  obtain ⟨rfl, rfl⟩ := ha
  by_cases hlong : (200 : Int) < x.keys.length
  · have HR := hid (arrOk_long (a := x) (by omega))
    clear h h0 hv hc
    go_enter Tryd.func10, Tryd.ntmps10
    go_wp2
    go_ret
    exact ⟨end_bool HR.out.symm, ext_alloc _ _⟩
  by_cases hlen : x.vals.length = x.keys.length
  rotate_left
  · have HR := hid (arrOk_len hlen)
    have hne : ((x.vals.length : Int) != (x.keys.length : Int)) = true := by rw [bne_iff_ne]; omega
    clear h h0 hv hc hlen
    go_enter Tryd.func10, Tryd.ntmps10
    go_wp2
    go_ret
    exact ⟨end_bool HR.out.symm, ext_alloc _ _⟩
  have HLN := hid hlen
  have hne : ((x.vals.length : Int) != (x.keys.length : Int)) = false := by rw [hlen]; simp
  clear hlen
  go_enter Tryd.func10, Tryd.ntmps10
  go_wp2
  have hw0 := Below.refl (w.alloc (.cells #[.slice a x.keys.length c, .slice a1 x.vals.length c1] 27)).heap.size (w.alloc (.cells #[.slice a x.keys.length c, .slice a1 x.vals.length c1] 27))
  go_loopw [3] (fun i wr => ∃ k : Nat, k ≤ x.keys.length ∧ i = .int .i64 k ∧ (∀ j, j < k → arrOkAt x j = true) ∧ Below (w.alloc (.cells #[.slice a x.keys.length c, .slice a1 x.vals.length c1] 27)).heap.size (w.alloc (.cells #[.slice a x.keys.length c, .slice a1 x.vals.length c1] 27)) wr) (fun i _ => x.keys.length - (intOf i).toNat)
  case atStart => exact ⟨0, Nat.zero_le _, rfl, fun i hi => absurd hi (by omega), hw0⟩
  case round =>
    obtain ⟨k, hk, rfl, hr, hbr⟩ := hrel
    have HR := hid hr
    clear hr
    obtain ⟨hcr, _⟩ := bcell hbr
    have hlr : w.heap.size < wr.heap.size := by have := hbr.size; (try simp at this); omega
    have hbw : Below w.heap.size w wr := ext_trans (ext_alloc _ _) hbr
    have k0 : wr.cell? ⟨w.heap.size, 0, none⟩ = some (.slice a x.keys.length c) := keeps_cells hbr _ _ (by simp)
    have k1 : wr.cell? ⟨w.heap.size, 1, none⟩ = some (.slice a1 x.vals.length c1) := keeps_cells hbr _ _ (by simp)
    by_cases hlt : k < x.keys.length
    · obtain ⟨b, off, rfl, hB, hcell⟩ := hc (by omega)
      obtain ⟨hce, hsz⟩ := hcell k hlt
      have hB' : b < w.heap.size := hB
      have hkv : k < x.vals.length := by rw [HLN.out]; exact hlt
      obtain ⟨_, b2, off2, rfl, hB2, t0, t1, t2, t3, t4, hx⟩ := rdVals_at hv hkv
      have hB2' : b2 < w.heap.size := hB2
      have q := keeps_cells hbw _ _ hce
      have q0 := keeps_cells hbw _ _ t0
      have q1 := keeps_cells hbw _ _ t1
      have q2 := keeps_cells hbw _ _ t2
      have q3 := keeps_cells hbw _ _ t3
      have q4 := keeps_cells hbw _ _ t4
      have hE := hid (arrOkAt_eq hlt hkv)
      clear hcell hc hce t0 t1 t2 t3 t4
      have HX := hid (fun (S : Nat → Prop) (w : World) => rdVal_mk (S := S) (w := w) (rdVal hx).2.1 (rdVal hx).2.2.1 (rdVal hx).2.2.2.1 (rdVal hx).2.2.2.2)
      clear hx
      cases ho : okText x.keys[k]
      · have HZ := hid (show arrOk x = false from arrOk_not hlt (by rw [hE.out, ho]; rfl))
        go_wp2_with fail
        refine wp_region_held_drew (S := fun w' => w'.cell? ⟨w.heap.size, 0, none⟩ = some (.slice (some ⟨b, off, none⟩) x.keys.length c) ∧ w'.cell? ⟨w.heap.size, 1, none⟩ = some (.slice (some ⟨b2, off2, none⟩) x.vals.length c1) ∧ w'.cell? ⟨b, off + k, none⟩ = some (.string x.keys[k]) ∧ w'.cell? ⟨b2, off2 + k * 5, none⟩ = some (.int .i64 x.vals[k].kind) ∧ w'.cell? ⟨b2, off2 + k * 5 + 1, none⟩ = some (.bool x.vals[k].num.neg) ∧ w'.cell? ⟨b2, off2 + k * 5 + 2, none⟩ = some (.string x.vals[k].num.dig) ∧ w'.cell? ⟨b2, off2 + k * 5 + 3, none⟩ = some (.int .i64 x.vals[k].num.exp) ∧ w'.cell? ⟨b2, off2 + k * 5 + 4, none⟩ = some (.string x.vals[k].text)) (by kernel_rfl) ?_ (fun hHeld => ?_)
        · simp [*]
        refine wpAnyH_take (i := 0) (v := ?_) rfl (by kernel_rfl) (by kernel_rfl) (by kernel_rfl) (fun _ _ _ h => h) (Or.inl ⟨by rfl, ?_⟩) (by assumption) ?_
        rotate_left
        · (intro w' hSw; (try dsimp only at hSw); go_simp; try (with_reducible rfl))
        change wpAnyH _ _ _ _ _ _ _ (Act.put _ (some 24) _) _
        try simp only [Act.put, List.setIfInBounds_toArray, List.set_cons_zero, List.set_cons_succ]
        refine wpAnyH_take (i := 1) (v := ?_) rfl (by kernel_rfl) (by kernel_rfl) (by kernel_rfl) (fun _ _ _ h => h) (Or.inl ⟨by rfl, ?_⟩) (by assumption) ?_
        rotate_left
        · (intro w' hSw; (try dsimp only at hSw); go_simp; try (with_reducible rfl))
        change wpAnyH _ _ _ _ _ _ _ (Act.put _ (some 25) _) _
        try simp only [Act.put, List.setIfInBounds_toArray, List.set_cons_zero, List.set_cons_succ]
        refine wpAnyH_take (i := 2) (v := ?_) rfl (by kernel_rfl) (by kernel_rfl) (by kernel_rfl) (fun _ _ _ h => h) (Or.inl ⟨by rfl, ?_⟩) (by assumption) ?_
        rotate_left
        · (intro w' hSw; (try dsimp only at hSw); go_simp; try (with_reducible rfl))
        change wpAnyH _ _ _ _ _ _ _ (Act.put _ (some 26) _) _
        try simp only [Act.put, List.setIfInBounds_toArray, List.set_cons_zero, List.set_cons_succ]
        refine wpAnyH_take (i := 3) (v := ?_) rfl (by kernel_rfl) (by kernel_rfl) (by kernel_rfl) (fun _ _ _ h => h) (Or.inl ⟨by rfl, ?_⟩) (by assumption) ?_
        rotate_left
        · (intro w' hSw; (try dsimp only at hSw); go_simp; try (with_reducible rfl))
        change wpAnyH _ _ _ _ _ _ _ (Act.put _ (some 27) _) _
        try simp only [Act.put, List.setIfInBounds_toArray, List.set_cons_zero, List.set_cons_succ]
        refine wpAnyH_take (i := 4) (v := ?_) rfl (by kernel_rfl) (by kernel_rfl) (by kernel_rfl) (fun _ _ _ h => h) (Or.inl ⟨by rfl, ?_⟩) (by assumption) ?_
        rotate_left
        · (intro w' hSw; (try dsimp only at hSw); go_simp; try (with_reducible rfl))
        change wpAnyH _ _ _ _ _ _ _ (Act.put _ (some 28) _) _
        try simp only [Act.put, List.setIfInBounds_toArray, List.set_cons_zero, List.set_cons_succ]
        refine wpAnyH_ready (rs := [5]) (by kernel_rfl) (by simp) ?_
        refine AllReadyH.cons (i := 5) rfl (fun K hK => ?_) AllReadyH.nil
        simp only [List.getElem_toArray, List.getElem_cons_succ, List.getElem_cons_zero]
        rw [if_pos (by rfl)]
        go_simp
        (go_at_call 34; refine (specTextOk _ _).mono ?_; rintro e w1 ⟨rfl, hb1⟩; rw [ho]; have hkc1 := keeps_cells hb1; go_wp2_with fail)
        refine hK.out _ _ ?_ (fun hHeld => ?_)
        · (try dsimp only); simp [*]
        clear hK K
        try simp only [Act.put, List.setIfInBounds_toArray, List.set_cons_zero, List.set_cons_succ]
        refine wpAnyH_take (i := 6) (v := ?_) rfl (by kernel_rfl) (by kernel_rfl) (by kernel_rfl) (fun _ _ _ h => h) (Or.inl ⟨by rfl, ?_⟩) (by assumption) ?_
        rotate_left
        · (intro w' hSw; (try dsimp only at hSw); go_simp; try (with_reducible rfl))
        change wpAnyH _ _ _ _ _ _ _ (Act.put _ (some 30) _) _
        try simp only [Act.put, List.setIfInBounds_toArray, List.set_cons_zero, List.set_cons_succ]
        refine wpAnyH_take (i := 7) (v := ?_) rfl (by kernel_rfl) (by kernel_rfl) (by kernel_rfl) (fun _ _ _ h => h) (Or.inl ⟨by rfl, ?_⟩) (by assumption) ?_
        rotate_left
        · (intro w' hSw; (try dsimp only at hSw); go_simp; try (with_reducible rfl))
        change wpAnyH _ _ _ _ _ _ _ (Act.put _ (some 31) _) _
        try simp only [Act.put, List.setIfInBounds_toArray, List.set_cons_zero, List.set_cons_succ]
        refine wpAnyH_take (i := 8) (v := undef) rfl (by kernel_rfl) (by kernel_rfl) (by kernel_rfl) (fun _ _ _ h => h) (Or.inr ⟨by rfl, rfl⟩) (by assumption) ?_
        change wpAnyH _ _ _ _ _ _ _ (Act.put _ (some 32) _) _
        try simp only [Act.put, List.setIfInBounds_toArray, List.set_cons_zero, List.set_cons_succ]
        refine wpAnyH_take (i := 9) (v := undef) rfl (by kernel_rfl) (by kernel_rfl) (by kernel_rfl) (fun _ _ _ h => h) (Or.inr ⟨by rfl, rfl⟩) (by assumption) ?_
        change wpAnyH _ _ _ _ _ _ _ (Act.put _ (some 33) _) _
        try simp only [Act.put, List.setIfInBounds_toArray, List.set_cons_zero, List.set_cons_succ]
        refine wpAnyH_take (i := 10) (v := undef) rfl (by kernel_rfl) (by kernel_rfl) (by kernel_rfl) (fun _ _ _ h => h) (Or.inr ⟨by rfl, rfl⟩) (by assumption) ?_
        change wpAnyH _ _ _ _ _ _ _ (Act.put _ (some 34) _) _
        try simp only [Act.put, List.setIfInBounds_toArray, List.set_cons_zero, List.set_cons_succ]
        refine wpAnyH_take (i := 11) (v := undef) rfl (by kernel_rfl) (by kernel_rfl) (by kernel_rfl) (fun _ _ _ h => h) (Or.inr ⟨by rfl, rfl⟩) (by assumption) ?_
        change wpAnyH _ _ _ _ _ _ _ (Act.put _ (some 35) _) _
        try simp only [Act.put, List.setIfInBounds_toArray, List.set_cons_zero, List.set_cons_succ]
        refine wpAnyH_take (i := 12) (v := undef) rfl (by kernel_rfl) (by kernel_rfl) (by kernel_rfl) (fun _ _ _ h => h) (Or.inr ⟨by rfl, rfl⟩) (by assumption) ?_
        change wpAnyH _ _ _ _ _ _ _ (Act.put _ (some 36) _) _
        try simp only [Act.put, List.setIfInBounds_toArray, List.set_cons_zero, List.set_cons_succ]
        refine wpAnyH_take (i := 13) (v := undef) rfl (by kernel_rfl) (by kernel_rfl) (by kernel_rfl) (fun _ _ _ h => h) (Or.inr ⟨by rfl, rfl⟩) (by assumption) ?_
        change wpAnyH _ _ _ _ _ _ _ (Act.put _ (some 37) _) _
        try simp only [Act.put, List.setIfInBounds_toArray, List.set_cons_zero, List.set_cons_succ]
        refine wpAnyH_take (i := 14) (v := undef) rfl (by kernel_rfl) (by kernel_rfl) (by kernel_rfl) (fun _ _ _ h => h) (Or.inr ⟨by rfl, rfl⟩) (by assumption) ?_
        change wpAnyH _ _ _ _ _ _ _ (Act.put _ (some 38) _) _
        try simp only [Act.put, List.setIfInBounds_toArray, List.set_cons_zero, List.set_cons_succ]
        refine wpAnyH_take (i := 15) (v := ?_) rfl (by kernel_rfl) (by kernel_rfl) (by kernel_rfl) (fun _ _ _ h => h) (Or.inl ⟨by rfl, ?_⟩) (by assumption) ?_
        rotate_left
        · (intro w' hSw; (try dsimp only at hSw); go_simp; try (with_reducible rfl))
        change wpAnyH _ _ _ _ _ _ _ (Act.put _ (some 39) _) _
        try simp only [Act.put, List.setIfInBounds_toArray, List.set_cons_zero, List.set_cons_succ]
        refine wpAnyH_take (i := 16) (v := ?_) rfl (by kernel_rfl) (by kernel_rfl) (by kernel_rfl) (fun _ _ _ h => h) (Or.inl ⟨by rfl, ?_⟩) (by assumption) ?_
        rotate_left
        · (intro w' hSw; (try dsimp only at hSw); go_simp; try (with_reducible rfl))
        change wpAnyH _ _ _ _ _ _ _ (Act.put _ (some 40) _) _
        try simp only [Act.put, List.setIfInBounds_toArray, List.set_cons_zero, List.set_cons_succ]
        refine wpAnyH_take (i := 17) (v := undef) rfl (by kernel_rfl) (by kernel_rfl) (by kernel_rfl) (fun _ _ _ h => h) (Or.inr ⟨by rfl, rfl⟩) (by assumption) ?_
        change wpAnyH _ _ _ _ _ _ _ (Act.put _ (some 41) _) _
        try simp only [Act.put, List.setIfInBounds_toArray, List.set_cons_zero, List.set_cons_succ]
        refine wpAnyH_take (i := 18) (v := undef) rfl (by kernel_rfl) (by kernel_rfl) (by kernel_rfl) (fun _ _ _ h => h) (Or.inr ⟨by rfl, rfl⟩) (by assumption) ?_
        change wpAnyH _ _ _ _ _ _ _ (Act.put _ (some 42) _) _
        try simp only [Act.put, List.setIfInBounds_toArray, List.set_cons_zero, List.set_cons_succ]
        refine wpAnyH_take (i := 19) (v := undef) rfl (by kernel_rfl) (by kernel_rfl) (by kernel_rfl) (fun _ _ _ h => h) (Or.inr ⟨by rfl, rfl⟩) (by assumption) ?_
        change wpAnyH _ _ _ _ _ _ _ (Act.put _ (some 43) _) _
        try simp only [Act.put, List.setIfInBounds_toArray, List.set_cons_zero, List.set_cons_succ]
        refine wpAnyH_take (i := 20) (v := undef) rfl (by kernel_rfl) (by kernel_rfl) (by kernel_rfl) (fun _ _ _ h => h) (Or.inr ⟨by rfl, rfl⟩) (by assumption) ?_
        change wpAnyH _ _ _ _ _ _ _ (Act.put _ (some 44) _) _
        try simp only [Act.put, List.setIfInBounds_toArray, List.set_cons_zero, List.set_cons_succ]
        refine wpAnyH_take (i := 21) (v := undef) rfl (by kernel_rfl) (by kernel_rfl) (by kernel_rfl) (fun _ _ _ h => h) (Or.inr ⟨by rfl, rfl⟩) (by assumption) ?_
        change wpAnyH _ _ _ _ _ _ _ (Act.put _ (some 45) _) _
        try simp only [Act.put, List.setIfInBounds_toArray, List.set_cons_zero, List.set_cons_succ]
        refine wpAnyH_take (i := 22) (v := undef) rfl (by kernel_rfl) (by kernel_rfl) (by kernel_rfl) (fun _ _ _ h => h) (Or.inr ⟨by rfl, rfl⟩) (by assumption) ?_
        change wpAnyH _ _ _ _ _ _ _ (Act.put _ (some 46) _) _
        try simp only [Act.put, List.setIfInBounds_toArray, List.set_cons_zero, List.set_cons_succ]
        refine wpAnyH_take (i := 24) (v := undef) rfl (by kernel_rfl) (by kernel_rfl) (by kernel_rfl) (fun _ _ _ h => h) (Or.inr ⟨by rfl, rfl⟩) (by assumption) ?_
        change wpAnyH _ _ _ _ _ _ _ (Act.put _ (some 48) _) _
        try simp only [Act.put, List.setIfInBounds_toArray, List.set_cons_zero, List.set_cons_succ]
        refine wpAnyH_take (i := 23) (v := undef) rfl (by kernel_rfl) (by kernel_rfl) (by kernel_rfl) (fun _ _ _ h => h) (Or.inr ⟨by rfl, rfl⟩) (by assumption) ?_
        change wpAnyH _ _ _ _ _ _ _ (Act.put _ (some 47) _) _
        try simp only [Act.put, List.setIfInBounds_toArray, List.set_cons_zero, List.set_cons_succ]
        refine wpAnyH_take (i := 25) (v := undef) rfl (by kernel_rfl) (by kernel_rfl) (by kernel_rfl) (fun _ _ _ h => h) (Or.inr ⟨by rfl, rfl⟩) (by assumption) ?_
        change wpAnyH _ _ _ _ _ _ _ (Act.put _ (some 49) _) _
        try simp only [Act.put, List.setIfInBounds_toArray, List.set_cons_zero, List.set_cons_succ]
        refine wpAnyH_take (i := 26) (v := ?_) rfl (by kernel_rfl) (by kernel_rfl) (by kernel_rfl) (fun _ _ _ h => h) (Or.inl ⟨by rfl, ?_⟩) (by assumption) ?_
        rotate_left
        · (intro w' hSw; (try dsimp only at hSw); go_simp; try (with_reducible rfl))
        change wpAnyH _ _ _ _ _ _ _ (Act.put _ (some 50) _) _
        try simp only [Act.put, List.setIfInBounds_toArray, List.set_cons_zero, List.set_cons_succ]
        refine wpAnyH_done (by kernel_rfl) ?_ _
        go_wp2
        go_ret
        exact ⟨end_bool HZ.out.symm, (by repeat' (first | (with_reducible exact hbw) | (with_reducible exact Below.refl _ _) | (with_reducible refine ext_trans ?_ hb1) | (with_reducible refine ext_trans ?_ (ext_alloc _ _)) | (with_reducible refine Below.drew ?_) | (with_reducible refine Below.setCell ?_ ?_ _) | (simp; done) | (simp; omega) | omega))⟩
      · cases hvo : valOk x.vals[k]
        · have HZ := hid (show arrOk x = false from arrOk_not hlt (by rw [hE.out, ho, hvo]; rfl))
          go_wp2_with fail
          refine wp_region_held_drew (S := fun w' => w'.cell? ⟨w.heap.size, 0, none⟩ = some (.slice (some ⟨b, off, none⟩) x.keys.length c) ∧ w'.cell? ⟨w.heap.size, 1, none⟩ = some (.slice (some ⟨b2, off2, none⟩) x.vals.length c1) ∧ w'.cell? ⟨b, off + k, none⟩ = some (.string x.keys[k]) ∧ w'.cell? ⟨b2, off2 + k * 5, none⟩ = some (.int .i64 x.vals[k].kind) ∧ w'.cell? ⟨b2, off2 + k * 5 + 1, none⟩ = some (.bool x.vals[k].num.neg) ∧ w'.cell? ⟨b2, off2 + k * 5 + 2, none⟩ = some (.string x.vals[k].num.dig) ∧ w'.cell? ⟨b2, off2 + k * 5 + 3, none⟩ = some (.int .i64 x.vals[k].num.exp) ∧ w'.cell? ⟨b2, off2 + k * 5 + 4, none⟩ = some (.string x.vals[k].text)) (by kernel_rfl) ?_ (fun hHeld => ?_)
          · simp [*]
          refine wpAnyH_take (i := 0) (v := ?_) rfl (by kernel_rfl) (by kernel_rfl) (by kernel_rfl) (fun _ _ _ h => h) (Or.inl ⟨by rfl, ?_⟩) (by assumption) ?_
          rotate_left
          · (intro w' hSw; (try dsimp only at hSw); go_simp; try (with_reducible rfl))
          change wpAnyH _ _ _ _ _ _ _ (Act.put _ (some 24) _) _
          try simp only [Act.put, List.setIfInBounds_toArray, List.set_cons_zero, List.set_cons_succ]
          refine wpAnyH_take (i := 1) (v := ?_) rfl (by kernel_rfl) (by kernel_rfl) (by kernel_rfl) (fun _ _ _ h => h) (Or.inl ⟨by rfl, ?_⟩) (by assumption) ?_
          rotate_left
          · (intro w' hSw; (try dsimp only at hSw); go_simp; try (with_reducible rfl))
          change wpAnyH _ _ _ _ _ _ _ (Act.put _ (some 25) _) _
          try simp only [Act.put, List.setIfInBounds_toArray, List.set_cons_zero, List.set_cons_succ]
          refine wpAnyH_take (i := 2) (v := ?_) rfl (by kernel_rfl) (by kernel_rfl) (by kernel_rfl) (fun _ _ _ h => h) (Or.inl ⟨by rfl, ?_⟩) (by assumption) ?_
          rotate_left
          · (intro w' hSw; (try dsimp only at hSw); go_simp; try (with_reducible rfl))
          change wpAnyH _ _ _ _ _ _ _ (Act.put _ (some 26) _) _
          try simp only [Act.put, List.setIfInBounds_toArray, List.set_cons_zero, List.set_cons_succ]
          refine wpAnyH_take (i := 3) (v := ?_) rfl (by kernel_rfl) (by kernel_rfl) (by kernel_rfl) (fun _ _ _ h => h) (Or.inl ⟨by rfl, ?_⟩) (by assumption) ?_
          rotate_left
          · (intro w' hSw; (try dsimp only at hSw); go_simp; try (with_reducible rfl))
          change wpAnyH _ _ _ _ _ _ _ (Act.put _ (some 27) _) _
          try simp only [Act.put, List.setIfInBounds_toArray, List.set_cons_zero, List.set_cons_succ]
          refine wpAnyH_take (i := 4) (v := ?_) rfl (by kernel_rfl) (by kernel_rfl) (by kernel_rfl) (fun _ _ _ h => h) (Or.inl ⟨by rfl, ?_⟩) (by assumption) ?_
          rotate_left
          · (intro w' hSw; (try dsimp only at hSw); go_simp; try (with_reducible rfl))
          change wpAnyH _ _ _ _ _ _ _ (Act.put _ (some 28) _) _
          try simp only [Act.put, List.setIfInBounds_toArray, List.set_cons_zero, List.set_cons_succ]
          refine wpAnyH_ready (rs := [5]) (by kernel_rfl) (by simp) ?_
          refine AllReadyH.cons (i := 5) rfl (fun K hK => ?_) AllReadyH.nil
          simp only [List.getElem_toArray, List.getElem_cons_succ, List.getElem_cons_zero]
          rw [if_pos (by rfl)]
          go_simp
          (go_at_call 34; refine (specTextOk _ _).mono ?_; rintro e w1 ⟨rfl, hb1⟩; rw [ho]; have hkc1 := keeps_cells hb1; go_wp2_with fail)
          refine hK.out _ _ ?_ (fun hHeld => ?_)
          · (try dsimp only); simp [*]
          clear hK K
          try simp only [Act.put, List.setIfInBounds_toArray, List.set_cons_zero, List.set_cons_succ]
          refine wpAnyH_take (i := 6) (v := ?_) rfl (by kernel_rfl) (by kernel_rfl) (by kernel_rfl) (fun _ _ _ h => h) (Or.inl ⟨by rfl, ?_⟩) (by assumption) ?_
          rotate_left
          · (intro w' hSw; (try dsimp only at hSw); go_simp; try (with_reducible rfl))
          change wpAnyH _ _ _ _ _ _ _ (Act.put _ (some 30) _) _
          try simp only [Act.put, List.setIfInBounds_toArray, List.set_cons_zero, List.set_cons_succ]
          refine wpAnyH_take (i := 7) (v := ?_) rfl (by kernel_rfl) (by kernel_rfl) (by kernel_rfl) (fun _ _ _ h => h) (Or.inl ⟨by rfl, ?_⟩) (by assumption) ?_
          rotate_left
          · (intro w' hSw; (try dsimp only at hSw); go_simp; try (with_reducible rfl))
          change wpAnyH _ _ _ _ _ _ _ (Act.put _ (some 31) _) _
          try simp only [Act.put, List.setIfInBounds_toArray, List.set_cons_zero, List.set_cons_succ]
          refine wpAnyH_take (i := 8) (v := ?_) rfl (by kernel_rfl) (by kernel_rfl) (by kernel_rfl) (fun _ _ _ h => h) (Or.inl ⟨by rfl, ?_⟩) (by assumption) ?_
          rotate_left
          · (intro w' hSw; (try dsimp only at hSw); go_simp; try (with_reducible rfl))
          change wpAnyH _ _ _ _ _ _ _ (Act.put _ (some 32) _) _
          try simp only [Act.put, List.setIfInBounds_toArray, List.set_cons_zero, List.set_cons_succ]
          refine wpAnyH_take (i := 9) (v := ?_) rfl (by kernel_rfl) (by kernel_rfl) (by kernel_rfl) (fun _ _ _ h => h) (Or.inl ⟨by rfl, ?_⟩) (by assumption) ?_
          rotate_left
          · (intro w' hSw; (try dsimp only at hSw); go_simp; try (with_reducible rfl))
          change wpAnyH _ _ _ _ _ _ _ (Act.put _ (some 33) _) _
          try simp only [Act.put, List.setIfInBounds_toArray, List.set_cons_zero, List.set_cons_succ]
          refine wpAnyH_take (i := 10) (v := ?_) rfl (by kernel_rfl) (by kernel_rfl) (by kernel_rfl) (fun _ _ _ h => h) (Or.inl ⟨by rfl, ?_⟩) (by assumption) ?_
          rotate_left
          · (intro w' hSw; (try dsimp only at hSw); go_simp; try (with_reducible rfl))
          change wpAnyH _ _ _ _ _ _ _ (Act.put _ (some 34) _) _
          try simp only [Act.put, List.setIfInBounds_toArray, List.set_cons_zero, List.set_cons_succ]
          refine wpAnyH_take (i := 11) (v := ?_) rfl (by kernel_rfl) (by kernel_rfl) (by kernel_rfl) (fun _ _ _ h => h) (Or.inl ⟨by rfl, ?_⟩) (by assumption) ?_
          rotate_left
          · (intro w' hSw; (try dsimp only at hSw); go_simp; try (with_reducible rfl))
          change wpAnyH _ _ _ _ _ _ _ (Act.put _ (some 35) _) _
          try simp only [Act.put, List.setIfInBounds_toArray, List.set_cons_zero, List.set_cons_succ]
          refine wpAnyH_take (i := 12) (v := ?_) rfl (by kernel_rfl) (by kernel_rfl) (by kernel_rfl) (fun _ _ _ h => h) (Or.inl ⟨by rfl, ?_⟩) (by assumption) ?_
          rotate_left
          · (intro w' hSw; (try dsimp only at hSw); go_simp; try (with_reducible rfl))
          change wpAnyH _ _ _ _ _ _ _ (Act.put _ (some 36) _) _
          try simp only [Act.put, List.setIfInBounds_toArray, List.set_cons_zero, List.set_cons_succ]
          refine wpAnyH_ready (rs := [13]) (by kernel_rfl) (by simp) ?_
          refine AllReadyH.cons (i := 13) rfl (fun K hK => ?_) AllReadyH.nil
          simp only [List.getElem_toArray, List.getElem_cons_succ, List.getElem_cons_zero]
          rw [if_pos (by rfl)]
          go_simp
          (go_at_call 35; refine (specValOk (x := x.vals[k]) _ (by exact HX.out _ _)).mono ?_; rintro e w2 ⟨rfl, hb2⟩; rw [hvo]; have hkc2 := keeps_cells hb2; go_wp2_with fail)
          refine hK.out _ _ ?_ (fun hHeld => ?_)
          · (try dsimp only); simp [*]
          clear hK K
          try simp only [Act.put, List.setIfInBounds_toArray, List.set_cons_zero, List.set_cons_succ]
          refine wpAnyH_take (i := 14) (v := ?_) rfl (by kernel_rfl) (by kernel_rfl) (by kernel_rfl) (fun _ _ _ h => h) (Or.inl ⟨by rfl, ?_⟩) (by assumption) ?_
          rotate_left
          · (intro w' hSw; (try dsimp only at hSw); go_simp; try (with_reducible rfl))
          change wpAnyH _ _ _ _ _ _ _ (Act.put _ (some 38) _) _
          try simp only [Act.put, List.setIfInBounds_toArray, List.set_cons_zero, List.set_cons_succ]
          refine wpAnyH_take (i := 15) (v := ?_) rfl (by kernel_rfl) (by kernel_rfl) (by kernel_rfl) (fun _ _ _ h => h) (Or.inl ⟨by rfl, ?_⟩) (by assumption) ?_
          rotate_left
          · (intro w' hSw; (try dsimp only at hSw); go_simp; try (with_reducible rfl))
          change wpAnyH _ _ _ _ _ _ _ (Act.put _ (some 39) _) _
          try simp only [Act.put, List.setIfInBounds_toArray, List.set_cons_zero, List.set_cons_succ]
          refine wpAnyH_take (i := 16) (v := ?_) rfl (by kernel_rfl) (by kernel_rfl) (by kernel_rfl) (fun _ _ _ h => h) (Or.inl ⟨by rfl, ?_⟩) (by assumption) ?_
          rotate_left
          · (intro w' hSw; (try dsimp only at hSw); go_simp; try (with_reducible rfl))
          change wpAnyH _ _ _ _ _ _ _ (Act.put _ (some 40) _) _
          try simp only [Act.put, List.setIfInBounds_toArray, List.set_cons_zero, List.set_cons_succ]
          refine wpAnyH_take (i := 17) (v := undef) rfl (by kernel_rfl) (by kernel_rfl) (by kernel_rfl) (fun _ _ _ h => h) (Or.inr ⟨by rfl, rfl⟩) (by assumption) ?_
          change wpAnyH _ _ _ _ _ _ _ (Act.put _ (some 41) _) _
          try simp only [Act.put, List.setIfInBounds_toArray, List.set_cons_zero, List.set_cons_succ]
          refine wpAnyH_take (i := 18) (v := undef) rfl (by kernel_rfl) (by kernel_rfl) (by kernel_rfl) (fun _ _ _ h => h) (Or.inr ⟨by rfl, rfl⟩) (by assumption) ?_
          change wpAnyH _ _ _ _ _ _ _ (Act.put _ (some 42) _) _
          try simp only [Act.put, List.setIfInBounds_toArray, List.set_cons_zero, List.set_cons_succ]
          refine wpAnyH_take (i := 19) (v := undef) rfl (by kernel_rfl) (by kernel_rfl) (by kernel_rfl) (fun _ _ _ h => h) (Or.inr ⟨by rfl, rfl⟩) (by assumption) ?_
          change wpAnyH _ _ _ _ _ _ _ (Act.put _ (some 43) _) _
          try simp only [Act.put, List.setIfInBounds_toArray, List.set_cons_zero, List.set_cons_succ]
          refine wpAnyH_take (i := 20) (v := undef) rfl (by kernel_rfl) (by kernel_rfl) (by kernel_rfl) (fun _ _ _ h => h) (Or.inr ⟨by rfl, rfl⟩) (by assumption) ?_
          change wpAnyH _ _ _ _ _ _ _ (Act.put _ (some 44) _) _
          try simp only [Act.put, List.setIfInBounds_toArray, List.set_cons_zero, List.set_cons_succ]
          refine wpAnyH_take (i := 21) (v := undef) rfl (by kernel_rfl) (by kernel_rfl) (by kernel_rfl) (fun _ _ _ h => h) (Or.inr ⟨by rfl, rfl⟩) (by assumption) ?_
          change wpAnyH _ _ _ _ _ _ _ (Act.put _ (some 45) _) _
          try simp only [Act.put, List.setIfInBounds_toArray, List.set_cons_zero, List.set_cons_succ]
          refine wpAnyH_take (i := 22) (v := undef) rfl (by kernel_rfl) (by kernel_rfl) (by kernel_rfl) (fun _ _ _ h => h) (Or.inr ⟨by rfl, rfl⟩) (by assumption) ?_
          change wpAnyH _ _ _ _ _ _ _ (Act.put _ (some 46) _) _
          try simp only [Act.put, List.setIfInBounds_toArray, List.set_cons_zero, List.set_cons_succ]
          refine wpAnyH_take (i := 24) (v := undef) rfl (by kernel_rfl) (by kernel_rfl) (by kernel_rfl) (fun _ _ _ h => h) (Or.inr ⟨by rfl, rfl⟩) (by assumption) ?_
          change wpAnyH _ _ _ _ _ _ _ (Act.put _ (some 48) _) _
          try simp only [Act.put, List.setIfInBounds_toArray, List.set_cons_zero, List.set_cons_succ]
          refine wpAnyH_take (i := 23) (v := undef) rfl (by kernel_rfl) (by kernel_rfl) (by kernel_rfl) (fun _ _ _ h => h) (Or.inr ⟨by rfl, rfl⟩) (by assumption) ?_
          change wpAnyH _ _ _ _ _ _ _ (Act.put _ (some 47) _) _
          try simp only [Act.put, List.setIfInBounds_toArray, List.set_cons_zero, List.set_cons_succ]
          refine wpAnyH_take (i := 25) (v := undef) rfl (by kernel_rfl) (by kernel_rfl) (by kernel_rfl) (fun _ _ _ h => h) (Or.inr ⟨by rfl, rfl⟩) (by assumption) ?_
          change wpAnyH _ _ _ _ _ _ _ (Act.put _ (some 49) _) _
          try simp only [Act.put, List.setIfInBounds_toArray, List.set_cons_zero, List.set_cons_succ]
          refine wpAnyH_take (i := 26) (v := ?_) rfl (by kernel_rfl) (by kernel_rfl) (by kernel_rfl) (fun _ _ _ h => h) (Or.inl ⟨by rfl, ?_⟩) (by assumption) ?_
          rotate_left
          · (intro w' hSw; (try dsimp only at hSw); go_simp; try (with_reducible rfl))
          change wpAnyH _ _ _ _ _ _ _ (Act.put _ (some 50) _) _
          try simp only [Act.put, List.setIfInBounds_toArray, List.set_cons_zero, List.set_cons_succ]
          refine wpAnyH_done (by kernel_rfl) ?_ _
          go_wp2
          go_ret
          exact ⟨end_bool HZ.out.symm, (by repeat' (first | (with_reducible exact hbw) | (with_reducible exact Below.refl _ _) | (with_reducible refine ext_trans ?_ hb2) | (with_reducible refine ext_trans ?_ hb1) | (with_reducible refine ext_trans ?_ (ext_alloc _ _)) | (with_reducible refine Below.drew ?_) | (with_reducible refine Below.setCell ?_ ?_ _) | (simp; done) | (simp; omega) | omega))⟩
        · obtain ⟨z, hz⟩ : ∃ z, arrAt x x.keys[k] = z := ⟨_, rfl⟩
          have HAT := hid hz
          by_cases hat : z = k
          · have HO := hid (show arrOkAt x k = true by rw [hE.out, ho, hvo, decide_eq_true (hz.trans hat)]; rfl)
            clear hz
            subst hat
            go_wp2_with fail
            refine wp_region_held_drew (S := fun w' => w'.cell? ⟨w.heap.size, 0, none⟩ = some (.slice (some ⟨b, off, none⟩) x.keys.length c) ∧ w'.cell? ⟨w.heap.size, 1, none⟩ = some (.slice (some ⟨b2, off2, none⟩) x.vals.length c1) ∧ w'.cell? ⟨b, off + k, none⟩ = some (.string x.keys[k]) ∧ w'.cell? ⟨b2, off2 + k * 5, none⟩ = some (.int .i64 x.vals[k].kind) ∧ w'.cell? ⟨b2, off2 + k * 5 + 1, none⟩ = some (.bool x.vals[k].num.neg) ∧ w'.cell? ⟨b2, off2 + k * 5 + 2, none⟩ = some (.string x.vals[k].num.dig) ∧ w'.cell? ⟨b2, off2 + k * 5 + 3, none⟩ = some (.int .i64 x.vals[k].num.exp) ∧ w'.cell? ⟨b2, off2 + k * 5 + 4, none⟩ = some (.string x.vals[k].text)) (by kernel_rfl) ?_ (fun hHeld => ?_)
            · simp [*]
            refine wpAnyH_take (i := 0) (v := ?_) rfl (by kernel_rfl) (by kernel_rfl) (by kernel_rfl) (fun _ _ _ h => h) (Or.inl ⟨by rfl, ?_⟩) (by assumption) ?_
            rotate_left
            · (intro w' hSw; (try dsimp only at hSw); go_simp; try (with_reducible rfl))
            change wpAnyH _ _ _ _ _ _ _ (Act.put _ (some 24) _) _
            try simp only [Act.put, List.setIfInBounds_toArray, List.set_cons_zero, List.set_cons_succ]
            refine wpAnyH_take (i := 1) (v := ?_) rfl (by kernel_rfl) (by kernel_rfl) (by kernel_rfl) (fun _ _ _ h => h) (Or.inl ⟨by rfl, ?_⟩) (by assumption) ?_
            rotate_left
            · (intro w' hSw; (try dsimp only at hSw); go_simp; try (with_reducible rfl))
            change wpAnyH _ _ _ _ _ _ _ (Act.put _ (some 25) _) _
            try simp only [Act.put, List.setIfInBounds_toArray, List.set_cons_zero, List.set_cons_succ]
            refine wpAnyH_take (i := 2) (v := ?_) rfl (by kernel_rfl) (by kernel_rfl) (by kernel_rfl) (fun _ _ _ h => h) (Or.inl ⟨by rfl, ?_⟩) (by assumption) ?_
            rotate_left
            · (intro w' hSw; (try dsimp only at hSw); go_simp; try (with_reducible rfl))
            change wpAnyH _ _ _ _ _ _ _ (Act.put _ (some 26) _) _
            try simp only [Act.put, List.setIfInBounds_toArray, List.set_cons_zero, List.set_cons_succ]
            refine wpAnyH_take (i := 3) (v := ?_) rfl (by kernel_rfl) (by kernel_rfl) (by kernel_rfl) (fun _ _ _ h => h) (Or.inl ⟨by rfl, ?_⟩) (by assumption) ?_
            rotate_left
            · (intro w' hSw; (try dsimp only at hSw); go_simp; try (with_reducible rfl))
            change wpAnyH _ _ _ _ _ _ _ (Act.put _ (some 27) _) _
            try simp only [Act.put, List.setIfInBounds_toArray, List.set_cons_zero, List.set_cons_succ]
            refine wpAnyH_take (i := 4) (v := ?_) rfl (by kernel_rfl) (by kernel_rfl) (by kernel_rfl) (fun _ _ _ h => h) (Or.inl ⟨by rfl, ?_⟩) (by assumption) ?_
            rotate_left
            · (intro w' hSw; (try dsimp only at hSw); go_simp; try (with_reducible rfl))
            change wpAnyH _ _ _ _ _ _ _ (Act.put _ (some 28) _) _
            try simp only [Act.put, List.setIfInBounds_toArray, List.set_cons_zero, List.set_cons_succ]
            refine wpAnyH_ready (rs := [5]) (by kernel_rfl) (by simp) ?_
            refine AllReadyH.cons (i := 5) rfl (fun K hK => ?_) AllReadyH.nil
            simp only [List.getElem_toArray, List.getElem_cons_succ, List.getElem_cons_zero]
            rw [if_pos (by rfl)]
            go_simp
            (go_at_call 34; refine (specTextOk _ _).mono ?_; rintro e w1 ⟨rfl, hb1⟩; rw [ho]; have hkc1 := keeps_cells hb1; go_wp2_with fail)
            refine hK.out _ _ ?_ (fun hHeld => ?_)
            · (try dsimp only); simp [*]
            clear hK K
            try simp only [Act.put, List.setIfInBounds_toArray, List.set_cons_zero, List.set_cons_succ]
            refine wpAnyH_take (i := 6) (v := ?_) rfl (by kernel_rfl) (by kernel_rfl) (by kernel_rfl) (fun _ _ _ h => h) (Or.inl ⟨by rfl, ?_⟩) (by assumption) ?_
            rotate_left
            · (intro w' hSw; (try dsimp only at hSw); go_simp; try (with_reducible rfl))
            change wpAnyH _ _ _ _ _ _ _ (Act.put _ (some 30) _) _
            try simp only [Act.put, List.setIfInBounds_toArray, List.set_cons_zero, List.set_cons_succ]
            refine wpAnyH_take (i := 7) (v := ?_) rfl (by kernel_rfl) (by kernel_rfl) (by kernel_rfl) (fun _ _ _ h => h) (Or.inl ⟨by rfl, ?_⟩) (by assumption) ?_
            rotate_left
            · (intro w' hSw; (try dsimp only at hSw); go_simp; try (with_reducible rfl))
            change wpAnyH _ _ _ _ _ _ _ (Act.put _ (some 31) _) _
            try simp only [Act.put, List.setIfInBounds_toArray, List.set_cons_zero, List.set_cons_succ]
            refine wpAnyH_take (i := 8) (v := ?_) rfl (by kernel_rfl) (by kernel_rfl) (by kernel_rfl) (fun _ _ _ h => h) (Or.inl ⟨by rfl, ?_⟩) (by assumption) ?_
            rotate_left
            · (intro w' hSw; (try dsimp only at hSw); go_simp; try (with_reducible rfl))
            change wpAnyH _ _ _ _ _ _ _ (Act.put _ (some 32) _) _
            try simp only [Act.put, List.setIfInBounds_toArray, List.set_cons_zero, List.set_cons_succ]
            refine wpAnyH_take (i := 9) (v := ?_) rfl (by kernel_rfl) (by kernel_rfl) (by kernel_rfl) (fun _ _ _ h => h) (Or.inl ⟨by rfl, ?_⟩) (by assumption) ?_
            rotate_left
            · (intro w' hSw; (try dsimp only at hSw); go_simp; try (with_reducible rfl))
            change wpAnyH _ _ _ _ _ _ _ (Act.put _ (some 33) _) _
            try simp only [Act.put, List.setIfInBounds_toArray, List.set_cons_zero, List.set_cons_succ]
            refine wpAnyH_take (i := 10) (v := ?_) rfl (by kernel_rfl) (by kernel_rfl) (by kernel_rfl) (fun _ _ _ h => h) (Or.inl ⟨by rfl, ?_⟩) (by assumption) ?_
            rotate_left
            · (intro w' hSw; (try dsimp only at hSw); go_simp; try (with_reducible rfl))
            change wpAnyH _ _ _ _ _ _ _ (Act.put _ (some 34) _) _
            try simp only [Act.put, List.setIfInBounds_toArray, List.set_cons_zero, List.set_cons_succ]
            refine wpAnyH_take (i := 11) (v := ?_) rfl (by kernel_rfl) (by kernel_rfl) (by kernel_rfl) (fun _ _ _ h => h) (Or.inl ⟨by rfl, ?_⟩) (by assumption) ?_
            rotate_left
            · (intro w' hSw; (try dsimp only at hSw); go_simp; try (with_reducible rfl))
            change wpAnyH _ _ _ _ _ _ _ (Act.put _ (some 35) _) _
            try simp only [Act.put, List.setIfInBounds_toArray, List.set_cons_zero, List.set_cons_succ]
            refine wpAnyH_take (i := 12) (v := ?_) rfl (by kernel_rfl) (by kernel_rfl) (by kernel_rfl) (fun _ _ _ h => h) (Or.inl ⟨by rfl, ?_⟩) (by assumption) ?_
            rotate_left
            · (intro w' hSw; (try dsimp only at hSw); go_simp; try (with_reducible rfl))
            change wpAnyH _ _ _ _ _ _ _ (Act.put _ (some 36) _) _
            try simp only [Act.put, List.setIfInBounds_toArray, List.set_cons_zero, List.set_cons_succ]
            refine wpAnyH_ready (rs := [13]) (by kernel_rfl) (by simp) ?_
            refine AllReadyH.cons (i := 13) rfl (fun K hK => ?_) AllReadyH.nil
            simp only [List.getElem_toArray, List.getElem_cons_succ, List.getElem_cons_zero]
            rw [if_pos (by rfl)]
            go_simp
            (go_at_call 35; refine (specValOk (x := x.vals[k]) _ (by exact HX.out _ _)).mono ?_; rintro e w2 ⟨rfl, hb2⟩; rw [hvo]; have hkc2 := keeps_cells hb2; go_wp2_with fail)
            refine hK.out _ _ ?_ (fun hHeld => ?_)
            · (try dsimp only); simp [*]
            clear hK K
            try simp only [Act.put, List.setIfInBounds_toArray, List.set_cons_zero, List.set_cons_succ]
            refine wpAnyH_take (i := 14) (v := ?_) rfl (by kernel_rfl) (by kernel_rfl) (by kernel_rfl) (fun _ _ _ h => h) (Or.inl ⟨by rfl, ?_⟩) (by assumption) ?_
            rotate_left
            · (intro w' hSw; (try dsimp only at hSw); go_simp; try (with_reducible rfl))
            change wpAnyH _ _ _ _ _ _ _ (Act.put _ (some 38) _) _
            try simp only [Act.put, List.setIfInBounds_toArray, List.set_cons_zero, List.set_cons_succ]
            refine wpAnyH_take (i := 15) (v := ?_) rfl (by kernel_rfl) (by kernel_rfl) (by kernel_rfl) (fun _ _ _ h => h) (Or.inl ⟨by rfl, ?_⟩) (by assumption) ?_
            rotate_left
            · (intro w' hSw; (try dsimp only at hSw); go_simp; try (with_reducible rfl))
            change wpAnyH _ _ _ _ _ _ _ (Act.put _ (some 39) _) _
            try simp only [Act.put, List.setIfInBounds_toArray, List.set_cons_zero, List.set_cons_succ]
            refine wpAnyH_take (i := 16) (v := ?_) rfl (by kernel_rfl) (by kernel_rfl) (by kernel_rfl) (fun _ _ _ h => h) (Or.inl ⟨by rfl, ?_⟩) (by assumption) ?_
            rotate_left
            · (intro w' hSw; (try dsimp only at hSw); go_simp; try (with_reducible rfl))
            change wpAnyH _ _ _ _ _ _ _ (Act.put _ (some 40) _) _
            try simp only [Act.put, List.setIfInBounds_toArray, List.set_cons_zero, List.set_cons_succ]
            refine wpAnyH_take (i := 17) (v := ?_) rfl (by kernel_rfl) (by kernel_rfl) (by kernel_rfl) (fun _ _ _ h => h) (Or.inl ⟨by rfl, ?_⟩) (by assumption) ?_
            rotate_left
            · (intro w' hSw; (try dsimp only at hSw); go_simp; try (with_reducible rfl))
            change wpAnyH _ _ _ _ _ _ _ (Act.put _ (some 41) _) _
            try simp only [Act.put, List.setIfInBounds_toArray, List.set_cons_zero, List.set_cons_succ]
            refine wpAnyH_take (i := 18) (v := ?_) rfl (by kernel_rfl) (by kernel_rfl) (by kernel_rfl) (fun _ _ _ h => h) (Or.inl ⟨by rfl, ?_⟩) (by assumption) ?_
            rotate_left
            · (intro w' hSw; (try dsimp only at hSw); go_simp; try (with_reducible rfl))
            change wpAnyH _ _ _ _ _ _ _ (Act.put _ (some 42) _) _
            try simp only [Act.put, List.setIfInBounds_toArray, List.set_cons_zero, List.set_cons_succ]
            refine wpAnyH_take (i := 19) (v := ?_) rfl (by kernel_rfl) (by kernel_rfl) (by kernel_rfl) (fun _ _ _ h => h) (Or.inl ⟨by rfl, ?_⟩) (by assumption) ?_
            rotate_left
            · (intro w' hSw; (try dsimp only at hSw); go_simp; try (with_reducible rfl))
            change wpAnyH _ _ _ _ _ _ _ (Act.put _ (some 43) _) _
            try simp only [Act.put, List.setIfInBounds_toArray, List.set_cons_zero, List.set_cons_succ]
            refine wpAnyH_take (i := 20) (v := ?_) rfl (by kernel_rfl) (by kernel_rfl) (by kernel_rfl) (fun _ _ _ h => h) (Or.inl ⟨by rfl, ?_⟩) (by assumption) ?_
            rotate_left
            · (intro w' hSw; (try dsimp only at hSw); go_simp; try (with_reducible rfl))
            change wpAnyH _ _ _ _ _ _ _ (Act.put _ (some 44) _) _
            try simp only [Act.put, List.setIfInBounds_toArray, List.set_cons_zero, List.set_cons_succ]
            refine wpAnyH_take (i := 21) (v := ?_) rfl (by kernel_rfl) (by kernel_rfl) (by kernel_rfl) (fun _ _ _ h => h) (Or.inl ⟨by rfl, ?_⟩) (by assumption) ?_
            rotate_left
            · (intro w' hSw; (try dsimp only at hSw); go_simp; try (with_reducible rfl))
            change wpAnyH _ _ _ _ _ _ _ (Act.put _ (some 45) _) _
            try simp only [Act.put, List.setIfInBounds_toArray, List.set_cons_zero, List.set_cons_succ]
            refine wpAnyH_take (i := 22) (v := ?_) rfl (by kernel_rfl) (by kernel_rfl) (by kernel_rfl) (fun _ _ _ h => h) (Or.inl ⟨by rfl, ?_⟩) (by assumption) ?_
            rotate_left
            · (intro w' hSw; (try dsimp only at hSw); go_simp; try (with_reducible rfl))
            change wpAnyH _ _ _ _ _ _ _ (Act.put _ (some 46) _) _
            try simp only [Act.put, List.setIfInBounds_toArray, List.set_cons_zero, List.set_cons_succ]
            refine wpAnyH_take (i := 24) (v := ?_) rfl (by kernel_rfl) (by kernel_rfl) (by kernel_rfl) (fun _ _ _ h => h) (Or.inl ⟨by rfl, ?_⟩) (by assumption) ?_
            rotate_left
            · (intro w' hSw; (try dsimp only at hSw); go_simp; try (with_reducible rfl))
            change wpAnyH _ _ _ _ _ _ _ (Act.put _ (some 48) _) _
            try simp only [Act.put, List.setIfInBounds_toArray, List.set_cons_zero, List.set_cons_succ]
            refine wpAnyH_ready (rs := [23]) (by kernel_rfl) (by simp) ?_
            refine AllReadyH.cons (i := 23) rfl (fun K hK => ?_) AllReadyH.nil
            simp only [List.getElem_toArray, List.getElem_cons_succ, List.getElem_cons_zero]
            rw [if_pos (by rfl)]
            go_simp
            (go_at_call 17; refine (specArrAt (x := x) _ _ (by exact Rd.later (by repeat' (first | (with_reducible exact hbw) | (with_reducible exact Below.refl _ _) | (with_reducible refine ext_trans ?_ hb2) | (with_reducible refine ext_trans ?_ hb1) | (with_reducible refine ext_trans ?_ (ext_alloc _ _)) | (with_reducible refine Below.drew ?_) | (with_reducible refine Below.setCell ?_ ?_ _) | (simp; done) | (simp; omega) | omega)) h)).mono ?_; rintro e w3 ⟨rfl, hb3⟩; rw [HAT.out]; have hkc3 := keeps_cells hb3; go_wp2_with fail)
            refine hK.out _ _ ?_ (fun hHeld => ?_)
            · (try dsimp only); simp [*]
            clear hK K
            try simp only [Act.put, List.setIfInBounds_toArray, List.set_cons_zero, List.set_cons_succ]
            refine wpAnyH_take (i := 25) (v := ?_) rfl (by kernel_rfl) (by kernel_rfl) (by kernel_rfl) (fun _ _ _ h => h) (Or.inl ⟨by rfl, ?_⟩) (by assumption) ?_
            rotate_left
            · (intro w' hSw; (try dsimp only at hSw); go_simp; try (with_reducible rfl))
            change wpAnyH _ _ _ _ _ _ _ (Act.put _ (some 49) _) _
            try simp only [Act.put, List.setIfInBounds_toArray, List.set_cons_zero, List.set_cons_succ]
            refine wpAnyH_take (i := 26) (v := ?_) rfl (by kernel_rfl) (by kernel_rfl) (by kernel_rfl) (fun _ _ _ h => h) (Or.inl ⟨by rfl, ?_⟩) (by assumption) ?_
            rotate_left
            · (intro w' hSw; (try dsimp only at hSw); go_simp; try (with_reducible rfl))
            change wpAnyH _ _ _ _ _ _ _ (Act.put _ (some 50) _) _
            try simp only [Act.put, List.setIfInBounds_toArray, List.set_cons_zero, List.set_cons_succ]
            refine wpAnyH_done (by kernel_rfl) ?_ _
            go_wp2
            go_roundw
            case rel => exact ⟨k + 1, by omega, by go_num, fun j hj => by
              by_cases hjk : j = k
              · subst hjk; exact HO.out
              · exact HR.out j (by omega), (by repeat' (first | (with_reducible exact hbr) | (with_reducible exact Below.refl _ _) | (with_reducible refine ext_trans ?_ hb3) | (with_reducible refine ext_trans ?_ hb2) | (with_reducible refine ext_trans ?_ hb1) | (with_reducible refine ext_trans ?_ (ext_alloc _ _)) | (with_reducible refine Below.drew ?_) | (with_reducible refine Below.setCell ?_ ?_ _) | (simp; done) | (simp; omega) | omega))⟩
            case measure => simp [intOf]; omega
          · have hne2 : (z != (k : Int)) = true := by rw [bne_iff_ne]; exact hat
            have HZ := hid (show arrOk x = false from arrOk_not hlt (by rw [hE.out, hz, decide_eq_false hat, Bool.and_false]))
            clear hat hz
            go_wp2_with fail
            refine wp_region_held_drew (S := fun w' => w'.cell? ⟨w.heap.size, 0, none⟩ = some (.slice (some ⟨b, off, none⟩) x.keys.length c) ∧ w'.cell? ⟨w.heap.size, 1, none⟩ = some (.slice (some ⟨b2, off2, none⟩) x.vals.length c1) ∧ w'.cell? ⟨b, off + k, none⟩ = some (.string x.keys[k]) ∧ w'.cell? ⟨b2, off2 + k * 5, none⟩ = some (.int .i64 x.vals[k].kind) ∧ w'.cell? ⟨b2, off2 + k * 5 + 1, none⟩ = some (.bool x.vals[k].num.neg) ∧ w'.cell? ⟨b2, off2 + k * 5 + 2, none⟩ = some (.string x.vals[k].num.dig) ∧ w'.cell? ⟨b2, off2 + k * 5 + 3, none⟩ = some (.int .i64 x.vals[k].num.exp) ∧ w'.cell? ⟨b2, off2 + k * 5 + 4, none⟩ = some (.string x.vals[k].text)) (by kernel_rfl) ?_ (fun hHeld => ?_)
            · simp [*]
            refine wpAnyH_take (i := 0) (v := ?_) rfl (by kernel_rfl) (by kernel_rfl) (by kernel_rfl) (fun _ _ _ h => h) (Or.inl ⟨by rfl, ?_⟩) (by assumption) ?_
            rotate_left
            · (intro w' hSw; (try dsimp only at hSw); go_simp; try (with_reducible rfl))
            change wpAnyH _ _ _ _ _ _ _ (Act.put _ (some 24) _) _
            try simp only [Act.put, List.setIfInBounds_toArray, List.set_cons_zero, List.set_cons_succ]
            refine wpAnyH_take (i := 1) (v := ?_) rfl (by kernel_rfl) (by kernel_rfl) (by kernel_rfl) (fun _ _ _ h => h) (Or.inl ⟨by rfl, ?_⟩) (by assumption) ?_
            rotate_left
            · (intro w' hSw; (try dsimp only at hSw); go_simp; try (with_reducible rfl))
            change wpAnyH _ _ _ _ _ _ _ (Act.put _ (some 25) _) _
            try simp only [Act.put, List.setIfInBounds_toArray, List.set_cons_zero, List.set_cons_succ]
            refine wpAnyH_take (i := 2) (v := ?_) rfl (by kernel_rfl) (by kernel_rfl) (by kernel_rfl) (fun _ _ _ h => h) (Or.inl ⟨by rfl, ?_⟩) (by assumption) ?_
            rotate_left
            · (intro w' hSw; (try dsimp only at hSw); go_simp; try (with_reducible rfl))
            change wpAnyH _ _ _ _ _ _ _ (Act.put _ (some 26) _) _
            try simp only [Act.put, List.setIfInBounds_toArray, List.set_cons_zero, List.set_cons_succ]
            refine wpAnyH_take (i := 3) (v := ?_) rfl (by kernel_rfl) (by kernel_rfl) (by kernel_rfl) (fun _ _ _ h => h) (Or.inl ⟨by rfl, ?_⟩) (by assumption) ?_
            rotate_left
            · (intro w' hSw; (try dsimp only at hSw); go_simp; try (with_reducible rfl))
            change wpAnyH _ _ _ _ _ _ _ (Act.put _ (some 27) _) _
            try simp only [Act.put, List.setIfInBounds_toArray, List.set_cons_zero, List.set_cons_succ]
            refine wpAnyH_take (i := 4) (v := ?_) rfl (by kernel_rfl) (by kernel_rfl) (by kernel_rfl) (fun _ _ _ h => h) (Or.inl ⟨by rfl, ?_⟩) (by assumption) ?_
            rotate_left
            · (intro w' hSw; (try dsimp only at hSw); go_simp; try (with_reducible rfl))
            change wpAnyH _ _ _ _ _ _ _ (Act.put _ (some 28) _) _
            try simp only [Act.put, List.setIfInBounds_toArray, List.set_cons_zero, List.set_cons_succ]
            refine wpAnyH_ready (rs := [5]) (by kernel_rfl) (by simp) ?_
            refine AllReadyH.cons (i := 5) rfl (fun K hK => ?_) AllReadyH.nil
            simp only [List.getElem_toArray, List.getElem_cons_succ, List.getElem_cons_zero]
            rw [if_pos (by rfl)]
            go_simp
            (go_at_call 34; refine (specTextOk _ _).mono ?_; rintro e w1 ⟨rfl, hb1⟩; rw [ho]; have hkc1 := keeps_cells hb1; go_wp2_with fail)
            refine hK.out _ _ ?_ (fun hHeld => ?_)
            · (try dsimp only); simp [*]
            clear hK K
            try simp only [Act.put, List.setIfInBounds_toArray, List.set_cons_zero, List.set_cons_succ]
            refine wpAnyH_take (i := 6) (v := ?_) rfl (by kernel_rfl) (by kernel_rfl) (by kernel_rfl) (fun _ _ _ h => h) (Or.inl ⟨by rfl, ?_⟩) (by assumption) ?_
            rotate_left
            · (intro w' hSw; (try dsimp only at hSw); go_simp; try (with_reducible rfl))
            change wpAnyH _ _ _ _ _ _ _ (Act.put _ (some 30) _) _
            try simp only [Act.put, List.setIfInBounds_toArray, List.set_cons_zero, List.set_cons_succ]
            refine wpAnyH_take (i := 7) (v := ?_) rfl (by kernel_rfl) (by kernel_rfl) (by kernel_rfl) (fun _ _ _ h => h) (Or.inl ⟨by rfl, ?_⟩) (by assumption) ?_
            rotate_left
            · (intro w' hSw; (try dsimp only at hSw); go_simp; try (with_reducible rfl))
            change wpAnyH _ _ _ _ _ _ _ (Act.put _ (some 31) _) _
            try simp only [Act.put, List.setIfInBounds_toArray, List.set_cons_zero, List.set_cons_succ]
            refine wpAnyH_take (i := 8) (v := ?_) rfl (by kernel_rfl) (by kernel_rfl) (by kernel_rfl) (fun _ _ _ h => h) (Or.inl ⟨by rfl, ?_⟩) (by assumption) ?_
            rotate_left
            · (intro w' hSw; (try dsimp only at hSw); go_simp; try (with_reducible rfl))
            change wpAnyH _ _ _ _ _ _ _ (Act.put _ (some 32) _) _
            try simp only [Act.put, List.setIfInBounds_toArray, List.set_cons_zero, List.set_cons_succ]
            refine wpAnyH_take (i := 9) (v := ?_) rfl (by kernel_rfl) (by kernel_rfl) (by kernel_rfl) (fun _ _ _ h => h) (Or.inl ⟨by rfl, ?_⟩) (by assumption) ?_
            rotate_left
            · (intro w' hSw; (try dsimp only at hSw); go_simp; try (with_reducible rfl))
            change wpAnyH _ _ _ _ _ _ _ (Act.put _ (some 33) _) _
            try simp only [Act.put, List.setIfInBounds_toArray, List.set_cons_zero, List.set_cons_succ]
            refine wpAnyH_take (i := 10) (v := ?_) rfl (by kernel_rfl) (by kernel_rfl) (by kernel_rfl) (fun _ _ _ h => h) (Or.inl ⟨by rfl, ?_⟩) (by assumption) ?_
            rotate_left
            · (intro w' hSw; (try dsimp only at hSw); go_simp; try (with_reducible rfl))
            change wpAnyH _ _ _ _ _ _ _ (Act.put _ (some 34) _) _
            try simp only [Act.put, List.setIfInBounds_toArray, List.set_cons_zero, List.set_cons_succ]
            refine wpAnyH_take (i := 11) (v := ?_) rfl (by kernel_rfl) (by kernel_rfl) (by kernel_rfl) (fun _ _ _ h => h) (Or.inl ⟨by rfl, ?_⟩) (by assumption) ?_
            rotate_left
            · (intro w' hSw; (try dsimp only at hSw); go_simp; try (with_reducible rfl))
            change wpAnyH _ _ _ _ _ _ _ (Act.put _ (some 35) _) _
            try simp only [Act.put, List.setIfInBounds_toArray, List.set_cons_zero, List.set_cons_succ]
            refine wpAnyH_take (i := 12) (v := ?_) rfl (by kernel_rfl) (by kernel_rfl) (by kernel_rfl) (fun _ _ _ h => h) (Or.inl ⟨by rfl, ?_⟩) (by assumption) ?_
            rotate_left
            · (intro w' hSw; (try dsimp only at hSw); go_simp; try (with_reducible rfl))
            change wpAnyH _ _ _ _ _ _ _ (Act.put _ (some 36) _) _
            try simp only [Act.put, List.setIfInBounds_toArray, List.set_cons_zero, List.set_cons_succ]
            refine wpAnyH_ready (rs := [13]) (by kernel_rfl) (by simp) ?_
            refine AllReadyH.cons (i := 13) rfl (fun K hK => ?_) AllReadyH.nil
            simp only [List.getElem_toArray, List.getElem_cons_succ, List.getElem_cons_zero]
            rw [if_pos (by rfl)]
            go_simp
            (go_at_call 35; refine (specValOk (x := x.vals[k]) _ (by exact HX.out _ _)).mono ?_; rintro e w2 ⟨rfl, hb2⟩; rw [hvo]; have hkc2 := keeps_cells hb2; go_wp2_with fail)
            refine hK.out _ _ ?_ (fun hHeld => ?_)
            · (try dsimp only); simp [*]
            clear hK K
            try simp only [Act.put, List.setIfInBounds_toArray, List.set_cons_zero, List.set_cons_succ]
            refine wpAnyH_take (i := 14) (v := ?_) rfl (by kernel_rfl) (by kernel_rfl) (by kernel_rfl) (fun _ _ _ h => h) (Or.inl ⟨by rfl, ?_⟩) (by assumption) ?_
            rotate_left
            · (intro w' hSw; (try dsimp only at hSw); go_simp; try (with_reducible rfl))
            change wpAnyH _ _ _ _ _ _ _ (Act.put _ (some 38) _) _
            try simp only [Act.put, List.setIfInBounds_toArray, List.set_cons_zero, List.set_cons_succ]
            refine wpAnyH_take (i := 15) (v := ?_) rfl (by kernel_rfl) (by kernel_rfl) (by kernel_rfl) (fun _ _ _ h => h) (Or.inl ⟨by rfl, ?_⟩) (by assumption) ?_
            rotate_left
            · (intro w' hSw; (try dsimp only at hSw); go_simp; try (with_reducible rfl))
            change wpAnyH _ _ _ _ _ _ _ (Act.put _ (some 39) _) _
            try simp only [Act.put, List.setIfInBounds_toArray, List.set_cons_zero, List.set_cons_succ]
            refine wpAnyH_take (i := 16) (v := ?_) rfl (by kernel_rfl) (by kernel_rfl) (by kernel_rfl) (fun _ _ _ h => h) (Or.inl ⟨by rfl, ?_⟩) (by assumption) ?_
            rotate_left
            · (intro w' hSw; (try dsimp only at hSw); go_simp; try (with_reducible rfl))
            change wpAnyH _ _ _ _ _ _ _ (Act.put _ (some 40) _) _
            try simp only [Act.put, List.setIfInBounds_toArray, List.set_cons_zero, List.set_cons_succ]
            refine wpAnyH_take (i := 17) (v := ?_) rfl (by kernel_rfl) (by kernel_rfl) (by kernel_rfl) (fun _ _ _ h => h) (Or.inl ⟨by rfl, ?_⟩) (by assumption) ?_
            rotate_left
            · (intro w' hSw; (try dsimp only at hSw); go_simp; try (with_reducible rfl))
            change wpAnyH _ _ _ _ _ _ _ (Act.put _ (some 41) _) _
            try simp only [Act.put, List.setIfInBounds_toArray, List.set_cons_zero, List.set_cons_succ]
            refine wpAnyH_take (i := 18) (v := ?_) rfl (by kernel_rfl) (by kernel_rfl) (by kernel_rfl) (fun _ _ _ h => h) (Or.inl ⟨by rfl, ?_⟩) (by assumption) ?_
            rotate_left
            · (intro w' hSw; (try dsimp only at hSw); go_simp; try (with_reducible rfl))
            change wpAnyH _ _ _ _ _ _ _ (Act.put _ (some 42) _) _
            try simp only [Act.put, List.setIfInBounds_toArray, List.set_cons_zero, List.set_cons_succ]
            refine wpAnyH_take (i := 19) (v := ?_) rfl (by kernel_rfl) (by kernel_rfl) (by kernel_rfl) (fun _ _ _ h => h) (Or.inl ⟨by rfl, ?_⟩) (by assumption) ?_
            rotate_left
            · (intro w' hSw; (try dsimp only at hSw); go_simp; try (with_reducible rfl))
            change wpAnyH _ _ _ _ _ _ _ (Act.put _ (some 43) _) _
            try simp only [Act.put, List.setIfInBounds_toArray, List.set_cons_zero, List.set_cons_succ]
            refine wpAnyH_take (i := 20) (v := ?_) rfl (by kernel_rfl) (by kernel_rfl) (by kernel_rfl) (fun _ _ _ h => h) (Or.inl ⟨by rfl, ?_⟩) (by assumption) ?_
            rotate_left
            · (intro w' hSw; (try dsimp only at hSw); go_simp; try (with_reducible rfl))
            change wpAnyH _ _ _ _ _ _ _ (Act.put _ (some 44) _) _
            try simp only [Act.put, List.setIfInBounds_toArray, List.set_cons_zero, List.set_cons_succ]
            refine wpAnyH_take (i := 21) (v := ?_) rfl (by kernel_rfl) (by kernel_rfl) (by kernel_rfl) (fun _ _ _ h => h) (Or.inl ⟨by rfl, ?_⟩) (by assumption) ?_
            rotate_left
            · (intro w' hSw; (try dsimp only at hSw); go_simp; try (with_reducible rfl))
            change wpAnyH _ _ _ _ _ _ _ (Act.put _ (some 45) _) _
            try simp only [Act.put, List.setIfInBounds_toArray, List.set_cons_zero, List.set_cons_succ]
            refine wpAnyH_take (i := 22) (v := ?_) rfl (by kernel_rfl) (by kernel_rfl) (by kernel_rfl) (fun _ _ _ h => h) (Or.inl ⟨by rfl, ?_⟩) (by assumption) ?_
            rotate_left
            · (intro w' hSw; (try dsimp only at hSw); go_simp; try (with_reducible rfl))
            change wpAnyH _ _ _ _ _ _ _ (Act.put _ (some 46) _) _
            try simp only [Act.put, List.setIfInBounds_toArray, List.set_cons_zero, List.set_cons_succ]
            refine wpAnyH_take (i := 24) (v := ?_) rfl (by kernel_rfl) (by kernel_rfl) (by kernel_rfl) (fun _ _ _ h => h) (Or.inl ⟨by rfl, ?_⟩) (by assumption) ?_
            rotate_left
            · (intro w' hSw; (try dsimp only at hSw); go_simp; try (with_reducible rfl))
            change wpAnyH _ _ _ _ _ _ _ (Act.put _ (some 48) _) _
            try simp only [Act.put, List.setIfInBounds_toArray, List.set_cons_zero, List.set_cons_succ]
            refine wpAnyH_ready (rs := [23]) (by kernel_rfl) (by simp) ?_
            refine AllReadyH.cons (i := 23) rfl (fun K hK => ?_) AllReadyH.nil
            simp only [List.getElem_toArray, List.getElem_cons_succ, List.getElem_cons_zero]
            rw [if_pos (by rfl)]
            go_simp
            (go_at_call 17; refine (specArrAt (x := x) _ _ (by exact Rd.later (by repeat' (first | (with_reducible exact hbw) | (with_reducible exact Below.refl _ _) | (with_reducible refine ext_trans ?_ hb2) | (with_reducible refine ext_trans ?_ hb1) | (with_reducible refine ext_trans ?_ (ext_alloc _ _)) | (with_reducible refine Below.drew ?_) | (with_reducible refine Below.setCell ?_ ?_ _) | (simp; done) | (simp; omega) | omega)) h)).mono ?_; rintro e w3 ⟨rfl, hb3⟩; rw [HAT.out]; have hkc3 := keeps_cells hb3; go_wp2_with fail)
            refine hK.out _ _ ?_ (fun hHeld => ?_)
            · (try dsimp only); simp [*]
            clear hK K
            try simp only [Act.put, List.setIfInBounds_toArray, List.set_cons_zero, List.set_cons_succ]
            refine wpAnyH_take (i := 25) (v := ?_) rfl (by kernel_rfl) (by kernel_rfl) (by kernel_rfl) (fun _ _ _ h => h) (Or.inl ⟨by rfl, ?_⟩) (by assumption) ?_
            rotate_left
            · (intro w' hSw; (try dsimp only at hSw); go_simp; try (with_reducible rfl))
            change wpAnyH _ _ _ _ _ _ _ (Act.put _ (some 49) _) _
            try simp only [Act.put, List.setIfInBounds_toArray, List.set_cons_zero, List.set_cons_succ]
            refine wpAnyH_take (i := 26) (v := ?_) rfl (by kernel_rfl) (by kernel_rfl) (by kernel_rfl) (fun _ _ _ h => h) (Or.inl ⟨by rfl, ?_⟩) (by assumption) ?_
            rotate_left
            · (intro w' hSw; (try dsimp only at hSw); go_simp; try (with_reducible rfl))
            change wpAnyH _ _ _ _ _ _ _ (Act.put _ (some 50) _) _
            try simp only [Act.put, List.setIfInBounds_toArray, List.set_cons_zero, List.set_cons_succ]
            refine wpAnyH_done (by kernel_rfl) ?_ _
            go_wp2
            go_ret
            exact ⟨end_bool HZ.out.symm, (by repeat' (first | (with_reducible exact hbw) | (with_reducible exact Below.refl _ _) | (with_reducible refine ext_trans ?_ hb3) | (with_reducible refine ext_trans ?_ hb2) | (with_reducible refine ext_trans ?_ hb1) | (with_reducible refine ext_trans ?_ (ext_alloc _ _)) | (with_reducible refine Below.drew ?_) | (with_reducible refine Below.setCell ?_ ?_ _) | (simp; done) | (simp; omega) | omega))⟩
    · have : k = x.keys.length := by omega
      subst this
      have HA := hid (arrOk_all (a := x) (by omega) HLN.out HR.out)
      clear hc h h0 hv
      go_wp2
      go_ret
      exact ⟨end_bool HA.out.symm, hbw⟩

theorem rd_take {α : Type} [Rd α] {S : Nat → Prop} {w : World} {a : Option Addr} {n c : Nat} {xs : List α} (h : Rd.rd S w [.slice a n c] xs) {k : Nat} (hk : k ≤ xs.length) : Rd.rd S w [.slice a k c] (xs.take k) := by
  obtain ⟨a', cap', hv, h1, h2, hc⟩ := h
  simp only [List.cons.injEq, Value.slice.injEq, and_true] at hv
  obtain ⟨rfl, rfl, rfl⟩ := hv
  have hl : (xs.take k).length = k := by rw [List.length_take]; omega
  refine ⟨a, c, by rw [hl], by omega, h2, fun h0 => ?_⟩
  obtain ⟨b, off, hb, hS, hrow⟩ := hc (by omega)
  refine ⟨b, off, hb, hS, fun i hi => ?_⟩
  obtain ⟨cs, h3, h4⟩ := hrow i (by omega)
  refine ⟨cs, h3, ?_⟩
  rw [List.getElem_take]
  exact h4
theorem nameAt_zero {xs : List ByteArray} {s : ByteArray} (h : nameAt xs s < 1) : ∀ i (hi : i < xs.length), xs[i] ≠ s := by
  intro i hi he
  unfold nameAt at h
  split at h
  · omega
  · rename_i hn
    rw [List.findIdx?_eq_none_iff] at hn
    have := hn xs[i] (List.getElem_mem hi)
    simp [he] at this
theorem nameAt_first {xs : List ByteArray} {s : ByteArray} {k : Nat} (h : nameAt xs s = (k : Int) + 1) : ∀ i (hi : i < k) (hi' : i < xs.length), xs[i] ≠ s := by
  intro i hi hi'
  unfold nameAt at h
  split at h
  · rename_i j hj
    obtain rfl : j = k := by omega
    have := (List.findIdx?_eq_some_iff_getElem.1 hj).2.2 i hi
    simpa using this
  · omega
theorem contains_take {a : Arr} {k : Nat} (hk : k < a.keys.length) : (1 ≤ nameAt (a.keys.take k) a.keys[k]) ↔ ¬ arrAt a a.keys[k] = k := by
  have hl : (a.keys.take k).length = k := by rw [List.length_take]; omega
  constructor
  · intro h he
    unfold arrAt at he
    have hf := nameAt_first (k := k) (xs := a.keys) (s := a.keys[k]) (by omega)
    have : nameAt (a.keys.take k) a.keys[k] = 0 := nameAt_miss (fun i hi => by rw [List.getElem_take]; exact hf i (by omega) (by omega))
    omega
  · intro h
    by_cases h1 : 1 ≤ nameAt (a.keys.take k) a.keys[k]
    · exact h1
    · have hz := nameAt_zero (by omega : nameAt (a.keys.take k) a.keys[k] < 1)
      refine absurd ?_ h
      have := nameAt_hit hk (fun i hi => by have := hz i (by omega); rw [List.getElem_take] at this; exact this) rfl
      unfold arrAt
      omega

theorem sContainsStr {v : Value} {xs : List ByteArray} {S : Nat → Prop} (s : ByteArray) (w : World) (h : Rd.rd S w [v] xs) :
    Calls Tryd.prog 36 #[v, .string s] w fun e w' => e = .returned (.bool (decide (1 ≤ nameAt xs s))) ∧ w = w' := by
  have hlen : xs.length ≤ 9223372036854775807 := by obtain ⟨a, cap, _, h1, h2, _⟩ := rdStrs h; omega
  have hn := nameAt_le xs s
  go_enter Tryd.func36, Tryd.ntmps36
  go_wp2_with fail
  refine (sIndexStr s _ h).mono ?_
  rintro e w' ⟨rfl, rfl⟩
  go_wp2
  go_ret
  exact ⟨end_bool (by rw [decide_eq_decide]), rfl⟩

set_option maxHeartbeats 8000000 in
set_option maxRecDepth 100000 in
theorem implArrOk {cs : Array Value} {x : Arr} (w : World) (h : Rd.rd (Old w) w cs.toList x) (hT : Tabs w) :
    Calls Tryd.prog 11 #[.agg cs] w fun e w' => e = .returned (.bool (arrOk x)) ∧ Below w.heap.size w w' := by
  obtain ⟨a, c, a1, c1, hcs, h0, hv⟩ := rdArr h
  obtain rfl := arr_of_list hcs
  clear hcs h
  obtain ⟨a', cap, ha, n1, n2, hc⟩ := rdStrs h0
  simp only [Value.slice.injEq, true_and] at ha
  obtain ⟨rfl, rfl⟩ := ha
  by_cases hlong : (200 : Int) < x.keys.length
  · have HR := hid (arrOk_long (a := x) (by omega))
    clear h0 hv hc
    go_enter Tryd.func11, Tryd.ntmps11
    go_wp2
    go_ret
    exact ⟨end_bool HR.out.symm, ext_alloc _ _⟩
  by_cases hlen : x.vals.length = x.keys.length
  rotate_left
  · have HR := hid (arrOk_len hlen)
    have hne : ((x.vals.length : Int) != (x.keys.length : Int)) = true := by rw [bne_iff_ne]; omega
    clear h0 hv hc hlen
    go_enter Tryd.func11, Tryd.ntmps11
    go_wp2
    go_ret
    exact ⟨end_bool HR.out.symm, ext_alloc _ _⟩
  have HLN := hid hlen
  have hne : ((x.vals.length : Int) != (x.keys.length : Int)) = false := by rw [hlen]; simp
  clear hlen
  go_enter Tryd.func11, Tryd.ntmps11
  go_wp2
  have hw0 := Below.refl (w.alloc (.cells #[.slice a x.keys.length c, .slice a1 x.vals.length c1] 27)).heap.size (w.alloc (.cells #[.slice a x.keys.length c, .slice a1 x.vals.length c1] 27))
  go_loopw [21] (fun i wr => ∃ k : Nat, k ≤ x.keys.length ∧ i = .int .i64 k ∧ (∀ j, j < k → arrOkAt x j = true) ∧ Below (w.alloc (.cells #[.slice a x.keys.length c, .slice a1 x.vals.length c1] 27)).heap.size (w.alloc (.cells #[.slice a x.keys.length c, .slice a1 x.vals.length c1] 27)) wr) (fun i _ => x.keys.length - (intOf i).toNat)
  case atStart => exact ⟨0, Nat.zero_le _, rfl, fun i hi => absurd hi (by omega), hw0⟩
  case round =>
    obtain ⟨k, hk, rfl, hr, hbr⟩ := hrel
    have HR := hid hr
    clear hr
    have hlr : w.heap.size < wr.heap.size := by have := hbr.size; (try simp at this); omega
    have hbw : Below w.heap.size w wr := ext_trans (ext_alloc _ _) hbr
    have k0 : wr.cell? ⟨w.heap.size, 0, none⟩ = some (.slice a x.keys.length c) := keeps_cells hbr _ _ (by simp)
    have k1 : wr.cell? ⟨w.heap.size, 1, none⟩ = some (.slice a1 x.vals.length c1) := keeps_cells hbr _ _ (by simp)
    by_cases hlt : k < x.keys.length
    · obtain ⟨b, off, rfl, hB, hcell⟩ := hc (by omega)
      obtain ⟨hce, hsz⟩ := hcell k hlt
      have hB' : b < w.heap.size := hB
      have hkv : k < x.vals.length := by rw [HLN.out]; exact hlt
      obtain ⟨_, b2, off2, rfl, hB2, t0, t1, t2, t3, t4, hx⟩ := rdVals_at hv hkv
      have hB2' : b2 < w.heap.size := hB2
      have q := keeps_cells hbw _ _ hce
      have q0 := keeps_cells hbw _ _ t0
      have q1 := keeps_cells hbw _ _ t1
      have q2 := keeps_cells hbw _ _ t2
      have q3 := keeps_cells hbw _ _ t3
      have q4 := keeps_cells hbw _ _ t4
      have hE := hid (arrOkAt_eq hlt hkv)
      have HX := hid (fun (S : Nat → Prop) (w : World) => rdVal_mk (S := S) (w := w) (rdVal hx).2.1 (rdVal hx).2.2.1 (rdVal hx).2.2.2.1 (rdVal hx).2.2.2.2)
      have hT' := tabs_below hT hbw
      have hi0 : (0 : Int) ≤ (k : Int) := by omega
      have hi1 : (k : Int) < (x.keys.length : Int) := by omega
      have hi2 : (k : Int) < (x.vals.length : Int) := by omega
      have hi3 : (k : Int) ≤ (c : Int) := by omega
      have hC := hid (contains_take hlt)
      clear hcell hc hce t0 t1 t2 t3 t4 hx hv
      cases ho : okText x.keys[k]
      · have HZ := hid (show arrOk x = false from arrOk_not hlt (by rw [hE.out, ho]; rfl))
        go_wp2_with ((go_at_call 30; refine (implTextOk _ _ hT').mono ?_; rintro e w1 ⟨rfl, hb1⟩; rw [ho]; have hkc1 := keeps_cells hb1))
        go_ret
        exact ⟨end_bool HZ.out.symm, ext_trans hbw hb1⟩
      · cases hvo : valOk x.vals[k]
        · have HZ := hid (show arrOk x = false from arrOk_not hlt (by rw [hE.out, ho, hvo]; rfl))
          go_wp2_with (first | (go_at_call 30; refine (implTextOk _ _ hT').mono ?_; rintro e w1 ⟨rfl, hb1⟩; rw [ho]; have hkc1 := keeps_cells hb1; have hs1 := hb1.size; have p0 := hkc1 _ _ k0; have p1 := hkc1 _ _ k1; have z0 := hkc1 _ _ q0; have z1 := hkc1 _ _ q1; have z2 := hkc1 _ _ q2; have z3 := hkc1 _ _ q3; have z4 := hkc1 _ _ q4) | (go_at_call 31; refine (implIsVal (x := x.vals[k]) _ (by exact HX.out _ _) (tabs_below hT' hb1)).mono ?_; rintro e w2 ⟨rfl, hb2⟩; rw [hvo]; have hkc2 := keeps_cells hb2))
          go_ret
          exact ⟨end_bool HZ.out.symm, ext_trans hbw (ext_trans hb1 hb2)⟩
        · obtain ⟨z, hz⟩ : ∃ z, decide (1 ≤ nameAt (x.keys.take k) x.keys[k]) = z := ⟨_, rfl⟩
          have HAT := hid hz
          cases z
          · have HO := hid (show arrOkAt x k = true by
              rw [hE.out, ho, hvo, decide_eq_true (Classical.not_not.1 (fun h => absurd (hC.out.2 h) (of_decide_eq_false hz)))]; rfl)
            clear hz
            go_wp2_with (first | (go_at_call 30; refine (implTextOk _ _ hT').mono ?_; rintro e w1 ⟨rfl, hb1⟩; rw [ho]; have hkc1 := keeps_cells hb1; have hs1 := hb1.size; have p0 := hkc1 _ _ k0; have p1 := hkc1 _ _ k1; have z0 := hkc1 _ _ q0; have z1 := hkc1 _ _ q1; have z2 := hkc1 _ _ q2; have z3 := hkc1 _ _ q3; have z4 := hkc1 _ _ q4) | (go_at_call 31; refine (implIsVal (x := x.vals[k]) _ (by exact HX.out _ _) (tabs_below hT' hb1)).mono ?_; rintro e w2 ⟨rfl, hb2⟩; rw [hvo]; have hkc2 := keeps_cells hb2; have hs2 := hb2.size; have r0 := hkc2 _ _ p0; have r1 := hkc2 _ _ p1) | (go_at_call 36; refine (sContainsStr _ _ (by exact rd_take (Rd.later (ext_trans hbw (ext_trans hb1 hb2)) h0) (by omega))).mono ?_; rintro e w3 ⟨rfl, rfl⟩; rw [HAT.out]))
            go_roundw
            case rel => exact ⟨k + 1, by omega, by go_num, fun j hj => by
              by_cases hjk : j = k
              · subst hjk; exact HO.out
              · exact HR.out j (by omega), ext_trans hbr (ext_trans hb1 hb2)⟩
            case measure => simp [intOf]; omega
          · have HZ := hid (show arrOk x = false from arrOk_not hlt (by rw [hE.out, decide_eq_false (hC.out.1 (of_decide_eq_true hz)), Bool.and_false]))
            clear hz
            go_wp2_with (first | (go_at_call 30; refine (implTextOk _ _ hT').mono ?_; rintro e w1 ⟨rfl, hb1⟩; rw [ho]; have hkc1 := keeps_cells hb1; have hs1 := hb1.size; have p0 := hkc1 _ _ k0; have p1 := hkc1 _ _ k1; have z0 := hkc1 _ _ q0; have z1 := hkc1 _ _ q1; have z2 := hkc1 _ _ q2; have z3 := hkc1 _ _ q3; have z4 := hkc1 _ _ q4) | (go_at_call 31; refine (implIsVal (x := x.vals[k]) _ (by exact HX.out _ _) (tabs_below hT' hb1)).mono ?_; rintro e w2 ⟨rfl, hb2⟩; rw [hvo]; have hkc2 := keeps_cells hb2; have hs2 := hb2.size; have r0 := hkc2 _ _ p0; have r1 := hkc2 _ _ p1) | (go_at_call 36; refine (sContainsStr _ _ (by exact rd_take (Rd.later (ext_trans hbw (ext_trans hb1 hb2)) h0) (by omega))).mono ?_; rintro e w3 ⟨rfl, rfl⟩; rw [HAT.out]))
            go_ret
            exact ⟨end_bool HZ.out.symm, ext_trans hbw (ext_trans hb1 hb2)⟩
    · have : k = x.keys.length := by omega
      subst this
      have HA := hid (arrOk_all (a := x) (by omega) HLN.out HR.out)
      clear hc h0 hv
      go_wp2
      go_ret
      exact ⟨end_bool HA.out.symm, hbw⟩
end Go.Proofs.YtommldonooicjaaDoor
