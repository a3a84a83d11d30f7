/-
  What is proved here: impl.ValCat returns the concatenation of two values' texts. The condition 'TP' (where it stands) says that the library's tables lie in the world.
-/
import Derived.Test.YtflleebdfddkfaaDoorValCat
namespace Go.Proofs.YtflleebdfddkfaaDoor
open Go.RowKit
set_option linter.unusedVariables false
set_option linter.unusedSimpArgs false
set_option maxHeartbeats 8000000 in
set_option maxRecDepth 100000 in
theorem implValCat {cs ds : Array Value} {x y : Val} (w : World) (hx : Rd.rd (Old w) w cs.toList x) (hy : Rd.rd (Old w) w ds.toList y) (hT : TP w) :
    Calls Tryd.prog 27 #[.agg cs, .agg ds] w fun e w' => ∃ r : Array Value, e = .returned (.tuple #[.agg r, .bool (okText (catS x y))]) ∧ Rd.rd (Old w') w' r.toList (catV x y) ∧ Below w.heap.size w w' := by
  obtain ⟨hcs, g0, g1, g2, g3⟩ := rdVal hx
  obtain rfl := arr_of_list hcs
  obtain ⟨hds, k0, k1, k2, k3⟩ := rdVal hy
  obtain rfl := arr_of_list hds
  clear hcs hds hx hy
  have hsx := valT_size x
  have hsy := valT_size y
  have hsz := catS_size x y
  have HC := hid (show catS x y = valT x ++ valT y from rfl)
  obtain ⟨tx, htx⟩ : ∃ t, valT x = t := ⟨_, rfl⟩
  obtain ⟨ty, hty⟩ : ∃ t, valT y = t := ⟨_, rfl⟩
  rw [htx] at hsx HC
  rw [hty] at hsy HC
  have HX := hid htx
  have HY := hid hty
  have hzz : ¬ 9223372036854775807 < tx.size + ty.size := by omega
  clear htx hty
  obtain ⟨ok, hok⟩ : ∃ ok, okText (catS x y) = ok := ⟨_, rfl⟩
  have HO := hid hok
  have HO2 := hid (show okText (tx ++ ty) = ok by rw [← HC.out]; exact hok)
  rw [hok]
  clear hok
  go_enter Tryd.func27, Tryd.ntmps27
  go_wp2_with fail
  refine wp_region_held_drew (S := fun w' => w'.cell? ⟨w.heap.size, 0, none⟩ = some (.int .i64 x.kind) ∧ w'.cell? ⟨w.heap.size, 1, none⟩ = some (.bool x.num.neg) ∧ w'.cell? ⟨w.heap.size, 2, none⟩ = some (.string x.num.dig) ∧ w'.cell? ⟨w.heap.size, 3, none⟩ = some (.int .i64 x.num.exp) ∧ w'.cell? ⟨w.heap.size, 4, none⟩ = some (.string x.text) ∧ w'.cell? ⟨w.heap.size + 1, 0, none⟩ = some (.int .i64 y.kind) ∧ w'.cell? ⟨w.heap.size + 1, 1, none⟩ = some (.bool y.num.neg) ∧ w'.cell? ⟨w.heap.size + 1, 2, none⟩ = some (.string y.num.dig) ∧ w'.cell? ⟨w.heap.size + 1, 3, none⟩ = some (.int .i64 y.num.exp) ∧ w'.cell? ⟨w.heap.size + 1, 4, none⟩ = some (.string y.text)) (by kernel_rfl) ?_ (fun hHeld => ?_)
  · repeat' (first | apply And.intro | (go_simp; done) | (simp [go_sem]; done))
  refine wpAnyH_take (i := 0) (v := ?_) rfl (by kernel_rfl) (by kernel_rfl) (by kernel_rfl) (fun _ _ _ h => h) (Or.inl ⟨by rfl, ?_⟩) (by assumption) ?_
  rotate_left
  · (intro w' hSw; (try dsimp only at hSw); go_simp; try (with_reducible rfl))
  change wpAnyH _ _ _ _ _ _ _ (Act.put _ (some 7) _) _
  try simp only [Act.put, List.setIfInBounds_toArray, List.set_cons_zero, List.set_cons_succ]
  refine wpAnyH_take (i := 2) (v := ?_) rfl (by kernel_rfl) (by kernel_rfl) (by kernel_rfl) (fun _ _ _ h => h) (Or.inl ⟨by rfl, ?_⟩) (by assumption) ?_
  rotate_left
  · (intro w' hSw; (try dsimp only at hSw); go_simp; try (with_reducible rfl))
  change wpAnyH _ _ _ _ _ _ _ (Act.put _ (some 9) _) _
  try simp only [Act.put, List.setIfInBounds_toArray, List.set_cons_zero, List.set_cons_succ]
  refine wpAnyH_ready (rs := [1]) (by kernel_rfl) (by simp) ?_
  refine AllReadyH.cons (i := 1) rfl (fun K hK => ?_) AllReadyH.nil
  simp only [List.getElem_toArray, List.getElem_cons_succ, List.getElem_cons_zero]
  rw [if_pos (by rfl)]
  go_simp
  (go_at_call 55; refine (implValText0 (x := x) _ (by exact rdVal_mk g0 g1 g2 g3) (tp_below hT (by repeat' (first | (with_reducible exact Below.refl _ _) | (with_reducible refine ext_trans ?_ hb1) | (with_reducible refine ext_trans ?_ (ext_alloc _ _)) | (with_reducible refine Below.drew ?_))))).mono ?_; rintro e w1 ⟨rfl, hb1⟩; rw [HX.out]; have hkc1 := keeps_cells hb1; go_wp2_with fail)
  have hOld := hHeld
  clear hHeld
  refine hK.out _ _ ?_ (fun hHeld => ?_)
  · (try dsimp only); simp [*]
  clear hK K hOld
  try simp only [Act.put, List.setIfInBounds_toArray, List.set_cons_zero, List.set_cons_succ]
  refine wpAnyH_ready (rs := [3]) (by kernel_rfl) (by simp) ?_
  refine AllReadyH.cons (i := 3) rfl (fun K hK => ?_) AllReadyH.nil
  simp only [List.getElem_toArray, List.getElem_cons_succ, List.getElem_cons_zero]
  rw [if_pos (by rfl)]
  go_simp
  (go_at_call 55; refine (implValText0 (x := y) _ (by exact rdVal_mk k0 k1 k2 k3) (tp_below hT (by repeat' (first | (with_reducible exact Below.refl _ _) | (with_reducible refine ext_trans ?_ hb1) | (with_reducible refine ext_trans ?_ (ext_alloc _ _)) | (with_reducible refine Below.drew ?_))))).mono ?_; rintro e w2 ⟨rfl, hb2⟩; rw [HY.out]; have hkc2 := keeps_cells hb2; go_wp2_with fail)
  have hOld := hHeld
  clear hHeld
  refine hK.out _ _ ?_ (fun hHeld => ?_)
  · (try dsimp only); simp [*]
  clear hK K hOld
  try simp only [Act.put, List.setIfInBounds_toArray, List.set_cons_zero, List.set_cons_succ]
  refine wpAnyH_take (i := 4) (v := ?_) rfl (by kernel_rfl) (by kernel_rfl) (by kernel_rfl) (fun _ _ _ h => h) (Or.inl ⟨by rfl, ?_⟩) (by assumption) ?_
  rotate_left
  · (intro w' hSw; (try dsimp only at hSw); go_simp; try (with_reducible rfl))
  change wpAnyH _ _ _ _ _ _ _ (Act.put _ (some 11) _) _
  try simp only [Act.put, List.setIfInBounds_toArray, List.set_cons_zero, List.set_cons_succ]
  refine wpAnyH_take (i := 5) (v := ?_) rfl (by kernel_rfl) (by kernel_rfl) (by kernel_rfl) (fun _ _ _ h => h) (Or.inl ⟨by rfl, ?_⟩) (by assumption) ?_
  rotate_left
  · (intro w' hSw; (try dsimp only at hSw); go_simp; try (with_reducible rfl))
  change wpAnyH _ _ _ _ _ _ _ (Act.put _ (some 6) _) _
  try simp only [Act.put, List.setIfInBounds_toArray, List.set_cons_zero, List.set_cons_succ]
  refine wpAnyH_done (by kernel_rfl) ?_ _
  clear hHeld
  go_wp2_with fail
  refine (implTextOk (tx ++ ty) _ (tabs_below hT.1 (by repeat' (first | (with_reducible exact Below.refl _ _) | (with_reducible refine ext_trans ?_ hb4) | (with_reducible refine ext_trans ?_ hb3) | (with_reducible refine ext_trans ?_ hb2) | (with_reducible refine ext_trans ?_ hb1) | (with_reducible refine ext_trans ?_ (ext_alloc _ _)) | (with_reducible refine Below.drew ?_) | (with_reducible refine Below.setCell ?_ ?_ _) | (simp; done) | (simp; omega) | omega)))).mono ?_
  rintro e w3 ⟨rfl, hb3⟩
  rw [HO2.out]
  obtain ⟨hc1, hf1⟩ := bcell hb1
  obtain ⟨hc2, hf2⟩ := bcell hb2
  obtain ⟨hc3, hf3⟩ := bcell hb3
  obtain ⟨ha1, hd1, hg1⟩ : w.heap.size < w1.heap.size ∧ w.heap.size + 1 < w1.heap.size ∧ w.heap.size + 1 + 1 < w1.heap.size := by have h1 := hb1.size; have h2 := hb2.size; (try simp at h1); exact ⟨by omega, by omega, by omega⟩
  obtain ⟨ha2, hd2, hg2⟩ : w.heap.size < w2.heap.size ∧ w.heap.size + 1 < w2.heap.size ∧ w.heap.size + 1 + 1 < w2.heap.size := by have h1 := hb1.size; have h2 := hb2.size; (try simp at h1); exact ⟨by omega, by omega, by omega⟩
  have hl2 : w.heap.size + 1 + 1 < w3.heap.size := by have h1 := hb1.size; have h2 := hb2.size; have h3 := hb3.size; (try simp at h1); omega
  have hl1 : w.heap.size + 1 < w3.heap.size := by omega
  have hl0 : w.heap.size < w3.heap.size := by omega
  cases ok
  · have HV := hid (show catV x y = val0 by unfold catV; rw [HO.out]; rfl)
    go_wp2
    refine bodyPost_ret (v := .tuple #[.agg #[.int .i64 0, .bool false, .string ⟨#[]⟩, .int .i64 0, .string ⟨#[]⟩], .bool false]) (by simp [results, Tryd.results27, go_sem, dec0, hl2, hc1, hc2, hc3, hg1, hg2]) rfl ⟨_, rfl, ?_, ?_⟩
    · rw [HV.out]; exact rd_val0
    · repeat' (first | (with_reducible exact Below.refl _ _) | (with_reducible refine ext_trans ?_ hb4) | (with_reducible refine ext_trans ?_ hb3) | (with_reducible refine ext_trans ?_ hb2) | (with_reducible refine ext_trans ?_ hb1) | (with_reducible refine ext_trans ?_ (ext_alloc _ _)) | (with_reducible refine Below.drew ?_) | (with_reducible refine Below.setCell ?_ ?_ _) | (simp; done) | (simp; omega) | omega)
  · have HV := hid (show catV x y = ⟨2, dec0, catS x y⟩ by unfold catV; rw [HO.out]; rfl)
    go_wp2
    refine bodyPost_ret (v := .tuple #[.agg #[.int .i64 2, .bool false, .string ⟨#[]⟩, .int .i64 0, .string (tx ++ ty)], .bool true]) (by simp [results, Tryd.results27, go_sem, dec0, hl2, hc1, hc2, hc3, hg1, hg2]) rfl ⟨_, rfl, ?_, ?_⟩
    · rw [HV.out]; rw [HC.out]; exact rd_text (by rw [ByteArray.size_append]; omega)
    · repeat' (first | (with_reducible exact Below.refl _ _) | (with_reducible refine ext_trans ?_ hb4) | (with_reducible refine ext_trans ?_ hb3) | (with_reducible refine ext_trans ?_ hb2) | (with_reducible refine ext_trans ?_ hb1) | (with_reducible refine ext_trans ?_ (ext_alloc _ _)) | (with_reducible refine Below.drew ?_) | (with_reducible refine Below.setCell ?_ ?_ _) | (simp; done) | (simp; omega) | omega)
end Go.Proofs.YtflleebdfddkfaaDoor
