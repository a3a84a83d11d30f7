/-
  What is proved here: spec.RunText and impl.RunText return the text of an outcome. The condition 'TP' says that the library's tables lie in the world.
-/
import Derived.Test.YtjpkdgedglnchaaDoorFile
import Derived.Test.YtjpkdgedglnchaaDoorNum
import Derived.Test.YtjpkdgedglnchaaDoorConv
import Derived.Test.YtjpkdgedglnchaaDoorDvOut
import Derived.Test.YtjpkdgedglnchaaDoorTabs3
import Derived.Laws.Concat
import Derived.Laws.Cover1
namespace Go.Proofs.YtjpkdgedglnchaaDoor
open Go.RowKit
set_option linter.unusedVariables false
set_option linter.unusedSimpArgs false

/-- "code 1 exit 2 ticks 3" and an end of line -/
def runH (x : Outcome) : ByteArray := ⟨#[99, 111, 100, 101, 32]⟩ ++ numB x.code ++ ⟨#[32, 101, 120, 105, 116, 32]⟩ ++ numB x.exit ++ ⟨#[32, 116, 105, 99, 107, 115, 32]⟩ ++ numB x.ticks ++ ⟨#[10]⟩
def lineR (f : File) : ByteArray := ⟨#[102, 105, 108, 101, 32]⟩ ++ quoteT f.name ++ ⟨#[32]⟩ ++ fileQT f.text ++ ⟨#[10]⟩
def runP (x : Outcome) (k : Nat) : List UInt8 := (runH x).data.toList ++ (x.files.take k).flatMap fun f => (lineR f).data.toList
def runT (x : Outcome) : ByteArray := mkB (runP x x.files.length)
theorem runP_zero (x : Outcome) : runP x 0 = (runH x).data.toList := by unfold runP; simp
theorem runP_succ {x : Outcome} {k : Nat} (h : k < x.files.length) : runP x (k + 1) = runP x k ++ (lineR x.files[k]).data.toList := by
  unfold runP
  rw [List.take_add_one, List.getElem?_eq_getElem h]
  show _ ++ (x.files.take k ++ [x.files[k]]).flatMap _ = _
  rw [List.flatMap_append, List.append_assoc]
  simp only [List.flatMap_cons, List.flatMap_nil, List.append_nil]
theorem lineR_size (f : File) : (lineR f).size ≤ 10020 := by
  have h1 := quoteT_size f.name
  have h2 := fileQT_size f.text
  have l1 : (⟨#[102, 105, 108, 101, 32]⟩ : ByteArray).size = 5 := rfl
  have l2 : (⟨#[32]⟩ : ByteArray).size = 1 := rfl
  have l3 : (⟨#[10]⟩ : ByteArray).size = 1 := rfl
  unfold lineR
  simp only [ByteArray.size_append]
  omega
theorem runH_size {x : Outcome} (h0 : -9223372036854775808 ≤ x.code ∧ x.code ≤ 9223372036854775807) (h1 : -9223372036854775808 ≤ x.exit ∧ x.exit ≤ 9223372036854775807) (h2 : -9223372036854775808 ≤ x.ticks ∧ x.ticks ≤ 9223372036854775807) : (runH x).size ≤ 100 := by
  have n0 := numB_size h0
  have n1 := numB_size h1
  have n2 := numB_size h2
  have l1 : (⟨#[99, 111, 100, 101, 32]⟩ : ByteArray).size = 5 := rfl
  have l2 : (⟨#[32, 101, 120, 105, 116, 32]⟩ : ByteArray).size = 6 := rfl
  have l3 : (⟨#[32, 116, 105, 99, 107, 115, 32]⟩ : ByteArray).size = 7 := rfl
  have l4 : (⟨#[10]⟩ : ByteArray).size = 1 := rfl
  unfold runH
  simp only [ByteArray.size_append]
  omega
theorem runP_len {x : Outcome} (h : (runH x).size ≤ 100) : ∀ k, k ≤ x.files.length → (runP x k).length ≤ 100 + k * 10020
  | 0, _ => by rw [runP_zero, ← Lib.size_eq]; omega
  | k + 1, hk => by
    have ih := runP_len h k (by omega)
    have hl := lineR_size x.files[k]
    rw [Lib.size_eq] at hl
    rw [runP_succ (by omega), List.length_append, Nat.add_mul]
    omega
theorem ext_cell {w : World} {o : Obj} {b j : Nat} {u : Value} (hb : b < w.heap.size) (h : w.cell? ⟨b, j, none⟩ = some u) : (w.alloc o).cell? ⟨b, j, none⟩ = some u := (World.cell?_alloc_lt _ _ _ hb).trans h
theorem info_u8R : (Tryd.prog.info? 5).map (fun i => (i.zero, i.size, i.bytes)) = some (some (.int .u8 0), 1, 1) := by kernel_rfl
set_option maxHeartbeats 8000000 in
set_option maxRecDepth 100000 in
theorem specRunText {cs : Array Value} {x : Outcome} (w : World) (hrd : Rd.rd (Old w) w cs.toList x) (hsz : Sz.sz x ≤ 1048576) :
    Calls Tryd.prog 8 #[.agg cs] w fun e w' => e = .returned (.string (runT x)) ∧ Below w.heap.size w w' := by
  obtain ⟨a3, c3, hcs, b0, b1, b2, h3⟩ := rdOutcome hrd
  obtain rfl := arr_of_list hcs
  have hn : x.files.length ≤ 1048576 := Nat.le_trans (sz_len x.files) hsz
  clear hcs hrd hsz
  have hrs := runH_size b0 b1 b2
  have HRL := hid (runP_len hrs)
  obtain ⟨i0, hi, hz0, hz1, hz2⟩ := info_parts info_u8R
  have C0 := hid (fun (w : World) => specNumText x.code w b0)
  have C1 := hid (fun (w : World) => specNumText x.exit w b1)
  have C2 := hid (fun (w : World) => specNumText x.ticks w b2)
  have n0 := numB_size b0
  have n1 := numB_size b1
  have n2 := numB_size b2
  have hH : runH x = ⟨#[99, 111, 100, 101, 32]⟩ ++ numB x.code ++ ⟨#[32, 101, 120, 105, 116, 32]⟩ ++ numB x.exit ++ ⟨#[32, 116, 105, 99, 107, 115, 32]⟩ ++ numB x.ticks ++ ⟨#[10]⟩ := rfl
  obtain ⟨N0, e0⟩ : ∃ z, numB x.code = z := ⟨_, rfl⟩
  obtain ⟨N1, e1⟩ : ∃ z, numB x.exit = z := ⟨_, rfl⟩
  obtain ⟨N2, e2⟩ : ∃ z, numB x.ticks = z := ⟨_, rfl⟩
  rw [e0] at C0 n0 hH
  rw [e1] at C1 n1 hH
  rw [e2] at C2 n2 hH
  clear e0 e1 e2
  obtain ⟨HD, hHD⟩ : ∃ z, runH x = z := ⟨_, rfl⟩
  rw [hHD] at hH hrs
  have HDE := hid hH.symm
  have HHD := hid hHD
  have hcv := fun (w : World) => Lib.run_convert_string_bytes (P := Tryd.prog) w 9 56 5 HD Tryd.underlying9 Tryd.underlying56 Tryd.underlying5
  have q1 : ¬ 9223372036854775807 < 5 + N0.size := by omega
  have q2 : ¬ 9223372036854775807 < 5 + N0.size + 6 := by omega
  have q3 : ¬ 9223372036854775807 < 5 + N0.size + 6 + N1.size := by omega
  have q4 : ¬ 9223372036854775807 < 5 + N0.size + 6 + N1.size + 7 := by omega
  have q5 : ¬ 9223372036854775807 < 5 + N0.size + 6 + N1.size + 7 + N2.size := by omega
  have q6 : ¬ 9223372036854775807 < 5 + N0.size + 6 + N1.size + 7 + N2.size + 1 := by omega
  clear hH hHD
  go_enter Tryd.func8, Tryd.ntmps8
  go_wp2_with fail
  refine wp_region_held_drew (S := fun w' => w'.cell? ⟨w.heap.size, 0, none⟩ = some (.int .i64 x.code) ∧ w'.cell? ⟨w.heap.size, 1, none⟩ = some (.int .i64 x.exit) ∧ w'.cell? ⟨w.heap.size, 2, none⟩ = some (.int .i64 x.ticks) ∧ w'.cell? ⟨w.heap.size, 3, none⟩ = some (.slice a3 x.files.length c3)) (by kernel_rfl) ?_ (fun hHeld => ?_)
  · simp [*]
  refine wpAnyH_take (i := 0) (v := ?_) rfl (by kernel_rfl) (by kernel_rfl) (by kernel_rfl) (fun _ _ _ h => h) (Or.inl ⟨by rfl, ?_⟩) (by assumption) ?_
  rotate_left
  · (intro w' hSw; (try dsimp only at hSw); go_simp; try (with_reducible rfl))
  change wpAnyH _ _ _ _ _ _ _ (Act.put _ (some 5) _) _
  try simp only [Act.put, List.setIfInBounds_toArray, List.set_cons_zero, List.set_cons_succ]
  refine wpAnyH_take (i := 1) (v := ?_) rfl (by kernel_rfl) (by kernel_rfl) (by kernel_rfl) (fun _ _ _ h => h) (Or.inl ⟨by rfl, ?_⟩) (by assumption) ?_
  rotate_left
  · (intro w' hSw; (try dsimp only at hSw); go_simp; try (with_reducible rfl))
  change wpAnyH _ _ _ _ _ _ _ (Act.put _ (some 6) _) _
  try simp only [Act.put, List.setIfInBounds_toArray, List.set_cons_zero, List.set_cons_succ]
  refine wpAnyH_take (i := 5) (v := ?_) rfl (by kernel_rfl) (by kernel_rfl) (by kernel_rfl) (fun _ _ _ h => h) (Or.inl ⟨by rfl, ?_⟩) (by assumption) ?_
  rotate_left
  · (intro w' hSw; (try dsimp only at hSw); go_simp; try (with_reducible rfl))
  change wpAnyH _ _ _ _ _ _ _ (Act.put _ (some 10) _) _
  try simp only [Act.put, List.setIfInBounds_toArray, List.set_cons_zero, List.set_cons_succ]
  refine wpAnyH_take (i := 6) (v := ?_) rfl (by kernel_rfl) (by kernel_rfl) (by kernel_rfl) (fun _ _ _ h => h) (Or.inl ⟨by rfl, ?_⟩) (by assumption) ?_
  rotate_left
  · (intro w' hSw; (try dsimp only at hSw); go_simp; try (with_reducible rfl))
  change wpAnyH _ _ _ _ _ _ _ (Act.put _ (some 11) _) _
  try simp only [Act.put, List.setIfInBounds_toArray, List.set_cons_zero, List.set_cons_succ]
  refine wpAnyH_take (i := 10) (v := ?_) rfl (by kernel_rfl) (by kernel_rfl) (by kernel_rfl) (fun _ _ _ h => h) (Or.inl ⟨by rfl, ?_⟩) (by assumption) ?_
  rotate_left
  · (intro w' hSw; (try dsimp only at hSw); go_simp; try (with_reducible rfl))
  change wpAnyH _ _ _ _ _ _ _ (Act.put _ (some 15) _) _
  try simp only [Act.put, List.setIfInBounds_toArray, List.set_cons_zero, List.set_cons_succ]
  refine wpAnyH_take (i := 11) (v := ?_) rfl (by kernel_rfl) (by kernel_rfl) (by kernel_rfl) (fun _ _ _ h => h) (Or.inl ⟨by rfl, ?_⟩) (by assumption) ?_
  rotate_left
  · (intro w' hSw; (try dsimp only at hSw); go_simp; try (with_reducible rfl))
  change wpAnyH _ _ _ _ _ _ _ (Act.put _ (some 16) _) _
  try simp only [Act.put, List.setIfInBounds_toArray, List.set_cons_zero, List.set_cons_succ]
  refine wpAnyH_ready (rs := [2]) (by kernel_rfl) (by simp) ?_
  refine AllReadyH.cons (i := 2) rfl (fun K hK => ?_) AllReadyH.nil
  simp only [List.getElem_toArray, List.getElem_cons_succ, List.getElem_cons_zero]
  rw [if_pos (by rfl)]
  go_simp
  (go_at_call 38; refine (C0.out _).mono ?_; rintro e w0 ⟨rfl, hb0⟩; have hkc0 := keeps_cells hb0; go_wp2_with fail)
  have hOld := hHeld
  clear hHeld
  refine hK.out _ _ ?_ (fun hHeld => ?_)
  · (try dsimp only); simp [*]
  clear hK K hOld
  try simp only [Act.put, List.setIfInBounds_toArray, List.set_cons_zero, List.set_cons_succ]
  refine wpAnyH_take (i := 3) (v := ?_) rfl (by kernel_rfl) (by kernel_rfl) (by kernel_rfl) (fun _ _ _ h => h) (Or.inl ⟨by rfl, ?_⟩) (by assumption) ?_
  rotate_left
  · (intro w' hSw; (try dsimp only at hSw); go_simp; try (with_reducible rfl))
  change wpAnyH _ _ _ _ _ _ _ (Act.put _ (some 8) _) _
  try simp only [Act.put, List.setIfInBounds_toArray, List.set_cons_zero, List.set_cons_succ]
  refine wpAnyH_take (i := 4) (v := ?_) rfl (by kernel_rfl) (by kernel_rfl) (by kernel_rfl) (fun _ _ _ h => h) (Or.inl ⟨by rfl, ?_⟩) (by assumption) ?_
  rotate_left
  · (intro w' hSw; (try dsimp only at hSw); go_simp; try (with_reducible rfl))
  change wpAnyH _ _ _ _ _ _ _ (Act.put _ (some 9) _) _
  try simp only [Act.put, List.setIfInBounds_toArray, List.set_cons_zero, List.set_cons_succ]
  refine wpAnyH_ready (rs := [7]) (by kernel_rfl) (by simp) ?_
  refine AllReadyH.cons (i := 7) rfl (fun K hK => ?_) AllReadyH.nil
  simp only [List.getElem_toArray, List.getElem_cons_succ, List.getElem_cons_zero]
  rw [if_pos (by rfl)]
  go_simp
  (go_at_call 38; refine (C1.out _).mono ?_; rintro e w1 ⟨rfl, hb1⟩; have hkc1 := keeps_cells hb1; go_wp2_with fail)
  have hOld := hHeld
  clear hHeld
  refine hK.out _ _ ?_ (fun hHeld => ?_)
  · (try dsimp only); simp [*]
  clear hK K hOld
  try simp only [Act.put, List.setIfInBounds_toArray, List.set_cons_zero, List.set_cons_succ]
  refine wpAnyH_take (i := 8) (v := ?_) rfl (by kernel_rfl) (by kernel_rfl) (by kernel_rfl) (fun _ _ _ h => h) (Or.inl ⟨by rfl, ?_⟩) (by assumption) ?_
  rotate_left
  · (intro w' hSw; (try dsimp only at hSw); go_simp; try (with_reducible rfl))
  change wpAnyH _ _ _ _ _ _ _ (Act.put _ (some 13) _) _
  try simp only [Act.put, List.setIfInBounds_toArray, List.set_cons_zero, List.set_cons_succ]
  refine wpAnyH_take (i := 9) (v := ?_) rfl (by kernel_rfl) (by kernel_rfl) (by kernel_rfl) (fun _ _ _ h => h) (Or.inl ⟨by rfl, ?_⟩) (by assumption) ?_
  rotate_left
  · (intro w' hSw; (try dsimp only at hSw); go_simp; try (with_reducible rfl))
  change wpAnyH _ _ _ _ _ _ _ (Act.put _ (some 14) _) _
  try simp only [Act.put, List.setIfInBounds_toArray, List.set_cons_zero, List.set_cons_succ]
  refine wpAnyH_ready (rs := [12]) (by kernel_rfl) (by simp) ?_
  refine AllReadyH.cons (i := 12) rfl (fun K hK => ?_) AllReadyH.nil
  simp only [List.getElem_toArray, List.getElem_cons_succ, List.getElem_cons_zero]
  rw [if_pos (by rfl)]
  go_simp
  (go_at_call 38; refine (C2.out _).mono ?_; rintro e w2 ⟨rfl, hb2⟩; have hkc2 := keeps_cells hb2; go_wp2_with fail)
  have hOld := hHeld
  clear hHeld
  refine hK.out _ _ ?_ (fun hHeld => ?_)
  · (try dsimp only); simp [*]
  clear hK K hOld
  try simp only [Act.put, List.setIfInBounds_toArray, List.set_cons_zero, List.set_cons_succ]
  refine wpAnyH_take (i := 13) (v := ?_) rfl (by kernel_rfl) (by kernel_rfl) (by kernel_rfl) (fun _ _ _ h => h) (Or.inl ⟨by rfl, ?_⟩) (by assumption) ?_
  rotate_left
  · (intro w' hSw; (try dsimp only at hSw); go_simp; try (with_reducible rfl))
  change wpAnyH _ _ _ _ _ _ _ (Act.put _ (some 18) _) _
  try simp only [Act.put, List.setIfInBounds_toArray, List.set_cons_zero, List.set_cons_succ]
  refine wpAnyH_take (i := 14) (v := ?_) rfl (by kernel_rfl) (by kernel_rfl) (by kernel_rfl) (fun _ _ _ h => h) (Or.inl ⟨by rfl, ?_⟩) (by assumption) ?_
  rotate_left
  · (intro w' hSw; (try dsimp only at hSw); go_simp; try (with_reducible rfl))
  change wpAnyH _ _ _ _ _ _ _ (Act.put _ (some 19) _) _
  try simp only [Act.put, List.setIfInBounds_toArray, List.set_cons_zero, List.set_cons_succ]
  refine wpAnyH_ready (rs := [15]) (by kernel_rfl) (by simp) ?_
  refine AllReadyH.cons (i := 15) rfl (fun K hK => ?_) AllReadyH.nil
  simp only [List.getElem_toArray, List.getElem_cons_succ, List.getElem_cons_zero]
  rw [if_pos (by rfl)]
  rw [HDE.out]
  have hkc4 := keeps_cells (Lib.bytesWorld_below w2 5 HD)
  go_simp
  have hOld := hHeld
  clear hHeld
  refine hK.out _ _ ?_ (fun hHeld => ?_)
  · (try dsimp only); simp [*]
  clear hK K hOld
  try simp only [Act.put, List.setIfInBounds_toArray, List.set_cons_zero, List.set_cons_succ]
  refine wpAnyH_take (i := 16) (v := ?_) rfl (by kernel_rfl) (by kernel_rfl) (by kernel_rfl) (fun _ _ _ h => h) (Or.inl ⟨by rfl, ?_⟩) (by assumption) ?_
  rotate_left
  · (intro w' hSw; (try dsimp only at hSw); go_simp; try (with_reducible rfl))
  change wpAnyH _ _ _ _ _ _ _ (Act.put _ (some 3) _) _
  try simp only [Act.put, List.setIfInBounds_toArray, List.set_cons_zero, List.set_cons_succ]
  refine wpAnyH_done (by kernel_rfl) ?_ _
  have hB0 : Below (w.heap.size + 1) (w.alloc (.cells #[.int .i64 x.code, .int .i64 x.exit, .int .i64 x.ticks, .slice a3 x.files.length c3] 29)) (Lib.bytesWorld w2 5 HD) := by
    have e0 : (w.alloc (.cells #[.int .i64 x.code, .int .i64 x.exit, .int .i64 x.ticks, .slice a3 x.files.length c3] 29)).heap.size = w.heap.size + 1 := by simp
    rw [← e0]
    exact ext_trans (ext_trans (ext_trans (Below.drew (Below.refl _ _)) hb0) (ext_trans hb1 hb2)) (Lib.bytesWorld_below _ _ _)
  have hB1 : w.heap.size + 1 ≤ w2.heap.size := by have h1 := hb0.size; have h2 := hb1.size; have h3 := hb2.size; (try simp at h1); omega
  have hO0 := OwnC.conv w2 (w.heap.size + 1) 5 HD hB1 (by unfold maxLen; omega)
  obtain ⟨WB, hWB⟩ : ∃ W, Lib.bytesWorld w2 5 HD = W := ⟨_, rfl⟩
  rw [hWB] at hB0 hO0 hHeld ⊢
  clear hWB hcv
  have HP0 := hid (show byteVals HD.data.toList = byteVals (runP x 0) by rw [runP_zero, HHD.out])
  rw [HP0.out] at hO0
  go_wp2
  go_loopw [3, 4] (fun out i wr => ∃ k : Nat, k ≤ x.files.length ∧ i = .int .i64 (k : Int) ∧ OwnC wr (w.heap.size + 1) 5 out (byteVals (runP x k)) ∧ Below (w.heap.size + 1) (w.alloc (.cells #[.int .i64 x.code, .int .i64 x.exit, .int .i64 x.ticks, .slice a3 x.files.length c3] 29)) wr) (fun _ i _ => x.files.length - (intOf i).toNat)
  case atStart => exact ⟨0, Nat.zero_le _, rfl, hO0, hB0⟩
  case round =>
    obtain ⟨k, hk, rfl, hO, hB⟩ := hrel
    obtain ⟨hc, hf⟩ := bcell hB
    have hl : w.heap.size < wr.heap.size := by have := hB.size; (try simp at this); omega
    have hrl := HRL.out k hk
    by_cases hlt : k < x.files.length
    · obtain ⟨a, cap, hv, h1, h2, hF⟩ := h3
      obtain ⟨b, off, rfl, hBk, hrow⟩ := hF (by omega)
      obtain ⟨rfl, rfl⟩ : a3 = some ⟨b, off, none⟩ ∧ c3 = cap := by simpa using hv
      obtain ⟨cs, hcell, hx⟩ := hrow k hlt
      obtain ⟨hcs, f0, f1⟩ := rdFile hx
      subst hcs
      have t0 : wr.cell? ⟨b, off + k * 2, none⟩ = some (.string x.files[k].name) := (hB.cell (p := ⟨b, off + k * 2, none⟩) (Nat.lt_succ_of_lt hBk)).trans (ext_cell hBk (hcell 0 (by decide)))
      have t1 : wr.cell? ⟨b, off + k * 2 + 1, none⟩ = some (.string x.files[k].text) := (hB.cell (p := ⟨b, off + k * 2 + 1, none⟩) (Nat.lt_succ_of_lt hBk)).trans (ext_cell hBk (hcell 1 (by decide)))
      have t2 : wr.cell? ⟨w.heap.size, 3, none⟩ = some (.slice (some ⟨b, off, none⟩) x.files.length c3) := (hc _ _ (by omega)).trans (by go_simp)
      have HST := hid (runP_succ hlt)
      obtain ⟨f, hfe⟩ : ∃ f, x.files[k] = f := ⟨_, rfl⟩
      rw [hfe] at HST t0 t1
      have CQ := hid (fun (w : World) => specQuote f.name w)
      have CF := hid (fun (w : World) => specFileQuote f.text w)
      have s1 := quoteT_size f.name
      have s2 := fileQT_size f.text
      have hls := lineR_size f
      have hLN0 : lineR f = ⟨#[102, 105, 108, 101, 32]⟩ ++ quoteT f.name ++ ⟨#[32]⟩ ++ fileQT f.text ++ ⟨#[10]⟩ := rfl
      obtain ⟨QT, e1⟩ : ∃ z, quoteT f.name = z := ⟨_, rfl⟩
      obtain ⟨FT, e2⟩ : ∃ z, fileQT f.text = z := ⟨_, rfl⟩
      rw [e1] at CQ s1 hLN0
      rw [e2] at CF s2 hLN0
      obtain ⟨LN, hLN⟩ : ∃ z, lineR f = z := ⟨_, rfl⟩
      rw [hLN] at hLN0 HST hls
      have HLN := hid hLN0.symm
      have q7 : ¬ 9223372036854775807 < 5 + QT.size := by omega
      have q8 : ¬ 9223372036854775807 < 5 + QT.size + 1 := by omega
      have q9 : ¬ 9223372036854775807 < 5 + QT.size + 1 + FT.size := by omega
      have qa : ¬ 9223372036854775807 < 5 + QT.size + 1 + FT.size + 1 := by omega
      have hki : (k : Int) < (x.files.length : Int) := by omega
      have hk0 : (0 : Int) ≤ (k : Int) := by omega
      clear e1 e2 hLN hLN0 hfe hcell hrow hx
      go_wp2_with fail
      refine wp_region_held_drew (S := fun w' => w'.cell? ⟨b, off + k * 2, none⟩ = some (.string f.name) ∧ w'.cell? ⟨b, off + k * 2 + 1, none⟩ = some (.string f.text) ∧ w'.cell? ⟨w.heap.size, 3, none⟩ = some (.slice (some ⟨b, off, none⟩) x.files.length c3)) (by kernel_rfl) ?_ (fun hHeld => ?_)
      · simp [*]
      refine wpAnyH_take (i := 0) (v := ?_) rfl (by kernel_rfl) (by kernel_rfl) (by kernel_rfl) (fun _ _ _ h => h) (Or.inl ⟨by rfl, ?_⟩) (by assumption) ?_
      rotate_left
      · (intro w' hSw; (try dsimp only at hSw); go_simp; try (with_reducible rfl))
      change wpAnyH _ _ _ _ _ _ _ (Act.put _ (some 28) _) _
      try simp only [Act.put, List.setIfInBounds_toArray, List.set_cons_zero, List.set_cons_succ]
      refine wpAnyH_take (i := 1) (v := ?_) rfl (by kernel_rfl) (by kernel_rfl) (by kernel_rfl) (fun _ _ _ h => h) (Or.inl ⟨by rfl, ?_⟩) (by assumption) ?_
      rotate_left
      · (intro w' hSw; (try dsimp only at hSw); go_simp; try (with_reducible rfl))
      change wpAnyH _ _ _ _ _ _ _ (Act.put _ (some 29) _) _
      try simp only [Act.put, List.setIfInBounds_toArray, List.set_cons_zero, List.set_cons_succ]
      refine wpAnyH_take (i := 2) (v := ?_) rfl (by kernel_rfl) (by kernel_rfl) (by kernel_rfl) (fun _ _ _ h => h) (Or.inl ⟨by rfl, ?_⟩) (by assumption) ?_
      rotate_left
      · (intro w' hSw; (try dsimp only at hSw); go_simp; try (with_reducible rfl))
      change wpAnyH _ _ _ _ _ _ _ (Act.put _ (some 30) _) _
      try simp only [Act.put, List.setIfInBounds_toArray, List.set_cons_zero, List.set_cons_succ]
      refine wpAnyH_take (i := 3) (v := ?_) rfl (by kernel_rfl) (by kernel_rfl) (by kernel_rfl) (fun _ _ _ h => h) (Or.inl ⟨by rfl, ?_⟩) (by assumption) ?_
      rotate_left
      · (intro w' hSw; (try dsimp only at hSw); go_simp; try (with_reducible rfl))
      change wpAnyH _ _ _ _ _ _ _ (Act.put _ (some 31) _) _
      try simp only [Act.put, List.setIfInBounds_toArray, List.set_cons_zero, List.set_cons_succ]
      refine wpAnyH_take (i := 4) (v := ?_) rfl (by kernel_rfl) (by kernel_rfl) (by kernel_rfl) (fun _ _ _ h => h) (Or.inl ⟨by rfl, ?_⟩) (by assumption) ?_
      rotate_left
      · (intro w' hSw; (try dsimp only at hSw); go_simp; try (with_reducible rfl))
      change wpAnyH _ _ _ _ _ _ _ (Act.put _ (some 32) _) _
      try simp only [Act.put, List.setIfInBounds_toArray, List.set_cons_zero, List.set_cons_succ]
      refine wpAnyH_take (i := 5) (v := ?_) rfl (by kernel_rfl) (by kernel_rfl) (by kernel_rfl) (fun _ _ _ h => h) (Or.inl ⟨by rfl, ?_⟩) (by assumption) ?_
      rotate_left
      · (intro w' hSw; (try dsimp only at hSw); go_simp; try (with_reducible rfl))
      change wpAnyH _ _ _ _ _ _ _ (Act.put _ (some 33) _) _
      try simp only [Act.put, List.setIfInBounds_toArray, List.set_cons_zero, List.set_cons_succ]
      refine wpAnyH_take (i := 6) (v := ?_) rfl (by kernel_rfl) (by kernel_rfl) (by kernel_rfl) (fun _ _ _ h => h) (Or.inl ⟨by rfl, ?_⟩) (by assumption) ?_
      rotate_left
      · (intro w' hSw; (try dsimp only at hSw); go_simp; try (with_reducible rfl))
      change wpAnyH _ _ _ _ _ _ _ (Act.put _ (some 34) _) _
      try simp only [Act.put, List.setIfInBounds_toArray, List.set_cons_zero, List.set_cons_succ]
      refine wpAnyH_take (i := 10) (v := ?_) rfl (by kernel_rfl) (by kernel_rfl) (by kernel_rfl) (fun _ _ _ h => h) (Or.inl ⟨by rfl, ?_⟩) (by assumption) ?_
      rotate_left
      · (intro w' hSw; (try dsimp only at hSw); go_simp; try (with_reducible rfl))
      change wpAnyH _ _ _ _ _ _ _ (Act.put _ (some 38) _) _
      try simp only [Act.put, List.setIfInBounds_toArray, List.set_cons_zero, List.set_cons_succ]
      refine wpAnyH_take (i := 11) (v := ?_) rfl (by kernel_rfl) (by kernel_rfl) (by kernel_rfl) (fun _ _ _ h => h) (Or.inl ⟨by rfl, ?_⟩) (by assumption) ?_
      rotate_left
      · (intro w' hSw; (try dsimp only at hSw); go_simp; try (with_reducible rfl))
      change wpAnyH _ _ _ _ _ _ _ (Act.put _ (some 39) _) _
      try simp only [Act.put, List.setIfInBounds_toArray, List.set_cons_zero, List.set_cons_succ]
      refine wpAnyH_take (i := 12) (v := ?_) rfl (by kernel_rfl) (by kernel_rfl) (by kernel_rfl) (fun _ _ _ h => h) (Or.inl ⟨by rfl, ?_⟩) (by assumption) ?_
      rotate_left
      · (intro w' hSw; (try dsimp only at hSw); go_simp; try (with_reducible rfl))
      change wpAnyH _ _ _ _ _ _ _ (Act.put _ (some 40) _) _
      try simp only [Act.put, List.setIfInBounds_toArray, List.set_cons_zero, List.set_cons_succ]
      refine wpAnyH_take (i := 13) (v := ?_) rfl (by kernel_rfl) (by kernel_rfl) (by kernel_rfl) (fun _ _ _ h => h) (Or.inl ⟨by rfl, ?_⟩) (by assumption) ?_
      rotate_left
      · (intro w' hSw; (try dsimp only at hSw); go_simp; try (with_reducible rfl))
      change wpAnyH _ _ _ _ _ _ _ (Act.put _ (some 41) _) _
      try simp only [Act.put, List.setIfInBounds_toArray, List.set_cons_zero, List.set_cons_succ]
      refine wpAnyH_take (i := 14) (v := ?_) rfl (by kernel_rfl) (by kernel_rfl) (by kernel_rfl) (fun _ _ _ h => h) (Or.inl ⟨by rfl, ?_⟩) (by assumption) ?_
      rotate_left
      · (intro w' hSw; (try dsimp only at hSw); go_simp; try (with_reducible rfl))
      change wpAnyH _ _ _ _ _ _ _ (Act.put _ (some 42) _) _
      try simp only [Act.put, List.setIfInBounds_toArray, List.set_cons_zero, List.set_cons_succ]
      refine wpAnyH_take (i := 15) (v := ?_) rfl (by kernel_rfl) (by kernel_rfl) (by kernel_rfl) (fun _ _ _ h => h) (Or.inl ⟨by rfl, ?_⟩) (by assumption) ?_
      rotate_left
      · (intro w' hSw; (try dsimp only at hSw); go_simp; try (with_reducible rfl))
      change wpAnyH _ _ _ _ _ _ _ (Act.put _ (some 43) _) _
      try simp only [Act.put, List.setIfInBounds_toArray, List.set_cons_zero, List.set_cons_succ]
      refine wpAnyH_ready (rs := [7]) (by kernel_rfl) (by simp) ?_
      refine AllReadyH.cons (i := 7) rfl (fun K hK => ?_) AllReadyH.nil
      simp only [List.getElem_toArray, List.getElem_cons_succ, List.getElem_cons_zero]
      rw [if_pos (by rfl)]
      go_simp
      (go_at_call 39; refine (CQ.out _).mono ?_; rintro e w5 ⟨rfl, hb5⟩; have hkc5 := keeps_cells hb5; go_wp2_with fail)
      have hOld := hHeld
      clear hHeld
      refine hK.out _ _ ?_ (fun hHeld => ?_)
      · (try dsimp only); simp [*]
      clear hK K hOld
      try simp only [Act.put, List.setIfInBounds_toArray, List.set_cons_zero, List.set_cons_succ]
      refine wpAnyH_take (i := 8) (v := ?_) rfl (by kernel_rfl) (by kernel_rfl) (by kernel_rfl) (fun _ _ _ h => h) (Or.inl ⟨by rfl, ?_⟩) (by assumption) ?_
      rotate_left
      · (intro w' hSw; (try dsimp only at hSw); go_simp; try (with_reducible rfl))
      change wpAnyH _ _ _ _ _ _ _ (Act.put _ (some 36) _) _
      try simp only [Act.put, List.setIfInBounds_toArray, List.set_cons_zero, List.set_cons_succ]
      refine wpAnyH_take (i := 9) (v := ?_) rfl (by kernel_rfl) (by kernel_rfl) (by kernel_rfl) (fun _ _ _ h => h) (Or.inl ⟨by rfl, ?_⟩) (by assumption) ?_
      rotate_left
      · (intro w' hSw; (try dsimp only at hSw); go_simp; try (with_reducible rfl))
      change wpAnyH _ _ _ _ _ _ _ (Act.put _ (some 37) _) _
      try simp only [Act.put, List.setIfInBounds_toArray, List.set_cons_zero, List.set_cons_succ]
      refine wpAnyH_ready (rs := [16]) (by kernel_rfl) (by simp) ?_
      refine AllReadyH.cons (i := 16) rfl (fun K hK => ?_) AllReadyH.nil
      simp only [List.getElem_toArray, List.getElem_cons_succ, List.getElem_cons_zero]
      rw [if_pos (by rfl)]
      go_simp
      (go_at_call 40; refine (CF.out _).mono ?_; rintro e w6 ⟨rfl, hb6⟩; have hkc6 := keeps_cells hb6; go_wp2_with fail)
      have hOld := hHeld
      clear hHeld
      refine hK.out _ _ ?_ (fun hHeld => ?_)
      · (try dsimp only); simp [*]
      clear hK K hOld
      try simp only [Act.put, List.setIfInBounds_toArray, List.set_cons_zero, List.set_cons_succ]
      refine wpAnyH_take (i := 17) (v := ?_) rfl (by kernel_rfl) (by kernel_rfl) (by kernel_rfl) (fun _ _ _ h => h) (Or.inl ⟨by rfl, ?_⟩) (by assumption) ?_
      rotate_left
      · (intro w' hSw; (try dsimp only at hSw); go_simp; try (with_reducible rfl))
      change wpAnyH _ _ _ _ _ _ _ (Act.put _ (some 45) _) _
      try simp only [Act.put, List.setIfInBounds_toArray, List.set_cons_zero, List.set_cons_succ]
      refine wpAnyH_take (i := 18) (v := ?_) rfl (by kernel_rfl) (by kernel_rfl) (by kernel_rfl) (fun _ _ _ h => h) (Or.inl ⟨by rfl, ?_⟩) (by assumption) ?_
      rotate_left
      · (intro w' hSw; (try dsimp only at hSw); go_simp; try (with_reducible rfl))
      change wpAnyH _ _ _ _ _ _ _ (Act.put _ (some 46) _) _
      try simp only [Act.put, List.setIfInBounds_toArray, List.set_cons_zero, List.set_cons_succ]
      refine wpAnyH_ready (rs := [19]) (by kernel_rfl) (by simp) ?_
      refine AllReadyH.cons (i := 19) rfl (fun K hK => ?_) AllReadyH.nil
      simp only [List.getElem_toArray, List.getElem_cons_succ, List.getElem_cons_zero]
      rw [if_pos (by rfl)]
      rw [HLN.out]
      have hsz6 : w.heap.size + 1 ≤ w6.heap.size := by have h1 := hB.size; have h2 := hb5.size; have h3 := hb6.size; (try simp at h1); (try simp at h2); omega
      obtain ⟨v', wA, hr, hOA, row, hrow, hg⟩ := OwnC.append (P := Tryd.prog) (ty := 56) ((hO.drew.later hb5).later hb6) LN Tryd.underlying56 Tryd.underlying9 hi hz0 hz1 hz2 (by rw [byteVals_length]; omega) hsz6
      have hA1 : Below (w.heap.size + 1) w6 wA := (Below.refl _ _).grown hg hsz6 (fun q hq => by rcases hrow with rfl | ⟨g, hgB, rfl⟩ <;> first | (cases hq; done) | (injection hq with hq; omega))
      have g0 : wA.cell? ⟨b, off + k * 2, none⟩ = some (.string f.name) := (hA1.cell (p := ⟨b, off + k * 2, none⟩) (Nat.lt_succ_of_lt hBk)).trans (keeps_cells hb6 _ _ (keeps_cells hb5 _ _ t0))
      have g1 : wA.cell? ⟨b, off + k * 2 + 1, none⟩ = some (.string f.text) := (hA1.cell (p := ⟨b, off + k * 2 + 1, none⟩) (Nat.lt_succ_of_lt hBk)).trans (keeps_cells hb6 _ _ (keeps_cells hb5 _ _ t1))
      have g2 : wA.cell? ⟨w.heap.size, 3, none⟩ = some (.slice (some ⟨b, off, none⟩) x.files.length c3) := (hA1.cell (p := ⟨w.heap.size, 3, none⟩) (Nat.lt_succ_self _)).trans (keeps_cells hb6 _ _ (keeps_cells hb5 _ _ t2))
      refine oper_append rfl rfl rfl hr ?_
      simp only [Act.put, List.setIfInBounds_toArray, List.set_cons_zero, List.set_cons_succ]
      have hOld := hHeld
      clear hHeld
      refine hK.out _ _ ?_ (fun hHeld => ?_)
      · (try dsimp only); simp [*]
      clear hK K hOld
      try simp only [Act.put, List.setIfInBounds_toArray, List.set_cons_zero, List.set_cons_succ]
      refine wpAnyH_take (i := 20) (v := ?_) rfl (by kernel_rfl) (by kernel_rfl) (by kernel_rfl) (fun _ _ _ h => h) (Or.inl ⟨by rfl, ?_⟩) (by assumption) ?_
      rotate_left
      · (intro w' hSw; (try dsimp only at hSw); go_simp; try (with_reducible rfl))
      change wpAnyH _ _ _ _ _ _ _ (Act.put _ (some 3) _) _
      try simp only [Act.put, List.setIfInBounds_toArray, List.set_cons_zero, List.set_cons_succ]
      refine wpAnyH_done (by kernel_rfl) ?_ _
      have e0 : (w.alloc (.cells #[.int .i64 x.code, .int .i64 x.exit, .int .i64 x.ticks, .slice (some ⟨b, off, none⟩) x.files.length c3] 29)).heap.size = w.heap.size + 1 := by simp
      have hB6 : Below (w.heap.size + 1) (w.alloc (.cells #[.int .i64 x.code, .int .i64 x.exit, .int .i64 x.ticks, .slice (some ⟨b, off, none⟩) x.files.length c3] 29)) w6 := by
        rw [← e0] at hB ⊢
        exact ext_trans (ext_trans (Below.drew hB) hb5) hb6
      have hBA := hB6.trans hA1
      have hO2 : OwnC wA (w.heap.size + 1) 5 v' (byteVals (runP x (k + 1))) := by
        rw [HST.out, byteVals_append]
        exact hOA
      clear hHeld hr hOA hg
      go_wp2
      go_roundw
      case rel => exact ⟨k + 1, by omega, by go_num, hO2, hBA⟩
      case measure => simp [intOf]; omega
    · have hke : k = x.files.length := by omega
      have hcv2 := hO.string (P := Tryd.prog) (src := 56) (dst := 9) Tryd.underlying56 Tryd.underlying5 Tryd.underlying9
      have hki : ¬ (k : Int) < (x.files.length : Int) := by omega
      have t2 : wr.cell? ⟨w.heap.size, 3, none⟩ = some (.slice a3 x.files.length c3) := (hc _ _ (by omega)).trans (by go_simp)
      have e0 : (w.alloc (.cells #[.int .i64 x.code, .int .i64 x.exit, .int .i64 x.ticks, .slice a3 x.files.length c3] 29)).heap.size = w.heap.size + 1 := by simp
      have HRT := hid (show runT x = mkB (runP x k) by unfold runT; rw [hke])
      have hBw : Below w.heap.size w wr := ext_trans (ext_alloc _ _) (by rw [e0]; exact hB)
      clear hke
      go_wp2
      go_ret
      rw [HRT.out]
      exact ⟨rfl, hBw⟩
set_option maxHeartbeats 8000000 in
set_option maxRecDepth 100000 in
theorem implRunText {cs : Array Value} {x : Outcome} (w : World) (hrd : Rd.rd (Old w) w cs.toList x) (hsz : Sz.sz x ≤ 1048576) (hT : TP w) :
    Calls Tryd.prog 10 #[.agg cs] w fun e w' => e = .returned (.string (runT x)) ∧ Below w.heap.size w w' := by
  obtain ⟨a3, c3, hcs, b0, b1, b2, h3⟩ := rdOutcome hrd
  obtain rfl := arr_of_list hcs
  have hn : x.files.length ≤ 1048576 := Nat.le_trans (sz_len x.files) hsz
  clear hcs hrd hsz
  have hrs := runH_size b0 b1 b2
  have HRL := hid (runP_len hrs)
  have C0 := hid (fun (w : World) (h : PT w) => implNumText x.code w h b0)
  have C1 := hid (fun (w : World) (h : PT w) => implNumText x.exit w h b1)
  have C2 := hid (fun (w : World) (h : PT w) => implNumText x.ticks w h b2)
  have n0 := numB_size b0
  have n1 := numB_size b1
  have n2 := numB_size b2
  have hH : runH x = ⟨#[99, 111, 100, 101, 32]⟩ ++ numB x.code ++ ⟨#[32, 101, 120, 105, 116, 32]⟩ ++ numB x.exit ++ ⟨#[32, 116, 105, 99, 107, 115, 32]⟩ ++ numB x.ticks ++ ⟨#[10]⟩ := rfl
  obtain ⟨N0, e0⟩ : ∃ z, numB x.code = z := ⟨_, rfl⟩
  obtain ⟨N1, e1⟩ : ∃ z, numB x.exit = z := ⟨_, rfl⟩
  obtain ⟨N2, e2⟩ : ∃ z, numB x.ticks = z := ⟨_, rfl⟩
  rw [e0] at C0 n0 hH
  rw [e1] at C1 n1 hH
  rw [e2] at C2 n2 hH
  clear e0 e1 e2
  obtain ⟨HD, hHD⟩ : ∃ z, runH x = z := ⟨_, rfl⟩
  rw [hHD] at hH hrs
  have HDE := hid hH.symm
  have HHD := hid hHD
  have q1 : ¬ 9223372036854775807 < 5 + N0.size := by omega
  have q2 : ¬ 9223372036854775807 < 5 + N0.size + 6 := by omega
  have q3 : ¬ 9223372036854775807 < 5 + N0.size + 6 + N1.size := by omega
  have q4 : ¬ 9223372036854775807 < 5 + N0.size + 6 + N1.size + 7 := by omega
  have q5 : ¬ 9223372036854775807 < 5 + N0.size + 6 + N1.size + 7 + N2.size := by omega
  have q6 : ¬ 9223372036854775807 < 5 + N0.size + 6 + N1.size + 7 + N2.size + 1 := by omega
  clear hH hHD
  go_enter Tryd.func10, Tryd.ntmps10
  go_wp2_with fail
  refine wp_region_held_drew (S := fun w' => w'.cell? ⟨w.heap.size, 0, none⟩ = some (.int .i64 x.code) ∧ w'.cell? ⟨w.heap.size, 1, none⟩ = some (.int .i64 x.exit) ∧ w'.cell? ⟨w.heap.size, 2, none⟩ = some (.int .i64 x.ticks) ∧ w'.cell? ⟨w.heap.size, 3, none⟩ = some (.slice a3 x.files.length c3)) (by kernel_rfl) ?_ (fun hHeld => ?_)
  · simp [*]
  refine wpAnyH_take (i := 0) (v := ?_) rfl (by kernel_rfl) (by kernel_rfl) (by kernel_rfl) (fun _ _ _ h => h) (Or.inl ⟨by rfl, ?_⟩) (by assumption) ?_
  rotate_left
  · (intro w' hSw; (try dsimp only at hSw); go_simp; try (with_reducible rfl))
  change wpAnyH _ _ _ _ _ _ _ (Act.put _ (some 7) _) _
  try simp only [Act.put, List.setIfInBounds_toArray, List.set_cons_zero, List.set_cons_succ]
  refine wpAnyH_take (i := 1) (v := ?_) rfl (by kernel_rfl) (by kernel_rfl) (by kernel_rfl) (fun _ _ _ h => h) (Or.inl ⟨by rfl, ?_⟩) (by assumption) ?_
  rotate_left
  · (intro w' hSw; (try dsimp only at hSw); go_simp; try (with_reducible rfl))
  change wpAnyH _ _ _ _ _ _ _ (Act.put _ (some 8) _) _
  try simp only [Act.put, List.setIfInBounds_toArray, List.set_cons_zero, List.set_cons_succ]
  refine wpAnyH_take (i := 5) (v := ?_) rfl (by kernel_rfl) (by kernel_rfl) (by kernel_rfl) (fun _ _ _ h => h) (Or.inl ⟨by rfl, ?_⟩) (by assumption) ?_
  rotate_left
  · (intro w' hSw; (try dsimp only at hSw); go_simp; try (with_reducible rfl))
  change wpAnyH _ _ _ _ _ _ _ (Act.put _ (some 12) _) _
  try simp only [Act.put, List.setIfInBounds_toArray, List.set_cons_zero, List.set_cons_succ]
  refine wpAnyH_take (i := 6) (v := ?_) rfl (by kernel_rfl) (by kernel_rfl) (by kernel_rfl) (fun _ _ _ h => h) (Or.inl ⟨by rfl, ?_⟩) (by assumption) ?_
  rotate_left
  · (intro w' hSw; (try dsimp only at hSw); go_simp; try (with_reducible rfl))
  change wpAnyH _ _ _ _ _ _ _ (Act.put _ (some 13) _) _
  try simp only [Act.put, List.setIfInBounds_toArray, List.set_cons_zero, List.set_cons_succ]
  refine wpAnyH_take (i := 10) (v := ?_) rfl (by kernel_rfl) (by kernel_rfl) (by kernel_rfl) (fun _ _ _ h => h) (Or.inl ⟨by rfl, ?_⟩) (by assumption) ?_
  rotate_left
  · (intro w' hSw; (try dsimp only at hSw); go_simp; try (with_reducible rfl))
  change wpAnyH _ _ _ _ _ _ _ (Act.put _ (some 17) _) _
  try simp only [Act.put, List.setIfInBounds_toArray, List.set_cons_zero, List.set_cons_succ]
  refine wpAnyH_take (i := 11) (v := ?_) rfl (by kernel_rfl) (by kernel_rfl) (by kernel_rfl) (fun _ _ _ h => h) (Or.inl ⟨by rfl, ?_⟩) (by assumption) ?_
  rotate_left
  · (intro w' hSw; (try dsimp only at hSw); go_simp; try (with_reducible rfl))
  change wpAnyH _ _ _ _ _ _ _ (Act.put _ (some 18) _) _
  try simp only [Act.put, List.setIfInBounds_toArray, List.set_cons_zero, List.set_cons_succ]
  refine wpAnyH_ready (rs := [2]) (by kernel_rfl) (by simp) ?_
  refine AllReadyH.cons (i := 2) rfl (fun K hK => ?_) AllReadyH.nil
  simp only [List.getElem_toArray, List.getElem_cons_succ, List.getElem_cons_zero]
  rw [if_pos (by rfl)]
  go_simp
  (go_at_call 42; refine (C0.out _ (pt_below hT.2 (by repeat' (first | (with_reducible exact Below.refl _ _) | (with_reducible refine ext_trans ?_ hb1) | (with_reducible refine ext_trans ?_ hb0) | (with_reducible refine ext_trans ?_ (ext_alloc _ _)) | (with_reducible refine Below.drew ?_))))).mono ?_; rintro e w0 ⟨rfl, hb0⟩; have hkc0 := keeps_cells hb0; go_wp2_with fail)
  have hOld := hHeld
  clear hHeld
  refine hK.out _ _ ?_ (fun hHeld => ?_)
  · (try dsimp only); simp [*]
  clear hK K hOld
  try simp only [Act.put, List.setIfInBounds_toArray, List.set_cons_zero, List.set_cons_succ]
  refine wpAnyH_take (i := 3) (v := ?_) rfl (by kernel_rfl) (by kernel_rfl) (by kernel_rfl) (fun _ _ _ h => h) (Or.inl ⟨by rfl, ?_⟩) (by assumption) ?_
  rotate_left
  · (intro w' hSw; (try dsimp only at hSw); go_simp; try (with_reducible rfl))
  change wpAnyH _ _ _ _ _ _ _ (Act.put _ (some 10) _) _
  try simp only [Act.put, List.setIfInBounds_toArray, List.set_cons_zero, List.set_cons_succ]
  refine wpAnyH_take (i := 4) (v := ?_) rfl (by kernel_rfl) (by kernel_rfl) (by kernel_rfl) (fun _ _ _ h => h) (Or.inl ⟨by rfl, ?_⟩) (by assumption) ?_
  rotate_left
  · (intro w' hSw; (try dsimp only at hSw); go_simp; try (with_reducible rfl))
  change wpAnyH _ _ _ _ _ _ _ (Act.put _ (some 11) _) _
  try simp only [Act.put, List.setIfInBounds_toArray, List.set_cons_zero, List.set_cons_succ]
  refine wpAnyH_ready (rs := [7]) (by kernel_rfl) (by simp) ?_
  refine AllReadyH.cons (i := 7) rfl (fun K hK => ?_) AllReadyH.nil
  simp only [List.getElem_toArray, List.getElem_cons_succ, List.getElem_cons_zero]
  rw [if_pos (by rfl)]
  go_simp
  (go_at_call 42; refine (C1.out _ (pt_below hT.2 (by repeat' (first | (with_reducible exact Below.refl _ _) | (with_reducible refine ext_trans ?_ hb1) | (with_reducible refine ext_trans ?_ hb0) | (with_reducible refine ext_trans ?_ (ext_alloc _ _)) | (with_reducible refine Below.drew ?_))))).mono ?_; rintro e w1 ⟨rfl, hb1⟩; have hkc1 := keeps_cells hb1; go_wp2_with fail)
  have hOld := hHeld
  clear hHeld
  refine hK.out _ _ ?_ (fun hHeld => ?_)
  · (try dsimp only); simp [*]
  clear hK K hOld
  try simp only [Act.put, List.setIfInBounds_toArray, List.set_cons_zero, List.set_cons_succ]
  refine wpAnyH_take (i := 8) (v := ?_) rfl (by kernel_rfl) (by kernel_rfl) (by kernel_rfl) (fun _ _ _ h => h) (Or.inl ⟨by rfl, ?_⟩) (by assumption) ?_
  rotate_left
  · (intro w' hSw; (try dsimp only at hSw); go_simp; try (with_reducible rfl))
  change wpAnyH _ _ _ _ _ _ _ (Act.put _ (some 15) _) _
  try simp only [Act.put, List.setIfInBounds_toArray, List.set_cons_zero, List.set_cons_succ]
  refine wpAnyH_take (i := 9) (v := ?_) rfl (by kernel_rfl) (by kernel_rfl) (by kernel_rfl) (fun _ _ _ h => h) (Or.inl ⟨by rfl, ?_⟩) (by assumption) ?_
  rotate_left
  · (intro w' hSw; (try dsimp only at hSw); go_simp; try (with_reducible rfl))
  change wpAnyH _ _ _ _ _ _ _ (Act.put _ (some 16) _) _
  try simp only [Act.put, List.setIfInBounds_toArray, List.set_cons_zero, List.set_cons_succ]
  refine wpAnyH_ready (rs := [12]) (by kernel_rfl) (by simp) ?_
  refine AllReadyH.cons (i := 12) rfl (fun K hK => ?_) AllReadyH.nil
  simp only [List.getElem_toArray, List.getElem_cons_succ, List.getElem_cons_zero]
  rw [if_pos (by rfl)]
  go_simp
  (go_at_call 42; refine (C2.out _ (pt_below hT.2 (by repeat' (first | (with_reducible exact Below.refl _ _) | (with_reducible refine ext_trans ?_ hb1) | (with_reducible refine ext_trans ?_ hb0) | (with_reducible refine ext_trans ?_ (ext_alloc _ _)) | (with_reducible refine Below.drew ?_))))).mono ?_; rintro e w2 ⟨rfl, hb2⟩; have hkc2 := keeps_cells hb2; go_wp2_with fail)
  have hOld := hHeld
  clear hHeld
  refine hK.out _ _ ?_ (fun hHeld => ?_)
  · (try dsimp only); simp [*]
  clear hK K hOld
  try simp only [Act.put, List.setIfInBounds_toArray, List.set_cons_zero, List.set_cons_succ]
  refine wpAnyH_take (i := 13) (v := ?_) rfl (by kernel_rfl) (by kernel_rfl) (by kernel_rfl) (fun _ _ _ h => h) (Or.inl ⟨by rfl, ?_⟩) (by assumption) ?_
  rotate_left
  · (intro w' hSw; (try dsimp only at hSw); go_simp; try (with_reducible rfl))
  change wpAnyH _ _ _ _ _ _ _ (Act.put _ (some 20) _) _
  try simp only [Act.put, List.setIfInBounds_toArray, List.set_cons_zero, List.set_cons_succ]
  refine wpAnyH_take (i := 14) (v := ?_) rfl (by kernel_rfl) (by kernel_rfl) (by kernel_rfl) (fun _ _ _ h => h) (Or.inl ⟨by rfl, ?_⟩) (by assumption) ?_
  rotate_left
  · (intro w' hSw; (try dsimp only at hSw); go_simp; try (with_reducible rfl))
  change wpAnyH _ _ _ _ _ _ _ (Act.put _ (some 21) _) _
  try simp only [Act.put, List.setIfInBounds_toArray, List.set_cons_zero, List.set_cons_succ]
  refine wpAnyH_take (i := 15) (v := ?_) rfl (by kernel_rfl) (by kernel_rfl) (by kernel_rfl) (fun _ _ _ h => h) (Or.inl ⟨by rfl, ?_⟩) (by assumption) ?_
  rotate_left
  · (intro w' hSw; (try dsimp only at hSw); go_simp; try (with_reducible rfl))
  change wpAnyH _ _ _ _ _ _ _ (Act.put _ (some 3) _) _
  try simp only [Act.put, List.setIfInBounds_toArray, List.set_cons_zero, List.set_cons_succ]
  refine wpAnyH_done (by kernel_rfl) ?_ _
  try rw [HDE.out]
  have hB0 : Below (w.heap.size + 1) (w.alloc (.cells #[.int .i64 x.code, .int .i64 x.exit, .int .i64 x.ticks, .slice a3 x.files.length c3] 29)) w2 := by
    have e0 : (w.alloc (.cells #[.int .i64 x.code, .int .i64 x.exit, .int .i64 x.ticks, .slice a3 x.files.length c3] 29)).heap.size = w.heap.size + 1 := by simp
    rw [← e0]
    exact ext_trans (ext_trans (Below.drew (Below.refl _ _)) hb0) (ext_trans hb1 hb2)
  obtain ⟨c0w, f0w⟩ := bcell hB0
  have t3w : w2.cell? ⟨w.heap.size, 3, none⟩ = some (.slice a3 x.files.length c3) := (c0w _ _ (by omega)).trans (by go_simp)
  have hP0 : HD.data.toList = runP x 0 := by rw [runP_zero, HHD.out]
  clear hHeld HDE C0 C1 C2 hkc0 hkc1 hkc2
  go_wp2
  go_loopw [3, 25] (fun sv i wr => ∃ (k : Nat) (sb : ByteArray), k ≤ x.files.length ∧ sv = .string sb ∧ i = .int .i64 (k : Int) ∧ Hid (sb.data.toList = runP x k) ∧ Below (w.heap.size + 1) (w.alloc (.cells #[.int .i64 x.code, .int .i64 x.exit, .int .i64 x.ticks, .slice a3 x.files.length c3] 29)) wr) (fun _ i _ => x.files.length - (intOf i).toNat)
  case atStart => exact ⟨0, HD, Nat.zero_le _, rfl, rfl, hid hP0, hB0⟩
  case round =>
    obtain ⟨k, sb, hk, rfl, rfl, HSB, hB⟩ := hrel
    obtain ⟨hc, hf⟩ := bcell hB
    have hl : w.heap.size + 1 ≤ wr.heap.size := by have := hB.size; (try simp at this); omega
    have hrl := HRL.out k hk
    have e0 : (w.alloc (.cells #[.int .i64 x.code, .int .i64 x.exit, .int .i64 x.ticks, .slice a3 x.files.length c3] 29)).heap.size = w.heap.size + 1 := by simp
    have hBw : Below w.heap.size w wr := ext_trans (ext_alloc _ _) (by rw [e0]; exact hB)
    have hsb : sb.size ≤ 100 + k * 10020 := by rw [Lib.size_eq, HSB.out]; exact hrl
    by_cases hlt : k < x.files.length
    · obtain ⟨a, cap, hv, h1, h2, hF⟩ := h3
      obtain ⟨b, off, rfl, hBk, hrow⟩ := hF (by omega)
      obtain ⟨rfl, rfl⟩ : a3 = some ⟨b, off, none⟩ ∧ c3 = cap := by simpa using hv
      obtain ⟨cs, hcell, hx⟩ := hrow k hlt
      obtain ⟨hcs, f0, f1⟩ := rdFile hx
      subst hcs
      have t0 : wr.cell? ⟨b, off + k * 2, none⟩ = some (.string x.files[k].name) := (hB.cell (p := ⟨b, off + k * 2, none⟩) (Nat.lt_succ_of_lt hBk)).trans (ext_cell hBk (hcell 0 (by decide)))
      have t1 : wr.cell? ⟨b, off + k * 2 + 1, none⟩ = some (.string x.files[k].text) := (hB.cell (p := ⟨b, off + k * 2 + 1, none⟩) (Nat.lt_succ_of_lt hBk)).trans (ext_cell hBk (hcell 1 (by decide)))
      have HST := hid (runP_succ hlt)
      obtain ⟨f, hfe⟩ : ∃ f, x.files[k] = f := ⟨_, rfl⟩
      rw [hfe] at HST t0 t1
      have s1 := quoteT_size f.name
      have s2 := fileQT_size f.text
      have hls := lineR_size f
      have hLN0 : lineR f = ⟨#[102, 105, 108, 101, 32]⟩ ++ quoteT f.name ++ ⟨#[32]⟩ ++ fileQT f.text ++ ⟨#[10]⟩ := rfl
      have CQ := hid (fun (w : World) (h : Tabs w) => implQuote f.name w h)
      have CI := hid (fun (w : World) (h : Tabs w) => implIsFile f.text w h)
      obtain ⟨QT, e1⟩ : ∃ z, quoteT f.name = z := ⟨_, rfl⟩
      obtain ⟨FT, e2⟩ : ∃ z, fileQT f.text = z := ⟨_, rfl⟩
      rw [e1] at CQ s1 hLN0
      rw [e2] at s2 hLN0
      have HFT := hid e2
      obtain ⟨LN, hLN⟩ : ∃ z, lineR f = z := ⟨_, rfl⟩
      rw [hLN] at hLN0 HST hls
      have HLN := hid hLN0.symm
      have HSS := hid (show (sb ++ LN).data.toList = runP x (k + 1) by rw [ByteArray.data_append, Array.toList_append, HSB.out, HST.out])
      have q7 : ¬ 9223372036854775807 < 5 + QT.size := by omega
      have q8 : ¬ 9223372036854775807 < 5 + QT.size + 1 := by omega
      have q9 : ¬ 9223372036854775807 < 5 + QT.size + 1 + FT.size := by omega
      have qa : ¬ 9223372036854775807 < 5 + QT.size + 1 + FT.size + 1 := by omega
      have hll : LN.size = 5 + QT.size + 1 + FT.size + 1 := by rw [← HLN.out]; simp only [ByteArray.size_append]; rfl
      have qb : ¬ 9223372036854775807 < sb.size + (5 + QT.size + 1 + FT.size + 1) := by omega
      have hki : (k : Int) < (x.files.length : Int) := by omega
      have hk0 : (0 : Int) ≤ (k : Int) := by omega
      have HTB := hid (tp_below hT hBw)
      obtain ⟨ok, hok⟩ : ∃ ok, fileOk f.text = ok := ⟨_, rfl⟩
      have HOK := hid hok
      rw [hok] at CI
      clear e1 e2 hLN hLN0 hfe hcell hrow hx hok hll hsb
      go_wp2_with fail
      refine (CI.out _ (tabs_below HTB.out.1 (ext_alloc _ _))).mono ?_
      rintro e w5 ⟨rfl, hb5⟩
      obtain ⟨hc5, hf5⟩ := bcell hb5
      have u0 : w5.cell? ⟨wr.heap.size, 0, none⟩ = some (.string f.name) := (hc5 _ _ (by simp)).trans (by go_simp)
      have u1 : w5.cell? ⟨wr.heap.size, 1, none⟩ = some (.string f.text) := (hc5 _ _ (by simp)).trans (by go_simp)
      have h5l : wr.heap.size < w5.heap.size := by have := hb5.size; (try simp at this); omega
      cases ok
      · have HF0 : FT = ⟨#[]⟩ := by rw [← HFT.out]; unfold fileQT; rw [HOK.out]; rfl
        subst HF0
        go_wp2_with fail
        refine (CQ.out _ (tabs_below HTB.out.1 (ext_trans (ext_alloc _ _) hb5))).mono ?_
        rintro e w7 ⟨rfl, hb7⟩
        go_wp2
        go_roundw
        case rel => exact ⟨k + 1, _, by omega, rfl, by go_num, hid (by rw [HLN.out]; exact HSS.out), by rw [← e0] at hB ⊢; exact ext_trans (ext_trans (ext_trans hB (ext_alloc _ _)) hb5) hb7⟩
        case measure => simp [intOf]; omega
      · have HF1 : mkB (quoteL f.text.data.toList) = FT := by rw [← HFT.out]; unfold fileQT; rw [HOK.out]; rfl
        have CT := hid (fun (w : World) => implQuoted f.text w (by have := file_size HOK.out; omega))
        rw [HF1] at CT
        clear HF1
        go_wp2_with fail
        refine (CT.out _).mono ?_
        rintro e w6 ⟨rfl, hb6⟩
        obtain ⟨hc6, hf6⟩ := bcell hb6
        have u2 : w6.cell? ⟨wr.heap.size, 0, none⟩ = some (.string f.name) := (hc6 _ _ h5l).trans u0
        have h6l : wr.heap.size < w6.heap.size := by have := hb6.size; omega
        go_wp2_with fail
        refine (CQ.out _ (tabs_below HTB.out.1 (ext_trans (ext_trans (ext_alloc _ _) hb5) hb6))).mono ?_
        rintro e w7 ⟨rfl, hb7⟩
        go_wp2
        go_roundw
        case rel => exact ⟨k + 1, _, by omega, rfl, by go_num, hid (by rw [HLN.out]; exact HSS.out), by rw [← e0] at hB ⊢; exact ext_trans (ext_trans (ext_trans (ext_trans hB (ext_alloc _ _)) hb5) hb6) hb7⟩
        case measure => simp [intOf]; omega
    · have hke : k = x.files.length := by omega
      have hki : ¬ (k : Int) < (x.files.length : Int) := by omega
      have HRT := hid (show runT x = sb by unfold runT; rw [← hke, ← HSB.out, mkB_of])
      clear hke
      go_wp2
      go_ret
      rw [HRT.out]
      exact ⟨rfl, hBw⟩
end Go.Proofs.YtjpkdgedglnchaaDoor
