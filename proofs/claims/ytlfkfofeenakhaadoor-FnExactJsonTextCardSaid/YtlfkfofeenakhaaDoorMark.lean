/-
  What is proved here: the laws' markText, markStringS, heldStringS: rows of texts are overwritten and looked at. The conditions are that the rows lie in blocks that can be written.
-/
import Derived.Test.YtlfkfofeenakhaaDoorDv
import Derived.Deep.Cut
import Derived.Deep.CutRange
import Derived.Laws.Concat
import Derived.Laws.Cover1
namespace Go.Proofs.YtlfkfofeenakhaaDoor
open Go.RowKit
set_option linter.unusedVariables false
set_option linter.unusedSimpArgs false

/-- all but one block stands -/
structure Off (g : Nat) (w w' : World) : Prop where
  os : w'.os = w.os
  tape : w'.tape = w.tape
  output : w'.output = w.output
  size : w.heap.size ≤ w'.heap.size
  block : ∀ c, c < w.heap.size → c ≠ g → w'.heap[c]? = w.heap[c]?
theorem Off.refl (g : Nat) (w : World) : Off g w w := ⟨rfl, rfl, rfl, Nat.le_refl _, fun _ _ _ => rfl⟩
theorem Off.call {g : Nat} {w w1 w2 : World} (h : Off g w w1) (hb : Below w1.heap.size w1 w2) : Off g w w2 :=
  ⟨hb.os.trans h.os, hb.tape.trans h.tape, hb.output.trans h.output, Nat.le_trans h.size hb.size, fun c hc hg => (hb.block c (Nat.lt_of_lt_of_le hc h.size)).trans (h.block c hc hg)⟩
theorem Off.set {g : Nat} {w w1 : World} (h : Off g w w1) (i : Nat) (v : Value) : Off g w (w1.setCell ⟨g, i, none⟩ v) :=
  ⟨h.os, h.tape, h.output, by have := h.size; simpa [World.setCell] using this, fun c hc hg => (Below.heap_setCell w1 ⟨g, i, none⟩ v c hg).trans (h.block c hc hg)⟩
theorem Off.below {g B : Nat} {w w' : World} (h : Off g w w') (hB : B ≤ g) (hw : B ≤ w.heap.size) : Below B w w' :=
  ⟨h.os, h.tape, h.output, h.size, fun c hc => h.block c (Nat.lt_of_lt_of_le hc hw) (Nat.ne_of_lt (Nat.lt_of_lt_of_le hc hB))⟩
/-- the digits of a mark -/
def mgo : Nat → Nat → ByteArray → ByteArray
  | 0, _, s => s
  | f + 1, k, s => if k = 0 then s else mgo f (k / 10) (⟨#[UInt8.ofNat (48 + k % 10)]⟩ ++ s)
def mtxt (k : Nat) : ByteArray := if k = 0 then ⟨#[109, 48]⟩ else ⟨#[109]⟩ ++ mgo k k ⟨#[]⟩
theorem mgo_size : ∀ (f k : Nat) (s : ByteArray), (mgo f k s).size ≤ s.size + f
  | 0, _, s => Nat.le_refl _
  | f + 1, k, s => by
    rw [mgo]
    split
    · omega
    · have h1 := mgo_size f (k / 10) (⟨#[UInt8.ofNat (48 + k % 10)]⟩ ++ s)
      have h2 : (⟨#[UInt8.ofNat (48 + k % 10)]⟩ : ByteArray).size = 1 := rfl
      rw [ByteArray.size_append, h2] at h1
      omega
set_option maxHeartbeats 4000000 in
theorem markTx (k : Nat) (w : World) (hk : k ≤ 100000000) :
    Calls Tryd.prog 80 #[.int .i64 (k : Int)] w fun e w' => e = .returned (.string (mtxt k)) ∧ Below w.heap.size w w' := by
  by_cases h0 : k = 0
  · subst h0
    have HR := hid (show mtxt 0 = ⟨#[109, 48]⟩ from rfl)
    go_enter Tryd.func80, Tryd.ntmps80
    go_wp2
    go_ret
    rw [HR.out]
    exact ⟨rfl, Below.refl _ _⟩
  · obtain ⟨R, hR⟩ : ∃ r, mgo k k ⟨#[]⟩ = r := ⟨_, rfl⟩
    have HR := hid (show mtxt k = ⟨#[109]⟩ ++ R by unfold mtxt; rw [if_neg h0, hR])
    have HM := hid hR
    have hRs := mgo_size k k ⟨#[]⟩
    rw [hR] at hRs
    have hRs2 : R.size ≤ 100000000 := by have : (⟨#[]⟩ : ByteArray).size = 0 := rfl; omega
    have hpos : ¬ (k : Int) ≤ 0 := by omega
    clear h0 hR hRs
    go_enter Tryd.func80, Tryd.ntmps80
    go_wp2
    go_loopw [0, 3] (fun kv sv wr => ∃ (f n : Nat) (s : ByteArray), kv = .int .i64 (n : Int) ∧ sv = .string s ∧ n ≤ f ∧ n ≤ 100000000 ∧ s.size + f ≤ 100000000 ∧ Hid (mgo f n s = R) ∧ Below w.heap.size w wr) (fun kv _ _ => (intOf kv).toNat)
    case atStart => exact ⟨k, k, ⟨#[]⟩, rfl, rfl, Nat.le_refl _, hk, by have : (⟨#[]⟩ : ByteArray).size = 0 := rfl; omega, HM, Below.refl _ _⟩
    case round =>
      obtain ⟨f, n, s, rfl, rfl, hnf, hn, hsf, HK, hb⟩ := hrel
      by_cases hn0 : n = 0
      · have HS := hid (show s = R by
          have := HK.out
          rw [hn0] at this
          cases f with
          | zero => exact this
          | succ f => rw [mgo, if_pos rfl] at this; exact this)
        have g1 : ¬ (0 : Int) < (n : Int) := by omega
        have hq : ¬ 9223372036854775807 < 1 + s.size := by omega
        clear hn0
        go_wp2
        go_ret
        rw [HR.out, ← HS.out]
        exact ⟨rfl, hb⟩
      · have g1 : (0 : Int) < (n : Int) := by omega
        obtain ⟨f', rfl⟩ : ∃ f', f = f' + 1 := ⟨f - 1, by omega⟩
        obtain ⟨d, hd⟩ : ∃ d, n % 10 = d := ⟨_, rfl⟩
        obtain ⟨q, hq⟩ : ∃ q, n / 10 = q := ⟨_, rfl⟩
        have HN := hid (show mgo f' q (⟨#[UInt8.ofNat (48 + d)]⟩ ++ s) = R by
          have := HK.out
          rw [mgo, if_neg hn0, hd, hq] at this
          exact this)
        have hd10 : d < 10 := by omega
        have hqn : q < n := by omega
        have hr1 : (n : Int).tmod 10 = (d : Int) := by rw [Int.tmod_eq_emod_of_nonneg (by omega)]; omega
        have hr2 : (n : Int) % 10 = (d : Int) := by omega
        have hq1 : (n : Int).tdiv 10 = (q : Int) := by rw [Int.tdiv_eq_ediv_of_nonneg (by omega)]; omega
        have hq2 : (n : Int) / 10 = (q : Int) := by omega
        have hv1 : IntKind.u8.wrap (48 + (d : Int)) = 48 + (d : Int) := by simp [IntKind.wrap, IntKind.bits, IntKind.signed]; omega
        have hv2 : (48 + (d : Int)) % 256 = 48 + (d : Int) := by omega
        have hss : ¬ 9223372036854775807 < 1 + s.size := by omega
        obtain ⟨c, hc⟩ : ∃ c : UInt8, UInt8.ofNat (48 + d) = c := ⟨_, rfl⟩
        have hdn : (c.toNat : Int) = 48 + (d : Int) := by rw [← hc, UInt8.toNat_ofNat']; omega
        rw [hc] at HN
        have hcv : ∀ W : World, (convert 44 9 (.slice (some ⟨W.heap.size, 0, none⟩) 1 1)).run Tryd.prog (W.alloc (.cells #[.int .u8 (48 + (d : Int))] 5)) = .ok (.string ⟨#[c]⟩) (W.alloc (.cells #[.int .u8 (48 + (d : Int))] 5)) := by
          intro W
          refine run_convert_bytes_back (P := Tryd.prog) (W.alloc (.cells #[.int .u8 (48 + (d : Int))] 5)) 44 9 5 ⟨W.heap.size, 0, none⟩ 1 [c] Tryd.underlying44 Tryd.underlying5 Tryd.underlying9 (fun j hj => ?_)
          have hj0 : j = 0 := by simpa using hj
          subst hj0
          rw [Addr.add_lit, Nat.zero_add]
          rw [cell_of_row _ _ 0 _ _ _ (heap_alloc_new W _)]
          simp [hdn]
        clear hd hq hn0 hc hdn
        go_wp2
        go_roundw
        case rel => exact ⟨f', q, _, by go_num, rfl, by omega, by omega, by rw [ByteArray.size_append]; show 1 + s.size + f' ≤ _; omega, HN, by repeat' (first | (with_reducible exact hb) | (with_reducible refine ext_trans ?_ (ext_alloc _ _)) | (simp; done) | omega)⟩
        case measure => simp [intOf]; omega
theorem set_get {cur : Array Value} {i j : Nat} {v : Value} : (cur.setIfInBounds i v)[j]? = if i = j ∧ j < cur.size then some v else cur[j]? := by
  rw [Array.getElem?_setIfInBounds]
  by_cases h : i = j
  · subst h
    by_cases h2 : i < cur.size
    · simp [h2]
    · simp [h2]
  · simp [h]
theorem cell_arr {w : World} {g j : Nat} {cur : Array Value} {e : TypeId} {fr : Nat × Nat} (hg : w.heap[g]? = some (.cells cur e fr)) : w.cell? ⟨g, j, none⟩ = cur[j]? := by
  unfold World.cell?
  rw [hg]
  simp
theorem heap_lt {w : World} {g : Nat} {o : Obj} (h : w.heap[g]? = some o) : g < w.heap.size := (Array.getElem?_eq_some_iff.1 h).1
theorem free_arr {w : World} {g j : Nat} {cur : Array Value} {e : TypeId} (hg : w.heap[g]? = some (.cells cur e (0, 0))) : w.frozen? ⟨g, j, none⟩ = false := by simp [World.frozen?, hg]
theorem arr_some {cur : Array Value} {j : Nat} (h : j < cur.size) : ∃ u, cur[j]? = some u := ⟨cur[j], Array.getElem?_eq_getElem h⟩
set_option maxHeartbeats 4000000 in
theorem markStrs (g n c k : Nat) (cur : Array Value) (e : TypeId) (w : World) (hg : w.heap[g]? = some (.cells cur e (0, 0))) (hn : n ≤ cur.size) (hk : k + n ≤ 100000000) :
    Calls Tryd.prog 81 #[.slice (some ⟨g, 0, none⟩) n c, .int .i64 (k : Int)] w fun e' w' => e' = .returned (.int .i64 ((k + n : Nat) : Int)) ∧ Off g w w' ∧ ∃ cur', w'.heap[g]? = some (.cells cur' e (0, 0)) ∧ cur'.size = cur.size ∧ ∀ i, i < n → cur'[i]? = some (.string (mtxt (k + i))) := by
  have CM := hid (fun (k : Nat) (w : World) (hk : k ≤ 100000000) => markTx k w hk)
  have HG := hid hg
  clear hg
  go_enter Tryd.func81, Tryd.ntmps81
  go_wp2
  go_loopw [1, 5] (fun kv iv wr => ∃ (i : Nat) (cur' : Array Value), i ≤ n ∧ kv = .int .i64 ((k + i : Nat) : Int) ∧ iv = .int .i64 (i : Int) ∧ Hid (wr.heap[g]? = some (.cells cur' e (0, 0))) ∧ cur'.size = cur.size ∧ Hid (∀ j, j < i → cur'[j]? = some (.string (mtxt (k + j)))) ∧ Off g w wr) (fun _ iv _ => n - (intOf iv).toNat)
  case atStart => exact ⟨0, cur, Nat.zero_le _, by simp, rfl, HG, rfl, hid (fun j h => absurd h (by omega)), Off.refl _ _⟩
  case round =>
    obtain ⟨i, cur', hi, rfl, rfl, HC, hcs, HJ, hoff⟩ := hrel
    by_cases hlt : i < n
    · have hi1 : (i : Int) < (n : Int) := by omega
      have hi0 : (0 : Int) ≤ (i : Int) := by omega
      have CMi := hid (fun (w : World) => CM.out (k + i) w (by omega))
      obtain ⟨tx, htx⟩ : ∃ t, mtxt (k + i) = t := ⟨_, rfl⟩
      have HTX := hid htx
      rw [htx] at CMi
      clear htx
      go_wp2_with fail
      refine (CMi.out _).mono ?_
      rintro e' w1 ⟨rfl, hb1⟩
      have HC1 := hid ((hb1.block g (heap_lt HC.out)).trans HC.out)
      obtain ⟨u, hu⟩ : ∃ u, w1.cell? ⟨g, i, none⟩ = some u := by
        rw [cell_arr HC1.out]
        exact ⟨cur'[i]'(by omega), Array.getElem?_eq_getElem (by omega)⟩
      have hz : w1.frozen? ⟨g, i, none⟩ = false := free_arr HC1.out
      go_wp2
      go_roundw
      case rel =>
        refine ⟨i + 1, cur'.setIfInBounds i (.string tx), by omega, by go_num, by go_num, hid (heap_setCell_same w1 g i _ _ _ HC1.out), by rw [Array.size_setIfInBounds]; exact hcs, hid (fun j hj => ?_), (hoff.call hb1).set i _⟩
        rw [set_get]
        by_cases hji : i = j
        · subst hji
          rw [if_pos ⟨rfl, by omega⟩, HTX.out]
        · rw [if_neg (fun h => hji h.1)]
          exact HJ.out j (by omega)
      case measure => simp [intOf]; omega
    · obtain rfl : i = n := by omega
      have hi1 : ¬ (i : Int) < (i : Int) := by omega
      go_wp2
      go_ret
      exact ⟨by first | rfl | (congr 2; omega), hoff, cur', HC.out, hcs, HJ.out⟩
set_option maxHeartbeats 1000000 in
theorem markStrs0 (a : Option Addr) (c k : Nat) (w : World) (hk : k ≤ 100000000) :
    Calls Tryd.prog 81 #[.slice a 0 c, .int .i64 (k : Int)] w fun e' w' => e' = .returned (.int .i64 (k : Int)) ∧ w = w' := by
  go_enter Tryd.func81, Tryd.ntmps81
  go_wp2
  go_loopw [1, 5] (fun kv iv wr => kv = .int .i64 (k : Int) ∧ iv = .int .i64 0 ∧ w = wr) (fun _ _ _ => 0)
  case atStart => exact ⟨rfl, rfl, rfl⟩
  case round =>
    obtain ⟨rfl, rfl, rfl⟩ := hrel
    go_wp2
    go_ret
    exact ⟨rfl, by first | rfl | trivial⟩
set_option maxHeartbeats 4000000 in
set_option maxRecDepth 100000 in
theorem heldStrs (g n c k : Nat) (w : World) (hc : ∀ i, i < n → w.cell? ⟨g, i, none⟩ = some (.string (mtxt (k + i)))) (hk : k + n ≤ 100000000) :
    Calls Tryd.prog 83 #[.slice (some ⟨g, 0, none⟩) n c, .int .i64 (k : Int)] w fun e' w' => e' = .returned (.int .i64 ((k + n : Nat) : Int)) ∧ Below w.heap.size w w' := by
  have CM := hid (fun (k : Nat) (w : World) (hk : k ≤ 100000000) => markTx k w hk)
  have HC := hid hc
  clear hc
  go_enter Tryd.func83, Tryd.ntmps83
  go_wp2
  go_loopw [1, 5] (fun kv iv wr => ∃ i : Nat, i ≤ n ∧ kv = .int .i64 ((k + i : Nat) : Int) ∧ iv = .int .i64 (i : Int) ∧ Below w.heap.size w wr) (fun _ iv _ => n - (intOf iv).toNat)
  case atStart => exact ⟨0, Nat.zero_le _, by simp, rfl, Below.refl _ _⟩
  case round =>
    obtain ⟨i, hi, rfl, rfl, hb⟩ := hrel
    by_cases hlt : i < n
    · have hi1 : (i : Int) < (n : Int) := by omega
      have hi0 : (0 : Int) ≤ (i : Int) := by omega
      have CMi := hid (fun (w : World) => CM.out (k + i) w (by omega))
      have t0 : wr.cell? ⟨g, i, none⟩ = some (.string (mtxt (k + i))) := keeps_cells hb _ _ (HC.out i hlt)
      obtain ⟨tx, htx⟩ : ∃ t, mtxt (k + i) = t := ⟨_, rfl⟩
      rw [htx] at CMi t0
      clear htx
      go_wp2_with fail
      refine wp_region_held_drew (S := fun w' => w'.cell? ⟨g, i, none⟩ = some (.string tx)) (by kernel_rfl) ?_ (fun hHeld => ?_)
      · simp [*]
      refine wpAnyH_take (i := 0) (v := ?_) rfl (by kernel_rfl) (by kernel_rfl) (by kernel_rfl) (fun _ _ _ h => h) (Or.inl ⟨by rfl, ?_⟩) (by assumption) ?_
      rotate_left
      · (intro w' hSw; (try dsimp only at hSw); go_simp; try (with_reducible rfl))
      change wpAnyH _ _ _ _ _ _ _ (Act.put _ (some 12) _) _
      try simp only [Act.put, List.setIfInBounds_toArray, List.set_cons_zero, List.set_cons_succ]
      refine wpAnyH_take (i := 1) (v := ?_) rfl (by kernel_rfl) (by kernel_rfl) (by kernel_rfl) (fun _ _ _ h => h) (Or.inl ⟨by rfl, ?_⟩) (by assumption) ?_
      rotate_left
      · (intro w' hSw; (try dsimp only at hSw); go_simp; try (with_reducible rfl))
      change wpAnyH _ _ _ _ _ _ _ (Act.put _ (some 13) _) _
      try simp only [Act.put, List.setIfInBounds_toArray, List.set_cons_zero, List.set_cons_succ]
      refine wpAnyH_take (i := 2) (v := ?_) rfl (by kernel_rfl) (by kernel_rfl) (by kernel_rfl) (fun _ _ _ h => h) (Or.inl ⟨by rfl, ?_⟩) (by assumption) ?_
      rotate_left
      · (intro w' hSw; (try dsimp only at hSw); go_simp; try (with_reducible rfl))
      change wpAnyH _ _ _ _ _ _ _ (Act.put _ (some 14) _) _
      try simp only [Act.put, List.setIfInBounds_toArray, List.set_cons_zero, List.set_cons_succ]
      refine wpAnyH_take (i := 3) (v := ?_) rfl (by kernel_rfl) (by kernel_rfl) (by kernel_rfl) (fun _ _ _ h => h) (Or.inl ⟨by rfl, ?_⟩) (by assumption) ?_
      rotate_left
      · (intro w' hSw; (try dsimp only at hSw); go_simp; try (with_reducible rfl))
      change wpAnyH _ _ _ _ _ _ _ (Act.put _ (some 15) _) _
      try simp only [Act.put, List.setIfInBounds_toArray, List.set_cons_zero, List.set_cons_succ]
      refine wpAnyH_take (i := 4) (v := ?_) rfl (by kernel_rfl) (by kernel_rfl) (by kernel_rfl) (fun _ _ _ h => h) (Or.inl ⟨by rfl, ?_⟩) (by assumption) ?_
      rotate_left
      · (intro w' hSw; (try dsimp only at hSw); go_simp; try (with_reducible rfl))
      change wpAnyH _ _ _ _ _ _ _ (Act.put _ (some 16) _) _
      try simp only [Act.put, List.setIfInBounds_toArray, List.set_cons_zero, List.set_cons_succ]
      refine wpAnyH_ready (rs := [5]) (by kernel_rfl) (by simp) ?_
      refine AllReadyH.cons (i := 5) rfl (fun K hK => ?_) AllReadyH.nil
      simp only [List.getElem_toArray, List.getElem_cons_succ, List.getElem_cons_zero]
      rw [if_pos (by rfl)]
      go_simp
      (go_at_call 80; refine (CMi.out _).mono ?_; rintro e' w1 ⟨rfl, hb1⟩; have hkc1 := keeps_cells hb1; go_wp2_with fail)
      have hOld := hHeld
      clear hHeld
      refine hK.out _ _ ?_ (fun hHeld => ?_)
      · (try dsimp only); simp [*]
      clear hK K hOld
      try simp only [Act.put, List.setIfInBounds_toArray, List.set_cons_zero, List.set_cons_succ]
      refine wpAnyH_take (i := 6) (v := ?_) rfl (by kernel_rfl) (by kernel_rfl) (by kernel_rfl) (fun _ _ _ h => h) (Or.inl ⟨by rfl, ?_⟩) (by assumption) ?_
      rotate_left
      · (intro w' hSw; (try dsimp only at hSw); go_simp; try (with_reducible rfl))
      change wpAnyH _ _ _ _ _ _ _ (Act.put _ (some 18) _) _
      try simp only [Act.put, List.setIfInBounds_toArray, List.set_cons_zero, List.set_cons_succ]
      refine wpAnyH_done (by kernel_rfl) ?_ _
      clear hHeld
      go_wp2
      go_roundw
      case rel => exact ⟨i + 1, by omega, by go_num, by go_num, by repeat' (first | (with_reducible exact hb) | (with_reducible refine ext_trans ?_ hb1) | (with_reducible refine Below.drew ?_))⟩
      case measure => simp [intOf]; omega
    · obtain rfl : i = n := by omega
      have hi1 : ¬ (i : Int) < (i : Int) := by omega
      go_wp2
      go_ret
      exact ⟨by first | rfl | (congr 2; omega), hb⟩
set_option maxHeartbeats 1000000 in
theorem heldStrs0 (a : Option Addr) (c k : Nat) (w : World) (hk : k ≤ 100000000) :
    Calls Tryd.prog 83 #[.slice a 0 c, .int .i64 (k : Int)] w fun e' w' => e' = .returned (.int .i64 (k : Int)) ∧ w = w' := by
  go_enter Tryd.func83, Tryd.ntmps83
  go_wp2
  go_loopw [1, 5] (fun kv iv wr => kv = .int .i64 (k : Int) ∧ iv = .int .i64 0 ∧ w = wr) (fun _ _ _ => 0)
  case atStart => exact ⟨rfl, rfl, rfl⟩
  case round =>
    obtain ⟨rfl, rfl, rfl⟩ := hrel
    go_wp2
    go_ret
    exact ⟨rfl, by first | rfl | trivial⟩
end Go.Proofs.YtlfkfofeenakhaaDoor
