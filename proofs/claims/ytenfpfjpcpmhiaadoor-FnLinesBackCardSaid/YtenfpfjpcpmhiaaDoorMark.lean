/-
  What is proved here: the laws' markText, markStringS, heldStringS: rows of texts are overwritten and looked at. The conditions are that the rows lie in blocks that can be written.
-/
import Derived.Test.YtenfpfjpcpmhiaaDoorDv
import Derived.Deep.Cut
import Derived.Deep.CutRange
import Derived.Laws.Concat
import Derived.Laws.Cover1
namespace Go.Proofs.YtenfpfjpcpmhiaaDoor
open Go.RowKit
set_option linter.unusedVariables false
set_option linter.unusedSimpArgs false

/-- all but one block stands -/
structure Off (g : Nat) (w w' : World) : Prop where
  os : w'.os = w.os
  tape : w'.tape = w.tape
  output : w'.output = w.output
  size : w.heap.size ≤ w'.heap.size
  block : ∀ c, c < w.heap.size → c ≠ g → w'.heap[c]? = w.heap[c]?
theorem Off.refl (g : Nat) (w : World) : Off g w w := ⟨rfl, rfl, rfl, Nat.le_refl _, fun _ _ _ => rfl⟩
theorem Off.call {g : Nat} {w w1 w2 : World} (h : Off g w w1) (hb : Below w1.heap.size w1 w2) : Off g w w2 :=
  ⟨hb.os.trans h.os, hb.tape.trans h.tape, hb.output.trans h.output, Nat.le_trans h.size hb.size, fun c hc hg => (hb.block c (Nat.lt_of_lt_of_le hc h.size)).trans (h.block c hc hg)⟩
theorem Off.set {g : Nat} {w w1 : World} (h : Off g w w1) (i : Nat) (v : Value) : Off g w (w1.setCell ⟨g, i, none⟩ v) :=
  ⟨h.os, h.tape, h.output, by have := h.size; simpa [World.setCell] using this, fun c hc hg => (Below.heap_setCell w1 ⟨g, i, none⟩ v c hg).trans (h.block c hc hg)⟩
theorem Off.below {g B : Nat} {w w' : World} (h : Off g w w') (hB : B ≤ g) (hw : B ≤ w.heap.size) : Below B w w' :=
  ⟨h.os, h.tape, h.output, h.size, fun c hc => h.block c (Nat.lt_of_lt_of_le hc hw) (Nat.ne_of_lt (Nat.lt_of_lt_of_le hc hB))⟩
/-- the digits of a mark -/
def mgo : Nat → Nat → ByteArray → ByteArray
  | 0, _, s => s
  | f + 1, k, s => if k = 0 then s else mgo f (k / 10) (⟨#[UInt8.ofNat (48 + k % 10)]⟩ ++ s)
def mtxt (k : Nat) : ByteArray := if k = 0 then ⟨#[109, 48]⟩ else ⟨#[109]⟩ ++ mgo k k ⟨#[]⟩
theorem mgo_size : ∀ (f k : Nat) (s : ByteArray), (mgo f k s).size ≤ s.size + f
  | 0, _, s => Nat.le_refl _
  | f + 1, k, s => by
    rw [mgo]
    split
    · omega
    · have h1 := mgo_size f (k / 10) (⟨#[UInt8.ofNat (48 + k % 10)]⟩ ++ s)
      have h2 : (⟨#[UInt8.ofNat (48 + k % 10)]⟩ : ByteArray).size = 1 := rfl
      rw [ByteArray.size_append, h2] at h1
      omega
set_option maxHeartbeats 4000000 in
theorem markTx (k : Nat) (w : World) (hk : k ≤ 100000000) :
    Calls Tryd.prog 72 #[.int .i64 (k : Int)] w fun e w' => e = .returned (.string (mtxt k)) ∧ Below w.heap.size w w' := by
  by_cases h0 : k = 0
  · subst h0
    have HR := hid (show mtxt 0 = ⟨#[109, 48]⟩ from rfl)
    go_enter Tryd.func72, Tryd.ntmps72
    go_wp2
    go_ret
    rw [HR.out]
    exact ⟨rfl, Below.refl _ _⟩
  · obtain ⟨R, hR⟩ : ∃ r, mgo k k ⟨#[]⟩ = r := ⟨_, rfl⟩
    have HR := hid (show mtxt k = ⟨#[109]⟩ ++ R by unfold mtxt; rw [if_neg h0, hR])
    have HM := hid hR
    have hRs := mgo_size k k ⟨#[]⟩
    rw [hR] at hRs
    have hRs2 : R.size ≤ 100000000 := by have : (⟨#[]⟩ : ByteArray).size = 0 := rfl; omega
    have hpos : ¬ (k : Int) ≤ 0 := by omega
    clear h0 hR hRs
    go_enter Tryd.func72, Tryd.ntmps72
    go_wp2
    go_loopw [0, 3] (fun kv sv wr => ∃ (f n : Nat) (s : ByteArray), kv = .int .i64 (n : Int) ∧ sv = .string s ∧ n ≤ f ∧ n ≤ 100000000 ∧ s.size + f ≤ 100000000 ∧ Hid (mgo f n s = R) ∧ Below w.heap.size w wr) (fun kv _ _ => (intOf kv).toNat)
    case atStart => exact ⟨k, k, ⟨#[]⟩, rfl, rfl, Nat.le_refl _, hk, by have : (⟨#[]⟩ : ByteArray).size = 0 := rfl; omega, HM, Below.refl _ _⟩
    case round =>
      obtain ⟨f, n, s, rfl, rfl, hnf, hn, hsf, HK, hb⟩ := hrel
      by_cases hn0 : n = 0
      · have HS := hid (show s = R by
          have := HK.out
          rw [hn0] at this
          cases f with
          | zero => exact this
          | succ f => rw [mgo, if_pos rfl] at this; exact this)
        have g1 : ¬ (0 : Int) < (n : Int) := by omega
        have hq : ¬ 9223372036854775807 < 1 + s.size := by omega
        clear hn0
        go_wp2
        go_ret
        rw [HR.out, ← HS.out]
        exact ⟨rfl, hb⟩
      · have g1 : (0 : Int) < (n : Int) := by omega
        obtain ⟨f', rfl⟩ : ∃ f', f = f' + 1 := ⟨f - 1, by omega⟩
        obtain ⟨d, hd⟩ : ∃ d, n % 10 = d := ⟨_, rfl⟩
        obtain ⟨q, hq⟩ : ∃ q, n / 10 = q := ⟨_, rfl⟩
        have HN := hid (show mgo f' q (⟨#[UInt8.ofNat (48 + d)]⟩ ++ s) = R by
          have := HK.out
          rw [mgo, if_neg hn0, hd, hq] at this
          exact this)
        have hd10 : d < 10 := by omega
        have hqn : q < n := by omega
        have hr1 : (n : Int).tmod 10 = (d : Int) := by rw [Int.tmod_eq_emod_of_nonneg (by omega)]; omega
        have hr2 : (n : Int) % 10 = (d : Int) := by omega
        have hq1 : (n : Int).tdiv 10 = (q : Int) := by rw [Int.tdiv_eq_ediv_of_nonneg (by omega)]; omega
        have hq2 : (n : Int) / 10 = (q : Int) := by omega
        have hv1 : IntKind.u8.wrap (48 + (d : Int)) = 48 + (d : Int) := by simp [IntKind.wrap, IntKind.bits, IntKind.signed]; omega
        have hv2 : (48 + (d : Int)) % 256 = 48 + (d : Int) := by omega
        have hss : ¬ 9223372036854775807 < 1 + s.size := by omega
        obtain ⟨c, hc⟩ : ∃ c : UInt8, UInt8.ofNat (48 + d) = c := ⟨_, rfl⟩
        have hdn : (c.toNat : Int) = 48 + (d : Int) := by rw [← hc, UInt8.toNat_ofNat']; omega
        rw [hc] at HN
        have hcv : ∀ W : World, (convert 45 9 (.slice (some ⟨W.heap.size, 0, none⟩) 1 1)).run Tryd.prog (W.alloc (.cells #[.int .u8 (48 + (d : Int))] 5)) = .ok (.string ⟨#[c]⟩) (W.alloc (.cells #[.int .u8 (48 + (d : Int))] 5)) := by
          intro W
          refine run_convert_bytes_back (P := Tryd.prog) (W.alloc (.cells #[.int .u8 (48 + (d : Int))] 5)) 45 9 5 ⟨W.heap.size, 0, none⟩ 1 [c] Tryd.underlying45 Tryd.underlying5 Tryd.underlying9 (fun j hj => ?_)
          have hj0 : j = 0 := by simpa using hj
          subst hj0
          rw [Addr.add_lit, Nat.zero_add]
          rw [cell_of_row _ _ 0 _ _ _ (heap_alloc_new W _)]
          simp [hdn]
        clear hd hq hn0 hc hdn
        go_wp2
        go_roundw
        case rel => exact ⟨f', q, _, by go_num, rfl, by omega, by omega, by rw [ByteArray.size_append]; show 1 + s.size + f' ≤ _; omega, HN, by repeat' (first | (with_reducible exact hb) | (with_reducible refine ext_trans ?_ (ext_alloc _ _)) | (simp; done) | omega)⟩
        case measure => simp [intOf]; omega
theorem set_get {cur : Array Value} {i j : Nat} {v : Value} : (cur.setIfInBounds i v)[j]? = if i = j ∧ j < cur.size then some v else cur[j]? := by
  rw [Array.getElem?_setIfInBounds]
  by_cases h : i = j
  · subst h
    by_cases h2 : i < cur.size
    · simp [h2]
    · simp [h2]
  · simp [h]
theorem cell_arr {w : World} {g j : Nat} {cur : Array Value} {e : TypeId} {fr : Nat × Nat} (hg : w.heap[g]? = some (.cells cur e fr)) : w.cell? ⟨g, j, none⟩ = cur[j]? := by
  unfold World.cell?
  rw [hg]
  simp
theorem heap_lt {w : World} {g : Nat} {o : Obj} (h : w.heap[g]? = some o) : g < w.heap.size := (Array.getElem?_eq_some_iff.1 h).1
theorem free_arr {w : World} {g j : Nat} {cur : Array Value} {e : TypeId} (hg : w.heap[g]? = some (.cells cur e (0, 0))) : w.frozen? ⟨g, j, none⟩ = false := by simp [World.frozen?, hg]
set_option maxHeartbeats 4000000 in
theorem markStrs (g n c k : Nat) (cur : Array Value) (e : TypeId) (w : World) (hg : w.heap[g]? = some (.cells cur e (0, 0))) (hn : n ≤ cur.size) (hk : k + n ≤ 100000000) :
    Calls Tryd.prog 46 #[.slice (some ⟨g, 0, none⟩) n c, .int .i64 (k : Int)] w fun e' w' => e' = .returned (.int .i64 ((k + n : Nat) : Int)) ∧ Off g w w' ∧ ∃ cur', w'.heap[g]? = some (.cells cur' e (0, 0)) ∧ cur'.size = cur.size ∧ ∀ i, i < n → cur'[i]? = some (.string (mtxt (k + i))) := by
  have CM := hid (fun (k : Nat) (w : World) (hk : k ≤ 100000000) => markTx k w hk)
  have HG := hid hg
  clear hg
  go_enter Tryd.func46, Tryd.ntmps46
  go_wp2
  go_loopw [1, 5] (fun kv iv wr => ∃ (i : Nat) (cur' : Array Value), i ≤ n ∧ kv = .int .i64 ((k + i : Nat) : Int) ∧ iv = .int .i64 (i : Int) ∧ Hid (wr.heap[g]? = some (.cells cur' e (0, 0))) ∧ cur'.size = cur.size ∧ Hid (∀ j, j < i → cur'[j]? = some (.string (mtxt (k + j)))) ∧ Off g w wr) (fun _ iv _ => n - (intOf iv).toNat)
  case atStart => exact ⟨0, cur, Nat.zero_le _, by simp, rfl, HG, rfl, hid (fun j h => absurd h (by omega)), Off.refl _ _⟩
  case round =>
    obtain ⟨i, cur', hi, rfl, rfl, HC, hcs, HJ, hoff⟩ := hrel
    by_cases hlt : i < n
    · have hi1 : (i : Int) < (n : Int) := by omega
      have hi0 : (0 : Int) ≤ (i : Int) := by omega
      have CMi := hid (fun (w : World) => CM.out (k + i) w (by omega))
      obtain ⟨tx, htx⟩ : ∃ t, mtxt (k + i) = t := ⟨_, rfl⟩
      have HTX := hid htx
      rw [htx] at CMi
      clear htx
      go_wp2_with fail
      refine (CMi.out _).mono ?_
      rintro e' w1 ⟨rfl, hb1⟩
      have HC1 := hid ((hb1.block g (heap_lt HC.out)).trans HC.out)
      obtain ⟨u, hu⟩ : ∃ u, w1.cell? ⟨g, i, none⟩ = some u := by
        rw [cell_arr HC1.out]
        exact ⟨cur'[i]'(by omega), Array.getElem?_eq_getElem (by omega)⟩
      have hz : w1.frozen? ⟨g, i, none⟩ = false := free_arr HC1.out
      go_wp2
      go_roundw
      case rel =>
        refine ⟨i + 1, cur'.setIfInBounds i (.string tx), by omega, by go_num, by go_num, hid (heap_setCell_same w1 g i _ _ _ HC1.out), by rw [Array.size_setIfInBounds]; exact hcs, hid (fun j hj => ?_), (hoff.call hb1).set i _⟩
        rw [set_get]
        by_cases hji : i = j
        · subst hji
          rw [if_pos ⟨rfl, by omega⟩, HTX.out]
        · rw [if_neg (fun h => hji h.1)]
          exact HJ.out j (by omega)
      case measure => simp [intOf]; omega
    · obtain rfl : i = n := by omega
      have hi1 : ¬ (i : Int) < (i : Int) := by omega
      go_wp2
      go_ret
      exact ⟨by first | rfl | (congr 2; omega), hoff, cur', HC.out, hcs, HJ.out⟩
set_option maxHeartbeats 1000000 in
theorem markStrs0 (a : Option Addr) (c k : Nat) (w : World) (hk : k ≤ 100000000) :
    Calls Tryd.prog 46 #[.slice a 0 c, .int .i64 (k : Int)] w fun e' w' => e' = .returned (.int .i64 (k : Int)) ∧ w = w' := by
  go_enter Tryd.func46, Tryd.ntmps46
  go_wp2
  go_loopw [1, 5] (fun kv iv wr => kv = .int .i64 (k : Int) ∧ iv = .int .i64 0 ∧ w = wr) (fun _ _ _ => 0)
  case atStart => exact ⟨rfl, rfl, rfl⟩
  case round =>
    obtain ⟨rfl, rfl, rfl⟩ := hrel
    go_wp2
    go_ret
    exact ⟨rfl, by first | rfl | trivial⟩
set_option maxHeartbeats 4000000 in
set_option maxRecDepth 100000 in
theorem heldStrs (g n c k : Nat) (w : World) (hc : ∀ i, i < n → w.cell? ⟨g, i, none⟩ = some (.string (mtxt (k + i)))) (hk : k + n ≤ 100000000) :
    Calls Tryd.prog 48 #[.slice (some ⟨g, 0, none⟩) n c, .int .i64 (k : Int)] w fun e' w' => e' = .returned (.int .i64 ((k + n : Nat) : Int)) ∧ Below w.heap.size w w' := by
  have CM := hid (fun (k : Nat) (w : World) (hk : k ≤ 100000000) => markTx k w hk)
  have HC := hid hc
  clear hc
  go_enter Tryd.func48, Tryd.ntmps48
  go_wp2
  go_loopw [1, 5] (fun kv iv wr => ∃ i : Nat, i ≤ n ∧ kv = .int .i64 ((k + i : Nat) : Int) ∧ iv = .int .i64 (i : Int) ∧ Below w.heap.size w wr) (fun _ iv _ => n - (intOf iv).toNat)
  case atStart => exact ⟨0, Nat.zero_le _, by simp, rfl, Below.refl _ _⟩
  case round =>
    obtain ⟨i, hi, rfl, rfl, hb⟩ := hrel
    by_cases hlt : i < n
    · have hi1 : (i : Int) < (n : Int) := by omega
      have hi0 : (0 : Int) ≤ (i : Int) := by omega
      have CMi := hid (fun (w : World) => CM.out (k + i) w (by omega))
      have t0 : wr.cell? ⟨g, i, none⟩ = some (.string (mtxt (k + i))) := keeps_cells hb _ _ (HC.out i hlt)
      obtain ⟨tx, htx⟩ : ∃ t, mtxt (k + i) = t := ⟨_, rfl⟩
      rw [htx] at CMi t0
      clear htx
      go_wp2_with fail
      refine wp_region_held_drew (S := fun w' => w'.cell? ⟨g, i, none⟩ = some (.string tx)) (by kernel_rfl) ?_ (fun hHeld => ?_)
      · simp [*]
      refine wpAnyH_take (i := 0) (v := ?_) rfl (by kernel_rfl) (by kernel_rfl) (by kernel_rfl) (fun _ _ _ h => h) (Or.inl ⟨by rfl, ?_⟩) (by assumption) ?_
      rotate_left
      · (intro w' hSw; (try dsimp only at hSw); go_simp; try (with_reducible rfl))
      change wpAnyH _ _ _ _ _ _ _ (Act.put _ (some 12) _) _
      try simp only [Act.put, List.setIfInBounds_toArray, List.set_cons_zero, List.set_cons_succ]
      refine wpAnyH_take (i := 1) (v := ?_) rfl (by kernel_rfl) (by kernel_rfl) (by kernel_rfl) (fun _ _ _ h => h) (Or.inl ⟨by rfl, ?_⟩) (by assumption) ?_
      rotate_left
      · (intro w' hSw; (try dsimp only at hSw); go_simp; try (with_reducible rfl))
      change wpAnyH _ _ _ _ _ _ _ (Act.put _ (some 13) _) _
      try simp only [Act.put, List.setIfInBounds_toArray, List.set_cons_zero, List.set_cons_succ]
      refine wpAnyH_take (i := 2) (v := ?_) rfl (by kernel_rfl) (by kernel_rfl) (by kernel_rfl) (fun _ _ _ h => h) (Or.inl ⟨by rfl, ?_⟩) (by assumption) ?_
      rotate_left
      · (intro w' hSw; (try dsimp only at hSw); go_simp; try (with_reducible rfl))
      change wpAnyH _ _ _ _ _ _ _ (Act.put _ (some 14) _) _
      try simp only [Act.put, List.setIfInBounds_toArray, List.set_cons_zero, List.set_cons_succ]
      refine wpAnyH_take (i := 3) (v := ?_) rfl (by kernel_rfl) (by kernel_rfl) (by kernel_rfl) (fun _ _ _ h => h) (Or.inl ⟨by rfl, ?_⟩) (by assumption) ?_
      rotate_left
      · (intro w' hSw; (try dsimp only at hSw); go_simp; try (with_reducible rfl))
      change wpAnyH _ _ _ _ _ _ _ (Act.put _ (some 15) _) _
      try simp only [Act.put, List.setIfInBounds_toArray, List.set_cons_zero, List.set_cons_succ]
      refine wpAnyH_take (i := 4) (v := ?_) rfl (by kernel_rfl) (by kernel_rfl) (by kernel_rfl) (fun _ _ _ h => h) (Or.inl ⟨by rfl, ?_⟩) (by assumption) ?_
      rotate_left
      · (intro w' hSw; (try dsimp only at hSw); go_simp; try (with_reducible rfl))
      change wpAnyH _ _ _ _ _ _ _ (Act.put _ (some 16) _) _
      try simp only [Act.put, List.setIfInBounds_toArray, List.set_cons_zero, List.set_cons_succ]
      refine wpAnyH_ready (rs := [5]) (by kernel_rfl) (by simp) ?_
      refine AllReadyH.cons (i := 5) rfl (fun K hK => ?_) AllReadyH.nil
      simp only [List.getElem_toArray, List.getElem_cons_succ, List.getElem_cons_zero]
      rw [if_pos (by rfl)]
      go_simp
      (go_at_call 72; refine (CMi.out _).mono ?_; rintro e' w1 ⟨rfl, hb1⟩; have hkc1 := keeps_cells hb1; go_wp2_with fail)
      have hOld := hHeld
      clear hHeld
      refine hK.out _ _ ?_ (fun hHeld => ?_)
      · (try dsimp only); simp [*]
      clear hK K hOld
      try simp only [Act.put, List.setIfInBounds_toArray, List.set_cons_zero, List.set_cons_succ]
      refine wpAnyH_take (i := 6) (v := ?_) rfl (by kernel_rfl) (by kernel_rfl) (by kernel_rfl) (fun _ _ _ h => h) (Or.inl ⟨by rfl, ?_⟩) (by assumption) ?_
      rotate_left
      · (intro w' hSw; (try dsimp only at hSw); go_simp; try (with_reducible rfl))
      change wpAnyH _ _ _ _ _ _ _ (Act.put _ (some 18) _) _
      try simp only [Act.put, List.setIfInBounds_toArray, List.set_cons_zero, List.set_cons_succ]
      refine wpAnyH_done (by kernel_rfl) ?_ _
      clear hHeld
      go_wp2
      go_roundw
      case rel => exact ⟨i + 1, by omega, by go_num, by go_num, by repeat' (first | (with_reducible exact hb) | (with_reducible refine ext_trans ?_ hb1) | (with_reducible refine Below.drew ?_))⟩
      case measure => simp [intOf]; omega
    · obtain rfl : i = n := by omega
      have hi1 : ¬ (i : Int) < (i : Int) := by omega
      go_wp2
      go_ret
      exact ⟨by first | rfl | (congr 2; omega), hb⟩
set_option maxHeartbeats 1000000 in
theorem heldStrs0 (a : Option Addr) (c k : Nat) (w : World) (hk : k ≤ 100000000) :
    Calls Tryd.prog 48 #[.slice a 0 c, .int .i64 (k : Int)] w fun e' w' => e' = .returned (.int .i64 (k : Int)) ∧ w = w' := by
  go_enter Tryd.func48, Tryd.ntmps48
  go_wp2
  go_loopw [1, 5] (fun kv iv wr => kv = .int .i64 (k : Int) ∧ iv = .int .i64 0 ∧ w = wr) (fun _ _ _ => 0)
  case atStart => exact ⟨rfl, rfl, rfl⟩
  case round =>
    obtain ⟨rfl, rfl, rfl⟩ := hrel
    go_wp2
    go_ret
    exact ⟨rfl, by first | rfl | trivial⟩
/-- the marks of a value, by its cell -/
def mval (m j : Nat) : Value := if j = 0 then .int .i64 (m : Int) else if j = 1 then .bool (decide ((m + 1) % 3 = 0)) else if j = 2 then .string (mtxt (m + 2)) else if j = 3 then .int .i64 ((m + 3 : Nat) : Int) else .string (mtxt (m + 4))
theorem arr_some {cur : Array Value} {j : Nat} (h : j < cur.size) : ∃ u, cur[j]? = some u := ⟨cur[j], Array.getElem?_eq_getElem h⟩
set_option maxHeartbeats 8000000 in
theorem markVals (g n c k : Nat) (cur : Array Value) (e : TypeId) (w : World) (hg : w.heap[g]? = some (.cells cur e (0, 0))) (hn : n * 5 ≤ cur.size) (hk : k + n * 5 ≤ 100000000) :
    Calls Tryd.prog 47 #[.slice (some ⟨g, 0, none⟩) n c, .int .i64 (k : Int)] w fun e' w' => e' = .returned (.int .i64 ((k + n * 5 : Nat) : Int)) ∧ Off g w w' ∧ ∃ cur', w'.heap[g]? = some (.cells cur' e (0, 0)) ∧ cur'.size = cur.size ∧ ∀ i, i < n → ∀ j, j < 5 → cur'[i * 5 + j]? = some (mval (k + i * 5) j) := by
  have CM := hid (fun (k : Nat) (w : World) (hk : k ≤ 100000000) => markTx k w hk)
  have HG := hid hg
  clear hg
  go_enter Tryd.func47, Tryd.ntmps47
  go_wp2
  go_loopw [1, 5] (fun kv iv wr => ∃ (i m : Nat) (cur' : Array Value), i ≤ n ∧ kv = .int .i64 (m : Int) ∧ Hid (m = k + i * 5) ∧ iv = .int .i64 (i : Int) ∧ Hid (wr.heap[g]? = some (.cells cur' e (0, 0))) ∧ cur'.size = cur.size ∧ Hid (∀ q, q < i → ∀ j, j < 5 → cur'[q * 5 + j]? = some (mval (k + q * 5) j)) ∧ Off g w wr) (fun _ iv _ => n - (intOf iv).toNat)
  case atStart => exact ⟨0, k, cur, Nat.zero_le _, rfl, hid (by simp), rfl, HG, rfl, hid (fun j h => absurd h (by omega)), Off.refl _ _⟩
  case round =>
    obtain ⟨i, m, cur', hi, rfl, HM, rfl, HC, hcs, HJ, hoff⟩ := hrel
    by_cases hlt : i < n
    · have hi1 : (i : Int) < (n : Int) := by omega
      have hi0 : (0 : Int) ≤ (i : Int) := by omega
      have hmk : m + 5 ≤ 100000000 := by have := HM.out; omega
      have hsz : i * 5 + 4 < cur'.size := by omega
      have HSZ := hid hsz
      have hbig : i * 5 ≤ 100000000 := by omega
      have CM2 := hid (fun (w : World) => CM.out (m + 2) w (by omega))
      have CM4 := hid (fun (w : World) => CM.out (m + 4) w (by omega))
      obtain ⟨t2, ht2⟩ : ∃ t, mtxt (m + 2) = t := ⟨_, rfl⟩
      obtain ⟨t4, ht4⟩ : ∃ t, mtxt (m + 4) = t := ⟨_, rfl⟩
      have HT2 := hid ht2
      have HT4 := hid ht4
      rw [ht2] at CM2
      rw [ht4] at CM4
      obtain ⟨bz, hbz⟩ : ∃ b, decide ((m + 1) % 3 = 0) = b := ⟨_, rfl⟩
      have HBZ := hid hbz
      obtain ⟨r3, hr3⟩ : ∃ r, (m + 1) % 3 = r := ⟨_, rfl⟩
      have hm1 : ((m : Int) + 1).tmod 3 = (r3 : Int) := by rw [Int.tmod_eq_emod_of_nonneg (by omega)]; omega
      have hm2 : ((m : Int) + 1) % 3 = (r3 : Int) := by omega
      have hgz : ((r3 : Int) == 0) = bz := by
        rw [← hbz, hr3, Bool.eq_iff_iff, beq_iff_eq, decide_eq_true_eq]
        omega
      clear ht2 ht4 hbz hr3
      obtain ⟨u0, hu0⟩ := arr_some (cur := cur') (j := i * 5) (by omega)
      obtain ⟨u1, hu1⟩ := arr_some (cur := cur') (j := i * 5 + 1) (by omega)
      obtain ⟨u2, hu2⟩ := arr_some (cur := cur') (j := i * 5 + 2) (by omega)
      obtain ⟨u3, hu3⟩ := arr_some (cur := cur') (j := i * 5 + 3) (by omega)
      obtain ⟨u4, hu4⟩ := arr_some (cur := cur') (j := i * 5 + 4) (by omega)
      have c0 : wr.cell? ⟨g, i * 5, none⟩ = some u0 := (cell_arr HC.out).trans hu0
      have c1 : wr.cell? ⟨g, i * 5 + 1, none⟩ = some u1 := (cell_arr HC.out).trans hu1
      have c2 : wr.cell? ⟨g, i * 5 + 2, none⟩ = some u2 := (cell_arr HC.out).trans hu2
      have c3 : wr.cell? ⟨g, i * 5 + 3, none⟩ = some u3 := (cell_arr HC.out).trans hu3
      have c4 : wr.cell? ⟨g, i * 5 + 4, none⟩ = some u4 := (cell_arr HC.out).trans hu4
      have z0 : wr.frozen? ⟨g, i * 5, none⟩ = false := free_arr HC.out
      have z1 : wr.frozen? ⟨g, i * 5 + 1, none⟩ = false := free_arr HC.out
      have z2 : wr.frozen? ⟨g, i * 5 + 2, none⟩ = false := free_arr HC.out
      have z3 : wr.frozen? ⟨g, i * 5 + 3, none⟩ = false := free_arr HC.out
      have z4 : wr.frozen? ⟨g, i * 5 + 4, none⟩ = false := free_arr HC.out
      clear hu0 hu1 hu2 hu3 hu4
      go_wp2_with fail
      refine (CM2.out _).mono ?_
      rintro e' w1 ⟨rfl, hb1⟩
      have HA : Hid (((wr.setCell ⟨g, i * 5, none⟩ (.int .i64 (m : Int))).setCell ⟨g, i * 5 + 1, none⟩ (.bool bz)).heap[g]? = some (.cells ((cur'.setIfInBounds (i * 5) (.int .i64 (m : Int))).setIfInBounds (i * 5 + 1) (.bool bz)) e (0, 0))) := hid (heap_setCell_same _ g _ _ _ _ (heap_setCell_same wr g _ _ _ _ HC.out))
      have hoffA := (hoff.set (i * 5) (.int .i64 (m : Int))).set (i * 5 + 1) (.bool bz)
      have HC1 := hid ((hb1.block g (heap_lt HA.out)).trans HA.out)
      have hoff1 := hoffA.call hb1
      obtain ⟨cA, hcA⟩ : ∃ c, (cur'.setIfInBounds (i * 5) (.int .i64 (m : Int))).setIfInBounds (i * 5 + 1) (.bool bz) = c := ⟨_, rfl⟩
      have HCA := hid hcA
      have hsA : cA.size = cur'.size := by rw [← hcA]; simp only [Array.size_setIfInBounds]
      rw [hcA] at HC1
      clear hcA c0 c1 c2 c3 c4 z0 z1 z2 z3 z4 HA hoffA
      obtain ⟨v2, hv2⟩ := arr_some (cur := cA) (j := i * 5 + 2) (by omega)
      have c2 : w1.cell? ⟨g, i * 5 + 2, none⟩ = some v2 := (cell_arr HC1.out).trans hv2
      have z2 : w1.frozen? ⟨g, i * 5 + 2, none⟩ = false := free_arr HC1.out
      obtain ⟨v3, hv3⟩ := arr_some (cur := cA) (j := i * 5 + 3) (by omega)
      have c3 : w1.cell? ⟨g, i * 5 + 3, none⟩ = some v3 := (cell_arr HC1.out).trans hv3
      have z3 : w1.frozen? ⟨g, i * 5 + 3, none⟩ = false := free_arr HC1.out
      obtain ⟨v4, hv4⟩ := arr_some (cur := cA) (j := i * 5 + 4) (by omega)
      have c4 : w1.cell? ⟨g, i * 5 + 4, none⟩ = some v4 := (cell_arr HC1.out).trans hv4
      have z4 : w1.frozen? ⟨g, i * 5 + 4, none⟩ = false := free_arr HC1.out
      clear hv2 hv3 hv4
      go_wp2_with fail
      refine (CM4.out _).mono ?_
      rintro e' w2 ⟨rfl, hb2⟩
      have HA2 : Hid (((w1.setCell ⟨g, i * 5 + 2, none⟩ (.string t2)).setCell ⟨g, i * 5 + 3, none⟩ (.int .i64 ((m : Int) + 3))).heap[g]? = some (.cells ((cA.setIfInBounds (i * 5 + 2) (.string t2)).setIfInBounds (i * 5 + 3) (.int .i64 ((m : Int) + 3))) e (0, 0))) := hid (heap_setCell_same _ g _ _ _ _ (heap_setCell_same w1 g _ _ _ _ HC1.out))
      have hoffB := (hoff1.set (i * 5 + 2) (.string t2)).set (i * 5 + 3) (.int .i64 ((m : Int) + 3))
      have HC2 := hid ((hb2.block g (heap_lt HA2.out)).trans HA2.out)
      have hoff2 := hoffB.call hb2
      obtain ⟨cB, hcB⟩ : ∃ c, (cA.setIfInBounds (i * 5 + 2) (.string t2)).setIfInBounds (i * 5 + 3) (.int .i64 ((m : Int) + 3)) = c := ⟨_, rfl⟩
      have HCB := hid hcB
      have hsB : cB.size = cA.size := by rw [← hcB]; simp only [Array.size_setIfInBounds]
      rw [hcB] at HC2
      clear hcB c2 c3 c4 z2 z3 z4 HA2 hoffB
      obtain ⟨x4, hx4⟩ := arr_some (cur := cB) (j := i * 5 + 4) (by omega)
      have c4 : w2.cell? ⟨g, i * 5 + 4, none⟩ = some x4 := (cell_arr HC2.out).trans hx4
      have z4 : w2.frozen? ⟨g, i * 5 + 4, none⟩ = false := free_arr HC2.out
      clear hx4
      go_wp2
      go_roundw
      case rel =>
        refine ⟨i + 1, m + 5, cB.setIfInBounds (i * 5 + 4) (.string t4), by omega, by go_num, hid (by rw [HM.out]; omega), by go_num, hid (heap_setCell_same w2 g (i * 5 + 4) _ _ _ HC2.out), by rw [Array.size_setIfInBounds]; omega, hid (fun q hq j hj => ?_), hoff2.set (i * 5 + 4) _⟩
        rw [← HCB.out, ← HCA.out]
        have hsz9 := HSZ.out
        by_cases hqi : q = i
        · subst hqi
          have hm := HM.out
          rw [← hm]
          have hj5 : j = 0 ∨ j = 1 ∨ j = 2 ∨ j = 3 ∨ j = 4 := by omega
          rcases hj5 with rfl | rfl | rfl | rfl | rfl
          · simp only [set_get, Array.size_setIfInBounds]
            rw [if_neg (by omega), if_neg (by omega), if_neg (by omega), if_neg (by omega), if_pos (by omega)]; rfl
          · simp only [set_get, Array.size_setIfInBounds]
            rw [if_neg (by omega), if_neg (by omega), if_neg (by omega), if_pos (by first | omega | exact ⟨trivial, by omega⟩)]
            show some (Value.bool bz) = some (.bool (decide ((m + 1) % 3 = 0)))
            rw [HBZ.out]
          · simp only [set_get, Array.size_setIfInBounds]
            rw [if_neg (by omega), if_neg (by omega), if_pos (by first | omega | exact ⟨trivial, by omega⟩)]
            show some (Value.string t2) = some (.string (mtxt (m + 2)))
            rw [HT2.out]
          · simp only [set_get, Array.size_setIfInBounds]
            rw [if_neg (by omega), if_pos (by first | omega | exact ⟨trivial, by omega⟩)]
            show some (Value.int .i64 ((m : Int) + 3)) = some (.int .i64 ((m + 3 : Nat) : Int))
            rw [show ((m + 3 : Nat) : Int) = (m : Int) + 3 by omega]
          · simp only [set_get, Array.size_setIfInBounds]
            rw [if_pos (by first | omega | exact ⟨trivial, by omega⟩)]
            show some (Value.string t4) = some (.string (mtxt (m + 4)))
            rw [HT4.out]
        · simp only [set_get, Array.size_setIfInBounds]
          rw [if_neg (by omega), if_neg (by omega), if_neg (by omega), if_neg (by omega), if_neg (by omega)]
          exact HJ.out q (by omega) j hj
      case measure => simp [intOf]; omega
    · obtain rfl : i = n := by omega
      have hi1 : ¬ (i : Int) < (i : Int) := by omega
      go_wp2
      go_ret
      refine ⟨?_, hoff, cur', HC.out, hcs, HJ.out⟩
      have hmm := HM.out
      have e1 : ((k : Int) + (i : Int) * 5) = (m : Int) := by omega
      rw [e1]
      rfl
set_option maxHeartbeats 1000000 in
theorem markVals0 (a : Option Addr) (c k : Nat) (w : World) (hk : k ≤ 100000000) :
    Calls Tryd.prog 47 #[.slice a 0 c, .int .i64 (k : Int)] w fun e' w' => e' = .returned (.int .i64 (k : Int)) ∧ w = w' := by
  go_enter Tryd.func47, Tryd.ntmps47
  go_wp2
  go_loopw [1, 5] (fun kv iv wr => kv = .int .i64 (k : Int) ∧ iv = .int .i64 0 ∧ w = wr) (fun _ _ _ => 0)
  case atStart => exact ⟨rfl, rfl, rfl⟩
  case round =>
    obtain ⟨rfl, rfl, rfl⟩ := hrel
    go_wp2
    go_ret
    exact ⟨rfl, by first | rfl | trivial⟩
set_option maxHeartbeats 8000000 in
set_option maxRecDepth 100000 in
theorem heldVals (g n c k : Nat) (w : World) (hc : ∀ i, i < n → ∀ j, j < 5 → w.cell? ⟨g, i * 5 + j, none⟩ = some (mval (k + i * 5) j)) (hk : k + n * 5 ≤ 100000000) :
    Calls Tryd.prog 49 #[.slice (some ⟨g, 0, none⟩) n c, .int .i64 (k : Int)] w fun e' w' => e' = .returned (.int .i64 ((k + n * 5 : Nat) : Int)) ∧ Below w.heap.size w w' := by
  have CM := hid (fun (k : Nat) (w : World) (hk : k ≤ 100000000) => markTx k w hk)
  have HC := hid hc
  clear hc
  go_enter Tryd.func49, Tryd.ntmps49
  go_wp2
  go_loopw [1, 5] (fun kv iv wr => ∃ (i m : Nat), i ≤ n ∧ kv = .int .i64 (m : Int) ∧ Hid (m = k + i * 5) ∧ iv = .int .i64 (i : Int) ∧ Below w.heap.size w wr) (fun _ iv _ => n - (intOf iv).toNat)
  case atStart => exact ⟨0, k, Nat.zero_le _, rfl, hid (by simp), rfl, Below.refl _ _⟩
  case round =>
    obtain ⟨i, m, hi, rfl, HM, rfl, hb⟩ := hrel
    by_cases hlt : i < n
    · have hi1 : (i : Int) < (n : Int) := by omega
      have hi0 : (0 : Int) ≤ (i : Int) := by omega
      have hmk : m + 5 ≤ 100000000 := by have := HM.out; omega
      have hbig : i * 5 ≤ 100000000 := by omega
      have CM2 := hid (fun (w : World) => CM.out (m + 2) w (by omega))
      have CM4 := hid (fun (w : World) => CM.out (m + 4) w (by omega))
      have a0 : wr.cell? ⟨g, i * 5, none⟩ = some (.int .i64 (m : Int)) := keeps_cells hb _ _ (by have := HC.out i hlt 0 (by decide); rw [← HM.out] at this; exact this)
      have a1 : wr.cell? ⟨g, i * 5 + 1, none⟩ = some (.bool (decide ((m + 1) % 3 = 0))) := keeps_cells hb _ _ (by have := HC.out i hlt 1 (by decide); rw [← HM.out] at this; exact this)
      have a2 : wr.cell? ⟨g, i * 5 + 2, none⟩ = some (.string (mtxt (m + 2))) := keeps_cells hb _ _ (by have := HC.out i hlt 2 (by decide); rw [← HM.out] at this; exact this)
      have a3 : wr.cell? ⟨g, i * 5 + 3, none⟩ = some (.int .i64 ((m : Int) + 3)) := keeps_cells hb _ _ (by have := HC.out i hlt 3 (by decide); rw [← HM.out] at this; rw [show ((m : Int) + 3) = ((m + 3 : Nat) : Int) by omega]; exact this)
      have a4 : wr.cell? ⟨g, i * 5 + 4, none⟩ = some (.string (mtxt (m + 4))) := keeps_cells hb _ _ (by have := HC.out i hlt 4 (by decide); rw [← HM.out] at this; exact this)
      obtain ⟨t2, ht2⟩ : ∃ t, mtxt (m + 2) = t := ⟨_, rfl⟩
      obtain ⟨t4, ht4⟩ : ∃ t, mtxt (m + 4) = t := ⟨_, rfl⟩
      rw [ht2] at CM2 a2
      rw [ht4] at CM4 a4
      obtain ⟨bz, hbz⟩ : ∃ b, decide ((m + 1) % 3 = 0) = b := ⟨_, rfl⟩
      obtain ⟨r3, hr3⟩ : ∃ r, (m + 1) % 3 = r := ⟨_, rfl⟩
      have hm1 : ((m : Int) + 1).tmod 3 = (r3 : Int) := by rw [Int.tmod_eq_emod_of_nonneg (by omega)]; omega
      have hm2 : ((m : Int) + 1) % 3 = (r3 : Int) := by omega
      have hgz : ((r3 : Int) == 0) = bz := by
        rw [← hbz, hr3, Bool.eq_iff_iff, beq_iff_eq, decide_eq_true_eq]
        omega
      rw [hbz] at a1
      clear ht2 ht4 hbz hr3
      go_wp2_with fail
      refine wp_region_held_drew (S := fun w' => w'.cell? ⟨g, i * 5 + 2, none⟩ = some (.string t2)) (by kernel_rfl) ?_ (fun hHeld => ?_)
      · simp [*]
      refine wpAnyH_take (i := 0) (v := ?_) rfl (by kernel_rfl) (by kernel_rfl) (by kernel_rfl) (fun _ _ _ h => h) (Or.inl ⟨by rfl, ?_⟩) (by assumption) ?_
      rotate_left
      · (intro w' hSw; (try dsimp only at hSw); go_simp; try (with_reducible rfl))
      change wpAnyH _ _ _ _ _ _ _ (Act.put _ (some 33) _) _
      try simp only [Act.put, List.setIfInBounds_toArray, List.set_cons_zero, List.set_cons_succ]
      refine wpAnyH_take (i := 1) (v := ?_) rfl (by kernel_rfl) (by kernel_rfl) (by kernel_rfl) (fun _ _ _ h => h) (Or.inl ⟨by rfl, ?_⟩) (by assumption) ?_
      rotate_left
      · (intro w' hSw; (try dsimp only at hSw); go_simp; try (with_reducible rfl))
      change wpAnyH _ _ _ _ _ _ _ (Act.put _ (some 34) _) _
      try simp only [Act.put, List.setIfInBounds_toArray, List.set_cons_zero, List.set_cons_succ]
      refine wpAnyH_take (i := 2) (v := ?_) rfl (by kernel_rfl) (by kernel_rfl) (by kernel_rfl) (fun _ _ _ h => h) (Or.inl ⟨by rfl, ?_⟩) (by assumption) ?_
      rotate_left
      · (intro w' hSw; (try dsimp only at hSw); go_simp; try (with_reducible rfl))
      change wpAnyH _ _ _ _ _ _ _ (Act.put _ (some 35) _) _
      try simp only [Act.put, List.setIfInBounds_toArray, List.set_cons_zero, List.set_cons_succ]
      refine wpAnyH_take (i := 3) (v := ?_) rfl (by kernel_rfl) (by kernel_rfl) (by kernel_rfl) (fun _ _ _ h => h) (Or.inl ⟨by rfl, ?_⟩) (by assumption) ?_
      rotate_left
      · (intro w' hSw; (try dsimp only at hSw); go_simp; try (with_reducible rfl))
      change wpAnyH _ _ _ _ _ _ _ (Act.put _ (some 36) _) _
      try simp only [Act.put, List.setIfInBounds_toArray, List.set_cons_zero, List.set_cons_succ]
      refine wpAnyH_take (i := 4) (v := ?_) rfl (by kernel_rfl) (by kernel_rfl) (by kernel_rfl) (fun _ _ _ h => h) (Or.inl ⟨by rfl, ?_⟩) (by assumption) ?_
      rotate_left
      · (intro w' hSw; (try dsimp only at hSw); go_simp; try (with_reducible rfl))
      change wpAnyH _ _ _ _ _ _ _ (Act.put _ (some 37) _) _
      try simp only [Act.put, List.setIfInBounds_toArray, List.set_cons_zero, List.set_cons_succ]
      refine wpAnyH_take (i := 5) (v := ?_) rfl (by kernel_rfl) (by kernel_rfl) (by kernel_rfl) (fun _ _ _ h => h) (Or.inl ⟨by rfl, ?_⟩) (by assumption) ?_
      rotate_left
      · (intro w' hSw; (try dsimp only at hSw); go_simp; try (with_reducible rfl))
      change wpAnyH _ _ _ _ _ _ _ (Act.put _ (some 38) _) _
      try simp only [Act.put, List.setIfInBounds_toArray, List.set_cons_zero, List.set_cons_succ]
      refine wpAnyH_take (i := 6) (v := ?_) rfl (by kernel_rfl) (by kernel_rfl) (by kernel_rfl) (fun _ _ _ h => h) (Or.inl ⟨by rfl, ?_⟩) (by assumption) ?_
      rotate_left
      · (intro w' hSw; (try dsimp only at hSw); go_simp; try (with_reducible rfl))
      change wpAnyH _ _ _ _ _ _ _ (Act.put _ (some 39) _) _
      try simp only [Act.put, List.setIfInBounds_toArray, List.set_cons_zero, List.set_cons_succ]
      refine wpAnyH_ready (rs := [7]) (by kernel_rfl) (by simp) ?_
      refine AllReadyH.cons (i := 7) rfl (fun K hK => ?_) AllReadyH.nil
      simp only [List.getElem_toArray, List.getElem_cons_succ, List.getElem_cons_zero]
      rw [if_pos (by rfl)]
      go_simp
      (go_at_call 72; refine (CM2.out _).mono ?_; rintro e' w1 ⟨rfl, hb1⟩; have hkc1 := keeps_cells hb1; go_wp2_with fail)
      have hOld := hHeld
      clear hHeld
      refine hK.out _ _ ?_ (fun hHeld => ?_)
      · (try dsimp only); simp [*]
      clear hK K hOld
      try simp only [Act.put, List.setIfInBounds_toArray, List.set_cons_zero, List.set_cons_succ]
      refine wpAnyH_take (i := 8) (v := ?_) rfl (by kernel_rfl) (by kernel_rfl) (by kernel_rfl) (fun _ _ _ h => h) (Or.inl ⟨by rfl, ?_⟩) (by assumption) ?_
      rotate_left
      · (intro w' hSw; (try dsimp only at hSw); go_simp; try (with_reducible rfl))
      change wpAnyH _ _ _ _ _ _ _ (Act.put _ (some 41) _) _
      try simp only [Act.put, List.setIfInBounds_toArray, List.set_cons_zero, List.set_cons_succ]
      refine wpAnyH_done (by kernel_rfl) ?_ _
      clear hHeld
      replace a3 := keeps_cells hb1 _ _ a3
      replace a4 := keeps_cells hb1 _ _ a4
      go_wp2_with fail
      refine wp_region_held_drew (S := fun w' => w'.cell? ⟨g, i * 5 + 4, none⟩ = some (.string t4)) (by kernel_rfl) ?_ (fun hHeld => ?_)
      · simp [*]
      refine wpAnyH_take (i := 0) (v := ?_) rfl (by kernel_rfl) (by kernel_rfl) (by kernel_rfl) (fun _ _ _ h => h) (Or.inl ⟨by rfl, ?_⟩) (by assumption) ?_
      rotate_left
      · (intro w' hSw; (try dsimp only at hSw); go_simp; try (with_reducible rfl))
      change wpAnyH _ _ _ _ _ _ _ (Act.put _ (some 54) _) _
      try simp only [Act.put, List.setIfInBounds_toArray, List.set_cons_zero, List.set_cons_succ]
      refine wpAnyH_take (i := 1) (v := ?_) rfl (by kernel_rfl) (by kernel_rfl) (by kernel_rfl) (fun _ _ _ h => h) (Or.inl ⟨by rfl, ?_⟩) (by assumption) ?_
      rotate_left
      · (intro w' hSw; (try dsimp only at hSw); go_simp; try (with_reducible rfl))
      change wpAnyH _ _ _ _ _ _ _ (Act.put _ (some 55) _) _
      try simp only [Act.put, List.setIfInBounds_toArray, List.set_cons_zero, List.set_cons_succ]
      refine wpAnyH_take (i := 2) (v := ?_) rfl (by kernel_rfl) (by kernel_rfl) (by kernel_rfl) (fun _ _ _ h => h) (Or.inl ⟨by rfl, ?_⟩) (by assumption) ?_
      rotate_left
      · (intro w' hSw; (try dsimp only at hSw); go_simp; try (with_reducible rfl))
      change wpAnyH _ _ _ _ _ _ _ (Act.put _ (some 56) _) _
      try simp only [Act.put, List.setIfInBounds_toArray, List.set_cons_zero, List.set_cons_succ]
      refine wpAnyH_take (i := 3) (v := ?_) rfl (by kernel_rfl) (by kernel_rfl) (by kernel_rfl) (fun _ _ _ h => h) (Or.inl ⟨by rfl, ?_⟩) (by assumption) ?_
      rotate_left
      · (intro w' hSw; (try dsimp only at hSw); go_simp; try (with_reducible rfl))
      change wpAnyH _ _ _ _ _ _ _ (Act.put _ (some 57) _) _
      try simp only [Act.put, List.setIfInBounds_toArray, List.set_cons_zero, List.set_cons_succ]
      refine wpAnyH_take (i := 4) (v := ?_) rfl (by kernel_rfl) (by kernel_rfl) (by kernel_rfl) (fun _ _ _ h => h) (Or.inl ⟨by rfl, ?_⟩) (by assumption) ?_
      rotate_left
      · (intro w' hSw; (try dsimp only at hSw); go_simp; try (with_reducible rfl))
      change wpAnyH _ _ _ _ _ _ _ (Act.put _ (some 58) _) _
      try simp only [Act.put, List.setIfInBounds_toArray, List.set_cons_zero, List.set_cons_succ]
      refine wpAnyH_take (i := 5) (v := ?_) rfl (by kernel_rfl) (by kernel_rfl) (by kernel_rfl) (fun _ _ _ h => h) (Or.inl ⟨by rfl, ?_⟩) (by assumption) ?_
      rotate_left
      · (intro w' hSw; (try dsimp only at hSw); go_simp; try (with_reducible rfl))
      change wpAnyH _ _ _ _ _ _ _ (Act.put _ (some 59) _) _
      try simp only [Act.put, List.setIfInBounds_toArray, List.set_cons_zero, List.set_cons_succ]
      refine wpAnyH_ready (rs := [6]) (by kernel_rfl) (by simp) ?_
      refine AllReadyH.cons (i := 6) rfl (fun K hK => ?_) AllReadyH.nil
      simp only [List.getElem_toArray, List.getElem_cons_succ, List.getElem_cons_zero]
      rw [if_pos (by rfl)]
      go_simp
      (go_at_call 72; refine (CM4.out _).mono ?_; rintro e' w2 ⟨rfl, hb2⟩; have hkc2 := keeps_cells hb2; go_wp2_with fail)
      have hOld := hHeld
      clear hHeld
      refine hK.out _ _ ?_ (fun hHeld => ?_)
      · (try dsimp only); simp [*]
      clear hK K hOld
      try simp only [Act.put, List.setIfInBounds_toArray, List.set_cons_zero, List.set_cons_succ]
      refine wpAnyH_take (i := 7) (v := ?_) rfl (by kernel_rfl) (by kernel_rfl) (by kernel_rfl) (fun _ _ _ h => h) (Or.inl ⟨by rfl, ?_⟩) (by assumption) ?_
      rotate_left
      · (intro w' hSw; (try dsimp only at hSw); go_simp; try (with_reducible rfl))
      change wpAnyH _ _ _ _ _ _ _ (Act.put _ (some 61) _) _
      try simp only [Act.put, List.setIfInBounds_toArray, List.set_cons_zero, List.set_cons_succ]
      refine wpAnyH_done (by kernel_rfl) ?_ _
      clear hHeld
      go_wp2
      go_roundw
      case rel => exact ⟨i + 1, m + 5, by omega, by go_num, hid (by rw [HM.out]; omega), by go_num, by repeat' (first | (with_reducible exact hb) | (with_reducible refine ext_trans ?_ hb2) | (with_reducible refine ext_trans ?_ hb1) | (with_reducible refine Below.drew ?_))⟩
      case measure => simp [intOf]; omega
    · obtain rfl : i = n := by omega
      have hi1 : ¬ (i : Int) < (i : Int) := by omega
      go_wp2
      go_ret
      refine ⟨?_, hb⟩
      have hmm := HM.out
      have e1 : ((k : Int) + (i : Int) * 5) = (m : Int) := by omega
      rw [e1]
      rfl
set_option maxHeartbeats 1000000 in
theorem heldVals0 (a : Option Addr) (c k : Nat) (w : World) (hk : k ≤ 100000000) :
    Calls Tryd.prog 49 #[.slice a 0 c, .int .i64 (k : Int)] w fun e' w' => e' = .returned (.int .i64 (k : Int)) ∧ w = w' := by
  go_enter Tryd.func49, Tryd.ntmps49
  go_wp2
  go_loopw [1, 5] (fun kv iv wr => kv = .int .i64 (k : Int) ∧ iv = .int .i64 0 ∧ w = wr) (fun _ _ _ => 0)
  case atStart => exact ⟨rfl, rfl, rfl⟩
  case round =>
    obtain ⟨rfl, rfl, rfl⟩ := hrel
    go_wp2
    go_ret
    exact ⟨rfl, by first | rfl | trivial⟩
end Go.Proofs.YtenfpfjpcpmhiaaDoor
