/-
  What is proved here: the text of a node in impl. The condition 'PT' says that the library's table of powers of ten lies in the world.
-/
import Derived.Test.YtomcoilmpkpoeaaGreatDoorQRxTI3
import Derived.Test.YtomcoilmpkpoeaaGreatDoorQShelfB
import Derived.Lib.Join
namespace Go.Proofs.YtomcoilmpkpoeaaGreatDoor
open Go.RowKit
set_option linter.unusedVariables false
set_option linter.unusedSimpArgs false

/-- a row of strings, filled so far -/
def strRow (n : Nat) (S : List ByteArray) : List Value := (S.map fun s : ByteArray => Value.string s) ++ List.replicate (n - S.length) (Value.string ⟨#[]⟩)
theorem strRow_get {n m : Nat} {S : List ByteArray} (h : m < S.length) : (strRow n S)[m]? = some (.string S[m]) := by
  unfold strRow
  rw [List.getElem?_append_left (by simpa using h), List.getElem?_map, List.getElem?_eq_getElem h]
  rfl
theorem strRow_zero {n : Nat} {S : List ByteArray} (h : S.length < n) : (strRow n S)[S.length]? = some (.string ⟨#[]⟩) := by
  unfold strRow
  rw [List.getElem?_append_right (by simp), List.length_map, Nat.sub_self, List.getElem?_replicate, if_pos (by omega)]
theorem strRow_set {n : Nat} {S : List ByteArray} (x : ByteArray) (h : S.length < n) : (strRow n S).set S.length (.string x) = strRow n (S ++ [x]) := by
  unfold strRow
  rw [List.set_append_right _ _ (by simp), List.length_map, Nat.sub_self, show n - S.length = (n - (S.length + 1)) + 1 by omega, List.replicate_succ, List.set_cons_zero, List.map_append, List.length_append]
  simp
theorem strRow_nil (n : Nat) : strRow n [] = List.replicate n (.string ⟨#[]⟩) := by simp [strRow]
theorem made_strs (w : World) (n : Nat) (e : TypeId) : (w.alloc (.cells (madeCells #[.string ⟨#[]⟩] n) e)).heap[w.heap.size]? = some (.cells (strRow n []).toArray e (0, 0)) := by
  rw [strRow_nil, toList_madeCells1]
  exact heap_alloc_new w _
theorem joinB_lib (sep : List UInt8) : ∀ xs : List (List UInt8), joinB sep xs = Lib.join xs sep
  | [] => rfl
  | [a] => (Lib.join_one a sep).symm
  | a :: b :: r => by
    rw [joinB, joinB_lib sep (b :: r), Lib.join_cons, Lib.join_cons]
    simp [Lib.joinTail]
/-- ints of a new block -/
theorem rd_new_ints (w : World) (ks : List Int) (t : TypeId) (h : ∀ k ∈ ks, -9223372036854775808 ≤ k ∧ k ≤ 9223372036854775807) (hl : ks.length ≤ 1000) :
    Rd.rd (Old (w.alloc (.cells (ks.map fun k => Value.int .i64 k).toArray t))) (w.alloc (.cells (ks.map fun k => Value.int .i64 k).toArray t)) [.slice (some ⟨w.heap.size, 0, none⟩) ks.length ks.length] ks := by
  refine ⟨_, _, rfl, Nat.le_refl _, by omega, fun h0 => ⟨w.heap.size, 0, rfl, by show _ < _; simp, fun i hi => ⟨[.int .i64 ks[i]], fun j hj => ?_, rfl, h _ (List.getElem_mem hi)⟩⟩⟩
  obtain rfl : j = 0 := by have : j < 1 := hj; omega
  have hg := heap_alloc_new w (.cells (ks.map fun k => Value.int .i64 k).toArray t)
  rw [cell_of_block hg, show 0 + i * Rd.n Int + 0 = i from by show 0 + i * 1 + 0 = i; omega, List.getElem?_map, List.getElem?_eq_getElem hi]
  rfl
theorem ext_cellT {w : World} {o : Obj} {b j : Nat} {u : Value} (hb : b < w.heap.size) (h : w.cell? ⟨b, j, none⟩ = some u) : (w.alloc o).cell? ⟨b, j, none⟩ = some u := (World.cell?_alloc_lt _ _ _ hb).trans h
def NodeRes (kinds : List Int) (ts : List ByteArray) (n : RxNode) (w : World) (e : Ending) (w' : World) : Prop :=
  ∃ (s : ByteArray) (ok : Bool), e = .returned (.tuple #[.string s, .bool ok]) ∧ s.size ≤ 4000000000 ∧ (if ok = true ∧ s.size ≤ 1000 then some s else none) = stepT kinds ts n ∧ Below w.heap.size w w'
theorem step_some {kinds : List Int} {ts : List ByteArray} {n : RxNode} {t : List UInt8} {s : ByteArray} (h : nodeT kinds ts n = some t) (hs : s.data.toList = t) : (if true = true ∧ s.size ≤ 1000 then some s else none) = stepT kinds ts n := by
  have hsz : s.size = t.length := by rw [Lib.size_eq, hs]
  have hm : mkB t = s := by rw [← hs, mkB_of]
  unfold stepT
  rw [h]
  dsimp only
  by_cases hl : t.length ≤ 1000
  · have h1 : true = true ∧ s.size ≤ 1000 := ⟨rfl, by rw [hsz]; exact hl⟩
    rw [if_pos h1, if_pos hl, hm]
  · have h1 : ¬ (true = true ∧ s.size ≤ 1000) := fun hc => hl (by rw [← hsz]; exact hc.2)
    rw [if_neg h1, if_neg hl]
theorem step_none {kinds : List Int} {ts : List ByteArray} {n : RxNode} {s : ByteArray} (h : nodeT kinds ts n = none) : (if false = true ∧ s.size ≤ 1000 then some s else none) = stepT kinds ts n := by
  unfold stepT
  rw [h]
  simp
theorem step_long {kinds : List Int} {ts : List ByteArray} {n : RxNode} {t : List UInt8} {s : ByteArray} (h : nodeT kinds ts n = some t) (hl : 1000 < t.length) : (if false = true ∧ s.size ≤ 1000 then some s else none) = stepT kinds ts n := by
  unfold stepT
  rw [h]
  have h1 : ¬ t.length ≤ 1000 := by omega
  dsimp only
  rw [if_neg h1]
  simp
theorem kinds_get {ns : List RxNode} {k : Nat} (h : k < ns.length) : (kindsOf ns).getD k 0 = ns[k].kind := by
  unfold kindsOf
  rw [List.getD_eq_getElem?_getD, List.getElem?_map, List.getElem?_eq_getElem h]
  rfl
theorem ts_get {ts : List ByteArray} {k : Nat} (h : k < ts.length) : ts.getD k ⟨#[]⟩ = ts[k] := by
  rw [List.getD_eq_getElem?_getD, List.getElem?_eq_getElem h]
  rfl
theorem kidT_at {ns : List RxNode} {ts : List ByteArray} {ks : List Int} {k : Nat} (h1 : k < ns.length) (h2 : k < ts.length) : kidT ks (kindsOf ns) ts (k : Int) = kidP ks ns[k].kind ts[k].data.toList := by
  unfold kidT
  rw [Int.toNat_natCast, kinds_get h1, ts_get h2]
theorem spChar_low : ∀ b ∈ (⟨#[92, 94, 36, 46, 91, 124, 40, 41, 42, 43, 63, 123]⟩ : ByteArray).data.toList, b.toNat < 128 := by decide
theorem info_strN : (Tryz.prog.info? 9).map (fun i => (i.zero, i.size, i.bytes)) = some (some (.string ⟨#[]⟩), 1, 16) := by kernel_rfl
set_option maxHeartbeats 16000000 in
set_option maxRecDepth 100000 in
theorem implNodeText {na : Option Addr} {nc tb tm tc : Nat} {ns : List RxNode} {ts : List ByteArray} {n : RxNode} {sa ka : Option Addr} {sc kc : Nat} (w : World) (hP : PT w)
    (hn : Rd.rd (Old w) w [.slice na ns.length nc] ns) (htb : tb < w.heap.size) (ht : ∀ k (hk : k < ts.length), w.cell? ⟨tb, k, none⟩ = some (.string ts[k])) (htl : ts.length ≤ ns.length) (htm : ts.length ≤ tm) (hts : ∀ t ∈ ts, t.size ≤ 1000)
    (hx : Rd.rd (Old w) w [.int .i64 n.kind, .int .i64 n.lo, .int .i64 n.hi, .bool n.neg, .slice sa n.set.length sc, .slice ka n.kids.length kc] n) (hkid : ∀ k ∈ n.kids, 0 ≤ k ∧ k < (ts.length : Int)) (hkl : n.kids.length ≤ 1048576) (htm2 : tm ≤ 2000000) :
    Calls Tryz.prog 120 #[.agg #[.slice na ns.length nc], .slice (some ⟨tb, 0, none⟩) tm tc, .agg #[.int .i64 n.kind, .int .i64 n.lo, .int .i64 n.hi, .bool n.neg, .slice sa n.set.length sc, .slice ka n.kids.length kc]] w (NodeRes (kindsOf ns) ts n w) := by
  obtain ⟨us, uk, hcs, b0, b1, b2, hset, hkids⟩ := rdNode hx
  simp only [List.cons.injEq, and_true, true_and] at hcs
  obtain ⟨rfl, rfl⟩ := hcs
  have HN := hid (fun (ok : Bool) (s : ByteArray) (w' : World) (h1 : s.size ≤ 4000000000) (h2 : (if ok = true ∧ s.size ≤ 1000 then some s else none) = stepT (kindsOf ns) ts n) (h4 : Below w.heap.size w w') => (show NodeRes (kindsOf ns) ts n w (.returned (.tuple #[.string s, .bool ok])) w' from ⟨s, ok, rfl, h1, h2, h4⟩))
  have e0 : (w.alloc (.cells #[.slice na ns.length nc] 29)).heap.size = w.heap.size + 1 := by simp
  have e1 : ((w.alloc (.cells #[.slice na ns.length nc] 29)).alloc (.cells #[.int .i64 n.kind, .int .i64 n.lo, .int .i64 n.hi, .bool n.neg, .slice sa n.set.length sc, .slice ka n.kids.length kc] 82)).heap.size = w.heap.size + 1 + 1 := by simp
  have hW1 : ((w.alloc (.cells #[.slice na ns.length nc] 29)).alloc (.cells #[.int .i64 n.kind, .int .i64 n.lo, .int .i64 n.hi, .bool n.neg, .slice sa n.set.length sc, .slice ka n.kids.length kc] 82)).heap[w.heap.size]? = some (.cells #[.slice na ns.length nc] 29) := ((ext_alloc (w.alloc (.cells #[.slice na ns.length nc] 29)) (.cells #[.int .i64 n.kind, .int .i64 n.lo, .int .i64 n.hi, .bool n.neg, .slice sa n.set.length sc, .slice ka n.kids.length kc] 82)).block w.heap.size (by rw [e0]; exact Nat.lt_succ_self _)).trans (heap_alloc_new w _)
  have hW2 : ((w.alloc (.cells #[.slice na ns.length nc] 29)).alloc (.cells #[.int .i64 n.kind, .int .i64 n.lo, .int .i64 n.hi, .bool n.neg, .slice sa n.set.length sc, .slice ka n.kids.length kc] 82)).heap[w.heap.size + 1]? = some (.cells #[.int .i64 n.kind, .int .i64 n.lo, .int .i64 n.hi, .bool n.neg, .slice sa n.set.length sc, .slice ka n.kids.length kc] 82) := by
    have h := heap_alloc_new (w.alloc (.cells #[.slice na ns.length nc] 29)) (.cells #[.int .i64 n.kind, .int .i64 n.lo, .int .i64 n.hi, .bool n.neg, .slice sa n.set.length sc, .slice ka n.kids.length kc] 82)
    rw [e0] at h
    exact h
  have hWb : Below w.heap.size w ((w.alloc (.cells #[.slice na ns.length nc] 29)).alloc (.cells #[.int .i64 n.kind, .int .i64 n.lo, .int .i64 n.hi, .bool n.neg, .slice sa n.set.length sc, .slice ka n.kids.length kc] 82)) := ext_trans (ext_alloc _ _) (ext_alloc _ _)
  have HB1 := hid (fun (w' : World) (hb : Below (w.heap.size + 1 + 1) ((w.alloc (.cells #[.slice na ns.length nc] 29)).alloc (.cells #[.int .i64 n.kind, .int .i64 n.lo, .int .i64 n.hi, .bool n.neg, .slice sa n.set.length sc, .slice ka n.kids.length kc] 82)) w') => (show w'.cell? ⟨w.heap.size, 0, none⟩ = some (.slice na ns.length nc) from cell_of_row _ _ 0 _ _ _ ((hb.block w.heap.size (by omega)).trans hW1)))
  have HB2 := hid (fun (w' : World) (hb : Below (w.heap.size + 1 + 1) ((w.alloc (.cells #[.slice na ns.length nc] 29)).alloc (.cells #[.int .i64 n.kind, .int .i64 n.lo, .int .i64 n.hi, .bool n.neg, .slice sa n.set.length sc, .slice ka n.kids.length kc] 82)) w') => (blk6c ((hb.block (w.heap.size + 1) (Nat.lt_succ_self _)).trans hW2)).1)
  have HBW := hid (fun (w' : World) (hb : Below (w.heap.size + 1 + 1) ((w.alloc (.cells #[.slice na ns.length nc] 29)).alloc (.cells #[.int .i64 n.kind, .int .i64 n.lo, .int .i64 n.hi, .bool n.neg, .slice sa n.set.length sc, .slice ka n.kids.length kc] 82)) w') => hWb.trans (hb.mono (by omega)))
  have HSZ := hid (fun (w' : World) (hb : Below (w.heap.size + 1 + 1) ((w.alloc (.cells #[.slice na ns.length nc] 29)).alloc (.cells #[.int .i64 n.kind, .int .i64 n.lo, .int .i64 n.hi, .bool n.neg, .slice sa n.set.length sc, .slice ka n.kids.length kc] 82)) w') => (show w.heap.size + 1 + 1 ≤ w'.heap.size from by have := hb.size; rw [e1] at this; exact this))
  clear hW1 hW2 hWb
  have hb0 := Below.refl (w.heap.size + 1 + 1) ((w.alloc (.cells #[.slice na ns.length nc] 29)).alloc (.cells #[.int .i64 n.kind, .int .i64 n.lo, .int .i64 n.hi, .bool n.neg, .slice sa n.set.length sc, .slice ka n.kids.length kc] 82))
  have y0 := HB1.out _ hb0
  obtain ⟨z0, z1, z2, z3, z4, z5⟩ := HB2.out _ hb0
  have HT := hid ht
  have HTS := hid hts
  have HKID := hid hkid
  clear ht hts hkid
  by_cases p1 : n.kind = 1
  · skip
    rw [p1] at hb0 HB2 HBW HSZ HB1 z0 z1 z2 z3 z4 z5 y0 ⊢
    have HS := hid (show nodeT (kindsOf ns) ts n = some [] by unfold nodeT; rw [p1]; rfl)
    clear p1
    go_enter Tryz.func120, Tryz.ntmps120
    go_wp2
    go_ret2
    exact HN.out true _ _ (by decide) (step_some HS.out rfl) (HBW.out _ hb0)
  by_cases p2 : n.kind = 2
  · skip
    rw [p2] at hb0 HB2 HBW HSZ HB1 z0 z1 z2 z3 z4 z5 y0 ⊢
    obtain ⟨q, hq⟩ : ∃ q, ptB n.lo = q := ⟨_, rfl⟩
    have CP := hid (fun w => implPoint n.lo w)
    rw [hq] at CP
    have HPT := hid hq
    have HS := hid (show nodeT (kindsOf ns) ts n = if q = true then some (charP spChar n.lo) else none by unfold nodeT; rw [p2, hq]; rfl)
    clear hq p1 p2
    go_enter Tryz.func120, Tryz.ntmps120
    go_wp2_with fail
    refine wp_region_held_drew (S := fun w' => w'.cell? ⟨w.heap.size + 1, 1, none⟩ = some (.int .i64 n.lo)) (by kernel_rfl) ?_ (fun hHeld => ?_)
    · simp [*]
    refine wpAnyH_take (i := 0) (v := ?_) rfl (by kernel_rfl) (by kernel_rfl) (by kernel_rfl) (fun _ _ _ h => h) (Or.inl ⟨by rfl, ?_⟩) (by assumption) ?_
    rotate_left
    · (intro w' hSw; (try dsimp only at hSw); go_simp; try (with_reducible rfl))
    change wpAnyH _ _ _ _ _ _ _ (Act.put _ (some 17) _) _
    try simp only [Act.put, List.setIfInBounds_toArray, List.set_cons_zero, List.set_cons_succ]
    refine wpAnyH_take (i := 1) (v := ?_) rfl (by kernel_rfl) (by kernel_rfl) (by kernel_rfl) (fun _ _ _ h => h) (Or.inl ⟨by rfl, ?_⟩) (by assumption) ?_
    rotate_left
    · (intro w' hSw; (try dsimp only at hSw); go_simp; try (with_reducible rfl))
    change wpAnyH _ _ _ _ _ _ _ (Act.put _ (some 18) _) _
    try simp only [Act.put, List.setIfInBounds_toArray, List.set_cons_zero, List.set_cons_succ]
    refine wpAnyH_take (i := 3) (v := ?_) rfl (by kernel_rfl) (by kernel_rfl) (by kernel_rfl) (fun _ _ _ h => h) (Or.inl ⟨by rfl, ?_⟩) (by assumption) ?_
    rotate_left
    · (intro w' hSw; (try dsimp only at hSw); go_simp; try (with_reducible rfl))
    change wpAnyH _ _ _ _ _ _ _ (Act.put _ (some 20) _) _
    try simp only [Act.put, List.setIfInBounds_toArray, List.set_cons_zero, List.set_cons_succ]
    refine wpAnyH_take (i := 4) (v := ?_) rfl (by kernel_rfl) (by kernel_rfl) (by kernel_rfl) (fun _ _ _ h => h) (Or.inl ⟨by rfl, ?_⟩) (by assumption) ?_
    rotate_left
    · (intro w' hSw; (try dsimp only at hSw); go_simp; try (with_reducible rfl))
    change wpAnyH _ _ _ _ _ _ _ (Act.put _ (some 21) _) _
    try simp only [Act.put, List.setIfInBounds_toArray, List.set_cons_zero, List.set_cons_succ]
    refine wpAnyH_ready (rs := [2]) (by kernel_rfl) (by simp) ?_
    refine AllReadyH.cons (i := 2) rfl (fun K hK => ?_) AllReadyH.nil
    simp only [List.getElem_toArray, List.getElem_cons_succ, List.getElem_cons_zero]
    rw [if_pos (by rfl)]
    go_simp
    (go_at_call 150; refine (implCharText n.lo ⟨#[92, 94, 36, 46, 91, 124, 40, 41, 42, 43, 63, 123]⟩ _ spChar_low (by decide)).mono ?_; rintro e w1 ⟨s1, rfl, hs1, hc1, hb1⟩; have HC1 := hid hc1; clear hc1; have hk1 := keeps_cells hb1; go_wp2_with fail)
    have hOld := hHeld
    clear hHeld
    refine hK.out _ _ ?_ (fun hHeld => ?_)
    · (try dsimp only); simp [*]
    clear hK K hOld
    try simp only [Act.put, List.setIfInBounds_toArray, List.set_cons_zero, List.set_cons_succ]
    refine wpAnyH_ready (rs := [5]) (by kernel_rfl) (by simp) ?_
    refine AllReadyH.cons (i := 5) rfl (fun K hK => ?_) AllReadyH.nil
    simp only [List.getElem_toArray, List.getElem_cons_succ, List.getElem_cons_zero]
    rw [if_pos (by rfl)]
    go_simp
    (go_at_call 151; refine (CP.out _).mono ?_; rintro e w2 ⟨rfl, rfl⟩; go_wp2_with fail)
    have hOld := hHeld
    clear hHeld
    refine hK.out _ _ ?_ (fun hHeld => ?_)
    · (try dsimp only); simp [*]
    clear hK K hOld
    try simp only [Act.put, List.setIfInBounds_toArray, List.set_cons_zero, List.set_cons_succ]
    refine wpAnyH_take (i := 6) (v := ?_) rfl (by kernel_rfl) (by kernel_rfl) (by kernel_rfl) (fun _ _ _ h => h) (Or.inl ⟨by rfl, ?_⟩) (by assumption) ?_
    rotate_left
    · (intro w' hSw; (try dsimp only at hSw); go_simp; try (with_reducible rfl))
    change wpAnyH _ _ _ _ _ _ _ (Act.put _ (some 6) _) _
    try simp only [Act.put, List.setIfInBounds_toArray, List.set_cons_zero, List.set_cons_succ]
    refine wpAnyH_take (i := 7) (v := ?_) rfl (by kernel_rfl) (by kernel_rfl) (by kernel_rfl) (fun _ _ _ h => h) (Or.inl ⟨by rfl, ?_⟩) (by assumption) ?_
    rotate_left
    · (intro w' hSw; (try dsimp only at hSw); go_simp; try (with_reducible rfl))
    change wpAnyH _ _ _ _ _ _ _ (Act.put _ (some 7) _) _
    try simp only [Act.put, List.setIfInBounds_toArray, List.set_cons_zero, List.set_cons_succ]
    refine wpAnyH_done (by kernel_rfl) ?_ _
    have hB1 : Below w.heap.size w w1 := by repeat' (first | (with_reducible exact HBW.out _ hb0) | (with_reducible refine ext_trans ?_ hb1) | (with_reducible refine Below.drew ?_))
    go_wp2
    go_ret2
    cases q with
    | true => exact HN.out true _ _ (by omega) (step_some HS.out (HC1.out HPT.out)) hB1
    | false => exact HN.out false _ _ (by omega) (step_none HS.out) hB1
  by_cases p3 : n.kind = 3
  · skip
    rw [p3] at hb0 HB2 HBW HSZ HB1 z0 z1 z2 z3 z4 z5 y0 ⊢
    have HS := hid (show nodeT (kindsOf ns) ts n = some [46] by unfold nodeT; rw [p3]; rfl)
    clear p1 p2 p3
    go_enter Tryz.func120, Tryz.ntmps120
    go_wp2
    go_ret2
    exact HN.out true _ _ (by decide) (step_some HS.out rfl) (HBW.out _ hb0)
  by_cases p5 : n.kind = 5
  · skip
    rw [p5] at hb0 HB2 HBW HSZ HB1 z0 z1 z2 z3 z4 z5 y0 ⊢
    have HS := hid (show nodeT (kindsOf ns) ts n = some [94] by unfold nodeT; rw [p5]; rfl)
    clear p1 p2 p3 p5
    go_enter Tryz.func120, Tryz.ntmps120
    go_wp2
    go_ret2
    exact HN.out true _ _ (by decide) (step_some HS.out rfl) (HBW.out _ hb0)
  by_cases p6 : n.kind = 6
  · skip
    rw [p6] at hb0 HB2 HBW HSZ HB1 z0 z1 z2 z3 z4 z5 y0 ⊢
    have HS := hid (show nodeT (kindsOf ns) ts n = some [36] by unfold nodeT; rw [p6]; rfl)
    clear p1 p2 p3 p5 p6
    go_enter Tryz.func120, Tryz.ntmps120
    go_wp2
    go_ret2
    exact HN.out true _ _ (by decide) (step_some HS.out rfl) (HBW.out _ hb0)
  by_cases p4 : n.kind = 4
  · skip
    rw [p4] at hb0 HB2 HBW HSZ HB1 z0 z1 z2 z3 z4 z5 y0 ⊢
    have HS := hid (show nodeT (kindsOf ns) ts n = setT n by unfold nodeT; rw [p4]; rfl)
    have CS := hid (fun (W : World) (hb : Below w.heap.size w W) => (by
      have h := implSetText (n := n) (uk := .slice ka n.kids.length kc) W (Rd.later hb hset) rfl ⟨_, _, _, rfl⟩
      rw [p4] at h
      exact h : Calls Tryz.prog 152 #[.agg #[.int .i64 4, .int .i64 n.lo, .int .i64 n.hi, .bool n.neg, .slice sa n.set.length sc, .slice ka n.kids.length kc]] W (SetRes n W)))
    clear p1 p2 p3 p5 p6 p4
    go_enter Tryz.func120, Tryz.ntmps120
    go_wp2_with fail
    refine (CS.out _ (HBW.out _ hb0)).mono ?_
    rintro e w1 ⟨s1, ok, rfl, hs1, ho, hc1, hb1⟩
    have HO := hid ho
    have HC := hid hc1
    clear ho hc1
    go_wp2
    go_ret2
    refine HN.out ok _ _ (by omega) ?_ (ext_trans (HBW.out _ hb0) hb1)
    have hS := HS.out
    unfold setT at hS
    cases ok with
    | true =>
      obtain ⟨g1, g2⟩ := HO.out.1 rfl
      rw [if_neg (by rw [g1]; decide)] at hS
      exact step_some hS (HC.out rfl)
    | false =>
      by_cases hbad : setBad n = true
      · rw [if_pos hbad] at hS
        exact step_none hS
      · rw [if_neg hbad] at hS
        have hlong : ¬ n.set.length ≤ 2000 := fun h => by
          have := HO.out.2 ⟨by simpa using hbad, h⟩
          cases this
        have hge := setBody_ge n.set
        have ho : 1 ≤ (setOpen n.neg).length := by cases n.neg <;> decide
        exact step_long hS (by rw [List.length_append, List.length_append]; simp only [List.length_cons, List.length_nil]; omega)
  by_cases p7 : n.kind = 7
  · skip
    rw [p7] at hb0 HB2 HBW HSZ HB1 z0 z1 z2 z3 z4 z5 y0 ⊢
    have HS := hid (show nodeT (kindsOf ns) ts n = some (joinB [] (n.kids.map (kidT [7, 8, 1] (kindsOf ns) ts))) by unfold nodeT; rw [p7]; rfl)
    have HLEN := hid (show (joinB [] (n.kids.map (kidT [7, 8, 1] (kindsOf ns) ts))).length ≤ 1051721728 from by
      have h := joinB_len [] (by decide) (n.kids.map (kidT [7, 8, 1] (kindsOf ns) ts)) (fun x hx => by
        obtain ⟨k, _, rfl⟩ := List.mem_map.1 hx
        exact kidT_len [7, 8, 1] (kindsOf ns) ts k HTS.out)
      rw [List.length_map] at h
      have : n.kids.length * 1003 ≤ 1048576 * 1003 := Nat.mul_le_mul_right _ hkl
      omega)
    have hmk := run_make_row' (P := Tryz.prog) 90 9 _ 16 Tryz.underlying90 info_strN rfl .i64 .i64 n.kids.length (by omega) (by omega)
    obtain ⟨ka', kcap', hkv, hk1, hk2, hKF⟩ := rdIntsL hkids
    obtain ⟨rfl, rfl⟩ : ka = ka' ∧ kc = kcap' := by simpa using hkv
    clear hkv p1 p2 p3 p5 p6 p4 p7
    go_enter Tryz.func120, Tryz.ntmps120
    go_wp2
    clear hmk
    have e1' : ((w.alloc (.cells #[.slice na ns.length nc] 29)).alloc (.cells #[.int .i64 7, .int .i64 n.lo, .int .i64 n.hi, .bool n.neg, .slice sa n.set.length sc, .slice ka n.kids.length kc] 82)).heap.size = w.heap.size + 1 + 1 := by simp
    have hB1 : Below (w.heap.size + 1 + 1) ((w.alloc (.cells #[.slice na ns.length nc] 29)).alloc (.cells #[.int .i64 7, .int .i64 n.lo, .int .i64 n.hi, .bool n.neg, .slice sa n.set.length sc, .slice ka n.kids.length kc] 82)) (((w.alloc (.cells #[.slice na ns.length nc] 29)).alloc (.cells #[.int .i64 7, .int .i64 n.lo, .int .i64 n.hi, .bool n.neg, .slice sa n.set.length sc, .slice ka n.kids.length kc] 82)).alloc (.cells (madeCells #[.string ⟨#[]⟩] n.kids.length) 9)) := by rw [← e1']; exact ext_alloc _ _
    go_loopw [45] (fun i wr => ∃ (j : Nat), j ≤ n.kids.length ∧ i = .int .i64 (j : Int) ∧ wr.heap[w.heap.size + 1 + 1]? = some (.cells (strRow n.kids.length ((n.kids.take j).map fun k => mkB (kidT [7, 8, 1] (kindsOf ns) ts k))).toArray 9 (0, 0)) ∧ Below (w.heap.size + 1 + 1) ((w.alloc (.cells #[.slice na ns.length nc] 29)).alloc (.cells #[.int .i64 7, .int .i64 n.lo, .int .i64 n.hi, .bool n.neg, .slice sa n.set.length sc, .slice ka n.kids.length kc] 82)) wr) (fun i _ => n.kids.length - (intOf i).toNat)
    case atStart => exact ⟨0, Nat.zero_le _, rfl, by have h := made_strs ((w.alloc (.cells #[.slice na ns.length nc] 29)).alloc (.cells #[.int .i64 7, .int .i64 n.lo, .int .i64 n.hi, .bool n.neg, .slice sa n.set.length sc, .slice ka n.kids.length kc] 82)) n.kids.length 9; rw [e1'] at h; exact h, hB1⟩
    case round =>
      obtain ⟨j, hj, rfl, hrow, hB⟩ := hrel
      clear z0 z1 z2 z3 z4 z5 y0
      have y0 := HB1.out _ hB
      obtain ⟨z0, z1, z2, z3, z4, z5⟩ := HB2.out _ hB
      have hBw := HBW.out _ hB
      have hsr := HSZ.out _ hB
      have hprl : w.heap.size + 1 + 1 < wr.heap.size := (Array.getElem?_eq_some_iff.1 hrow).1
      by_cases hlt : j < n.kids.length
      · obtain ⟨b, off, rfl, hBk, hcell⟩ := hKF (by omega)
        have t0 : wr.cell? ⟨b, off + j, none⟩ = some (.int .i64 n.kids[j]) := (hBw.cell (p := ⟨b, off + j, none⟩) hBk).trans (hcell j hlt).1
        have hkj := HKID.out n.kids[j] (List.getElem_mem hlt)
        obtain ⟨kn, hkn⟩ : ∃ kn : Nat, (kn : Int) = n.kids[j] := ⟨n.kids[j].toNat, by omega⟩
        have HKN := hid hkn
        rw [← hkn] at t0 hkj
        have hk3 : kn < ts.length := by omega
        have hk4 : kn < ns.length := by omega
        have hk5 : kn < tm := by omega
        have tk : wr.cell? ⟨tb, kn, none⟩ = some (.string ts[kn]) := (hBw.cell (p := ⟨tb, kn, none⟩) htb).trans (HT.out kn hk3)
        have hsz := HTS.out ts[kn] (List.getElem_mem hk3)
        have HKT := hid (kidT_at (ks := [7, 8, 1]) hk4 hk3)
        have CK := hid (implKidText (tc := tc) (m := tm) (ks := [7, 8, 1]) (t := ts[kn]) (wr.alloc (.cells #[.int .i64 7, .int .i64 8, .int .i64 1] 3)) (Rd.later (ext_trans hBw (ext_alloc _ _)) hn) hk4 hk5 (((ext_alloc wr _).cell (p := ⟨tb, kn, none⟩) (by have := hBw.size; show tb < _; omega)).trans tk) (rd_new_ints wr [7, 8, 1] 3 (by decide) (by decide)) hsz)
        rw [← HKT.out] at CK
        obtain ⟨KT, hKT⟩ : ∃ z, mkB (kidT [7, 8, 1] (kindsOf ns) ts (kn : Int)) = z := ⟨_, rfl⟩
        rw [hKT] at CK
        have hki : (j : Int) < (n.kids.length : Int) := by omega
        have hk0 : (0 : Int) ≤ (j : Int) := by omega
        have HROW := hid hrow
        have hfr : (strRow n.kids.length ((n.kids.take j).map fun k => mkB (kidT [7, 8, 1] (kindsOf ns) ts k)))[j]? = some (.string ⟨#[]⟩) := by
          have h := strRow_zero (n := n.kids.length) (S := (n.kids.take j).map fun k => mkB (kidT [7, 8, 1] (kindsOf ns) ts k)) (by rw [List.length_map, List.length_take]; omega)
          rw [List.length_map, List.length_take, Nat.min_eq_left hj] at h
          exact h
        have c0 : wr.cell? ⟨w.heap.size + 1 + 1, j, none⟩ = some (.string ⟨#[]⟩) := cell_row hrow hfr
        have f0 : wr.frozen? ⟨w.heap.size + 1 + 1, j, none⟩ = false := frozen_of_row wr _ j _ _ hrow
        have HNEXT := hid (show (strRow n.kids.length ((n.kids.take j).map fun k => mkB (kidT [7, 8, 1] (kindsOf ns) ts k))).set j (.string KT) = strRow n.kids.length ((n.kids.take (j + 1)).map fun k => mkB (kidT [7, 8, 1] (kindsOf ns) ts k)) by
          have h := strRow_set (n := n.kids.length) (S := (n.kids.take j).map fun k => mkB (kidT [7, 8, 1] (kindsOf ns) ts k)) KT (by rw [List.length_map, List.length_take]; omega)
          rw [List.length_map, List.length_take, Nat.min_eq_left hj] at h
          rw [h, List.take_succ_eq_append_getElem hlt, List.map_append, List.map_cons, List.map_nil, ← HKN.out, hKT])
        clear hcell hkn hrow hKT hfr hKF
        go_wp2_with fail
        refine CK.out.mono ?_
        rintro e w2 ⟨rfl, hb2⟩
        have hrow2 := (hb2.block (w.heap.size + 1 + 1) (by simp; omega)).trans (((ext_alloc wr (.cells #[.int .i64 7, .int .i64 8, .int .i64 1] 3)).block (w.heap.size + 1 + 1) hprl).trans HROW.out)
        have HROW2 := hid hrow2
        have c2 : w2.cell? ⟨w.heap.size + 1 + 1, j, none⟩ = some (.string ⟨#[]⟩) := keeps_cells hb2 _ _ (ext_cellT hprl c0)
        have f2 : w2.frozen? ⟨w.heap.size + 1 + 1, j, none⟩ = false := frozen_of_row w2 _ j _ _ hrow2
        clear hrow2 c0 f0
        go_wp2
        go_roundw
        case rel =>
          refine ⟨j + 1, by omega, by go_num, ?_, (hB.trans ((ext_trans (ext_alloc _ _) hb2).mono hsr)).setCell (Nat.le_refl _) _⟩
          rw [← HNEXT.out]
          exact set_row HROW2.out
        case measure => simp [intOf]; omega
      · have hki : ¬ (j : Int) < (n.kids.length : Int) := by omega
        have hje : j = n.kids.length := by omega
        have HFULL := hid (show n.kids.take j = n.kids from List.take_of_length_le (by omega))
        have HROW := hid hrow
        clear hrow hKF
        have CJ : Calls Tryz.prog 154 #[.slice (some ⟨w.heap.size + 1 + 1, 0, none⟩) n.kids.length n.kids.length, .string ⟨#[]⟩] wr fun e w' => e = .returned (.string (mkB (joinB [] (n.kids.map (kidT [7, 8, 1] (kindsOf ns) ts))))) ∧ Below wr.heap.size wr w' := by
          have h := Tryz.strings_Join (w.heap.size + 1 + 1) 0 n.kids.length (n.kids.map fun k => mkB (kidT [7, 8, 1] (kindsOf ns) ts k)) ⟨#[]⟩ wr (fun q x hq => by
            have hql : q < n.kids.length := by
              rcases Nat.lt_or_ge q n.kids.length with h | h
              · exact h
              · rw [List.getElem?_eq_none (by rw [List.length_map]; exact h)] at hq; cases hq
            have hr := HROW.out
            rw [HFULL.out] at hr
            rw [Nat.zero_add]
            refine cell_row hr ?_
            rw [strRow_get (by rw [List.length_map]; exact hql)]
            rw [List.getElem?_eq_getElem (by rw [List.length_map]; exact hql)] at hq
            injection hq with hq
            rw [hq]) hprl (by rw [List.length_map]; omega) (by rw [List.length_map]; exact Nat.le_refl _) (by
            rw [List.map_map]
            have := HLEN.out
            rw [joinB_lib] at this
            exact Nat.le_trans this (by omega))
          rw [List.length_map, List.map_map] at h
          refine h.mono ?_
          rintro e w' ⟨rfl, hb⟩
          exact ⟨end_string (by rw [joinB_lib]; rfl), hb⟩
        have HCJ := hid CJ
        clear CJ hje
        go_wp2_with fail
        refine HCJ.out.mono ?_
        rintro e w3 ⟨rfl, hb3⟩
        go_wp2
        go_ret2
        exact HN.out true _ _ (by rw [mkB_size]; have := HLEN.out; omega) (step_some HS.out rfl) (ext_trans hBw hb3)
  by_cases p8 : n.kind = 8
  · skip
    rw [p8] at hb0 HB2 HBW HSZ HB1 z0 z1 z2 z3 z4 z5 y0 ⊢
    have HS := hid (show nodeT (kindsOf ns) ts n = some (joinB [124] (n.kids.map (kidT [8] (kindsOf ns) ts))) by unfold nodeT; rw [p8]; rfl)
    have HLEN := hid (show (joinB [124] (n.kids.map (kidT [8] (kindsOf ns) ts))).length ≤ 1051721728 from by
      have h := joinB_len [124] (by decide) (n.kids.map (kidT [8] (kindsOf ns) ts)) (fun x hx => by
        obtain ⟨k, _, rfl⟩ := List.mem_map.1 hx
        exact kidT_len [8] (kindsOf ns) ts k HTS.out)
      rw [List.length_map] at h
      have : n.kids.length * 1003 ≤ 1048576 * 1003 := Nat.mul_le_mul_right _ hkl
      omega)
    have hmk := run_make_row' (P := Tryz.prog) 90 9 _ 16 Tryz.underlying90 info_strN rfl .i64 .i64 n.kids.length (by omega) (by omega)
    obtain ⟨ka', kcap', hkv, hk1, hk2, hKF⟩ := rdIntsL hkids
    obtain ⟨rfl, rfl⟩ : ka = ka' ∧ kc = kcap' := by simpa using hkv
    clear hkv p1 p2 p3 p5 p6 p4 p7 p8
    go_enter Tryz.func120, Tryz.ntmps120
    go_wp2
    clear hmk
    have e1' : ((w.alloc (.cells #[.slice na ns.length nc] 29)).alloc (.cells #[.int .i64 8, .int .i64 n.lo, .int .i64 n.hi, .bool n.neg, .slice sa n.set.length sc, .slice ka n.kids.length kc] 82)).heap.size = w.heap.size + 1 + 1 := by simp
    have hB1 : Below (w.heap.size + 1 + 1) ((w.alloc (.cells #[.slice na ns.length nc] 29)).alloc (.cells #[.int .i64 8, .int .i64 n.lo, .int .i64 n.hi, .bool n.neg, .slice sa n.set.length sc, .slice ka n.kids.length kc] 82)) (((w.alloc (.cells #[.slice na ns.length nc] 29)).alloc (.cells #[.int .i64 8, .int .i64 n.lo, .int .i64 n.hi, .bool n.neg, .slice sa n.set.length sc, .slice ka n.kids.length kc] 82)).alloc (.cells (madeCells #[.string ⟨#[]⟩] n.kids.length) 9)) := by rw [← e1']; exact ext_alloc _ _
    go_loopw [45] (fun i wr => ∃ (j : Nat), j ≤ n.kids.length ∧ i = .int .i64 (j : Int) ∧ wr.heap[w.heap.size + 1 + 1]? = some (.cells (strRow n.kids.length ((n.kids.take j).map fun k => mkB (kidT [8] (kindsOf ns) ts k))).toArray 9 (0, 0)) ∧ Below (w.heap.size + 1 + 1) ((w.alloc (.cells #[.slice na ns.length nc] 29)).alloc (.cells #[.int .i64 8, .int .i64 n.lo, .int .i64 n.hi, .bool n.neg, .slice sa n.set.length sc, .slice ka n.kids.length kc] 82)) wr) (fun i _ => n.kids.length - (intOf i).toNat)
    case atStart => exact ⟨0, Nat.zero_le _, rfl, by have h := made_strs ((w.alloc (.cells #[.slice na ns.length nc] 29)).alloc (.cells #[.int .i64 8, .int .i64 n.lo, .int .i64 n.hi, .bool n.neg, .slice sa n.set.length sc, .slice ka n.kids.length kc] 82)) n.kids.length 9; rw [e1'] at h; exact h, hB1⟩
    case round =>
      obtain ⟨j, hj, rfl, hrow, hB⟩ := hrel
      clear z0 z1 z2 z3 z4 z5 y0
      have y0 := HB1.out _ hB
      obtain ⟨z0, z1, z2, z3, z4, z5⟩ := HB2.out _ hB
      have hBw := HBW.out _ hB
      have hsr := HSZ.out _ hB
      have hprl : w.heap.size + 1 + 1 < wr.heap.size := (Array.getElem?_eq_some_iff.1 hrow).1
      by_cases hlt : j < n.kids.length
      · obtain ⟨b, off, rfl, hBk, hcell⟩ := hKF (by omega)
        have t0 : wr.cell? ⟨b, off + j, none⟩ = some (.int .i64 n.kids[j]) := (hBw.cell (p := ⟨b, off + j, none⟩) hBk).trans (hcell j hlt).1
        have hkj := HKID.out n.kids[j] (List.getElem_mem hlt)
        obtain ⟨kn, hkn⟩ : ∃ kn : Nat, (kn : Int) = n.kids[j] := ⟨n.kids[j].toNat, by omega⟩
        have HKN := hid hkn
        rw [← hkn] at t0 hkj
        have hk3 : kn < ts.length := by omega
        have hk4 : kn < ns.length := by omega
        have hk5 : kn < tm := by omega
        have tk : wr.cell? ⟨tb, kn, none⟩ = some (.string ts[kn]) := (hBw.cell (p := ⟨tb, kn, none⟩) htb).trans (HT.out kn hk3)
        have hsz := HTS.out ts[kn] (List.getElem_mem hk3)
        have HKT := hid (kidT_at (ks := [8]) hk4 hk3)
        have CK := hid (implKidText (tc := tc) (m := tm) (ks := [8]) (t := ts[kn]) (wr.alloc (.cells #[.int .i64 8] 3)) (Rd.later (ext_trans hBw (ext_alloc _ _)) hn) hk4 hk5 (((ext_alloc wr _).cell (p := ⟨tb, kn, none⟩) (by have := hBw.size; show tb < _; omega)).trans tk) (rd_new_ints wr [8] 3 (by decide) (by decide)) hsz)
        rw [← HKT.out] at CK
        obtain ⟨KT, hKT⟩ : ∃ z, mkB (kidT [8] (kindsOf ns) ts (kn : Int)) = z := ⟨_, rfl⟩
        rw [hKT] at CK
        have hki : (j : Int) < (n.kids.length : Int) := by omega
        have hk0 : (0 : Int) ≤ (j : Int) := by omega
        have HROW := hid hrow
        have hfr : (strRow n.kids.length ((n.kids.take j).map fun k => mkB (kidT [8] (kindsOf ns) ts k)))[j]? = some (.string ⟨#[]⟩) := by
          have h := strRow_zero (n := n.kids.length) (S := (n.kids.take j).map fun k => mkB (kidT [8] (kindsOf ns) ts k)) (by rw [List.length_map, List.length_take]; omega)
          rw [List.length_map, List.length_take, Nat.min_eq_left hj] at h
          exact h
        have c0 : wr.cell? ⟨w.heap.size + 1 + 1, j, none⟩ = some (.string ⟨#[]⟩) := cell_row hrow hfr
        have f0 : wr.frozen? ⟨w.heap.size + 1 + 1, j, none⟩ = false := frozen_of_row wr _ j _ _ hrow
        have HNEXT := hid (show (strRow n.kids.length ((n.kids.take j).map fun k => mkB (kidT [8] (kindsOf ns) ts k))).set j (.string KT) = strRow n.kids.length ((n.kids.take (j + 1)).map fun k => mkB (kidT [8] (kindsOf ns) ts k)) by
          have h := strRow_set (n := n.kids.length) (S := (n.kids.take j).map fun k => mkB (kidT [8] (kindsOf ns) ts k)) KT (by rw [List.length_map, List.length_take]; omega)
          rw [List.length_map, List.length_take, Nat.min_eq_left hj] at h
          rw [h, List.take_succ_eq_append_getElem hlt, List.map_append, List.map_cons, List.map_nil, ← HKN.out, hKT])
        clear hcell hkn hrow hKT hfr hKF
        go_wp2_with fail
        refine CK.out.mono ?_
        rintro e w2 ⟨rfl, hb2⟩
        have hrow2 := (hb2.block (w.heap.size + 1 + 1) (by simp; omega)).trans (((ext_alloc wr (.cells #[.int .i64 8] 3)).block (w.heap.size + 1 + 1) hprl).trans HROW.out)
        have HROW2 := hid hrow2
        have c2 : w2.cell? ⟨w.heap.size + 1 + 1, j, none⟩ = some (.string ⟨#[]⟩) := keeps_cells hb2 _ _ (ext_cellT hprl c0)
        have f2 : w2.frozen? ⟨w.heap.size + 1 + 1, j, none⟩ = false := frozen_of_row w2 _ j _ _ hrow2
        clear hrow2 c0 f0
        go_wp2
        go_roundw
        case rel =>
          refine ⟨j + 1, by omega, by go_num, ?_, (hB.trans ((ext_trans (ext_alloc _ _) hb2).mono hsr)).setCell (Nat.le_refl _) _⟩
          rw [← HNEXT.out]
          exact set_row HROW2.out
        case measure => simp [intOf]; omega
      · have hki : ¬ (j : Int) < (n.kids.length : Int) := by omega
        have hje : j = n.kids.length := by omega
        have HFULL := hid (show n.kids.take j = n.kids from List.take_of_length_le (by omega))
        have HROW := hid hrow
        clear hrow hKF
        have CJ : Calls Tryz.prog 154 #[.slice (some ⟨w.heap.size + 1 + 1, 0, none⟩) n.kids.length n.kids.length, .string ⟨#[124]⟩] wr fun e w' => e = .returned (.string (mkB (joinB [124] (n.kids.map (kidT [8] (kindsOf ns) ts))))) ∧ Below wr.heap.size wr w' := by
          have h := Tryz.strings_Join (w.heap.size + 1 + 1) 0 n.kids.length (n.kids.map fun k => mkB (kidT [8] (kindsOf ns) ts k)) ⟨#[124]⟩ wr (fun q x hq => by
            have hql : q < n.kids.length := by
              rcases Nat.lt_or_ge q n.kids.length with h | h
              · exact h
              · rw [List.getElem?_eq_none (by rw [List.length_map]; exact h)] at hq; cases hq
            have hr := HROW.out
            rw [HFULL.out] at hr
            rw [Nat.zero_add]
            refine cell_row hr ?_
            rw [strRow_get (by rw [List.length_map]; exact hql)]
            rw [List.getElem?_eq_getElem (by rw [List.length_map]; exact hql)] at hq
            injection hq with hq
            rw [hq]) hprl (by rw [List.length_map]; omega) (by rw [List.length_map]; exact Nat.le_refl _) (by
            rw [List.map_map]
            have := HLEN.out
            rw [joinB_lib] at this
            exact Nat.le_trans this (by omega))
          rw [List.length_map, List.map_map] at h
          refine h.mono ?_
          rintro e w' ⟨rfl, hb⟩
          exact ⟨end_string (by rw [joinB_lib]; rfl), hb⟩
        have HCJ := hid CJ
        clear CJ hje
        go_wp2_with fail
        refine HCJ.out.mono ?_
        rintro e w3 ⟨rfl, hb3⟩
        go_wp2
        go_ret2
        exact HN.out true _ _ (by rw [mkB_size]; have := HLEN.out; omega) (step_some HS.out rfl) (ext_trans hBw hb3)
  by_cases p9 : n.kind = 9
  · skip
    rw [p9] at hb0 HB2 HBW HSZ HB1 z0 z1 z2 z3 z4 z5 y0 ⊢
    by_cases hbad : n.kids.length ≠ 1 ∨ n.lo < 0 ∨ n.hi < -1
    · have HS := hid (show nodeT (kindsOf ns) ts n = none by unfold nodeT; rw [p9]; simp [hbad])
      by_cases g1 : n.kids.length = 1
      · have g1a : ((n.kids.length : Int) != 1) = false := by simp [g1]
        have g1b : ((n.kids.length : Int) == 1) = true := by simp [g1]
        by_cases g2 : n.lo < 0
        · clear hbad g1 p1 p2 p3 p5 p6 p4 p7 p8 p9
          go_enter Tryz.func120, Tryz.ntmps120
          go_wp2
          go_ret2
          exact HN.out false _ _ (by decide) (step_none HS.out) (HBW.out _ hb0)
        · have g3 : n.hi < -1 := by omega
          clear hbad g1 p1 p2 p3 p5 p6 p4 p7 p8 p9
          go_enter Tryz.func120, Tryz.ntmps120
          go_wp2
          go_ret2
          exact HN.out false _ _ (by decide) (step_none HS.out) (HBW.out _ hb0)
      · have g1a : ((n.kids.length : Int) != 1) = true := by rw [bne_iff_ne]; omega
        have g1b : ((n.kids.length : Int) == 1) = false := by rw [beq_eq_false_iff_ne]; omega
        clear hbad g1 p1 p2 p3 p5 p6 p4 p7 p8 p9
        go_enter Tryz.func120, Tryz.ntmps120
        go_wp2
        go_ret2
        exact HN.out false _ _ (by decide) (step_none HS.out) (HBW.out _ hb0)
    have HS := hid (show nodeT (kindsOf ns) ts n = some (kidT [7, 8, 9, 1] (kindsOf ns) ts (n.kids.getD 0 0) ++ timesP n.lo n.hi) by unfold nodeT; rw [p9]; simp [hbad])
    have g1 : n.kids.length = 1 := by omega
    have g2 : ¬ n.lo < 0 := by omega
    have g3 : ¬ n.hi < -1 := by omega
    obtain ⟨ka', kcap', hkv, hk1, hk2, hKF⟩ := rdIntsL hkids
    obtain ⟨rfl, rfl⟩ : ka = ka' ∧ kc = kcap' := by simpa using hkv
    obtain ⟨b, off, rfl, hBk, hcell⟩ := hKF (by omega)
    have t0 : w.cell? ⟨b, off, none⟩ = some (.int .i64 n.kids[0]) := by have h := (hcell 0 (by omega)).1; rw [Nat.add_zero] at h; exact h
    have hkj := HKID.out n.kids[0] (List.getElem_mem (by omega))
    obtain ⟨kn, hkn⟩ : ∃ kn : Nat, (kn : Int) = n.kids[0] := ⟨n.kids[0].toNat, by omega⟩
    have HKG := hid (show n.kids.getD 0 0 = (kn : Int) by rw [hkn, List.getD_eq_getElem?_getD, List.getElem?_eq_getElem (by omega)]; rfl)
    rw [← hkn] at t0 hkj
    have hk3 : kn < ts.length := by omega
    have hk4 : kn < ns.length := by omega
    have hk5 : kn < tm := by omega
    have tk := HT.out kn hk3
    rw [g1] at hb0 HB2 HBW HSZ HB1 z0 z1 z2 z3 z4 z5 y0 ⊢
    have hBW0 := HBW.out _ hb0
    have hbl1 : b < w.heap.size := hBk
    have hbl2 : b < w.heap.size + 1 + 1 := by omega
    have htb2 : tb < w.heap.size + 1 + 1 := by omega
    have t0' := (hBW0.cell (p := ⟨b, off, none⟩) hBk).trans t0
    have tk' := (hBW0.cell (p := ⟨tb, kn, none⟩) htb).trans tk
    have hsz := HTS.out ts[kn] (List.getElem_mem hk3)
    have HKT := hid (kidT_at (ks := [7, 8, 9, 1]) hk4 hk3)
    have hkz : (kidT [7, 8, 9, 1] (kindsOf ns) ts (kn : Int)).length ≤ 1002 := kidT_len _ _ _ _ HTS.out
    have CT := hid (fun (w : World) (h : PT w) => implTimesText n.lo n.hi w h b1 b2 (by omega))
    have htz := timesP_len (numB_size b1) (numB_size b2)
    have CKX := hid (fun (W : World) (g : Nat) (hg : W.heap.size = g) (hb : Below w.heap.size w W) => (by
      have hd : Below W.heap.size W ((W.alloc (.cells #[.int .i64 7, .int .i64 8, .int .i64 9, .int .i64 1] 3)).drew) := Below.drew (ext_alloc _ _)
      have hd2 : Below (W.alloc (.cells #[.int .i64 7, .int .i64 8, .int .i64 9, .int .i64 1] 3)).heap.size (W.alloc (.cells #[.int .i64 7, .int .i64 8, .int .i64 9, .int .i64 1] 3)) ((W.alloc (.cells #[.int .i64 7, .int .i64 8, .int .i64 9, .int .i64 1] 3)).drew) := Below.drew (Below.refl _ _)
      have h := implKidText (tc := tc) (m := tm) (ks := [7, 8, 9, 1]) (t := ts[kn]) ((W.alloc (.cells #[.int .i64 7, .int .i64 8, .int .i64 9, .int .i64 1] 3)).drew) (Rd.later (ext_trans hb hd) hn) hk4 hk5 ((hd.cell (p := ⟨tb, kn, none⟩) (by have := hb.size; show tb < _; omega)).trans ((hb.cell (p := ⟨tb, kn, none⟩) htb).trans tk)) (Rd.later hd2 (rd_new_ints W [7, 8, 9, 1] 3 (by decide) (by decide))) hsz
      rw [← HKT.out, hg] at h
      exact h : Calls Tryz.prog 153 #[.agg #[.slice na ns.length nc], .slice (some ⟨tb, 0, none⟩) tm tc, .int .i64 (kn : Int), .slice (some ⟨g, 0, none⟩) 4 4] ((W.alloc (.cells #[.int .i64 7, .int .i64 8, .int .i64 9, .int .i64 1] 3)).drew) fun e w' => e = .returned (.string (mkB (kidT [7, 8, 9, 1] (kindsOf ns) ts (kn : Int)))) ∧ Below ((W.alloc (.cells #[.int .i64 7, .int .i64 8, .int .i64 9, .int .i64 1] 3)).drew).heap.size ((W.alloc (.cells #[.int .i64 7, .int .i64 8, .int .i64 9, .int .i64 1] 3)).drew) w'))
    rw [HKG.out] at HS
    have HE := hid (show (mkB (kidT [7, 8, 9, 1] (kindsOf ns) ts (kn : Int)) ++ mkB (timesP n.lo n.hi)).data.toList = kidT [7, 8, 9, 1] (kindsOf ns) ts (kn : Int) ++ timesP n.lo n.hi by rw [dat_app3, mkB_data, mkB_data])
    have s1 : (mkB (kidT [7, 8, 9, 1] (kindsOf ns) ts (kn : Int))).size ≤ 1002 := by rw [mkB_size]; exact hkz
    have s2 : (mkB (timesP n.lo n.hi)).size ≤ 50 := by rw [mkB_size]; exact htz
    obtain ⟨KT, hKT⟩ : ∃ z, mkB (kidT [7, 8, 9, 1] (kindsOf ns) ts (kn : Int)) = z := ⟨_, rfl⟩
    obtain ⟨TT, hTT⟩ : ∃ z, mkB (timesP n.lo n.hi) = z := ⟨_, rfl⟩
    rw [hKT] at CKX HE s1
    rw [hTT] at CT HE s2
    have q1 : ¬ 9223372036854775807 < KT.size + TT.size := by omega
    clear hKT hTT hkz htz hkv hKF hcell hkn hbad t0 g1 p1 p2 p3 p5 p6 p4 p7 p8 p9
    go_enter Tryz.func120, Tryz.ntmps120
    go_wp2_with fail
    refine wp_region_held_drew (S := fun w' => w'.cell? ⟨w.heap.size, 0, none⟩ = some (.slice na ns.length nc) ∧ w'.cell? ⟨w.heap.size + 1, 1, none⟩ = some (.int .i64 n.lo) ∧ w'.cell? ⟨w.heap.size + 1, 2, none⟩ = some (.int .i64 n.hi) ∧ w'.cell? ⟨w.heap.size + 1, 5, none⟩ = some (.slice (some ⟨b, off, none⟩) 1 kc) ∧ w'.cell? ⟨b, off, none⟩ = some (.int .i64 (kn : Int)) ∧ w'.cell? ⟨tb, kn, none⟩ = some (.string ts[kn])) (by kernel_rfl) ?_ (fun hHeld => ?_)
    · simp [*]
    refine wpAnyH_take (i := 0) (v := ?_) rfl (by kernel_rfl) (by kernel_rfl) (by kernel_rfl) (fun _ _ _ h => h) (Or.inl ⟨by rfl, ?_⟩) (by assumption) ?_
    rotate_left
    · (intro w' hSw; (try dsimp only at hSw); go_simp; try (with_reducible rfl))
    change wpAnyH _ _ _ _ _ _ _ (Act.put _ (some 93) _) _
    try simp only [Act.put, List.setIfInBounds_toArray, List.set_cons_zero, List.set_cons_succ]
    refine wpAnyH_take (i := 1) (v := ?_) rfl (by kernel_rfl) (by kernel_rfl) (by kernel_rfl) (fun _ _ _ h => h) (Or.inl ⟨by rfl, ?_⟩) (by assumption) ?_
    rotate_left
    · (intro w' hSw; (try dsimp only at hSw); go_simp; try (with_reducible rfl))
    change wpAnyH _ _ _ _ _ _ _ (Act.put _ (some 94) _) _
    try simp only [Act.put, List.setIfInBounds_toArray, List.set_cons_zero, List.set_cons_succ]
    refine wpAnyH_take (i := 2) (v := ?_) rfl (by kernel_rfl) (by kernel_rfl) (by kernel_rfl) (fun _ _ _ h => h) (Or.inl ⟨by rfl, ?_⟩) (by assumption) ?_
    rotate_left
    · (intro w' hSw; (try dsimp only at hSw); go_simp; try (with_reducible rfl))
    change wpAnyH _ _ _ _ _ _ _ (Act.put _ (some 95) _) _
    try simp only [Act.put, List.setIfInBounds_toArray, List.set_cons_zero, List.set_cons_succ]
    refine wpAnyH_take (i := 3) (v := ?_) rfl (by kernel_rfl) (by kernel_rfl) (by kernel_rfl) (fun _ _ _ h => h) (Or.inl ⟨by rfl, ?_⟩) (by assumption) ?_
    rotate_left
    · (intro w' hSw; (try dsimp only at hSw); go_simp; try (with_reducible rfl))
    change wpAnyH _ _ _ _ _ _ _ (Act.put _ (some 96) _) _
    try simp only [Act.put, List.setIfInBounds_toArray, List.set_cons_zero, List.set_cons_succ]
    refine wpAnyH_take (i := 4) (v := ?_) rfl (by kernel_rfl) (by kernel_rfl) (by kernel_rfl) (fun _ _ _ h => h) (Or.inl ⟨by rfl, ?_⟩) (by assumption) ?_
    rotate_left
    · (intro w' hSw; (try dsimp only at hSw); go_simp; try (with_reducible rfl))
    change wpAnyH _ _ _ _ _ _ _ (Act.put _ (some 97) _) _
    try simp only [Act.put, List.setIfInBounds_toArray, List.set_cons_zero, List.set_cons_succ]
    refine wpAnyH_take (i := 5) (v := ?_) rfl (by kernel_rfl) (by kernel_rfl) (by kernel_rfl) (fun _ _ _ h => h) (Or.inl ⟨by rfl, ?_⟩) (by assumption) ?_
    rotate_left
    · (intro w' hSw; (try dsimp only at hSw); go_simp; try (with_reducible rfl))
    change wpAnyH _ _ _ _ _ _ _ (Act.put _ (some 98) _) _
    try simp only [Act.put, List.setIfInBounds_toArray, List.set_cons_zero, List.set_cons_succ]
    refine wpAnyH_take (i := 8) (v := ?_) rfl (by kernel_rfl) (by kernel_rfl) (by kernel_rfl) (fun _ _ _ h => h) (Or.inl ⟨by rfl, ?_⟩) (by assumption) ?_
    rotate_left
    · (intro w' hSw; (try dsimp only at hSw); go_simp; try (with_reducible rfl))
    change wpAnyH _ _ _ _ _ _ _ (Act.put _ (some 101) _) _
    try simp only [Act.put, List.setIfInBounds_toArray, List.set_cons_zero, List.set_cons_succ]
    refine wpAnyH_take (i := 9) (v := ?_) rfl (by kernel_rfl) (by kernel_rfl) (by kernel_rfl) (fun _ _ _ h => h) (Or.inl ⟨by rfl, ?_⟩) (by assumption) ?_
    rotate_left
    · (intro w' hSw; (try dsimp only at hSw); go_simp; try (with_reducible rfl))
    change wpAnyH _ _ _ _ _ _ _ (Act.put _ (some 102) _) _
    try simp only [Act.put, List.setIfInBounds_toArray, List.set_cons_zero, List.set_cons_succ]
    refine wpAnyH_take (i := 10) (v := ?_) rfl (by kernel_rfl) (by kernel_rfl) (by kernel_rfl) (fun _ _ _ h => h) (Or.inl ⟨by rfl, ?_⟩) (by assumption) ?_
    rotate_left
    · (intro w' hSw; (try dsimp only at hSw); go_simp; try (with_reducible rfl))
    change wpAnyH _ _ _ _ _ _ _ (Act.put _ (some 103) _) _
    try simp only [Act.put, List.setIfInBounds_toArray, List.set_cons_zero, List.set_cons_succ]
    refine wpAnyH_take (i := 11) (v := ?_) rfl (by kernel_rfl) (by kernel_rfl) (by kernel_rfl) (fun _ _ _ h => h) (Or.inl ⟨by rfl, ?_⟩) (by assumption) ?_
    rotate_left
    · (intro w' hSw; (try dsimp only at hSw); go_simp; try (with_reducible rfl))
    change wpAnyH _ _ _ _ _ _ _ (Act.put _ (some 104) _) _
    try simp only [Act.put, List.setIfInBounds_toArray, List.set_cons_zero, List.set_cons_succ]
    refine wpAnyH_ready (rs := [6]) (by kernel_rfl) (by simp) ?_
    refine AllReadyH.cons (i := 6) rfl (fun K hK => ?_) AllReadyH.nil
    simp only [List.getElem_toArray, List.getElem_cons_succ, List.getElem_cons_zero]
    rw [if_pos (by rfl)]
    go_simp
    have hOld := hHeld
    clear hHeld
    refine hK.out _ _ ?_ (fun hHeld => ?_)
    · (try dsimp only); first | (simp [*]; done) | exact ⟨ext_cellT (by first | (simp; done) | (simp; omega)) y0, ext_cellT (by first | (simp; done) | (simp; omega)) z1, ext_cellT (by first | (simp; done) | (simp; omega)) z2, ext_cellT (by first | (simp; done) | (simp; omega)) z5, ext_cellT (by first | (simp; done) | (simp; omega)) t0', ext_cellT (by first | (simp; done) | (simp; omega)) tk'⟩
    clear hK K hOld
    try simp only [Act.put, List.setIfInBounds_toArray, List.set_cons_zero, List.set_cons_succ]
    refine wpAnyH_ready (rs := [7]) (by kernel_rfl) (by simp) ?_
    refine AllReadyH.cons (i := 7) rfl (fun K hK => ?_) AllReadyH.nil
    simp only [List.getElem_toArray, List.getElem_cons_succ, List.getElem_cons_zero]
    rw [if_pos (by rfl)]
    go_simp
    (go_at_call 153; refine (CKX.out _ _ (by simp) (by repeat' (first | (with_reducible exact hBW0) | (with_reducible refine ext_trans ?_ hb1) | (with_reducible refine ext_trans ?_ (ext_alloc _ _)) | (with_reducible refine Below.drew ?_)))).mono ?_; rintro e w1 ⟨rfl, hb1⟩; have hk1 := keeps_cells hb1; go_wp2_with fail)
    have hOld := hHeld
    clear hHeld
    refine hK.out _ _ ?_ (fun hHeld => ?_)
    · (try dsimp only); first | (simp [*]; done) | exact ⟨ext_cellT (by first | (simp; done) | (simp; omega)) y0, ext_cellT (by first | (simp; done) | (simp; omega)) z1, ext_cellT (by first | (simp; done) | (simp; omega)) z2, ext_cellT (by first | (simp; done) | (simp; omega)) z5, ext_cellT (by first | (simp; done) | (simp; omega)) t0', ext_cellT (by first | (simp; done) | (simp; omega)) tk'⟩
    clear hK K hOld
    try simp only [Act.put, List.setIfInBounds_toArray, List.set_cons_zero, List.set_cons_succ]
    refine wpAnyH_ready (rs := [12]) (by kernel_rfl) (by simp) ?_
    refine AllReadyH.cons (i := 12) rfl (fun K hK => ?_) AllReadyH.nil
    simp only [List.getElem_toArray, List.getElem_cons_succ, List.getElem_cons_zero]
    rw [if_pos (by rfl)]
    go_simp
    (go_at_call 155; refine (CT.out _ (pt_below hP (by repeat' (first | (with_reducible exact hBW0) | (with_reducible refine ext_trans ?_ hb1) | (with_reducible refine ext_trans ?_ (ext_alloc _ _)) | (with_reducible refine Below.drew ?_))))).mono ?_; rintro e w2 ⟨rfl, hb2⟩; have hk2 := keeps_cells hb2; go_wp2_with fail)
    have hOld := hHeld
    clear hHeld
    refine hK.out _ _ ?_ (fun hHeld => ?_)
    · (try dsimp only); first | (simp [*]; done) | exact ⟨ext_cellT (by first | (simp; done) | (simp; omega)) y0, ext_cellT (by first | (simp; done) | (simp; omega)) z1, ext_cellT (by first | (simp; done) | (simp; omega)) z2, ext_cellT (by first | (simp; done) | (simp; omega)) z5, ext_cellT (by first | (simp; done) | (simp; omega)) t0', ext_cellT (by first | (simp; done) | (simp; omega)) tk'⟩
    clear hK K hOld
    try simp only [Act.put, List.setIfInBounds_toArray, List.set_cons_zero, List.set_cons_succ]
    refine wpAnyH_take (i := 13) (v := ?_) rfl (by kernel_rfl) (by kernel_rfl) (by kernel_rfl) (fun _ _ _ h => h) (Or.inl ⟨by rfl, ?_⟩) (by assumption) ?_
    rotate_left
    · (intro w' hSw; (try dsimp only at hSw); go_simp; try (with_reducible rfl))
    change wpAnyH _ _ _ _ _ _ _ (Act.put _ (some 106) _) _
    try simp only [Act.put, List.setIfInBounds_toArray, List.set_cons_zero, List.set_cons_succ]
    refine wpAnyH_take (i := 14) (v := ?_) rfl (by kernel_rfl) (by kernel_rfl) (by kernel_rfl) (fun _ _ _ h => h) (Or.inl ⟨by rfl, ?_⟩) (by assumption) ?_
    rotate_left
    · (intro w' hSw; (try dsimp only at hSw); go_simp; try (with_reducible rfl))
    change wpAnyH _ _ _ _ _ _ _ (Act.put _ (some 6) _) _
    try simp only [Act.put, List.setIfInBounds_toArray, List.set_cons_zero, List.set_cons_succ]
    refine wpAnyH_take (i := 15) (v := ?_) rfl (by kernel_rfl) (by kernel_rfl) (by kernel_rfl) (fun _ _ _ h => h) (Or.inl ⟨by rfl, ?_⟩) (by assumption) ?_
    rotate_left
    · (intro w' hSw; (try dsimp only at hSw); go_simp; try (with_reducible rfl))
    change wpAnyH _ _ _ _ _ _ _ (Act.put _ (some 7) _) _
    try simp only [Act.put, List.setIfInBounds_toArray, List.set_cons_zero, List.set_cons_succ]
    refine wpAnyH_done (by kernel_rfl) ?_ _
    have hB2 : Below w.heap.size w w2 := by repeat' (first | (with_reducible exact hBW0) | (with_reducible refine ext_trans ?_ hb2) | (with_reducible refine ext_trans ?_ hb1) | (with_reducible refine ext_trans ?_ (ext_alloc _ _)) | (with_reducible refine Below.drew ?_))
    clear hHeld
    go_wp2
    go_ret2
    exact HN.out true _ _ (by rw [ByteArray.size_append]; omega) (step_some HS.out HE.out) hB2
  have k1 : (n.kind == 1) = false := by rw [beq_eq_false_iff_ne]; omega
  have k2 : (n.kind == 2) = false := by rw [beq_eq_false_iff_ne]; omega
  have k3 : (n.kind == 3) = false := by rw [beq_eq_false_iff_ne]; omega
  have k5 : (n.kind == 5) = false := by rw [beq_eq_false_iff_ne]; omega
  have k6 : (n.kind == 6) = false := by rw [beq_eq_false_iff_ne]; omega
  have k4 : (n.kind == 4) = false := by rw [beq_eq_false_iff_ne]; omega
  have k7 : (n.kind == 7) = false := by rw [beq_eq_false_iff_ne]; omega
  have k8 : (n.kind == 8) = false := by rw [beq_eq_false_iff_ne]; omega
  have k9 : (n.kind == 9) = false := by rw [beq_eq_false_iff_ne]; omega
  have HS := hid (show nodeT (kindsOf ns) ts n = none by unfold nodeT; simp [p1, p2, p3, p5, p6, p4, p7, p8, p9])
  clear p1 p2 p3 p5 p6 p4 p7 p8 p9
  go_enter Tryz.func120, Tryz.ntmps120
  go_wp2
  go_ret2
  exact HN.out false _ _ (by decide) (step_none HS.out) (HBW.out _ hb0)
end Go.Proofs.YtomcoilmpkpoeaaGreatDoor
