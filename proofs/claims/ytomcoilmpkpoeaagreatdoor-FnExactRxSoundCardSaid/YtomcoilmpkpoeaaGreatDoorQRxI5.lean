/-
  What is proved here: the pattern reader's bracket expressions in impl. No condition but that the reader, its list and its nodes lie in memory, and sizes.
-/
import Derived.Test.YtomcoilmpkpoeaaGreatDoorQRxI4
namespace Go.Proofs.YtomcoilmpkpoeaaGreatDoor
open Go.RowKit
set_option linter.unusedVariables false
set_option linter.unusedSimpArgs false

/-- an answer of a node's index and a code; where the reader then stands, and its nodes -/
def NodeE (X : Nat → Prop) (w w' : World) (g cap d : Nat) (a : Option Addr) (l : List Nat) (nv : Value) (r : RR) (e : Ending) : Prop :=
  (∃ kid j ns' nv', r = .ok kid j ns' ∧ e = .returned (.tuple #[.int .i64 ((kid : Nat) : Int), .int .i64 0]) ∧ w'.heap[g]? = some (.cells #[.slice a l.length cap, .int .i64 ((j : Nat) : Int), .int .i64 ((d : Nat) : Int), nv'] 101 (0, 0)) ∧ RxNs X g nv' w' ns' ∧ RowOn w nv.ownBlock nv'.ownBlock)
  ∨ (∃ c j x d' nv', r = .er c j ∧ e = .returned (.tuple #[x, .int .i64 ((c : Nat) : Int)]) ∧ c ≠ 0 ∧ w'.heap[g]? = some (.cells #[.slice a l.length cap, .int .i64 ((j : Nat) : Int), .int .i64 ((d' : Nat) : Int), nv'] 101 (0, 0)))
theorem Kp.grownNew {g : Nat} {w w1 w2 : World} {r r' : Option Nat} (h : Kp g r w w1) (hg : w1.grownBy w2 r') (hr : ∀ b, r' = some b → w.heap.size ≤ b) : Kp g r w w2 :=
  ⟨hg.os.trans h.os, hg.tape.trans h.tape, hg.output.trans h.output, Nat.le_trans h.size hg.size, fun b hb hgb hr1 => (hg.block b (Nat.lt_of_lt_of_le hb h.size) (fun e => by have := hr b e.symm; omega)).trans (h.block b hb hgb hr1)⟩
theorem Kp.setNew {g : Nat} {r : Option Nat} {w w1 : World} {B : Nat} (h : Kp g r w w1) (hB : w.heap.size ≤ B) (o : Nat) (v : Value) : Kp g r w (w1.setCell ⟨B, o, none⟩ v) :=
  ⟨h.os, h.tape, h.output, by simpa using h.size, fun b hb hgb hr1 => ((Below.heap_setCell w1 ⟨B, o, none⟩ v b (show b ≠ B by omega)).trans (h.block b hb hgb hr1))⟩
def brR (l : List Nat) (i : Nat) (ns : List RxNode) (r : IR) : RR := match r with | .er c p => .er c p | .ok s j => putR ⟨4, 0, 0, negAt l i, s, []⟩ j ns
theorem RowOn.up {w w1 : World} {r r' : Option Nat} (h : RowOn w1 r r') (hs : w.heap.size ≤ w1.heap.size) : RowOn w r r' := by
  rcases h with h | ⟨b, h1, h2⟩
  · exact Or.inl h
  · exact Or.inr ⟨b, h1, Nat.le_trans hs h2⟩
theorem row_shape {w : World} {base : Nat} {e : TypeId} {n : Nat} {v : Value} {xs : List Value} (h : w.ownsRow base e 1 v n xs) : ∃ a c, v = .slice a n c := by
  rcases h.2 with ⟨rfl, hn⟩ | ⟨b, cap, cur, rfl, h1, h2⟩
  · subst hn; exact ⟨none, 0, rfl⟩
  · exact ⟨_, _, rfl⟩
theorem row_keep {w w' : World} {g base : Nat} {e : TypeId} {size n : Nat} {v : Value} {xs : List Value} (hv : w.ownsRow base e size v n xs) (h : Kp g none w w') (hg : g < base) : w'.ownsRow base e size v n xs := by
  refine ⟨hv.1, ?_⟩
  rcases hv.2 with ⟨rfl, hn⟩ | ⟨b, cap, cur, rfl, h1, h2, h3, h4, h5, h6⟩
  · exact Or.inl ⟨rfl, hn⟩
  · have hb : b < w.heap.size := (Array.getElem?_eq_some_iff.1 h2).1
    exact Or.inr ⟨b, cap, cur, rfl, h1, (h.block b hb (by omega) (by simp)).trans h2, h3, h4, h5, h6⟩
theorem blk6 {w : World} {g : Nat} {x0 x1 x2 x3 x4 x5 : Value} {t : TypeId} (h : w.heap[g]? = some (.cells #[x0, x1, x2, x3, x4, x5] t (0, 0))) :
    (w.cell? ⟨g, 0, none⟩ = some x0 ∧ w.cell? ⟨g, 1, none⟩ = some x1 ∧ w.cell? ⟨g, 2, none⟩ = some x2 ∧ w.cell? ⟨g, 3, none⟩ = some x3 ∧ w.cell? ⟨g, 4, none⟩ = some x4 ∧ w.cell? ⟨g, 5, none⟩ = some x5)
    ∧ w.frozen? ⟨g, 3, none⟩ = false ∧ w.frozen? ⟨g, 4, none⟩ = false ∧ g < w.heap.size := by
  have h' : w.heap[g]? = some (.cells ([x0, x1, x2, x3, x4, x5] : List Value).toArray t (0, 0)) := h
  exact ⟨⟨cell_of_block h', cell_of_block h', cell_of_block h', cell_of_block h', cell_of_block h', cell_of_block h'⟩, frozen_of_row w g _ _ _ h', frozen_of_row w g _ _ _ h', (Array.getElem?_eq_some_iff.1 h).1⟩
theorem blk6_set3 {w : World} {g : Nat} {x0 x1 x2 x3 x4 x5 : Value} {t : TypeId} (h : w.heap[g]? = some (.cells #[x0, x1, x2, x3, x4, x5] t (0, 0))) (v : Value) : (w.setCell ⟨g, 3, none⟩ v).heap[g]? = some (.cells #[x0, x1, x2, v, x4, x5] t (0, 0)) :=
  (heap_setCell_same w g 3 _ _ _ h).trans rfl
theorem blk6_set4 {w : World} {g : Nat} {x0 x1 x2 x3 x4 x5 : Value} {t : TypeId} (h : w.heap[g]? = some (.cells #[x0, x1, x2, x3, x4, x5] t (0, 0))) (v : Value) : (w.setCell ⟨g, 4, none⟩ v).heap[g]? = some (.cells #[x0, x1, x2, x3, v, x5] t (0, 0)) :=
  (heap_setCell_same w g 4 _ _ _ h).trans rfl
theorem ints'_app (s t : List Int) : ints' (s ++ t) = ints' s ++ ints' t := List.map_append ..
def atOf (g : Nat) (w : World) : Nat := match w.cell? ⟨g, 1, none⟩ with | some (.int _ z) => z.toNat | _ => 0
theorem atOf_blk {g j : Nat} {w : World} (h : w.cell? ⟨g, 1, none⟩ = some (.int .i64 ((j : Nat) : Int))) : atOf g w = j := by
  unfold atOf
  rw [h]
  simp
theorem rd_own_at {α : Type} [Rd α] {S : Nat → Prop} {w : World} {base : Nat} {e : TypeId} {v : Value} {css : List (List Value)} {xs : List α} (h : w.ownsRow base e (Rd.n α) v xs.length css.flatten) (he : Each S w css xs) (hS : ∀ b, v.ownBlock = some b → base ≤ b → b < w.heap.size → S b) : Rd.rd S w [v] xs := by
  rcases h.2 with ⟨rfl, hn⟩ | ⟨g, cap, cur, rfl, hb, hg, hnc, hcm, hcs, htake⟩
  · rw [show xs = [] from List.eq_nil_of_length_eq_zero hn]
    exact ⟨none, 0, rfl, Nat.le_refl _, by omega, fun h => absurd h (by simp)⟩
  · have hlt : g < w.heap.size := (Array.getElem?_eq_some_iff.1 hg).1
    have hcur : cur = (css.flatten ++ cur.toList.drop (xs.length * Rd.n α)).toArray := by
      rw [← htake, List.take_append_drop]
    rw [hcur] at hg
    exact rd_of_block hg he (hS g rfl hb hlt) hnc (by unfold maxLen at hcm; omega)
def ptI (x : Int) : Prop := 0 ≤ x ∧ x ≤ 1114111
theorem ints_flat (xs : List Int) : (xs.map fun x => [Value.int .i64 x]).flatten = ints' xs := by
  induction xs with
  | nil => rfl
  | cons x r ih => simp only [List.map_cons, List.flatten_cons, ih]; rfl
theorem rd_own_ints {S : Nat → Prop} {w : World} {base : Nat} {e : TypeId} {v : Value} {xs : List Int} (h : w.ownsRow base e 1 v xs.length (ints' xs)) (hx : ∀ x ∈ xs, ptI x) (hS : ∀ b, v.ownBlock = some b → base ≤ b → b < w.heap.size → S b) : Rd.rd S w [v] xs := by
  refine rd_own_at (css := xs.map fun x => [Value.int .i64 x]) (base := base) (e := e) (by rw [ints_flat]; exact h) ⟨by simp, fun i a b => ?_⟩ hS
  simp only [List.getElem_map]
  have := hx _ (List.getElem_mem b)
  exact ⟨rfl, by unfold ptI at this; omega⟩
theorem ints_flat' (xs : List Int) : ints' xs = xs.map (Value.int .i64) := rfl
/-- a node reads off its six cells -/
theorem rdNode_mk {S : Nat → Prop} {w : World} {n : RxNode} {u v : Value} (hk : -9223372036854775808 ≤ n.kind ∧ n.kind ≤ 9223372036854775807) (hl : -9223372036854775808 ≤ n.lo ∧ n.lo ≤ 9223372036854775807) (hh : -9223372036854775808 ≤ n.hi ∧ n.hi ≤ 9223372036854775807)
    (hs : Rd.rd S w [u] n.set) (hd : Rd.rd S w [v] n.kids) : Rd.rd S w [.int .i64 n.kind, .int .i64 n.lo, .int .i64 n.hi, .bool n.neg, u, v] n :=
  ⟨[.int .i64 n.kind], _, rfl, ⟨rfl, hk⟩, [.int .i64 n.lo], _, rfl, ⟨rfl, hl⟩, [.int .i64 n.hi], _, rfl, ⟨rfl, hh⟩, [.bool n.neg], _, rfl, rfl, [u], [v], rfl, hs, hd⟩
theorem rd_noInts {S : Nat → Prop} {w : World} : Rd.rd S w [.slice none 0 0] ([] : List Int) := ⟨none, 0, rfl, Nat.le_refl _, by omega, fun h => absurd h (by simp)⟩
theorem escAt_pt {l : List Nat} (hp : ∀ c ∈ l, 1 ≤ c ∧ c ≤ 1114111) {i c : Nat} (h : escAt l i = some c) : c ≤ 1114111 := by
  unfold escAt at h
  have := gN_le hp (i + 1)
  repeat' split at h
  all_goals first | (cases h; done) | (injection h with h; omega)
theorem oneAt_pt {l : List Nat} (hp : ∀ c ∈ l, 1 ≤ c ∧ c ≤ 1114111) {i c k : Nat} (h : oneAt l i = some (c, k)) : c ≤ 1114111 := by
  unfold oneAt at h
  split at h
  · split at h
    · cases h
    · rename_i c' hc
      have := escAt_pt hp hc
      injection h with h
      injection h with h1 h2
      omega
  · have := gN_le hp i
    injection h with h
    injection h with h1 h2
    omega
theorem classOf_pt (nm : List Nat) : ∀ x ∈ classOf nm, ptI x := by
  unfold classOf ptI
  repeat' split
  all_goals simp
theorem itemAt_pt {l : List Nat} (hp : ∀ c ∈ l, 1 ≤ c ∧ c ≤ 1114111) {i k : Nat} {s : List Int} (h : itemAt l i = .ok s k) : ∀ x ∈ s, ptI x := by
  unfold itemAt at h
  split at h
  · split at h
    · cases h
    · injection h with a b
      subst a
      exact classOf_pt _
  · split at h
    · cases h
    · rename_i lo j hj
      have h1 := oneAt_pt hp hj
      split at h
      · injection h with a b
        subst a
        intro x hx
        simp only [List.mem_cons, List.not_mem_nil, or_false, or_self] at hx
        subst hx
        unfold ptI; omega
      · split at h
        · cases h
        · rename_i hi2 m hm
          have h2 := oneAt_pt hp hm
          split at h
          · cases h
          · injection h with a b
            subst a
            intro x hx
            simp only [List.mem_cons, List.not_mem_nil, or_false] at hx
            unfold ptI
            rcases hx with rfl | rfl <;> omega
theorem info_intB : (Tryz.prog.info? 3).map (fun i => (i.zero, i.size, i.bytes)) = some (some (.int .i64 0), 1, 8) := by kernel_rfl
/-- a bracket's node under way, in the block behind the call's world -/
def BrI (w wr : World) (g cap d : Nat) (a : Option Addr) (l : List Nat) (nv : Value) (neg : Bool) (B i j : Nat) (set : List Int) (setv : Value) (SG : IR) : Prop :=
  wr.heap[g]? = some (.cells #[.slice a l.length cap, .int .i64 ((j : Nat) : Int), .int .i64 ((d : Nat) : Int), nv] 101 (0, 0)) ∧ wr.heap[B]? = some (.cells #[.int .i64 4, .int .i64 0, .int .i64 0, .bool neg, setv, .slice none 0 0] 82 (0, 0))
  ∧ wr.ownsRow (B + 1) 3 1 setv set.length (ints' set) ∧ (∃ f, l.length + 1 ≤ f + j ∧ setGo l i f j set = SG) ∧ set.length ≤ 8 * j ∧ (∀ x ∈ set, ptI x) ∧ Kp g none w wr
set_option maxHeartbeats 16000000 in
set_option maxRecDepth 100000 in
theorem implBracket {X : Nat → Prop} {g cap i d : Nat} {a : Option Addr} {l : List Nat} {nv : Value} {ns : List RxNode} (w : World) (hb : w.heap[g]? = some (.cells #[.slice a l.length cap, .int .i64 (i : Int), .int .i64 (d : Int), nv] 101 (0, 0)))
    (hL : RxL w g a l) (hi : i < l.length) (hn : RxNs X g nv w ns) (hlen2 : ns.length ≤ 100000) (hX : ∀ b, X b → b < w.heap.size) :
    Calls Tryz.prog 221 #[.pointer (some ⟨g, 0, none⟩)] w fun e w' => NodeE X w w' g cap d a l nv (bracketP l i ns) e ∧ Kp g nv.ownBlock w w' := by
  have hlen := hL.len
  have HPTS := hid hL.pts
  have hg : g < w.heap.size := (Array.getElem?_eq_some_iff.1 hb).1
  have CX := hid (fun (w' : World) (j : Nat) (hk : Kp g none w w') (hb' : w'.heap[g]? = some (.cells #[.slice a l.length cap, .int .i64 ((j : Nat) : Int), .int .i64 ((d : Nat) : Int), nv] 101 (0, 0))) (hj : j ≤ 1000) => implNext w' hb' (hL.below (hk.base hg)) (by omega))
  have CI := hid (fun (w' : World) (j : Nat) (hk : Kp g none w w') (hb' : w'.heap[g]? = some (.cells #[.slice a l.length cap, .int .i64 ((j : Nat) : Int), .int .i64 ((d : Nat) : Int), nv] 101 (0, 0))) (hj : j < l.length) => implItem w' hb' (hL.below (hk.base hg)) hj)
  obtain ⟨SG, hSG⟩ : ∃ r, setGo l i (l.length + 1 - bodyAt l i) (bodyAt l i) [] = r := ⟨_, rfl⟩
  have HBR := hid (show bracketP l i ns = brR l i ns SG by rw [← hSG]; unfold bracketP brR; rfl)
  rw [HBR.out]
  have HSG := hid hSG
  have HN := hid hn
  have HB := hid hb
  have hbody := bodyAt_in hi
  obtain ⟨c0, c1, c2, c3, y0, y1, y2, y3, hl⟩ := blk4 hb
  have hw : IntKind.i64.wrap ((i : Int) + 1) = (i : Int) + 1 := IntWalk.i64_in _ (by omega)
  obtain ⟨ii, hii, hz0, hz1, hz2⟩ := info_parts info_intB
  clear hb hSG hn hL
  have HN1 := hid (blk4_set (o := 1) (.int .i64 ((i + 1 : Nat) : Int)) HB.out)
  have hcast : ((i + 1 : Nat) : Int) = (i : Int) + 1 := by omega
  have hk1 := fun o => ((Kp.refl g none w).set 1 (.int .i64 ((i + 1 : Nat) : Int))).alloc o
  have hb1 := fun o => ((ext_alloc (w.setCell ⟨g, 1, none⟩ (.int .i64 ((i + 1 : Nat) : Int))) o).block g (by simp; exact hl)).trans HN1.out
  have CX1 := hid (fun o => CX.out _ (i + 1) (hk1 o) (hb1 o) (by omega))
  have HB1 := hid hb1
  have HK1 := hid hk1
  rw [hcast] at HN1 CX1 HB1 HK1
  clear hb1 hk1 hcast
  obtain ⟨z, hz⟩ : ∃ c, gN l (i + 1) = c := ⟨_, rfl⟩
  rw [hz] at CX1
  have HZ := hid hz
  clear hz
  unfold NodeE
  by_cases hneg : z = 94
  · subst hneg
    have hbd : bodyAt l i = i + 2 := by unfold bodyAt negAt; rw [HZ.out]; simp
    have hng : negAt l i = true := by unfold negAt; rw [HZ.out]; simp
    have hi2 : i + 1 < l.length := gN_lt (by have := HZ.out; omega)
    go_enter Tryz.func221, Tryz.ntmps221
    go_wp2_with fail
    refine (CX1.out _).mono ?_
    rintro e w1 ⟨rfl, hq1⟩
    have hB1 := hq1.at (b := w.heap.size) (show _ = some (Obj.cells #[.int .i64 4, .int .i64 0, .int .i64 0, .bool false, .slice none 0 0, .slice none 0 0] 82 (0, 0)) from (by
        rw [← show (w.setCell ⟨g, 1, none⟩ (.int .i64 ((i : Int) + 1))).heap.size = w.heap.size by simp]
        exact heap_alloc_new _ _))
    have hb1 := hq1.at (HB1.out _)
    have hk1 := (HK1.out _).trans hq1.kp (RowOn.refl _ _)
    obtain ⟨⟨n0, n1, n2, n3, n4, n5⟩, v3, v4, hlB⟩ := blk6 hB1
    obtain ⟨d0, d1, d2, d3, f0, f1, f2, f3, hl1⟩ := blk4 hb1
    have hgB : ¬ g = w.heap.size := by omega
    have hgB2 : ¬ w.heap.size = g := by omega
    have hw2 : IntKind.i64.wrap ((i : Int) + 1 + 1) = (i : Int) + 1 + 1 := IntWalk.i64_in _ (by omega)
    have HB1' := hid hB1
    have Hb1' := hid hb1
    have HK1' := hid hk1
    clear hB1 hb1 hk1
    go_wp2
    go_loopw [6] (fun _ wr => ∃ (j : Nat) (set : List Int) (setv : Value), bodyAt l i ≤ j ∧ j ≤ l.length ∧ BrI w wr g cap d a l nv (negAt l i) w.heap.size i j set setv SG) (fun _ wr => 2000 - atOf g wr)
    case atStart =>
      refine ⟨i + 2, [], .slice none 0 0, by omega, by omega, ?_, ?_, ?_, ⟨_, ?_, by rw [← hbd]; exact HSG.out⟩, by simp, by simp, (HK1'.out.setNew (Nat.le_refl _) 3 _).set 1 _⟩
      · have h9 := blk4_set (o := 1) (.int .i64 ((i : Int) + 1 + 1)) ((Below.heap_setCell w1 ⟨w.heap.size, 3, none⟩ (.bool true) g (show g ≠ w.heap.size by omega)).trans Hb1'.out)
        rw [show ((i + 2 : Nat) : Int) = (i : Int) + 1 + 1 by omega]
        exact h9
      · rw [hng]
        exact (Below.heap_setCell _ ⟨g, 1, none⟩ _ w.heap.size (show w.heap.size ≠ g by omega)).trans (blk6_set3 HB1'.out (.bool true))
      · exact ⟨by simp [ints'], Or.inl ⟨rfl, rfl⟩⟩
      · omega
    case round =>
      obtain ⟨j, set, setv, hbj, hjl, hbr, hBB, hrow, ⟨f, hf, hgo⟩, hsl, hpt, hkr⟩ := hrel
      have HPT := hid hpt
      obtain ⟨sa, sc, rfl⟩ := row_shape hrow
      obtain ⟨c0, c1, c2, c3, y0, y1, y2, y3, hlr⟩ := blk4 hbr
      obtain ⟨⟨n0, n1, n2, n3, n4, n5⟩, v3, v4, hlB⟩ := blk6 hBB
      have CXJ := hid (fun w' (hq : Qt wr w') => CX.out w' j (hkr.trans hq.kp (RowOn.refl _ _)) (hq.at hbr) (by omega))
      have HBRW := hid hbr
      have HBB := hid hBB
      have HROW := hid hrow
      have HGO := hid hgo
      have HKR := hid hkr
      obtain ⟨u, hu⟩ : ∃ c, gN l j = c := ⟨_, rfl⟩
      rw [hu] at CXJ
      have HU := hid hu
      obtain ⟨f, rfl⟩ : ∃ m, f = m + 1 := ⟨f - 1, by omega⟩
      have HSTEP := hid (show SG = (if ¬ set = [] ∧ u = 93 then .ok set (j + 1) else if l.length ≤ j then .er 4 i else match itemAt l j with | .er c p => if c = 4 then .er 4 i else .er c p | .ok s k => setGo l i f k (set ++ s)) by rw [← HGO.out, ← HU.out]; rfl)
      clear hbr hBB hrow hgo hkr hu hpt
      obtain ⟨sn, hsn⟩ : ∃ m, set.length = m := ⟨_, rfl⟩
      have HSN := hid hsn
      rw [hsn] at n4 hsl
      by_cases hs0 : sn = 0
      · subst hs0
        have hset : set = [] := List.length_eq_zero_iff.1 hsn
        have HSTEP2 := hid (show SG = (if l.length ≤ j then .er 4 i else match itemAt l j with | .er c p => if c = 4 then .er 4 i else .er c p | .ok s k => setGo l i f k (set ++ s)) by rw [HSTEP.out, if_neg (by simp [hset])])
        clear hsn hset
        have hq5 := Qt.refl wr
        by_cases hje : j = l.length
        · subst hje
          have HF := hid (show brR l i ns SG = .er 4 i by rw [HSTEP2.out, if_pos (Nat.le_refl _)]; rfl)
          have heq : ((l.length : Int) == (l.length : Int)) = true := by simp
          go_wp2_with fail
          go_quiet (fail)
          go_wp2
          go_ret2
          exact ⟨Or.inr ⟨4, i, _, d, nv, HF.out, rfl, by decide, blk4_set (o := 1) _ HBRW.out⟩, ((HKR.out.weak.drewN _).set 1 _)⟩
        · have hlt : j < l.length := by omega
          have hneq : ((j : Int) == (l.length : Int)) = false := by rw [beq_eq_false_iff_ne]; omega
          have hneq2 : ¬ (j : Int) = (l.length : Int) := by omega
          have HSTEP3 := hid (show SG = (match itemAt l j with | .er c p => if c = 4 then .er 4 i else .er c p | .ok s k => setGo l i f k (set ++ s)) by rw [HSTEP2.out, if_neg (by omega)])
          clear hje
          go_wp2_with fail
          go_quiet (fail)
          go_wp2_with fail
          have hkq := HKR.out.trans (Qt.one wr nq).kp (RowOn.refl _ _)
          refine (CI.out _ j hkq ((Qt.one wr nq).at HBRW.out) hlt).mono ?_
          rintro e w6 ⟨he, hk6⟩
          have hk7 := hkq.trans hk6 (RowOn.refl _ _)
          rcases he with ⟨s, k, b, h1, rfl, h3, h4, h5⟩ | ⟨c, p, x, k, h1, rfl, h3, h4, h5⟩
          · have hin := itemAt_in hlt h1
            have HIT := hid (itemAt_pt HPTS.out h1)
            have HSTEP4 := hid (show SG = setGo l i f k (set ++ s) by rw [HSTEP3.out, h1])
            have hs1 : 0 < s.length := List.length_pos_iff.2 hin.2.2.1
            have hs8 : s.length ≤ 8 := hin.2.2.2
            have hjk := hin.1
            have hkl := hin.2.1
            have hB6 := (hk6.block w.heap.size (show w.heap.size < wr.heap.size from hlB) (by omega) (by simp)).trans HBB.out
            rw [HSN.out] at hB6
            have row6 : w6.ownsRow (w.heap.size + 1) 3 1 (.slice sa 0 sc) 0 (ints' set) := by rw [← HSN.out]; exact row_keep ((show (wr.drewN nq).ownsRow _ _ _ _ _ _ from HROW.out)) hk6 (by omega)
            obtain ⟨⟨n0, n1, n2, n3, n4, n5⟩, v3, v4, hlB6⟩ := blk6 hB6
            have HB6 := hid hB6
            have H5 := hid h5
            have H4 := hid h4
            have hsz6 := hk7.size
            clear h1 h4 h5 hB6 hin
            have a1 : (ints' s).length = s.length * 1 := by simp [ints']
            have a2 : ∀ u ∈ ints' s, u.oneCell' = true := by
              intro u hu
              obtain ⟨q, _, rfl⟩ := List.mem_map.1 hu
              rfl
            have a3 : 0 + s.length ≤ maxLen := by unfold maxLen; omega
            have a4 : (0 + s.length) * 8 ≤ 140737488355328 := by omega
            have a5 : w.heap.size + 1 ≤ w6.heap.size := by omega
            have a6 := World.news_of_block H4.out
            have A := hid (And.intro a1 (And.intro a2 (And.intro a3 (And.intro a4 (And.intro a5 (And.intro a6 row6))))))
            clear a1 a2 a3 a4 a5 a6 row6
            go_wp2_with ((at_builtin; refine wpList_append_lies _ rfl (.tmp 69) (.tmp 70) 78 rfl (w.heap.size + 1) 3 ii (.int .i64 0) 1 8 Tryz.underlying78 hii hz0 hz1 hz2 rfl (by decide) (.slice sa 0 sc) 0 (ints' set) rfl A.out.2.2.2.2.2.2 ⟨b, 0, none⟩ s.length s.length (ints' s) rfl A.out.1 A.out.2.2.2.2.2.1 A.out.2.1 hs1 A.out.2.2.1 A.out.2.2.2.1 A.out.2.2.2.2.1 _ rfl ?_))
            intro g6 cap6 w7 hown7 hgrow7 hat7 hlt7
            have hng := fun b (e : some b = Value.ownBlock (.slice sa 0 sc)) => (A.out.2.2.2.2.2.2.lt b e.symm).1
            have hB7 := (hgrow7.block w.heap.size hlB6 (fun e => by have := hng _ e; omega)).trans HB6.out
            have hb7 := (hgrow7.block g (by omega) (fun e => by have := hng _ e; omega)).trans H5.out
            have hK7 := hk7.grownNew hgrow7 (fun b e => by have := hng b e.symm; omega)
            obtain ⟨⟨m0, m1, m2, m3, m4, m5⟩, u3, u4, hlB7⟩ := blk6 hB7
            have HB7 := hid hB7
            have Hb7 := hid hb7
            have HO7 := hid hown7
            have HK7 := hid hK7
            clear hB7 hb7 hK7 hng hown7 hgrow7
            go_wp2
            go_roundw
            case rel =>
              refine ⟨k, set ++ s, _, by omega, by omega, (Below.heap_setCell _ ⟨w.heap.size, 4, none⟩ _ g (show g ≠ w.heap.size by omega)).trans Hb7.out, blk6_set4 HB7.out _, row_keep (by rw [List.length_append, HSN.out, ints'_app]; first | exact HO7.out | simpa using HO7.out) ((Kp.refl w.heap.size none w7).set 4 _) (by omega), ⟨f, by omega, HSTEP4.out.symm⟩, by rw [List.length_append, HSN.out]; omega, fun x hx => (List.mem_append.1 hx).elim (HPT.out x) (HIT.out x), HK7.out.setNew (Nat.le_refl _) 4 _⟩
            case measure =>
              rw [atOf_blk (show _ = some (Value.int .i64 ((k : Nat) : Int)) from (blk4 ((Below.heap_setCell _ ⟨w.heap.size, 4, none⟩ _ g (show g ≠ w.heap.size by omega)).trans Hb7.out)).2.1), atOf_blk (blk4 HBRW.out).2.1]
              omega
          · have H4 := hid h4
            have H1 := hid h1
            have H5 := hid h5
            obtain ⟨e0, e1, e2, e3, f0, f1, f2, f3, hl6⟩ := blk4 h5
            clear h4 h1 h5
            rcases h3 with rfl | rfl
            · have HF := hid (show brR l i ns SG = .er 6 p by rw [HSTEP3.out, H1.out]; rfl)
              have H5 := hid (show w6.heap[g]? = some (.cells #[.slice a l.length cap, .int .i64 ((p : Nat) : Int), .int .i64 ((d : Nat) : Int), nv] 101 (0, 0)) by rw [← H4.out rfl]; exact H5.out)
              go_wp2
              go_ret2
              exact ⟨Or.inr ⟨6, p, _, d, nv, HF.out, rfl, by decide, H5.out⟩, hk7.weak⟩
            · have HF := hid (show brR l i ns SG = .er 4 i by rw [HSTEP3.out, H1.out]; rfl)
              go_wp2
              go_ret2
              exact ⟨Or.inr ⟨4, i, _, d, nv, HF.out, rfl, by decide, blk4_set (o := 1) _ H5.out⟩, (hk7.weak.set 1 _)⟩
      · have hsne : ¬ set = [] := by intro e; rw [e] at hsn; exact hs0 (by simpa using hsn.symm)
        have hsI : ((sn : Int) == 0) = false := by rw [beq_eq_false_iff_ne]; omega
        have hsI2 : ¬ (sn : Int) = 0 := by omega
        have HNE := hid hsne
        clear hsn hsne
        go_wp2_with fail
        refine (CXJ.out _ (Qt.refl _)).mono ?_
        rintro e w5 ⟨rfl, ⟨m5, rfl⟩⟩
        have hq5 := Qt.one wr m5
        by_cases h93 : u = 93
        · subst h93
          have HF := hid (show brR l i ns SG = putR ⟨4, 0, 0, negAt l i, set, []⟩ (j + 1) ns by rw [HSTEP.out, if_pos ⟨HNE.out, rfl⟩]; rfl)
          have hwj : IntKind.i64.wrap ((j : Int) + 1) = (j : Int) + 1 := IntWalk.i64_in _ (by omega)
          have hk8 := (HKR.out.trans hq5.kp (RowOn.refl _ _)).set 1 (.int .i64 ((j + 1 : Nat) : Int))
          have hb8 := blk4_set (o := 1) (.int .i64 ((j + 1 : Nat) : Int)) (hq5.at HBRW.out)
          have hn8 := HN.out.kp hk8
          have row8 := row_keep (show (wr.drewN m5).ownsRow _ _ _ _ _ _ from HROW.out) ((Kp.refl g none _).set 1 (.int .i64 ((j + 1 : Nat) : Int))) (show g < w.heap.size + 1 by omega)
          have hnl : ∀ b, nv.ownBlock = some b → b < w.heap.size := fun b e => by obtain ⟨_, ho, _⟩ := HN.out; exact (ho.lt b e).2
          have hr8 := rd_own_ints (S := Beside X g nv.ownBlock ((wr.drewN m5).setCell ⟨g, 1, none⟩ (.int .i64 ((j + 1 : Nat) : Int)))) row8 HPT.out (fun b _ h1 h2 => ⟨by omega, h2, fun e => by have := hnl b e; omega, fun h => by have := hX b h; omega⟩)
          have hrd8 := rdNode_mk (n := ⟨4, 0, 0, negAt l i, set, []⟩) (by dsimp only; omega) (by dsimp only; omega) (by dsimp only; omega) hr8 rd_noInts
          have CADD := hid (implAddN _ hb8 hn8 hrd8 (by omega))
          have hjc : ((j + 1 : Nat) : Int) = (j : Int) + 1 := by omega
          have HK8 := hid hk8
          dsimp only at CADD
          rw [hjc, HSN.out, hng] at CADD
          rw [hng] at HF
          rw [hjc] at HK8
          clear hk8 hb8 hn8 row8 hr8 hrd8 hjc hnl
          go_wp2_with fail
          refine CADD.out.mono ?_
          rintro e w9 ⟨nv', rfl, h1, h2, h3, h4⟩
          have h5 := HK8.out.weak.trans h4 (RowOn.refl _ _)
          have H1 := hid h1
          clear h1
          go_wp2
          go_ret2
          exact ⟨Or.inl ⟨_, _, _, nv', HF.out, rfl, by rw [show ((j + 1 : Nat) : Int) = (j : Int) + 1 by omega]; exact H1.out, h2, h3.up (Nat.le_trans HKR.out.size (by simp))⟩, h5⟩
        · have HSTEP2 := hid (show SG = (if l.length ≤ j then .er 4 i else match itemAt l j with | .er c p => if c = 4 then .er 4 i else .er c p | .ok s k => setGo l i f k (set ++ s)) by rw [HSTEP.out, if_neg (by simp [h93])])
          have g93 : ((u : Int) == 93) = false := by rw [beq_eq_false_iff_ne]; omega
          have g93' : ¬ (u : Int) = 93 := by omega
          clear h93
          by_cases hje : j = l.length
          · subst hje
            have HF := hid (show brR l i ns SG = .er 4 i by rw [HSTEP2.out, if_pos (Nat.le_refl _)]; rfl)
            have heq : ((l.length : Int) == (l.length : Int)) = true := by simp
            go_wp2_with fail
            go_quiet (fail)
            go_wp2
            go_ret2
            exact ⟨Or.inr ⟨4, i, _, d, nv, HF.out, rfl, by decide, blk4_set (o := 1) _ HBRW.out⟩, ((HKR.out.weak.drewN _).set 1 _)⟩
          · have hlt : j < l.length := by omega
            have hneq : ((j : Int) == (l.length : Int)) = false := by rw [beq_eq_false_iff_ne]; omega
            have hneq2 : ¬ (j : Int) = (l.length : Int) := by omega
            have HSTEP3 := hid (show SG = (match itemAt l j with | .er c p => if c = 4 then .er 4 i else .er c p | .ok s k => setGo l i f k (set ++ s)) by rw [HSTEP2.out, if_neg (by omega)])
            clear hje
            go_wp2_with fail
            go_quiet (fail)
            go_wp2_with fail
            have hkq := HKR.out.trans (Qt.one wr (m5 + nq)).kp (RowOn.refl _ _)
            refine (CI.out _ j hkq ((Qt.one wr (m5 + nq)).at HBRW.out) hlt).mono ?_
            rintro e w6 ⟨he, hk6⟩
            have hk7 := hkq.trans hk6 (RowOn.refl _ _)
            rcases he with ⟨s, k, b, h1, rfl, h3, h4, h5⟩ | ⟨c, p, x, k, h1, rfl, h3, h4, h5⟩
            · have hin := itemAt_in hlt h1
              have HIT := hid (itemAt_pt HPTS.out h1)
              have HSTEP4 := hid (show SG = setGo l i f k (set ++ s) by rw [HSTEP3.out, h1])
              have hs1 : 0 < s.length := List.length_pos_iff.2 hin.2.2.1
              have hs8 : s.length ≤ 8 := hin.2.2.2
              have hjk := hin.1
              have hkl := hin.2.1
              have hB6 := (hk6.block w.heap.size (show w.heap.size < wr.heap.size from hlB) (by omega) (by simp)).trans HBB.out
              rw [HSN.out] at hB6
              have row6 : w6.ownsRow (w.heap.size + 1) 3 1 (.slice sa sn sc) sn (ints' set) := by rw [← HSN.out]; exact row_keep ((show (wr.drewN (m5 + nq)).ownsRow _ _ _ _ _ _ from HROW.out)) hk6 (by omega)
              obtain ⟨⟨n0, n1, n2, n3, n4, n5⟩, v3, v4, hlB6⟩ := blk6 hB6
              have HB6 := hid hB6
              have H5 := hid h5
              have H4 := hid h4
              have hsz6 := hk7.size
              clear h1 h4 h5 hB6 hin
              have a1 : (ints' s).length = s.length * 1 := by simp [ints']
              have a2 : ∀ u ∈ ints' s, u.oneCell' = true := by
                intro u hu
                obtain ⟨q, _, rfl⟩ := List.mem_map.1 hu
                rfl
              have a3 : sn + s.length ≤ maxLen := by unfold maxLen; omega
              have a4 : (sn + s.length) * 8 ≤ 140737488355328 := by omega
              have a5 : w.heap.size + 1 ≤ w6.heap.size := by omega
              have a6 := World.news_of_block H4.out
              have A := hid (And.intro a1 (And.intro a2 (And.intro a3 (And.intro a4 (And.intro a5 (And.intro a6 row6))))))
              clear a1 a2 a3 a4 a5 a6 row6
              go_wp2_with ((at_builtin; refine wpList_append_lies _ rfl (.tmp 69) (.tmp 70) 78 rfl (w.heap.size + 1) 3 ii (.int .i64 0) 1 8 Tryz.underlying78 hii hz0 hz1 hz2 rfl (by decide) (.slice sa sn sc) sn (ints' set) rfl A.out.2.2.2.2.2.2 ⟨b, 0, none⟩ s.length s.length (ints' s) rfl A.out.1 A.out.2.2.2.2.2.1 A.out.2.1 hs1 A.out.2.2.1 A.out.2.2.2.1 A.out.2.2.2.2.1 _ rfl ?_))
              intro g6 cap6 w7 hown7 hgrow7 hat7 hlt7
              have hng := fun b (e : some b = Value.ownBlock (.slice sa sn sc)) => (A.out.2.2.2.2.2.2.lt b e.symm).1
              have hB7 := (hgrow7.block w.heap.size hlB6 (fun e => by have := hng _ e; omega)).trans HB6.out
              have hb7 := (hgrow7.block g (by omega) (fun e => by have := hng _ e; omega)).trans H5.out
              have hK7 := hk7.grownNew hgrow7 (fun b e => by have := hng b e.symm; omega)
              obtain ⟨⟨m0, m1, m2, m3, m4, m5⟩, u3, u4, hlB7⟩ := blk6 hB7
              have HB7 := hid hB7
              have Hb7 := hid hb7
              have HO7 := hid hown7
              have HK7 := hid hK7
              clear hB7 hb7 hK7 hng hown7 hgrow7
              go_wp2
              go_roundw
              case rel =>
                refine ⟨k, set ++ s, _, by omega, by omega, (Below.heap_setCell _ ⟨w.heap.size, 4, none⟩ _ g (show g ≠ w.heap.size by omega)).trans Hb7.out, blk6_set4 HB7.out _, row_keep (by rw [List.length_append, HSN.out, ints'_app]; first | exact HO7.out | simpa using HO7.out) ((Kp.refl w.heap.size none w7).set 4 _) (by omega), ⟨f, by omega, HSTEP4.out.symm⟩, by rw [List.length_append, HSN.out]; omega, fun x hx => (List.mem_append.1 hx).elim (HPT.out x) (HIT.out x), HK7.out.setNew (Nat.le_refl _) 4 _⟩
              case measure =>
                rw [atOf_blk (show _ = some (Value.int .i64 ((k : Nat) : Int)) from (blk4 ((Below.heap_setCell _ ⟨w.heap.size, 4, none⟩ _ g (show g ≠ w.heap.size by omega)).trans Hb7.out)).2.1), atOf_blk (blk4 HBRW.out).2.1]
                omega
            · have H4 := hid h4
              have H1 := hid h1
              have H5 := hid h5
              obtain ⟨e0, e1, e2, e3, f0, f1, f2, f3, hl6⟩ := blk4 h5
              clear h4 h1 h5
              rcases h3 with rfl | rfl
              · have HF := hid (show brR l i ns SG = .er 6 p by rw [HSTEP3.out, H1.out]; rfl)
                have H5 := hid (show w6.heap[g]? = some (.cells #[.slice a l.length cap, .int .i64 ((p : Nat) : Int), .int .i64 ((d : Nat) : Int), nv] 101 (0, 0)) by rw [← H4.out rfl]; exact H5.out)
                go_wp2
                go_ret2
                exact ⟨Or.inr ⟨6, p, _, d, nv, HF.out, rfl, by decide, H5.out⟩, hk7.weak⟩
              · have HF := hid (show brR l i ns SG = .er 4 i by rw [HSTEP3.out, H1.out]; rfl)
                go_wp2
                go_ret2
                exact ⟨Or.inr ⟨4, i, _, d, nv, HF.out, rfl, by decide, blk4_set (o := 1) _ H5.out⟩, (hk7.weak.set 1 _)⟩
  · have g94 : ((z : Int) == 94) = false := by rw [beq_eq_false_iff_ne]; omega
    have hbd : bodyAt l i = i + 1 := by unfold bodyAt negAt; rw [HZ.out]; simp [hneg]
    have hng : negAt l i = false := by unfold negAt; rw [HZ.out]; simp [hneg]
    go_enter Tryz.func221, Tryz.ntmps221
    go_wp2_with fail
    refine (CX1.out _).mono ?_
    rintro e w1 ⟨rfl, hq1⟩
    go_wp2
    go_loopw [6] (fun _ wr => ∃ (j : Nat) (set : List Int) (setv : Value), bodyAt l i ≤ j ∧ j ≤ l.length ∧ BrI w wr g cap d a l nv (negAt l i) w.heap.size i j set setv SG) (fun _ wr => 2000 - atOf g wr)
    case atStart =>
      refine ⟨i + 1, [], .slice none 0 0, by omega, by omega, hq1.at (HB1.out _), ?_, ?_, ⟨_, ?_, by rw [← hbd]; exact HSG.out⟩, by simp, by simp, (HK1.out _).trans hq1.kp (RowOn.refl _ _)⟩
      · rw [hng]
        refine hq1.at ?_
        rw [← show (w.setCell ⟨g, 1, none⟩ (.int .i64 ((i : Int) + 1))).heap.size = w.heap.size by simp]
        exact heap_alloc_new _ _
      · exact ⟨by simp [ints'], Or.inl ⟨rfl, rfl⟩⟩
      · omega
    case round =>
      obtain ⟨j, set, setv, hbj, hjl, hbr, hBB, hrow, ⟨f, hf, hgo⟩, hsl, hpt, hkr⟩ := hrel
      have HPT := hid hpt
      obtain ⟨sa, sc, rfl⟩ := row_shape hrow
      obtain ⟨c0, c1, c2, c3, y0, y1, y2, y3, hlr⟩ := blk4 hbr
      obtain ⟨⟨n0, n1, n2, n3, n4, n5⟩, v3, v4, hlB⟩ := blk6 hBB
      have CXJ := hid (fun w' (hq : Qt wr w') => CX.out w' j (hkr.trans hq.kp (RowOn.refl _ _)) (hq.at hbr) (by omega))
      have HBRW := hid hbr
      have HBB := hid hBB
      have HROW := hid hrow
      have HGO := hid hgo
      have HKR := hid hkr
      obtain ⟨u, hu⟩ : ∃ c, gN l j = c := ⟨_, rfl⟩
      rw [hu] at CXJ
      have HU := hid hu
      obtain ⟨f, rfl⟩ : ∃ m, f = m + 1 := ⟨f - 1, by omega⟩
      have HSTEP := hid (show SG = (if ¬ set = [] ∧ u = 93 then .ok set (j + 1) else if l.length ≤ j then .er 4 i else match itemAt l j with | .er c p => if c = 4 then .er 4 i else .er c p | .ok s k => setGo l i f k (set ++ s)) by rw [← HGO.out, ← HU.out]; rfl)
      clear hbr hBB hrow hgo hkr hu hpt
      obtain ⟨sn, hsn⟩ : ∃ m, set.length = m := ⟨_, rfl⟩
      have HSN := hid hsn
      rw [hsn] at n4 hsl
      by_cases hs0 : sn = 0
      · subst hs0
        have hset : set = [] := List.length_eq_zero_iff.1 hsn
        have HSTEP2 := hid (show SG = (if l.length ≤ j then .er 4 i else match itemAt l j with | .er c p => if c = 4 then .er 4 i else .er c p | .ok s k => setGo l i f k (set ++ s)) by rw [HSTEP.out, if_neg (by simp [hset])])
        clear hsn hset
        have hq5 := Qt.refl wr
        by_cases hje : j = l.length
        · subst hje
          have HF := hid (show brR l i ns SG = .er 4 i by rw [HSTEP2.out, if_pos (Nat.le_refl _)]; rfl)
          have heq : ((l.length : Int) == (l.length : Int)) = true := by simp
          go_wp2_with fail
          go_quiet (fail)
          go_wp2
          go_ret2
          exact ⟨Or.inr ⟨4, i, _, d, nv, HF.out, rfl, by decide, blk4_set (o := 1) _ HBRW.out⟩, ((HKR.out.weak.drewN _).set 1 _)⟩
        · have hlt : j < l.length := by omega
          have hneq : ((j : Int) == (l.length : Int)) = false := by rw [beq_eq_false_iff_ne]; omega
          have hneq2 : ¬ (j : Int) = (l.length : Int) := by omega
          have HSTEP3 := hid (show SG = (match itemAt l j with | .er c p => if c = 4 then .er 4 i else .er c p | .ok s k => setGo l i f k (set ++ s)) by rw [HSTEP2.out, if_neg (by omega)])
          clear hje
          go_wp2_with fail
          go_quiet (fail)
          go_wp2_with fail
          have hkq := HKR.out.trans (Qt.one wr nq).kp (RowOn.refl _ _)
          refine (CI.out _ j hkq ((Qt.one wr nq).at HBRW.out) hlt).mono ?_
          rintro e w6 ⟨he, hk6⟩
          have hk7 := hkq.trans hk6 (RowOn.refl _ _)
          rcases he with ⟨s, k, b, h1, rfl, h3, h4, h5⟩ | ⟨c, p, x, k, h1, rfl, h3, h4, h5⟩
          · have hin := itemAt_in hlt h1
            have HIT := hid (itemAt_pt HPTS.out h1)
            have HSTEP4 := hid (show SG = setGo l i f k (set ++ s) by rw [HSTEP3.out, h1])
            have hs1 : 0 < s.length := List.length_pos_iff.2 hin.2.2.1
            have hs8 : s.length ≤ 8 := hin.2.2.2
            have hjk := hin.1
            have hkl := hin.2.1
            have hB6 := (hk6.block w.heap.size (show w.heap.size < wr.heap.size from hlB) (by omega) (by simp)).trans HBB.out
            rw [HSN.out] at hB6
            have row6 : w6.ownsRow (w.heap.size + 1) 3 1 (.slice sa 0 sc) 0 (ints' set) := by rw [← HSN.out]; exact row_keep ((show (wr.drewN nq).ownsRow _ _ _ _ _ _ from HROW.out)) hk6 (by omega)
            obtain ⟨⟨n0, n1, n2, n3, n4, n5⟩, v3, v4, hlB6⟩ := blk6 hB6
            have HB6 := hid hB6
            have H5 := hid h5
            have H4 := hid h4
            have hsz6 := hk7.size
            clear h1 h4 h5 hB6 hin
            have a1 : (ints' s).length = s.length * 1 := by simp [ints']
            have a2 : ∀ u ∈ ints' s, u.oneCell' = true := by
              intro u hu
              obtain ⟨q, _, rfl⟩ := List.mem_map.1 hu
              rfl
            have a3 : 0 + s.length ≤ maxLen := by unfold maxLen; omega
            have a4 : (0 + s.length) * 8 ≤ 140737488355328 := by omega
            have a5 : w.heap.size + 1 ≤ w6.heap.size := by omega
            have a6 := World.news_of_block H4.out
            have A := hid (And.intro a1 (And.intro a2 (And.intro a3 (And.intro a4 (And.intro a5 (And.intro a6 row6))))))
            clear a1 a2 a3 a4 a5 a6 row6
            go_wp2_with ((at_builtin; refine wpList_append_lies _ rfl (.tmp 69) (.tmp 70) 78 rfl (w.heap.size + 1) 3 ii (.int .i64 0) 1 8 Tryz.underlying78 hii hz0 hz1 hz2 rfl (by decide) (.slice sa 0 sc) 0 (ints' set) rfl A.out.2.2.2.2.2.2 ⟨b, 0, none⟩ s.length s.length (ints' s) rfl A.out.1 A.out.2.2.2.2.2.1 A.out.2.1 hs1 A.out.2.2.1 A.out.2.2.2.1 A.out.2.2.2.2.1 _ rfl ?_))
            intro g6 cap6 w7 hown7 hgrow7 hat7 hlt7
            have hng := fun b (e : some b = Value.ownBlock (.slice sa 0 sc)) => (A.out.2.2.2.2.2.2.lt b e.symm).1
            have hB7 := (hgrow7.block w.heap.size hlB6 (fun e => by have := hng _ e; omega)).trans HB6.out
            have hb7 := (hgrow7.block g (by omega) (fun e => by have := hng _ e; omega)).trans H5.out
            have hK7 := hk7.grownNew hgrow7 (fun b e => by have := hng b e.symm; omega)
            obtain ⟨⟨m0, m1, m2, m3, m4, m5⟩, u3, u4, hlB7⟩ := blk6 hB7
            have HB7 := hid hB7
            have Hb7 := hid hb7
            have HO7 := hid hown7
            have HK7 := hid hK7
            clear hB7 hb7 hK7 hng hown7 hgrow7
            go_wp2
            go_roundw
            case rel =>
              refine ⟨k, set ++ s, _, by omega, by omega, (Below.heap_setCell _ ⟨w.heap.size, 4, none⟩ _ g (show g ≠ w.heap.size by omega)).trans Hb7.out, blk6_set4 HB7.out _, row_keep (by rw [List.length_append, HSN.out, ints'_app]; first | exact HO7.out | simpa using HO7.out) ((Kp.refl w.heap.size none w7).set 4 _) (by omega), ⟨f, by omega, HSTEP4.out.symm⟩, by rw [List.length_append, HSN.out]; omega, fun x hx => (List.mem_append.1 hx).elim (HPT.out x) (HIT.out x), HK7.out.setNew (Nat.le_refl _) 4 _⟩
            case measure =>
              rw [atOf_blk (show _ = some (Value.int .i64 ((k : Nat) : Int)) from (blk4 ((Below.heap_setCell _ ⟨w.heap.size, 4, none⟩ _ g (show g ≠ w.heap.size by omega)).trans Hb7.out)).2.1), atOf_blk (blk4 HBRW.out).2.1]
              omega
          · have H4 := hid h4
            have H1 := hid h1
            have H5 := hid h5
            obtain ⟨e0, e1, e2, e3, f0, f1, f2, f3, hl6⟩ := blk4 h5
            clear h4 h1 h5
            rcases h3 with rfl | rfl
            · have HF := hid (show brR l i ns SG = .er 6 p by rw [HSTEP3.out, H1.out]; rfl)
              have H5 := hid (show w6.heap[g]? = some (.cells #[.slice a l.length cap, .int .i64 ((p : Nat) : Int), .int .i64 ((d : Nat) : Int), nv] 101 (0, 0)) by rw [← H4.out rfl]; exact H5.out)
              go_wp2
              go_ret2
              exact ⟨Or.inr ⟨6, p, _, d, nv, HF.out, rfl, by decide, H5.out⟩, hk7.weak⟩
            · have HF := hid (show brR l i ns SG = .er 4 i by rw [HSTEP3.out, H1.out]; rfl)
              go_wp2
              go_ret2
              exact ⟨Or.inr ⟨4, i, _, d, nv, HF.out, rfl, by decide, blk4_set (o := 1) _ H5.out⟩, (hk7.weak.set 1 _)⟩
      · have hsne : ¬ set = [] := by intro e; rw [e] at hsn; exact hs0 (by simpa using hsn.symm)
        have hsI : ((sn : Int) == 0) = false := by rw [beq_eq_false_iff_ne]; omega
        have hsI2 : ¬ (sn : Int) = 0 := by omega
        have HNE := hid hsne
        clear hsn hsne
        go_wp2_with fail
        refine (CXJ.out _ (Qt.refl _)).mono ?_
        rintro e w5 ⟨rfl, ⟨m5, rfl⟩⟩
        have hq5 := Qt.one wr m5
        by_cases h93 : u = 93
        · subst h93
          have HF := hid (show brR l i ns SG = putR ⟨4, 0, 0, negAt l i, set, []⟩ (j + 1) ns by rw [HSTEP.out, if_pos ⟨HNE.out, rfl⟩]; rfl)
          have hwj : IntKind.i64.wrap ((j : Int) + 1) = (j : Int) + 1 := IntWalk.i64_in _ (by omega)
          have hk8 := (HKR.out.trans hq5.kp (RowOn.refl _ _)).set 1 (.int .i64 ((j + 1 : Nat) : Int))
          have hb8 := blk4_set (o := 1) (.int .i64 ((j + 1 : Nat) : Int)) (hq5.at HBRW.out)
          have hn8 := HN.out.kp hk8
          have row8 := row_keep (show (wr.drewN m5).ownsRow _ _ _ _ _ _ from HROW.out) ((Kp.refl g none _).set 1 (.int .i64 ((j + 1 : Nat) : Int))) (show g < w.heap.size + 1 by omega)
          have hnl : ∀ b, nv.ownBlock = some b → b < w.heap.size := fun b e => by obtain ⟨_, ho, _⟩ := HN.out; exact (ho.lt b e).2
          have hr8 := rd_own_ints (S := Beside X g nv.ownBlock ((wr.drewN m5).setCell ⟨g, 1, none⟩ (.int .i64 ((j + 1 : Nat) : Int)))) row8 HPT.out (fun b _ h1 h2 => ⟨by omega, h2, fun e => by have := hnl b e; omega, fun h => by have := hX b h; omega⟩)
          have hrd8 := rdNode_mk (n := ⟨4, 0, 0, negAt l i, set, []⟩) (by dsimp only; omega) (by dsimp only; omega) (by dsimp only; omega) hr8 rd_noInts
          have CADD := hid (implAddN _ hb8 hn8 hrd8 (by omega))
          have hjc : ((j + 1 : Nat) : Int) = (j : Int) + 1 := by omega
          have HK8 := hid hk8
          dsimp only at CADD
          rw [hjc, HSN.out, hng] at CADD
          rw [hng] at HF
          rw [hjc] at HK8
          clear hk8 hb8 hn8 row8 hr8 hrd8 hjc hnl
          go_wp2_with fail
          refine CADD.out.mono ?_
          rintro e w9 ⟨nv', rfl, h1, h2, h3, h4⟩
          have h5 := HK8.out.weak.trans h4 (RowOn.refl _ _)
          have H1 := hid h1
          clear h1
          go_wp2
          go_ret2
          exact ⟨Or.inl ⟨_, _, _, nv', HF.out, rfl, by rw [show ((j + 1 : Nat) : Int) = (j : Int) + 1 by omega]; exact H1.out, h2, h3.up (Nat.le_trans HKR.out.size (by simp))⟩, h5⟩
        · have HSTEP2 := hid (show SG = (if l.length ≤ j then .er 4 i else match itemAt l j with | .er c p => if c = 4 then .er 4 i else .er c p | .ok s k => setGo l i f k (set ++ s)) by rw [HSTEP.out, if_neg (by simp [h93])])
          have g93 : ((u : Int) == 93) = false := by rw [beq_eq_false_iff_ne]; omega
          have g93' : ¬ (u : Int) = 93 := by omega
          clear h93
          by_cases hje : j = l.length
          · subst hje
            have HF := hid (show brR l i ns SG = .er 4 i by rw [HSTEP2.out, if_pos (Nat.le_refl _)]; rfl)
            have heq : ((l.length : Int) == (l.length : Int)) = true := by simp
            go_wp2_with fail
            go_quiet (fail)
            go_wp2
            go_ret2
            exact ⟨Or.inr ⟨4, i, _, d, nv, HF.out, rfl, by decide, blk4_set (o := 1) _ HBRW.out⟩, ((HKR.out.weak.drewN _).set 1 _)⟩
          · have hlt : j < l.length := by omega
            have hneq : ((j : Int) == (l.length : Int)) = false := by rw [beq_eq_false_iff_ne]; omega
            have hneq2 : ¬ (j : Int) = (l.length : Int) := by omega
            have HSTEP3 := hid (show SG = (match itemAt l j with | .er c p => if c = 4 then .er 4 i else .er c p | .ok s k => setGo l i f k (set ++ s)) by rw [HSTEP2.out, if_neg (by omega)])
            clear hje
            go_wp2_with fail
            go_quiet (fail)
            go_wp2_with fail
            have hkq := HKR.out.trans (Qt.one wr (m5 + nq)).kp (RowOn.refl _ _)
            refine (CI.out _ j hkq ((Qt.one wr (m5 + nq)).at HBRW.out) hlt).mono ?_
            rintro e w6 ⟨he, hk6⟩
            have hk7 := hkq.trans hk6 (RowOn.refl _ _)
            rcases he with ⟨s, k, b, h1, rfl, h3, h4, h5⟩ | ⟨c, p, x, k, h1, rfl, h3, h4, h5⟩
            · have hin := itemAt_in hlt h1
              have HIT := hid (itemAt_pt HPTS.out h1)
              have HSTEP4 := hid (show SG = setGo l i f k (set ++ s) by rw [HSTEP3.out, h1])
              have hs1 : 0 < s.length := List.length_pos_iff.2 hin.2.2.1
              have hs8 : s.length ≤ 8 := hin.2.2.2
              have hjk := hin.1
              have hkl := hin.2.1
              have hB6 := (hk6.block w.heap.size (show w.heap.size < wr.heap.size from hlB) (by omega) (by simp)).trans HBB.out
              rw [HSN.out] at hB6
              have row6 : w6.ownsRow (w.heap.size + 1) 3 1 (.slice sa sn sc) sn (ints' set) := by rw [← HSN.out]; exact row_keep ((show (wr.drewN (m5 + nq)).ownsRow _ _ _ _ _ _ from HROW.out)) hk6 (by omega)
              obtain ⟨⟨n0, n1, n2, n3, n4, n5⟩, v3, v4, hlB6⟩ := blk6 hB6
              have HB6 := hid hB6
              have H5 := hid h5
              have H4 := hid h4
              have hsz6 := hk7.size
              clear h1 h4 h5 hB6 hin
              have a1 : (ints' s).length = s.length * 1 := by simp [ints']
              have a2 : ∀ u ∈ ints' s, u.oneCell' = true := by
                intro u hu
                obtain ⟨q, _, rfl⟩ := List.mem_map.1 hu
                rfl
              have a3 : sn + s.length ≤ maxLen := by unfold maxLen; omega
              have a4 : (sn + s.length) * 8 ≤ 140737488355328 := by omega
              have a5 : w.heap.size + 1 ≤ w6.heap.size := by omega
              have a6 := World.news_of_block H4.out
              have A := hid (And.intro a1 (And.intro a2 (And.intro a3 (And.intro a4 (And.intro a5 (And.intro a6 row6))))))
              clear a1 a2 a3 a4 a5 a6 row6
              go_wp2_with ((at_builtin; refine wpList_append_lies _ rfl (.tmp 69) (.tmp 70) 78 rfl (w.heap.size + 1) 3 ii (.int .i64 0) 1 8 Tryz.underlying78 hii hz0 hz1 hz2 rfl (by decide) (.slice sa sn sc) sn (ints' set) rfl A.out.2.2.2.2.2.2 ⟨b, 0, none⟩ s.length s.length (ints' s) rfl A.out.1 A.out.2.2.2.2.2.1 A.out.2.1 hs1 A.out.2.2.1 A.out.2.2.2.1 A.out.2.2.2.2.1 _ rfl ?_))
              intro g6 cap6 w7 hown7 hgrow7 hat7 hlt7
              have hng := fun b (e : some b = Value.ownBlock (.slice sa sn sc)) => (A.out.2.2.2.2.2.2.lt b e.symm).1
              have hB7 := (hgrow7.block w.heap.size hlB6 (fun e => by have := hng _ e; omega)).trans HB6.out
              have hb7 := (hgrow7.block g (by omega) (fun e => by have := hng _ e; omega)).trans H5.out
              have hK7 := hk7.grownNew hgrow7 (fun b e => by have := hng b e.symm; omega)
              obtain ⟨⟨m0, m1, m2, m3, m4, m5⟩, u3, u4, hlB7⟩ := blk6 hB7
              have HB7 := hid hB7
              have Hb7 := hid hb7
              have HO7 := hid hown7
              have HK7 := hid hK7
              clear hB7 hb7 hK7 hng hown7 hgrow7
              go_wp2
              go_roundw
              case rel =>
                refine ⟨k, set ++ s, _, by omega, by omega, (Below.heap_setCell _ ⟨w.heap.size, 4, none⟩ _ g (show g ≠ w.heap.size by omega)).trans Hb7.out, blk6_set4 HB7.out _, row_keep (by rw [List.length_append, HSN.out, ints'_app]; first | exact HO7.out | simpa using HO7.out) ((Kp.refl w.heap.size none w7).set 4 _) (by omega), ⟨f, by omega, HSTEP4.out.symm⟩, by rw [List.length_append, HSN.out]; omega, fun x hx => (List.mem_append.1 hx).elim (HPT.out x) (HIT.out x), HK7.out.setNew (Nat.le_refl _) 4 _⟩
              case measure =>
                rw [atOf_blk (show _ = some (Value.int .i64 ((k : Nat) : Int)) from (blk4 ((Below.heap_setCell _ ⟨w.heap.size, 4, none⟩ _ g (show g ≠ w.heap.size by omega)).trans Hb7.out)).2.1), atOf_blk (blk4 HBRW.out).2.1]
                omega
            · have H4 := hid h4
              have H1 := hid h1
              have H5 := hid h5
              obtain ⟨e0, e1, e2, e3, f0, f1, f2, f3, hl6⟩ := blk4 h5
              clear h4 h1 h5
              rcases h3 with rfl | rfl
              · have HF := hid (show brR l i ns SG = .er 6 p by rw [HSTEP3.out, H1.out]; rfl)
                have H5 := hid (show w6.heap[g]? = some (.cells #[.slice a l.length cap, .int .i64 ((p : Nat) : Int), .int .i64 ((d : Nat) : Int), nv] 101 (0, 0)) by rw [← H4.out rfl]; exact H5.out)
                go_wp2
                go_ret2
                exact ⟨Or.inr ⟨6, p, _, d, nv, HF.out, rfl, by decide, H5.out⟩, hk7.weak⟩
              · have HF := hid (show brR l i ns SG = .er 4 i by rw [HSTEP3.out, H1.out]; rfl)
                go_wp2
                go_ret2
                exact ⟨Or.inr ⟨4, i, _, d, nv, HF.out, rfl, by decide, blk4_set (o := 1) _ H5.out⟩, (hk7.weak.set 1 _)⟩
end Go.Proofs.YtomcoilmpkpoeaaGreatDoor
