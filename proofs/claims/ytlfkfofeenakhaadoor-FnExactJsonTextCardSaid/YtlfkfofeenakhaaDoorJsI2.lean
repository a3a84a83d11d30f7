/-
  What is proved here: impl's JSON reader: blanks, and a node that is put to the nodes. No condition but that the reader lies in memory, and sizes.
-/
import Derived.Test.YtlfkfofeenakhaaDoorJsI1
import Derived.Test.YtlfkfofeenakhaaDoorJsO
import Derived.Test.YtlfkfofeenakhaaDoorTypes
import Derived.Deep.RegionHeld3
import Derived.Deep.AppendLies
namespace Go.Proofs.YtlfkfofeenakhaaDoor
open Go.RowKit
set_option linter.unusedVariables false
set_option linter.unusedSimpArgs false

theorem end_boolI {a b : Bool} (h : a = b) : (Ending.returned (.bool a)) = Ending.returned (.bool b) := by rw [h]
theorem implJBlankN (c : Nat) (w : World) : Calls Tryd.prog 70 #[.int .i64 (c : Int)] w fun e w' => e = .returned (.bool (blB c)) ∧ w = w' := by
  by_cases h1 : c = 32
  · subst h1
    go_enter Tryd.func70, Tryd.ntmps70
    go_wp2
    go_ret
    exact ⟨end_boolI (by decide), rfl⟩
  by_cases h2 : c = 9
  · subst h2
    go_enter Tryd.func70, Tryd.ntmps70
    go_wp2
    go_ret
    exact ⟨end_boolI (by decide), rfl⟩
  by_cases h3 : c = 10
  · subst h3
    go_enter Tryd.func70, Tryd.ntmps70
    go_wp2
    go_ret
    exact ⟨end_boolI (by decide), rfl⟩
  by_cases h4 : c = 13
  · subst h4
    go_enter Tryd.func70, Tryd.ntmps70
    go_wp2
    go_ret
    exact ⟨end_boolI (by decide), rfl⟩
  have HR := hid (show blB c = false by unfold blB; simp [h1, h2, h3, h4])
  have e1 : ((c : Int) == 32) = false := by rw [beq_eq_false_iff_ne]; omega
  have e2 : ((c : Int) == 9) = false := by rw [beq_eq_false_iff_ne]; omega
  have e3 : ((c : Int) == 10) = false := by rw [beq_eq_false_iff_ne]; omega
  have e4 : ((c : Int) == 13) = false := by rw [beq_eq_false_iff_ne]; omega
  clear h1 h2 h3 h4
  go_enter Tryd.func70, Tryd.ntmps70
  go_wp2
  go_ret
  exact ⟨end_boolI (by rw [HR.out]), rfl⟩
theorem implJBlank (L : List UInt8) (p : Nat) (w : World) : Calls Tryd.prog 70 #[.int .i64 (nxI L p)] w fun e w' => e = .returned (.bool (blB (gB L p))) ∧ w = w' := by
  by_cases hp : p = L.length
  · have HR := hid (show blB (gB L p) = false by rw [gB_end (by omega)]; decide)
    have e : nxI L p = -1 := if_pos hp
    rw [e]
    clear hp e
    go_enter Tryd.func70, Tryd.ntmps70
    go_wp2
    go_ret
    exact ⟨end_boolI (by rw [HR.out]), rfl⟩
  · have e : nxI L p = ((gB L p : Nat) : Int) := if_neg hp
    rw [e]
    exact implJBlankN (gB L p) w
/-- where a reader stands -/
def atI (w : World) (g : Nat) : Nat := match w.cell? ⟨g, 1, none⟩ with | some (.int _ z) => z.toNat | _ => 0
theorem JI.atI {w : World} {g : Nat} {s : ByteArray} {p b : Nat} {nv : Value} (h : JI w g s p b nv) : atI w g = p := by
  unfold Go.Proofs.YtlfkfofeenakhaaDoor.atI
  rw [h.cells.2.1]
  simp
set_option maxHeartbeats 8000000 in
set_option maxRecDepth 100000 in
theorem implJSkip {g : Nat} {s : ByteArray} {p b : Nat} {nv : Value} (w : World) (h : JI w g s p b nv) (hp : p ≤ s.size) (hs : s.size ≤ 5000) :
    Calls Tryd.prog 32 #[.pointer (some ⟨g, 0, none⟩)] w fun e w' => e = .returned (.tuple #[]) ∧ JI w' g s (skB s.data.toList p) b nv ∧ Kp g none w w' := by
  obtain ⟨L, hL⟩ : ∃ L, s.data.toList = L := ⟨_, rfl⟩
  have hsl : s.size = L.length := by rw [← hL, Lib.size_eq]
  have CP := hid (fun (q : Nat) (w : World) (h : JI w g s q b nv) (hq : q ≤ s.size) => implJNext w h hq)
  rw [hL] at CP ⊢
  obtain ⟨R, hR⟩ : ∃ R, skB L p = R := ⟨_, rfl⟩
  have HR := hid hR
  rw [hR]
  have HH := hid h
  have HSL := hid hsl
  clear hL hsl hR h
  go_enter Tryd.func32, Tryd.ntmps32
  go_wp2
  go_loopw [] (fun wr => ∃ q : Nat, q ≤ s.size ∧ JI wr g s q b nv ∧ Kp g none w wr ∧ Hid (skB L q = R)) (fun wr => s.size + 1 - atI wr g)
  case atStart => exact ⟨p, hp, HH.out, Kp.refl _ _ _, HR⟩
  case round =>
    obtain ⟨q, hq, hj, hk, HQ⟩ := hrel
    have HJ := hid hj
    have HK := hid hk
    clear hj hk
    have CPQ := hid (CP.out q wr HJ.out hq)
    have CB := hid (fun w => implJBlank L q w)
    cases hb : blB (gB L q) with
    | true =>
      have hlt : q < L.length := gB_lt (fun e => by rw [e] at hb; revert hb; decide)
      have HST := hid (show skB L (q + 1) = R by rw [← HQ.out]; exact (runE_step hlt hb).symm)
      rw [hb] at CB
      obtain ⟨q1, hq1⟩ : ∃ x, q + 1 = x := ⟨_, rfl⟩
      have hw' : (q : Int) + 1 = (q1 : Int) := by omega
      have hw : IntKind.i64.wrap (q1 : Int) = (q1 : Int) := IntWalk.i64_in _ (by omega)
      rw [hq1] at HST
      have HQ1 := hid hq1
      have HLT := hid hlt
      clear hb hq1 hlt
      go_wp2_with fail
      refine CPQ.out.mono ?_
      rintro e w3 ⟨rfl, hqt⟩
      have HJ3 := hid (HJ.out.qt hqt)
      have HK3 := hid (HK.out.trans hqt.kp (RowOn.refl _ _))
      clear hqt
      go_wp2_with fail
      refine (CB.out _).mono ?_
      rintro e w4 ⟨rfl, rfl⟩
      obtain ⟨c0, c1, c2, c3, y1, y2, y3, hl⟩ := HJ3.out.cells
      clear c2 c3
      have HJ5 := hid (HJ3.out.setP q1)
      have HK5 := hid (HK3.out.set 1 (.int .i64 (q1 : Int)))
      go_wp2
      go_roundw
      case rel => exact ⟨q1, by have := HQ1.out; have := HLT.out; have := HSL.out; omega, HJ5.out, HK5.out, HST⟩
      case measure =>
        have e1 := HJ5.out.atI
        have e2 := HJ.out.atI
        have := HQ1.out
        have := HLT.out
        have := HSL.out
        rw [e1, e2]
        omega
    | false =>
      have HST := hid (show q = R by rw [← HQ.out]; exact (runE_stop hb).symm)
      rw [hb] at CB
      clear hb
      go_wp2_with fail
      refine CPQ.out.mono ?_
      rintro e w3 ⟨rfl, hqt⟩
      have HJ3 := hid (HJ.out.qt hqt)
      have HK3 := hid (HK.out.trans hqt.kp (RowOn.refl _ _))
      clear hqt
      go_wp2_with fail
      refine (CB.out _).mono ?_
      rintro e w4 ⟨rfl, rfl⟩
      go_wp2
      go_end0
      rw [← HST.out]
      exact ⟨rfl, HJ3.out, HK3.out⟩
theorem JI.setN {w : World} {g : Nat} {s : ByteArray} {p b : Nat} {nv : Value} (h : JI w g s p b nv) (u : Value) : JI (w.setCell ⟨g, 3, none⟩ u) g s p b u := (heap_setCell_same w g 3 _ _ _ h).trans rfl
theorem JI.setB {w : World} {g : Nat} {s : ByteArray} {p b : Nat} {nv : Value} (h : JI w g s p b nv) (q : Nat) : JI (w.setCell ⟨g, 2, none⟩ (.int .i64 (q : Int))) g s p q nv := (heap_setCell_same w g 2 _ _ _ h).trans rfl
theorem info_jnI : (Tryd.prog.info? 75).map (fun i => (i.zero, i.size, i.bytes)) = some (some (.agg #[.int .i64 0, .string ⟨#[]⟩, .slice none 0 0, .slice none 0 0]), 4, 72) := by kernel_rfl
theorem one_jnI (x : JOwn) (a1 a2 : Option Addr) (m1 m2 k1 k2 : Nat) : ∀ u ∈ ([.int .i64 x.n.kind, .string x.n.text, .slice a1 m1 k1, .slice a2 m2 k2] : List Value), u.oneCell' = true := by
  intro u hu
  simp only [List.mem_cons, List.not_mem_nil, or_false] at hu
  rcases hu with rfl | rfl | rfl | rfl <;> rfl
def PutI (X : Nat → Prop) (g : Nat) (s : ByteArray) (p b : Nat) (nv : Value) (w w' : World) (ns : List JNode) (n : JNode) (e : Ending) : Prop := ∃ nv' : Value, e = .returned (.tuple #[.int .i64 (ns.length : Int), .int .i64 0]) ∧ JI w' g s p b nv' ∧ JNo X g nv' w' (ns ++ [n]) ∧ RowOn w nv.ownBlock nv'.ownBlock ∧ Kp g nv.ownBlock w w'
set_option maxHeartbeats 16000000 in
set_option maxRecDepth 100000 in
theorem implJAdd {X : Nat → Prop} {g : Nat} {s : ByteArray} {p b : Nat} {nv : Value} {a1 a2 : Option Addr} {m1 m2 k1 k2 : Nat} {ns : List JNode} {x : JOwn} (w : World) (hb : JI w g s p b nv)
    (hn : JNo (fun b => X b ∨ b ∈ x.bs) g nv w ns) (hrd : Rd.rd (Beside X g nv.ownBlock w) w [.int .i64 x.n.kind, .string x.n.text, .slice a1 m1 k1, .slice a2 m2 k2] x) (hnd : x.bs.Nodup) (hlen : ns.length ≤ 100000) :
    Calls Tryd.prog 76 #[.pointer (some ⟨g, 0, none⟩), .agg #[.int .i64 x.n.kind, .string x.n.text, .slice a1 m1 k1, .slice a2 m2 k2]] w fun e w' => PutI X g s p b nv w w' ns x.n e := by
  obtain ⟨os, css, hmap, hnod, hown, heach0⟩ := hn
  have hfr : ∀ b ∈ x.bs, b ∉ os.flatMap JOwn.bs := fun b hb hc => (each_bs heach0 b hc).2.2.2 (Or.inr hb)
  have heach : Each (Beside X g nv.ownBlock w) w css os := heach0.mono (fun b hb => ⟨hb.1, hb.2.1, hb.2.2.1, fun h => hb.2.2.2 (Or.inl h)⟩)
  have hol : os.length = ns.length := by rw [← hmap, List.length_map]
  have HNDP := hid (flat_snoc hnod hnd hfr)
  have HMAP := hid hmap
  clear heach0 hfr hnod hnd hmap
  obtain ⟨n, hon⟩ : ∃ n, os.length = n := ⟨_, rfl⟩
  have HNN := hid hon
  rw [hon] at hown hol
  have HOL := hid hol
  have hlen : n ≤ 100000 := by omega
  clear hon
  clear hol
  obtain ⟨ii, hi, hz0, hz1, hz2⟩ := info_parts info_jnI
  have HB := hid hb
  have hl : g < w.heap.size := hb.cells.2.2.2.2.2.2.2
  have hng : nv.ownBlock ≠ some g := fun e => by have := (hown.lt g e).1; omega
  have hlng : ¬ w.heap.size = g := by omega
  have hlng2 : ¬ g = w.heap.size := by omega
  obtain ⟨c0, c1, c2, c3, y1, y2, y3, _⟩ := hb.cells
  have HOWN := hid hown
  have HEACH := hid heach
  have HRD := hid hrd
  have HNG := hid hng
  clear hb hown heach hrd hng c0 c1 c2
  go_enter Tryd.func76, Tryd.ntmps76
  go_wp2_with fail
  refine wp_region_held_drew (S := fun w' => w'.cell? ⟨w.heap.size, 0, none⟩ = some (.int .i64 x.n.kind) ∧ w'.cell? ⟨w.heap.size, 1, none⟩ = some (.string x.n.text) ∧ w'.cell? ⟨w.heap.size, 2, none⟩ = some (.slice a1 m1 k1) ∧ w'.cell? ⟨w.heap.size, 3, none⟩ = some (.slice a2 m2 k2)) (by kernel_rfl) ?_ (fun hHeld => ?_)
  · (refine ⟨?_, ?_, ?_, ?_⟩ <;> go_simp)
  refine wpAnyH_take (i := 0) (v := ?_) rfl (by kernel_rfl) (by kernel_rfl) (by kernel_rfl) (fun _ _ _ h => h) (Or.inl ⟨by rfl, ?_⟩) (by assumption) ?_
  rotate_left
  · (intro w' hSw; (try dsimp only at hSw); go_simp; try (with_reducible rfl))
  change wpAnyH _ _ _ _ _ _ _ (Act.put _ (some 6) _) _
  try simp only [Act.put, List.setIfInBounds_toArray, List.set_cons_zero, List.set_cons_succ]
  refine wpAnyH_take (i := 1) (v := ?_) rfl (by kernel_rfl) (by kernel_rfl) (by kernel_rfl) (fun _ _ _ h => h) (Or.inl ⟨by rfl, ?_⟩) (by assumption) ?_
  rotate_left
  · (intro w' hSw; (try dsimp only at hSw); go_simp; try (with_reducible rfl))
  change wpAnyH _ _ _ _ _ _ _ (Act.put _ (some 7) _) _
  try simp only [Act.put, List.setIfInBounds_toArray, List.set_cons_zero, List.set_cons_succ]
  refine wpAnyH_take (i := 2) (v := ?_) rfl (by kernel_rfl) (by kernel_rfl) (by kernel_rfl) (fun _ _ _ h => h) (Or.inl ⟨by rfl, ?_⟩) (by assumption) ?_
  rotate_left
  · (intro w' hSw; (try dsimp only at hSw); go_simp; try (with_reducible rfl))
  change wpAnyH _ _ _ _ _ _ _ (Act.put _ (some 8) _) _
  try simp only [Act.put, List.setIfInBounds_toArray, List.set_cons_zero, List.set_cons_succ]
  refine wpAnyH_take (i := 3) (v := ?_) rfl (by kernel_rfl) (by kernel_rfl) (by kernel_rfl) (fun _ _ _ h => h) (Or.inl ⟨by rfl, ?_⟩) (by assumption) ?_
  rotate_left
  · (intro w' hSw; (try dsimp only at hSw); go_simp; try (with_reducible rfl))
  change wpAnyH _ _ _ _ _ _ _ (Act.put _ (some 9) _) _
  try simp only [Act.put, List.setIfInBounds_toArray, List.set_cons_zero, List.set_cons_succ]
  refine wpAnyH_take (i := 5) (v := ?_) rfl (by kernel_rfl) (by kernel_rfl) (by kernel_rfl) (fun _ _ _ h => h) (Or.inl ⟨by rfl, ?_⟩) (by assumption) ?_
  rotate_left
  · (intro w' hSw; (try dsimp only at hSw); go_simp; try (with_reducible rfl))
  change wpAnyH _ _ _ _ _ _ _ (Act.put _ (some 11) _) _
  try simp only [Act.put, List.setIfInBounds_toArray, List.set_cons_zero, List.set_cons_succ]
  refine wpAnyH_ready (rs := [4, 6]) (by kernel_rfl) (by simp) ?_
  refine AllReadyH.cons (i := 4) rfl (fun K hK => ?_) ?_
  · simp only [List.getElem_toArray, List.getElem_cons_succ, List.getElem_cons_zero]
    rw [if_pos (by rfl)]
    go_simp
    refine hK.out _ _ ?_ (fun hHeld => ?_)
    · first | trivial | ((try dsimp only); exact hHeld)
    clear hK K
    try simp only [Act.put, List.setIfInBounds_toArray, List.set_cons_zero, List.set_cons_succ]
    refine wpAnyH_ready (rs := [6]) (by kernel_rfl) (by simp) ?_
    refine AllReadyH.cons (i := 6) rfl (fun K hK => ?_) AllReadyH.nil
    simp only [List.getElem_toArray, List.getElem_cons_succ, List.getElem_cons_zero]
    rw [if_pos (by rfl)]
    go_simp
    refine hK.out _ _ ?_ (fun hHeld => ?_)
    · first | trivial | ((try dsimp only); (refine ⟨?_, ?_, ?_, ?_⟩ <;> go_simp))
    clear hK K
    try simp only [Act.put, List.setIfInBounds_toArray, List.set_cons_zero, List.set_cons_succ]
    refine wpAnyH_ready (rs := [7]) (by kernel_rfl) (by simp) ?_
    refine AllReadyH.cons (i := 7) rfl (fun K hK => ?_) AllReadyH.nil
    simp only [List.getElem_toArray, List.getElem_cons_succ, List.getElem_cons_zero]
    rw [if_pos (by rfl)]
    refine wp_append_lies _ (.tmp 10) (.tmp 12) 22 rfl (g + 1) 75 ii (.agg #[.int .i64 0, .string ⟨#[]⟩, .slice none 0 0, .slice none 0 0]) 4 72 Tryd.underlying22 hi hz0 hz1 hz2 rfl (by decide) nv n css.flatten (by first | rfl | simp [Act.eval, Act.put]) ((HOWN.out.alloc _).drew.alloc _) ⟨w.heap.size + 1, 0, none⟩ 1 1 [.int .i64 x.n.kind, .string x.n.text, .slice a1 m1 k1, .slice a2 m2 k2] (by first | rfl | simp [Act.eval, Act.put]) rfl (World.news_of_block (B := w.heap.size + 1) (cs := #[.int .i64 x.n.kind, .string x.n.text, .slice a1 m1 k1, .slice a2 m2 k2]) (t := 75) (fr := (0, 0)) (by have h0 := heap_alloc_new (w.alloc (.cells #[.int .i64 x.n.kind, .string x.n.text, .slice a1 m1 k1, .slice a2 m2 k2] 75)).drew (.cells #[.int .i64 x.n.kind, .string x.n.text, .slice a1 m1 k1, .slice a2 m2 k2] 75); rw [show (w.alloc (.cells #[.int .i64 x.n.kind, .string x.n.text, .slice a1 m1 k1, .slice a2 m2 k2] 75)).drew.heap.size = w.heap.size + 1 by (show (w.alloc _).heap.size = _; simp)] at h0; exact h0)) (one_jnI x a1 a2 m1 m2 k1 k2) (by decide) (by unfold maxLen; omega) (by omega) (by simp; omega) _ rfl ?_
    intro g4 cap4 w5 hown5 hgrow5 hat5 hlt5
    have hk5 : Kp g nv.ownBlock w w5 := Kp.grown ((((Kp.refl g nv.ownBlock w).alloc _).drew).alloc _) hgrow5
    have hb5 : JI w5 g s p b nv := (hgrow5.block g (by simp; omega) (fun e => HNG.out e.symm)).trans (by
        show ((w.alloc _).alloc _).heap[g]? = _
        rw [(ext_alloc _ _).block g (by show g < (w.alloc _).heap.size; simp; omega)]
        exact ((ext_alloc w _).block g hl).trans HB.out)
    have hS5 : w5.cell? ⟨w.heap.size, 0, none⟩ = some (.int .i64 x.n.kind) ∧ w5.cell? ⟨w.heap.size, 1, none⟩ = some (.string x.n.text) ∧ w5.cell? ⟨w.heap.size, 2, none⟩ = some (.slice a1 m1 k1) ∧ w5.cell? ⟨w.heap.size, 3, none⟩ = some (.slice a2 m2 k2) := by
        have far : ∀ j, w5.cell? ⟨w.heap.size, j, none⟩ = (w.alloc (.cells #[.int .i64 x.n.kind, .string x.n.text, .slice a1 m1 k1, .slice a2 m2 k2] 75)).drew.cell? ⟨w.heap.size, j, none⟩ := fun j => World.cell?_of_block (a := ⟨w.heap.size, j, none⟩) ((hgrow5.block w.heap.size (by simp; omega) (fun e => by have := (HOWN.out.lt _ e.symm).2; omega)).trans ((ext_alloc _ _).block w.heap.size (by show w.heap.size < (w.alloc _).heap.size; simp)))
        refine ⟨?_, ?_, ?_, ?_⟩ <;> (rw [far]; go_simp)
    have hro : RowOn w nv.ownBlock (some g4) := by
        rcases hat5 with h | h
        · exact Or.inl h.symm
        · exact Or.inr ⟨g4, rfl, by simp at h; omega⟩
    have hl5 : g < w5.heap.size := Nat.lt_of_lt_of_le hl hk5.size
    obtain ⟨d0, d1, d2, d3, z1, z2, z3, _⟩ := hb5.cells
    have HOWN5 := hid hown5
    have HB5 := hid hb5
    clear hown5 hgrow5 hat5 hb5 d0 d1 d2
    refine hK.out _ _ ?_ (fun hHeld => ?_)
    · first | trivial | ((try dsimp only); exact hS5)
    clear hK K
    try simp only [Act.put, List.setIfInBounds_toArray, List.set_cons_zero, List.set_cons_succ]
    refine wpAnyH_take (i := 8) (v := ?_) rfl (by kernel_rfl) (by kernel_rfl) (by kernel_rfl) (fun _ _ _ h => h) (Or.inl ⟨by rfl, ?_⟩) (by assumption) ?_
    rotate_left
    · (intro w' hSw; (try dsimp only at hSw); go_simp; try (with_reducible rfl))
    change wpAnyH _ _ _ _ _ _ _ (Act.put _ (some 14) _) _
    try simp only [Act.put, List.setIfInBounds_toArray, List.set_cons_zero, List.set_cons_succ]
    refine wpAnyH_take (i := 9) (v := ?_) rfl (by kernel_rfl) (by kernel_rfl) (by kernel_rfl) (fun _ _ _ h => h) (Or.inl ⟨by rfl, ?_⟩) (by assumption) ?_
    rotate_left
    · (intro w' hSw; (try dsimp only at hSw); go_simp; try (with_reducible rfl))
    change wpAnyH _ _ _ _ _ _ _ (Act.put _ (some 15) _) _
    try simp only [Act.put, List.setIfInBounds_toArray, List.set_cons_zero, List.set_cons_succ]
    refine wpAnyH_ready (rs := [10]) (by kernel_rfl) (by simp) ?_
    refine AllReadyH.cons (i := 10) rfl (fun K hK => ?_) AllReadyH.nil
    simp only [List.getElem_toArray, List.getElem_cons_succ, List.getElem_cons_zero]
    rw [if_pos (by rfl)]
    go_simp
    refine hK.out _ _ ?_ (fun hHeld => ?_)
    · first | trivial | ((try dsimp only); (refine ⟨?_, ?_, ?_, ?_⟩ <;> go_simp))
    clear hK K
    try simp only [Act.put, List.setIfInBounds_toArray, List.set_cons_zero, List.set_cons_succ]
    refine wpAnyH_done (by kernel_rfl) ?_ _
    clear hHeld
    have HB6 := hid (HB5.out.setN (.slice (some ⟨g4, 0, none⟩) (n + 1) cap4))
    have hk6 := hk5.set 3 (.slice (some ⟨g4, 0, none⟩) (n + 1) cap4)
    have HO6 := hid (ownsRow_setCell_below (a := ⟨g, 3, none⟩) HOWN5.out (by show g < g + 1; omega) (.slice (some ⟨g4, 0, none⟩) (n + 1) cap4))
    have hsub : ((n + 1 : Nat) : Int) - 1 = (n : Int) := by omega
    have hsub2 : (n : Int) + 1 - 1 = (n : Int) := by omega
    have hwn : IntKind.i64.wrap (n : Int) = (n : Int) := IntWalk.i64_in _ (by omega)
    have hwm : wrap64 (n : Int) = (n : Int) := IntWalk.wrap64_in _ (by omega)
    go_wp2
    go_ret2
    refine ⟨.slice (some ⟨g4, 0, none⟩) (n + 1) cap4, by rw [← HOL.out]; first | rfl | (congr 2; omega), HB6.out, ⟨os ++ [x], css ++ [[.int .i64 x.n.kind, .string x.n.text, .slice a1 m1 k1, .slice a2 m2 k2]], ?_, HNDP.out, ?_, ?_⟩, hro, hk6⟩
    · rw [List.map_append, HMAP.out]; rfl
    · rw [List.length_append, List.flatten_append, HNN.out]
      have h0 := HO6.out
      simpa using h0
    · have h1 := hk6.each (r' := some g4) hro HEACH.out
      have h2 := hk6.rd (r' := some g4) hro HRD.out
      exact h1.snoc h2
  refine AllReadyH.cons (i := 6) rfl (fun K hK => ?_) ?_
  · simp only [List.getElem_toArray, List.getElem_cons_succ, List.getElem_cons_zero]
    rw [if_pos (by rfl)]
    go_simp
    refine hK.out _ _ ?_ (fun hHeld => ?_)
    · first | trivial | ((try dsimp only); (refine ⟨?_, ?_, ?_, ?_⟩ <;> go_simp))
    clear hK K
    try simp only [Act.put, List.setIfInBounds_toArray, List.set_cons_zero, List.set_cons_succ]
    refine wpAnyH_ready (rs := [4]) (by kernel_rfl) (by simp) ?_
    refine AllReadyH.cons (i := 4) rfl (fun K hK => ?_) AllReadyH.nil
    simp only [List.getElem_toArray, List.getElem_cons_succ, List.getElem_cons_zero]
    rw [if_pos (by rfl)]
    go_simp
    refine hK.out _ _ ?_ (fun hHeld => ?_)
    · first | trivial | ((try dsimp only); exact hHeld)
    clear hK K
    try simp only [Act.put, List.setIfInBounds_toArray, List.set_cons_zero, List.set_cons_succ]
    refine wpAnyH_ready (rs := [7]) (by kernel_rfl) (by simp) ?_
    refine AllReadyH.cons (i := 7) rfl (fun K hK => ?_) AllReadyH.nil
    simp only [List.getElem_toArray, List.getElem_cons_succ, List.getElem_cons_zero]
    rw [if_pos (by rfl)]
    refine wp_append_lies _ (.tmp 10) (.tmp 12) 22 rfl (g + 1) 75 ii (.agg #[.int .i64 0, .string ⟨#[]⟩, .slice none 0 0, .slice none 0 0]) 4 72 Tryd.underlying22 hi hz0 hz1 hz2 rfl (by decide) nv n css.flatten (by first | rfl | simp [Act.eval, Act.put]) ((HOWN.out.alloc _).drew.alloc _) ⟨w.heap.size + 1, 0, none⟩ 1 1 [.int .i64 x.n.kind, .string x.n.text, .slice a1 m1 k1, .slice a2 m2 k2] (by first | rfl | simp [Act.eval, Act.put]) rfl (World.news_of_block (B := w.heap.size + 1) (cs := #[.int .i64 x.n.kind, .string x.n.text, .slice a1 m1 k1, .slice a2 m2 k2]) (t := 75) (fr := (0, 0)) (by have h0 := heap_alloc_new (w.alloc (.cells #[.int .i64 x.n.kind, .string x.n.text, .slice a1 m1 k1, .slice a2 m2 k2] 75)).drew (.cells #[.int .i64 x.n.kind, .string x.n.text, .slice a1 m1 k1, .slice a2 m2 k2] 75); rw [show (w.alloc (.cells #[.int .i64 x.n.kind, .string x.n.text, .slice a1 m1 k1, .slice a2 m2 k2] 75)).drew.heap.size = w.heap.size + 1 by (show (w.alloc _).heap.size = _; simp)] at h0; exact h0)) (one_jnI x a1 a2 m1 m2 k1 k2) (by decide) (by unfold maxLen; omega) (by omega) (by simp; omega) _ rfl ?_
    intro g4 cap4 w5 hown5 hgrow5 hat5 hlt5
    have hk5 : Kp g nv.ownBlock w w5 := Kp.grown ((((Kp.refl g nv.ownBlock w).alloc _).drew).alloc _) hgrow5
    have hb5 : JI w5 g s p b nv := (hgrow5.block g (by simp; omega) (fun e => HNG.out e.symm)).trans (by
        show ((w.alloc _).alloc _).heap[g]? = _
        rw [(ext_alloc _ _).block g (by show g < (w.alloc _).heap.size; simp; omega)]
        exact ((ext_alloc w _).block g hl).trans HB.out)
    have hS5 : w5.cell? ⟨w.heap.size, 0, none⟩ = some (.int .i64 x.n.kind) ∧ w5.cell? ⟨w.heap.size, 1, none⟩ = some (.string x.n.text) ∧ w5.cell? ⟨w.heap.size, 2, none⟩ = some (.slice a1 m1 k1) ∧ w5.cell? ⟨w.heap.size, 3, none⟩ = some (.slice a2 m2 k2) := by
        have far : ∀ j, w5.cell? ⟨w.heap.size, j, none⟩ = (w.alloc (.cells #[.int .i64 x.n.kind, .string x.n.text, .slice a1 m1 k1, .slice a2 m2 k2] 75)).drew.cell? ⟨w.heap.size, j, none⟩ := fun j => World.cell?_of_block (a := ⟨w.heap.size, j, none⟩) ((hgrow5.block w.heap.size (by simp; omega) (fun e => by have := (HOWN.out.lt _ e.symm).2; omega)).trans ((ext_alloc _ _).block w.heap.size (by show w.heap.size < (w.alloc _).heap.size; simp)))
        refine ⟨?_, ?_, ?_, ?_⟩ <;> (rw [far]; go_simp)
    have hro : RowOn w nv.ownBlock (some g4) := by
        rcases hat5 with h | h
        · exact Or.inl h.symm
        · exact Or.inr ⟨g4, rfl, by simp at h; omega⟩
    have hl5 : g < w5.heap.size := Nat.lt_of_lt_of_le hl hk5.size
    obtain ⟨d0, d1, d2, d3, z1, z2, z3, _⟩ := hb5.cells
    have HOWN5 := hid hown5
    have HB5 := hid hb5
    clear hown5 hgrow5 hat5 hb5 d0 d1 d2
    refine hK.out _ _ ?_ (fun hHeld => ?_)
    · first | trivial | ((try dsimp only); exact hS5)
    clear hK K
    try simp only [Act.put, List.setIfInBounds_toArray, List.set_cons_zero, List.set_cons_succ]
    refine wpAnyH_take (i := 8) (v := ?_) rfl (by kernel_rfl) (by kernel_rfl) (by kernel_rfl) (fun _ _ _ h => h) (Or.inl ⟨by rfl, ?_⟩) (by assumption) ?_
    rotate_left
    · (intro w' hSw; (try dsimp only at hSw); go_simp; try (with_reducible rfl))
    change wpAnyH _ _ _ _ _ _ _ (Act.put _ (some 14) _) _
    try simp only [Act.put, List.setIfInBounds_toArray, List.set_cons_zero, List.set_cons_succ]
    refine wpAnyH_take (i := 9) (v := ?_) rfl (by kernel_rfl) (by kernel_rfl) (by kernel_rfl) (fun _ _ _ h => h) (Or.inl ⟨by rfl, ?_⟩) (by assumption) ?_
    rotate_left
    · (intro w' hSw; (try dsimp only at hSw); go_simp; try (with_reducible rfl))
    change wpAnyH _ _ _ _ _ _ _ (Act.put _ (some 15) _) _
    try simp only [Act.put, List.setIfInBounds_toArray, List.set_cons_zero, List.set_cons_succ]
    refine wpAnyH_ready (rs := [10]) (by kernel_rfl) (by simp) ?_
    refine AllReadyH.cons (i := 10) rfl (fun K hK => ?_) AllReadyH.nil
    simp only [List.getElem_toArray, List.getElem_cons_succ, List.getElem_cons_zero]
    rw [if_pos (by rfl)]
    go_simp
    refine hK.out _ _ ?_ (fun hHeld => ?_)
    · first | trivial | ((try dsimp only); (refine ⟨?_, ?_, ?_, ?_⟩ <;> go_simp))
    clear hK K
    try simp only [Act.put, List.setIfInBounds_toArray, List.set_cons_zero, List.set_cons_succ]
    refine wpAnyH_done (by kernel_rfl) ?_ _
    clear hHeld
    have HB6 := hid (HB5.out.setN (.slice (some ⟨g4, 0, none⟩) (n + 1) cap4))
    have hk6 := hk5.set 3 (.slice (some ⟨g4, 0, none⟩) (n + 1) cap4)
    have HO6 := hid (ownsRow_setCell_below (a := ⟨g, 3, none⟩) HOWN5.out (by show g < g + 1; omega) (.slice (some ⟨g4, 0, none⟩) (n + 1) cap4))
    have hsub : ((n + 1 : Nat) : Int) - 1 = (n : Int) := by omega
    have hsub2 : (n : Int) + 1 - 1 = (n : Int) := by omega
    have hwn : IntKind.i64.wrap (n : Int) = (n : Int) := IntWalk.i64_in _ (by omega)
    have hwm : wrap64 (n : Int) = (n : Int) := IntWalk.wrap64_in _ (by omega)
    go_wp2
    go_ret2
    refine ⟨.slice (some ⟨g4, 0, none⟩) (n + 1) cap4, by rw [← HOL.out]; first | rfl | (congr 2; omega), HB6.out, ⟨os ++ [x], css ++ [[.int .i64 x.n.kind, .string x.n.text, .slice a1 m1 k1, .slice a2 m2 k2]], ?_, HNDP.out, ?_, ?_⟩, hro, hk6⟩
    · rw [List.map_append, HMAP.out]; rfl
    · rw [List.length_append, List.flatten_append, HNN.out]
      have h0 := HO6.out
      simpa using h0
    · have h1 := hk6.each (r' := some g4) hro HEACH.out
      have h2 := hk6.rd (r' := some g4) hro HRD.out
      exact h1.snoc h2
  exact AllReadyH.nil
end Go.Proofs.YtlfkfofeenakhaaDoor
