/-
  What is proved here: the reference's bracket expressions. No condition but that the reader, its list and its nodes lie in memory, and sizes.
-/
import Derived.Test.YtomcoilmpkpoeaaGreatDoorQRxS5
import Derived.Deep.Cut
import Derived.Deep.CutRange
namespace Go.Proofs.YtomcoilmpkpoeaaGreatDoor
open Go.RowKit
set_option linter.unusedVariables false
set_option linter.unusedSimpArgs false

/-- a bracket's node under way -/
def BrS (w wr : World) (g cap d : Nat) (a : Option Addr) (l : List Nat) (nv : Value) (neg : Bool) (B i j : Nat) (set : List Int) (setv : Value) (SG : IR) : Prop :=
  wr.heap[g]? = some (.cells #[.slice a l.length cap, .int .i64 ((j : Nat) : Int), .int .i64 ((0 : Nat) : Int), .int .i64 ((0 : Nat) : Int), .int .i64 ((d : Nat) : Int), nv] 87 (0, 0)) ∧ wr.heap[B]? = some (.cells #[.int .i64 4, .int .i64 0, .int .i64 0, .bool (neg), setv, .slice none 0 0] 82 (0, 0))
  ∧ wr.ownsRow (B + 1) 3 1 setv set.length (ints' set) ∧ (∃ f, l.length + 1 ≤ f + j ∧ setGo l i f j set = SG) ∧ set.length ≤ 8 * j ∧ (∀ x ∈ set, ptI x) ∧ Kp g none w wr
set_option maxHeartbeats 32000000 in
set_option maxRecDepth 100000 in
theorem specBracket {X : Nat → Prop} {g cap i d : Nat} {a : Option Addr} {l : List Nat} {nv : Value} {ns : List RxNode} (w : World) (hb : w.heap[g]? = some (.cells #[.slice a l.length cap, .int .i64 ((i : Nat) : Int), .int .i64 ((0 : Nat) : Int), .int .i64 ((0 : Nat) : Int), .int .i64 ((d : Nat) : Int), nv] 87 (0, 0)))
    (hL : RxL w g a l) (hi : i < l.length) (hn : RxNs X g nv w ns) (hlen2 : ns.length ≤ 5000) (hX : ∀ b, X b → b < w.heap.size) :
    Calls Tryz.prog 200 #[.pointer (some ⟨g, 0, none⟩)] w fun e w' => NodeS X w w' g cap d a l nv 5000 (bracketP l i ns) e ∧ Kp g nv.ownBlock w w' := by
  have hlen := hL.len
  have HPTS := hid hL.pts
  have hg : g < w.heap.size := (Array.getElem?_eq_some_iff.1 hb).1
  have CX := hid (fun (w' : World) (j : Nat) (hk : Kp g none w w') (hb' : w'.heap[g]? = some (.cells #[.slice a l.length cap, .int .i64 ((j : Nat) : Int), .int .i64 ((0 : Nat) : Int), .int .i64 ((0 : Nat) : Int), .int .i64 ((d : Nat) : Int), nv] 87 (0, 0))) (hj : j ≤ 4000) => specPeek w' hb' (hL.below (hk.base hg)) hj)
  have CI := hid (fun (w' : World) (j : Nat) (hk : Kp g none w w') (hb' : w'.heap[g]? = some (.cells #[.slice a l.length cap, .int .i64 ((j : Nat) : Int), .int .i64 ((0 : Nat) : Int), .int .i64 ((0 : Nat) : Int), .int .i64 ((d : Nat) : Int), nv] 87 (0, 0))) (hj : j < l.length) => specOne w' hb' (hL.below (hk.base hg)) hj)
  have HLL := hid (fun (w' : World) (hk : Kp g none w w') => hL.below (hk.base hg))
  obtain ⟨SG, hSG⟩ : ∃ r, setGo l i (l.length + 1 - bodyAt l i) (bodyAt l i) [] = r := ⟨_, rfl⟩
  have HBR := hid (show bracketP l i ns = brR l i ns SG by rw [← hSG]; unfold bracketP brR; rfl)
  rw [HBR.out]
  have HSG := hid hSG
  have HN := hid hn
  have HB := hid hb
  have HX := hid hX
  have hbody := bodyAt_in hi
  obtain ⟨⟨c0, c1, c2, c3, c4, c5⟩, ⟨y1, y2, y3, y4, y5⟩, hl⟩ := blk6c hb
  have hw : IntKind.i64.wrap ((i : Int) + 1) = (i : Int) + 1 := IntWalk.i64_in _ (by omega)
  obtain ⟨ii, hii, hz0, hz1, hz2⟩ := info_parts info_int
  clear hb hSG hn hL hX
  have HN1 := hid (blk6_set (o := 1) (.int .i64 ((i + 1 : Nat) : Int)) HB.out)
  have hcast : ((i + 1 : Nat) : Int) = (i : Int) + 1 := by omega
  have hk1 := fun o => ((Kp.refl g none w).set 1 (.int .i64 ((i + 1 : Nat) : Int))).alloc o
  have hb1 := fun o => ((ext_alloc (w.setCell ⟨g, 1, none⟩ (.int .i64 ((i + 1 : Nat) : Int))) o).block g (by simp; exact hl)).trans HN1.out
  have CX1 := hid (fun o => CX.out _ (i + 1) (hk1 o) (hb1 o) (by omega))
  have HB1 := hid hb1
  have HK1 := hid hk1
  rw [hcast] at HN1 CX1 HB1 HK1
  clear hb1 hk1 hcast
  obtain ⟨z, hz⟩ : ∃ c, gN l (i + 1) = c := ⟨_, rfl⟩
  rw [hz] at CX1
  have HZ := hid hz
  clear hz
  unfold NodeS
  go_enter Tryz.func200, Tryz.ntmps200
  go_wp2_with fail
  refine (CX1.out _).mono ?_
  rintro e w1 ⟨rfl, hq1⟩
  go_upto_if 25 with fail
  go_cut [] from 23 (fun wx => wx.heap[g]? = some (.cells #[.slice a l.length cap, .int .i64 ((bodyAt l i : Nat) : Int), .int .i64 ((0 : Nat) : Int), .int .i64 ((0 : Nat) : Int), .int .i64 ((d : Nat) : Int), nv] 87 (0, 0)) ∧ wx.heap[w.heap.size]? = some (.cells #[.int .i64 4, .int .i64 0, .int .i64 0, .bool (negAt l i), .slice none 0 0, .slice none 0 0] 82 (0, 0)) ∧ Kp g none w wx)
  case first =>
    as_aux_lemma =>
      have hB1 := hq1.at (b := w.heap.size) (show _ = some (Obj.cells #[.int .i64 4, .int .i64 0, .int .i64 0, .bool false, .slice none 0 0, .slice none 0 0] 82 (0, 0)) from (by
          rw [← show (w.setCell ⟨g, 1, none⟩ (.int .i64 ((i : Int) + 1))).heap.size = w.heap.size by simp]
          exact heap_alloc_new _ _))
      have hb1 := hq1.at (HB1.out _)
      have hk1 := (HK1.out _).trans hq1.kp (RowOn.refl _ _)
      by_cases hneg : z = 94
      · subst hneg
        have hbd : bodyAt l i = i + 2 := by unfold bodyAt negAt; rw [HZ.out]; simp
        have hng : negAt l i = true := by unfold negAt; rw [HZ.out]; simp
        obtain ⟨⟨n0, n1, n2, n3, n4, n5⟩, v3, v4, hlB⟩ := blk6 hB1
        obtain ⟨⟨d0, d1, d2, d3, d4, d5⟩, ⟨f1, f2, f3, f4, f5⟩, hl1⟩ := blk6c hb1
        have hgB : ¬ g = w.heap.size := by omega
        have hgB2 : ¬ w.heap.size = g := by omega
        have hw2 : IntKind.i64.wrap ((i : Int) + 1 + 1) = (i : Int) + 1 + 1 := IntWalk.i64_in _ (by omega)
        have HB1' := hid hB1
        have Hb1' := hid hb1
        have HK1' := hid hk1
        clear hB1 hb1 hk1
        go_wp2_with fail
        go_meet
        rw [hbd, hng]
        refine ⟨?_, ?_, (HK1'.out.setNew (Nat.le_refl _) 3 _).set 1 _⟩
        · have h9 := blk6_set (o := 1) (.int .i64 ((i : Int) + 1 + 1)) ((Below.heap_setCell w1 ⟨w.heap.size, 3, none⟩ (.bool true) g (show g ≠ w.heap.size by omega)).trans Hb1'.out)
          rw [show ((i + 2 : Nat) : Int) = (i : Int) + 1 + 1 by omega]
          exact h9
        · exact (Below.heap_setCell _ ⟨g, 1, none⟩ _ w.heap.size (show w.heap.size ≠ g by omega)).trans (blk6_set3 HB1'.out (.bool true))
      · have g94 : ((z : Int) == 94) = false := by rw [beq_eq_false_iff_ne]; omega
        have hbd : bodyAt l i = i + 1 := by unfold bodyAt negAt; rw [HZ.out]; simp [hneg]
        have hng : negAt l i = false := by unfold negAt; rw [HZ.out]; simp [hneg]
        have HB1' := hid hB1
        have Hb1' := hid hb1
        have HK1' := hid hk1
        clear hB1 hb1 hk1 hneg
        go_wp2_with fail
        go_meet
        rw [hbd, hng]
        exact ⟨Hb1'.out, HB1'.out, HK1'.out⟩
  case rest =>
  obtain ⟨hbW, hBW, hkW⟩ := hcut
  have HBW := hid hbW
  have HBN := hid hBW
  have HKW := hid hkW
  obtain ⟨ng, hng⟩ : ∃ b, negAt l i = b := ⟨_, rfl⟩
  rw [hng] at HBN
  have HNG := hid hng
  clear hbW hBW hkW CX1 HB1 HK1 HN1 c0 c1 c2 c3 c4 c5 y1 y2 y3 y4 y5 hng
  go_wp2
  go_loopw [5] (fun fv wr => ∃ (b : Bool) (j : Nat) (set : List Int) (setv : Value), fv = .bool b ∧ (b = true ↔ set = []) ∧ bodyAt l i ≤ j ∧ j ≤ l.length ∧ BrS w wr g cap d a l nv ng w.heap.size i j set setv SG) (fun _ wr => 4000 - atOf g wr)
  case atStart => exact ⟨true, bodyAt l i, [], .slice none 0 0, rfl, by simp, Nat.le_refl _, hbody.2, HBW.out, HBN.out, ⟨by simp [ints'], Or.inl ⟨rfl, rfl⟩⟩, ⟨_, by omega, HSG.out⟩, by simp, by simp, HKW.out⟩
  case round =>
    obtain ⟨b, j, set, setv, rfl, hbs, hbj, hjl, hbr, hBB, hrow, ⟨f, hf, hgo⟩, hsl, hpt, hkr⟩ := hrel
    have HPT := hid hpt
    obtain ⟨sa, sc, rfl⟩ := row_shape hrow
    obtain ⟨⟨c0, c1, c2, c3, c4, c5⟩, ⟨y1, y2, y3, y4, y5⟩, hlr⟩ := blk6c hbr
    obtain ⟨⟨n0, n1, n2, n3, n4, n5⟩, v3, v4, hlB⟩ := blk6 hBB
    have CXJ := hid (fun w' (hq : Qt wr w') => CX.out w' j (hkr.trans hq.kp (RowOn.refl _ _)) (hq.at hbr) (by omega))
    have HBRW := hid hbr
    have HBB := hid hBB
    have HROW := hid hrow
    have HKR := hid hkr
    obtain ⟨u, hu⟩ : ∃ c, gN l j = c := ⟨_, rfl⟩
    rw [hu] at CXJ
    have HU := hid hu
    obtain ⟨f, rfl⟩ : ∃ m, f = m + 1 := ⟨f - 1, by omega⟩
    have HSTEP := hid (show SG = (if ¬ set = [] ∧ u = 93 then .ok set (j + 1) else if l.length ≤ j then .er 4 i else match itemAt l j with | .er c p => if c = 4 then .er 4 i else .er c p | .ok s k => setGo l i f k (set ++ s)) by rw [← hgo, ← HU.out]; rfl)
    have HBS := hid hbs
    obtain ⟨sn, hsn⟩ : ∃ m, set.length = m := ⟨_, rfl⟩
    have HSN := hid hsn
    rw [hsn] at n4 hsl
    clear hbr hBB hrow hgo hkr hu hpt hbs hsn
    go_upto_region 8 with fail
    go_cut [39] from 34 to 244 (fun t wx => t = .bool (b || !decide (u = 93)) ∧ Qt wr wx)
    case first =>
      as_aux_lemma =>
        cases b with
        | true =>
          go_wp2_with fail
          go_meet
          exact ⟨rfl, Qt.refl _⟩
        | false =>
          go_wp2_with fail
          refine (CXJ.out _ (Qt.refl _)).mono ?_
          rintro e w5 ⟨rfl, hq5⟩
          go_wp2_with fail
          go_meet
          refine ⟨?_, hq5⟩
          by_cases h93 : u = 93
          · subst h93; rfl
          · have : ¬ (u : Int) = 93 := by omega
            simp [h93, this]
    case rest =>
    obtain ⟨rfl, ⟨m5, rfl⟩⟩ := hcut
    by_cases hex : b = false ∧ u = 93
    · obtain ⟨rfl, rfl⟩ := hex
      have hsne : ¬ set = [] := fun e => absurd (HBS.out.2 e) (by decide)
      have HF := hid (show brR l i ns SG = putR ⟨4, 0, 0, ng, set, []⟩ (j + 1) ns by rw [HSTEP.out, if_pos ⟨hsne, rfl⟩, ← HNG.out]; rfl)
      as_aux_lemma =>
        have hwj : IntKind.i64.wrap ((j : Int) + 1) = (j : Int) + 1 := IntWalk.i64_in _ (by omega)
        have hq5 := Qt.one wr m5
        have hk8 := (HKR.out.trans hq5.kp (RowOn.refl _ _)).set 1 (.int .i64 ((j + 1 : Nat) : Int))
        have hb8 := blk6_set (o := 1) (.int .i64 ((j + 1 : Nat) : Int)) (hq5.at HBRW.out)
        have hn8 := HN.out.kp hk8
        have row8 := row_keep (show (wr.drewN m5).ownsRow _ _ _ _ _ _ from HROW.out) ((Kp.refl g none _).set 1 (.int .i64 ((j + 1 : Nat) : Int))) (show g < w.heap.size + 1 by omega)
        have hnl : ∀ b, nv.ownBlock = some b → b < w.heap.size := fun b e => (HN.out.lt b e).2
        have hr8 := rd_own_ints (S := Beside X g nv.ownBlock ((wr.drewN m5).setCell ⟨g, 1, none⟩ (.int .i64 ((j + 1 : Nat) : Int)))) row8 HPT.out (fun b _ h1 h2 => ⟨by omega, h2, fun e => by have := hnl b e; omega, fun h => by have := HX.out b h; omega⟩)
        have CADD := hid (specPutAt ⟨4, 0, 0, ng, set, []⟩ _ hb8 hn8 (by omega) (by dsimp only; omega) (by dsimp only; omega) (by dsimp only; omega) hr8 rd_noInts)
        have hjc : ((j + 1 : Nat) : Int) = (j : Int) + 1 := by omega
        have HK8 := hid hk8
        dsimp only at CADD
        rw [hjc, HSN.out] at CADD
        rw [hjc] at HK8
        clear hk8 hb8 hn8 row8 hr8 hjc hnl hq5
        go_wp2_with fail
        refine CADD.out.mono ?_
        rintro e w9 ⟨nv', rfl, h1, h2, h3, h4⟩
        have h5 := HK8.out.weak.trans h4 (RowOn.refl _ _)
        have H1 := hid h1
        clear h1
        go_wp2
        go_ret
        exact ⟨Or.inl ⟨_, _, _, nv', HF.out, rfl, H1.out, h2, h3.up (Nat.le_trans HKR.out.size (by simp))⟩, h5⟩
    have hcond : (b || !decide (u = 93)) = true := by
      cases b with
      | true => rfl
      | false => simp only [Bool.false_or, Bool.not_eq_true', decide_eq_false_iff_not]; exact fun h => hex ⟨rfl, h⟩
    have HSTEP2 := hid (show SG = (if l.length ≤ j then .er 4 i else match itemAt l j with | .er c p => if c = 4 then .er 4 i else .er c p | .ok s k => setGo l i f k (set ++ s)) by
      rw [HSTEP.out, if_neg]
      rintro ⟨h1, h2⟩
      refine hex ⟨?_, h2⟩
      cases b with
      | true => exact absurd (HBS.out.1 rfl) h1
      | false => rfl)
    rw [hcond]
    clear hex hcond
    by_cases hje : j = l.length
    · subst hje
      have HF := hid (show brR l i ns SG = .er 4 i by rw [HSTEP2.out, if_pos (Nat.le_refl _)]; rfl)
      as_aux_lemma =>
        have heq : (l.length : Int) ≤ (l.length : Int) := by omega
        go_wp2_with fail
        go_quiet (fail)
        go_wp2_with fail
        refine (specFail (p := 0) 4 i _ (by exact (Qt.one wr (m5 + nq)).at HBRW.out)).mono ?_
        rintro e w9 ⟨rfl, h1, h2⟩
        have H1 := hid h1
        have hk9 := (HKR.out.trans (Qt.one wr (m5 + nq)).kp (RowOn.refl _ _)).trans h2 (RowOn.refl _ _)
        clear h1
        go_wp2
        go_ret
        exact ⟨Or.inr ⟨4, i, 0, _, nv, ns, HF.out, rfl, by decide, H1.out, HN.out.kp hk9, RowOn.refl _ _, hlen2, by omega, by omega⟩, hk9.weak⟩
    have hlt : j < l.length := by omega
    have hlti : ¬ (l.length : Int) ≤ (j : Int) := by omega
    have hltn : ¬ l.length ≤ j := by omega
    have HSTEP3 := hid (show SG = (match itemAt l j with | .er c p => if c = 4 then .er 4 i else .er c p | .ok s k => setGo l i f k (set ++ s)) by rw [HSTEP2.out, if_neg (by omega)])
    obtain ⟨z1, hz1'⟩ : ∃ c, gN l (j + 1) = c := ⟨_, rfl⟩
    have HZ1 := hid hz1'
    clear hje hz1'
    go_wp2_with fail
    go_quiet (fail)
    go_wp2_with fail
    go_cut [82] from 34 to 244 (fun t wx => t = .bool (decide (u = 91 ∧ z1 = 58)) ∧ Qt wr wx)
    case first =>
      as_aux_lemma =>
        have hw1 : IntKind.i64.wrap ((j : Int) + 1) = ((j + 1 : Nat) : Int) := by rw [IntWalk.i64_in _ (by omega)]; omega
        obtain ⟨wq, hwq⟩ : ∃ x, wr.drewN (m5 + nq) = x := ⟨_, rfl⟩
        have hwq2 : (wr.drewN m5).drewN nq = wq := by rw [← hwq]; simp [World.drewN, Nat.add_assoc]
        first | rw [hwq] | rw [hwq2]
        clear hwq2
        have hqq : Qt wr wq := ⟨_, hwq.symm⟩
        clear hwq c0 c1 c2 c3 c4 c5
        obtain ⟨⟨c0, c1, c2, c3, c4, c5⟩, _, _⟩ := blk6c (hqq.at HBRW.out)
        have hkq := HKR.out.trans hqq.kp (RowOn.refl _ _)
        by_cases h91 : u = 91
        · subst h91
          by_cases hj1 : j + 1 < l.length
          · obtain ⟨lb, lo, rfl, hlb, hcl⟩ := (HLL.out wq hkq).cel (by omega)
            have hcell := hcl (j + 1) hj1
            rw [← gN_at hj1, HZ1.out] at hcell
            obtain ⟨j1, hjj⟩ : ∃ x, j + 1 = x := ⟨_, rfl⟩
            rw [hjj] at hcell hw1 hj1
            have hi1 : (j1 : Int) < (l.length : Int) := by omega
            have hi0 : (0 : Int) ≤ (j1 : Int) := by omega
            have hz5 : ((z1 : Int) == 58) = decide (z1 = 58) := by by_cases h : z1 = 58 <;> simp [h]; omega
            clear hcl hkq hjj
            go_quiet (refine Calls.quiet_of (CXJ.out _ (hqq.trans (Qt.one _ _))))
            go_wp2_with fail
            go_meet
            exact ⟨by simp [hz5], hqq.trans (Qt.one _ _)⟩
          · have hzz : z1 = 0 := by rw [← HZ1.out]; exact gN_end (by omega)
            have hi1 : ¬ ((j + 1 : Nat) : Int) < (l.length : Int) := by omega
            have hi2 : ¬ j + 1 < l.length := hj1
            have hi3 : ¬ (j : Int) + 1 < (l.length : Int) := by omega
            clear hkq
            go_quiet (refine Calls.quiet_of (CXJ.out _ (hqq.trans (Qt.one _ _))))
            go_wp2_with fail
            go_meet
            exact ⟨by rw [hzz]; rfl, hqq.trans (Qt.one _ _)⟩
        · have e91 : ((u : Int) == 91) = false := by rw [beq_eq_false_iff_ne]; omega
          clear hkq
          go_quiet (refine Calls.quiet_of (CXJ.out _ (hqq.trans (Qt.one _ _))))
          go_wp2_with fail
          go_meet
          exact ⟨by simp [h91], hqq.trans (Qt.one _ _)⟩
    case rest =>
    obtain ⟨rfl, ⟨m6, rfl⟩⟩ := hcut
    by_cases hcl : u = 91 ∧ z1 = 58
    · obtain ⟨rfl, rfl⟩ := hcl
      rw [show decide ((91 : Nat) = 91 ∧ (58 : Nat) = 58) = true from rfl]
      as_aux_lemma =>
        have hq6 := Qt.one wr m6
        have hj2 : j + 2 ≤ l.length := by have := gN_lt (l := l) (i := j + 1) (by rw [HZ1.out]; decide); omega
        have hit := item_class ⟨HU.out, HZ1.out⟩
        obtain ⟨k0, hk0⟩ : ∃ x, j + 2 = x := ⟨_, rfl⟩
        rw [hk0] at hit hj2
        have hwk : IntKind.i64.wrap ((j : Int) + 2) = (k0 : Int) := by rw [IntWalk.i64_in _ (by omega)]; omega
        obtain ⟨D, hD⟩ : ∃ n, (nmRun l k0).length = n := ⟨_, rfl⟩
        have hDl : D ≤ l.length - k0 := by rw [← hD]; exact nmRun_len l k0
        rw [hD] at hit
        have HITC := hid hit
        have HD := hid hD
        obtain ⟨wo, hwo⟩ : ∃ x, wr.drewN m6 = x := ⟨_, rfl⟩
        have hbo : wo.heap[g]? = some (.cells #[.slice a l.length cap, .int .i64 ((j : Nat) : Int), .int .i64 ((0 : Nat) : Int), .int .i64 ((0 : Nat) : Int), .int .i64 ((d : Nat) : Int), nv] 87 (0, 0)) := by rw [← hwo]; exact hq6.at HBRW.out
        have hko : Kp g none wr wo := by rw [← hwo]; exact hq6.kp
        have HBo := hid hbo
        have HKo := hid hko
        rw [hwo]
        clear c0 c1 c2 c3 c4 c5 n0 n1 n2 n3 n4 n5
        obtain ⟨⟨c0, c1, c2, c3, c4, c5⟩, _, _⟩ := blk6c hbo
        have HK0 := hid hk0
        clear hwo hit hD hbo hko hq6 hk0
        go_wp2
        clear c0 c1 c2 c3 c4 c5
        go_loopw [6, 7] (fun sv kv wr => ∃ m k : Nat, k0 + m = k ∧ m ≤ D ∧ kv = .int .i64 (k : Int) ∧ sv = .string (mkB (nameB ((nmRun l k0).take m))) ∧ wr.heap[g]? = some (.cells #[.slice a l.length cap, .int .i64 ((j : Nat) : Int), .int .i64 ((0 : Nat) : Int), .int .i64 ((0 : Nat) : Int), .int .i64 ((d : Nat) : Int), nv] 87 (0, 0)) ∧ Kp g none wo wr) (fun _ kv _ => 4000 - (intOf kv).toNat)
        case atStart => exact ⟨0, k0, rfl, Nat.zero_le _, rfl, by simp [nameB, mkB], HBo.out, Kp.refl _ _ _⟩
        case round =>
          obtain ⟨m, k, hmk, hmD, rfl, rfl, hbr9, hkr9⟩ := hrel
          have hRL := HLL.out wr ((HKR.out.trans HKo.out (RowOn.refl _ _)).trans hkr9 (RowOn.refl _ _))
          obtain ⟨⟨c0, c1, c2, c3, c4, c5⟩, _, hgl9⟩ := blk6c hbr9
          have HB9 := hid hbr9
          have HK9 := hid hkr9
          clear hbr9 hkr9
          by_cases hgo : m < D
          · obtain ⟨e1, h58, h128⟩ := nmRun_take l k0 m (by rw [HD.out]; exact hgo)
            rw [hmk] at e1 h58 h128
            have hkl : k < l.length := by omega
            obtain ⟨lb, lo9, rfl, hlb, hcl9⟩ := hRL.cel (by omega)
            have hcell := hcl9 k hkl
            rw [← gN_at hkl] at hcell
            obtain ⟨c, hc⟩ : ∃ c, gN l k = c := ⟨_, rfl⟩
            rw [hc] at e1 h58 h128 hcell
            obtain ⟨x, rfl⟩ : ∃ x : UInt8, c = x.toNat := ⟨UInt8.ofNat c, by rw [UInt8.toNat_ofNat']; omega⟩
            have HE1 := hid e1
            have hki : (k : Int) < (l.length : Int) := by omega
            have hk0' : (0 : Int) ≤ (k : Int) := by omega
            have hx58 : ((x.toNat : Int) == 58) = false := by rw [beq_eq_false_iff_ne]; omega
            have hx58' : ¬ (x.toNat : Int) = 58 := by omega
            have nx58 : ((x.toNat : Int) != 58) = true := by rw [bne_iff_ne]; omega
            have hx128 : (x.toNat : Int) < 128 := by omega
            have hu8 : IntKind.u8.wrap (x.toNat : Int) = (x.toNat : Int) := IntWalk.u8_in _ (by omega)
            have hcv : (convert 33 9 (.slice (some ⟨wr.heap.size, 0, none⟩) 1 1)).run Tryz.prog (wr.alloc (.cells #[.int .u8 (x.toNat : Int)] 5)) = .ok (.string ⟨#[x]⟩) (wr.alloc (.cells #[.int .u8 (x.toNat : Int)] 5)) := run_convert_bytes_back (P := Tryz.prog) (wr.alloc (.cells #[.int .u8 (x.toNat : Int)] 5)) 33 9 5 ⟨wr.heap.size, 0, none⟩ 1 [x] rfl rfl rfl (fun j hj => by
              match j, hj with
              | 0, _ => simp [Addr.add_lit])
            have hX := nameB_len ((nmRun l k0).take m)
            rw [List.length_take] at hX
            obtain ⟨B9, hBX⟩ : ∃ x, nameB ((nmRun l k0).take m) = x := ⟨_, rfl⟩
            have HBX := hid hBX
            rw [hBX] at hX ⊢
            have s1 := mkB_size B9
            have s3 : ¬ 9223372036854775807 < B9.length + 1 := by omega
            have hwk9 : IntKind.i64.wrap ((k : Int) + 1) = (k : Int) + 1 := IntWalk.i64_in _ (by omega)
            clear hcl9 hc e1 hX hBX hRL
            go_wp2
            go_roundw
            case rel =>
              have hnm : mkB B9 ++ (⟨#[x]⟩ : ByteArray) = mkB (nameB ((nmRun l k0).take (m + 1))) := by
                rw [HE1.out, nameB_app, HBX.out, encU_low (by omega), ← mkB_append]
                congr 1
                rw [UInt8.ofNat_toNat]
                rfl
              exact ⟨m + 1, k + 1, by omega, by omega, by go_num, by rw [hnm], ((ext_alloc wr _).block g hgl9).trans HB9.out, HK9.out.alloc _⟩
            case measure => simp [intOf]; omega
          · obtain rfl : m = D := by omega
            rw [show (nmRun l k0).take m = nmRun l k0 from List.take_of_length_le (by rw [HD.out]; exact Nat.le_refl _)]
            have hit := HITC.out
            rw [hmk] at hit
            obtain ⟨S, hS⟩ : ∃ S, classOf (nmRun l k0) = S := ⟨_, rfl⟩
            have hS8 := classOf_len (nmRun l k0)
            have hSp := classOf_pt (nmRun l k0)
            have CC := hid (specClass (nmRun l k0) wr)
            rw [hS] at hit CC hS8 hSp
            have HIT := hid hit
            have HSP := hid hSp
            have hstop := nmRun_stop l k0
            rw [HD.out, hmk] at hstop
            have hwk1 : IntKind.i64.wrap ((k : Int) + 1) = ((k + 1 : Nat) : Int) := by rw [IntWalk.i64_in _ (by omega)]; omega
            have hkl9 : k ≤ l.length := by omega
            clear hit hSp hS hgo
            by_cases hkl : k < l.length
            · obtain ⟨lb, lo9, rfl, hlb, hcl9⟩ := hRL.cel (by omega)
              have hcell := hcl9 k hkl
              rw [← gN_at hkl] at hcell
              obtain ⟨c, hc⟩ : ∃ c, gN l k = c := ⟨_, rfl⟩
              have hst := hstop hkl
              rw [hc] at hcell hst
              have HC := hid hc
              have hki : (k : Int) < (l.length : Int) := by omega
              have hk0' : (0 : Int) ≤ (k : Int) := by omega
              clear hcl9 hc hstop hRL
              by_cases h58 : c = 58
              · subst h58
                go_wp2_with fail
                refine CC.out.mono ?_
                rintro e w5 ⟨rfl, hcb, hb5⟩
                have hk5 := (HK9.out.trans (Kp.of_below hb5) (RowOn.refl _ _))
                have hkr5 := HKo.out.trans hk5 (RowOn.refl _ _)
                have hkw5 := HKR.out.trans hkr5 (RowOn.refl _ _)
                have hbr5 := (hb5.block g hgl9).trans HB9.out
                have HB5 := hid hbr5
                have HKr5 := hid hkr5
                have HKw5 := hid hkw5
                have HCB := hid hcb
                clear c0 c1 c2 c3 c4 c5
                obtain ⟨⟨c0, c1, c2, c3, c4, c5⟩, ⟨y1, y2, y3, y4, y5⟩, hgl5⟩ := blk6c hbr5
                clear hk5 hkr5 hbr5 hcb
                obtain ⟨lb5, lo5, hee, hlb5, hcl5⟩ := (HLL.out w5 hkw5).cel (by omega)
                obtain ⟨rfl, rfl⟩ : lb = lb5 ∧ lo9 = lo5 := by
                  simp only [Option.some.injEq, Addr.mk.injEq, and_true] at hee
                  exact hee
                have hcell5 := hcl5 k hkl
                rw [← gN_at hkl, HC.out] at hcell5
                clear hee
                by_cases hS0 : S.length = 0
                · have hS0i : ((S.length : Int) == 0) = true := by rw [hS0]; rfl
                  have hbad : S = [] ∨ ¬ (gN l k = 58 ∧ gN l (k + 1) = 93) := Or.inl (List.length_eq_zero_iff.1 hS0)
                  clear hcl5
                  as_aux_lemma =>
                    have hit := HIT.out
                    rw [if_pos hbad] at hit
                    have HF := hid (show brR l i ns SG = .er 4 i by rw [HSTEP3.out, hit]; rfl)
                    clear hit hbad
                    go_wp2_with fail
                    refine (specFail (p := 0) 4 i _ (by exact HB5.out)).mono ?_
                    rintro e w9 ⟨rfl, f1, f2⟩
                    have F1 := hid f1
                    have hk10 := HKw5.out.trans f2 (RowOn.refl _ _)
                    clear f1
                    go_wp2
                    go_ret
                    exact ⟨Or.inr ⟨4, i, 0, _, nv, ns, HF.out, rfl, by decide, F1.out, HN.out.kp hk10, RowOn.refl _ _, hlen2, by omega, by omega⟩, hk10.weak⟩
                have hS0i : ((S.length : Int) == 0) = false := by rw [beq_eq_false_iff_ne]; omega
                have hS0n : ¬ (S.length : Int) = 0 := by omega
                have hSne : ¬ S = [] := fun e => hS0 (by rw [e]; rfl)
                by_cases hk1 : k + 1 < l.length
                · have hk1i : ¬ (l.length : Int) ≤ ((k + 1 : Nat) : Int) := by omega
                  have hcell1 := hcl5 (k + 1) hk1
                  rw [← gN_at hk1] at hcell1
                  obtain ⟨c9, hc9⟩ : ∃ c, gN l (k + 1) = c := ⟨_, rfl⟩
                  rw [hc9] at hcell1
                  have HC9 := hid hc9
                  obtain ⟨k1, hkk⟩ : ∃ x, k + 1 = x := ⟨_, rfl⟩
                  rw [hkk] at hcell1 hk1i hwk1 hk1
                  have hk1j : (k1 : Int) < (l.length : Int) := by omega
                  have hk1n : ¬ l.length ≤ k1 := by omega
                  have hk10 : (0 : Int) ≤ (k1 : Int) := by omega
                  clear hc9 hcl5
                  by_cases h93 : c9 = 93
                  · subst h93
                    have hit := HIT.out
                    rw [if_neg (by simp only [not_or, Decidable.not_not]; exact ⟨hSne, HC.out, HC9.out⟩)] at hit
                    as_aux_lemma =>
                      have hk02 := HK0.out
                      have HSTEP4 := hid (show SG = setGo l i f (k + 2) (set ++ S) by rw [HSTEP3.out, hit])
                      have hB6 := (HKr5.out.block w.heap.size hlB (by omega) (by simp)).trans HBB.out
                      have row6 := row_keep HROW.out HKr5.out (show g < w.heap.size + 1 by omega)
                      rw [HSN.out] at hB6 row6
                      obtain ⟨⟨n0, n1, n2, n3, n4, n5⟩, v3, v4, hlB6⟩ := blk6 hB6
                      have HB6 := hid hB6
                      have hSpos : 0 < S.length := by omega
                      have a1 : (ints' S).length = S.length * 1 := by simp [ints']
                      have a2 : ∀ u ∈ ints' S, u.oneCell' = true := by
                        intro u hu
                        obtain ⟨q, _, rfl⟩ := List.mem_map.1 hu
                        rfl
                      have a3 : sn + S.length ≤ maxLen := by unfold maxLen; omega
                      have a4 : (sn + S.length) * 8 ≤ 140737488355328 := by omega
                      have a5 : w.heap.size + 1 ≤ w5.heap.size := hlB6
                      have a6 := World.news_of_block HCB.out
                      have A := hid (And.intro a1 (And.intro a2 (And.intro a3 (And.intro a4 (And.intro a5 (And.intro a6 row6))))))
                      clear a1 a2 a3 a4 a5 a6 row6 hB6 hit
                      go_wp2_with ((at_builtin; refine wpList_append_lies _ rfl (.tmp 169) (.tmp 170) 78 rfl (w.heap.size + 1) 3 ii (.int .i64 0) 1 8 Tryz.underlying78 hii hz0 hz1 hz2 rfl (by decide) (.slice sa sn sc) sn (ints' set) rfl A.out.2.2.2.2.2.2 ⟨wr.heap.size, 0, none⟩ S.length S.length (ints' S) rfl A.out.1 A.out.2.2.2.2.2.1 A.out.2.1 hSpos A.out.2.2.1 A.out.2.2.2.1 A.out.2.2.2.2.1 _ rfl ?_))
                      intro g6 cap6 w7 hown7 hgrow7 hat7 hlt7
                      have hng := fun b (e : some b = Value.ownBlock (.slice sa sn sc)) => (A.out.2.2.2.2.2.2.lt b e.symm).1
                      have hB7 := (hgrow7.block w.heap.size hlB6 (fun e => by have := hng _ e; omega)).trans HB6.out
                      have hb7 := (hgrow7.block g hgl5 (fun e => by have := hng _ e; omega)).trans HB5.out
                      have hK7 := HKw5.out.grownNew hgrow7 (fun b e => by have := hng b e.symm; omega)
                      obtain ⟨⟨p0, p1, p2, p3, p4, p5⟩, u3, u4, hlB7⟩ := blk6 hB7
                      obtain ⟨⟨q0, q1, q2, q3, q4, q5⟩, ⟨x1, x2, x3, x4, x5⟩, hgl7⟩ := blk6c hb7
                      have hgB : ¬ g = w.heap.size := by omega
                      have hgB2 : ¬ w.heap.size = g := by omega
                      have hwk2 : IntKind.i64.wrap ((k : Int) + 2) = (k : Int) + 2 := IntWalk.i64_in _ (by omega)
                      have hck2 : ((k + 2 : Nat) : Int) = (k : Int) + 2 := by omega
                      have HB7 := hid hB7
                      have HO7 := hid hown7
                      have HK7 := hid hK7
                      have HK02 := hid hk02
                      clear hk02
                      have HG7 := hid (blk6_set (o := 1) (.int .i64 ((k : Int) + 2)) ((Below.heap_setCell w7 ⟨w.heap.size, 4, none⟩ (.slice (some ⟨g6, 0, none⟩) (sn + S.length) cap6) g (show g ≠ w.heap.size by omega)).trans hb7))
                      clear hB7 hb7 hK7 hng hown7 hgrow7
                      go_wp2
                      go_roundw
                      case rel =>
                        have hk02 := HK02.out
                        have T : ∃ (b : Bool) (j : Nat) (set : List Int) (setv : Value), Value.bool false = .bool b ∧ (b = true ↔ set = []) ∧ bodyAt l i ≤ j ∧ j ≤ l.length ∧ BrS w ((w7.setCell ⟨w.heap.size, 4, none⟩ (.slice (some ⟨g6, 0, none⟩) (sn + S.length) cap6)).setCell ⟨g, 1, none⟩ (.int .i64 ((k : Int) + 2))) g cap d _ l nv ng w.heap.size i j set setv SG :=
                          ⟨false, k + 2, set ++ S, _, rfl, by simp only [Bool.false_eq_true, List.append_eq_nil_iff, false_iff, not_and]; exact fun _ => hSne, by omega, by omega, by rw [hck2]; exact HG7.out, (Below.heap_setCell _ ⟨g, 1, none⟩ _ w.heap.size (show w.heap.size ≠ g by omega)).trans (blk6_set4 HB7.out _), row_keep (row_keep (by rw [List.length_append, HSN.out, ints'_app]; exact HO7.out) ((Kp.refl w.heap.size none w7).set 4 _) (by omega)) ((Kp.refl g none _).set 1 _) (by omega), ⟨f, by omega, HSTEP4.out.symm⟩, by rw [List.length_append, HSN.out]; omega, fun x hx => (List.mem_append.1 hx).elim (HPT.out x) (HSP.out x), (HK7.out.setNew (Nat.le_refl _) 4 _).set 1 _⟩
                        first | exact T | ((repeat apply Exists.intro); exact ⟨T, rfl⟩) | simpa using T
                      case measure =>
                        have hk02 := HK02.out
                        rw [atOf_blk (show _ = some (Value.int .i64 ((k + 2 : Nat) : Int)) by rw [hck2]; exact (blk6c HG7.out).1.2.1), atOf_blk (blk6c HBRW.out).1.2.1]
                        omega
                  · have e93 : ((c9 : Int) == 93) = false := by rw [beq_eq_false_iff_ne]; omega
                    have f93 : ¬ (c9 : Int) = 93 := by omega
                    have n93 : ((c9 : Int) != 93) = true := by rw [bne_iff_ne]; omega
                    have hbad : S = [] ∨ ¬ (gN l k = 58 ∧ gN l (k + 1) = 93) := Or.inr (fun h => h93 (by rw [← HC9.out]; exact h.2))
                    as_aux_lemma =>
                      have hit := HIT.out
                      rw [if_pos hbad] at hit
                      have HF := hid (show brR l i ns SG = .er 4 i by rw [HSTEP3.out, hit]; rfl)
                      clear hit hbad
                      go_wp2_with fail
                      refine (specFail (p := 0) 4 i _ (by exact HB5.out)).mono ?_
                      rintro e w9 ⟨rfl, f1, f2⟩
                      have F1 := hid f1
                      have hk10 := HKw5.out.trans f2 (RowOn.refl _ _)
                      clear f1
                      go_wp2
                      go_ret
                      exact ⟨Or.inr ⟨4, i, 0, _, nv, ns, HF.out, rfl, by decide, F1.out, HN.out.kp hk10, RowOn.refl _ _, hlen2, by omega, by omega⟩, hk10.weak⟩
                · have hk1i : (l.length : Int) ≤ ((k + 1 : Nat) : Int) := by omega
                  have hk1n : l.length ≤ k + 1 := by omega
                  have hbad : S = [] ∨ ¬ (gN l k = 58 ∧ gN l (k + 1) = 93) := Or.inr (fun h => by have := gN_lt (l := l) (i := k + 1) (by rw [h.2]; decide); omega)
                  clear hcl5
                  as_aux_lemma =>
                    have hit := HIT.out
                    rw [if_pos hbad] at hit
                    have HF := hid (show brR l i ns SG = .er 4 i by rw [HSTEP3.out, hit]; rfl)
                    clear hit hbad
                    go_wp2_with fail
                    refine (specFail (p := 0) 4 i _ (by exact HB5.out)).mono ?_
                    rintro e w9 ⟨rfl, f1, f2⟩
                    have F1 := hid f1
                    have hk10 := HKw5.out.trans f2 (RowOn.refl _ _)
                    clear f1
                    go_wp2
                    go_ret
                    exact ⟨Or.inr ⟨4, i, 0, _, nv, ns, HF.out, rfl, by decide, F1.out, HN.out.kp hk10, RowOn.refl _ _, hlen2, by omega, by omega⟩, hk10.weak⟩
              · have hc128 : ¬ (c : Int) < 128 := by omega
                have e58 : ((c : Int) == 58) = false := by rw [beq_eq_false_iff_ne]; omega
                have f58 : ¬ (c : Int) = 58 := by omega
                have n58 : ((c : Int) != 58) = true := by rw [bne_iff_ne]; omega
                have hbad : S = [] ∨ ¬ (gN l k = 58 ∧ gN l (k + 1) = 93) := Or.inr (fun h => h58 (by rw [← HC.out]; exact h.1))
                go_wp2_with fail
                refine CC.out.mono ?_
                rintro e w5 ⟨rfl, hcb, hb5⟩
                have hk5 := (HK9.out.trans (Kp.of_below hb5) (RowOn.refl _ _))
                have hkr5 := HKo.out.trans hk5 (RowOn.refl _ _)
                have hkw5 := HKR.out.trans hkr5 (RowOn.refl _ _)
                have hbr5 := (hb5.block g hgl9).trans HB9.out
                have HB5 := hid hbr5
                have HKr5 := hid hkr5
                have HKw5 := hid hkw5
                have HCB := hid hcb
                clear c0 c1 c2 c3 c4 c5
                obtain ⟨⟨c0, c1, c2, c3, c4, c5⟩, ⟨y1, y2, y3, y4, y5⟩, hgl5⟩ := blk6c hbr5
                clear hk5 hkr5 hbr5 hcb
                obtain ⟨lb5, lo5, hee, hlb5, hcl5⟩ := (HLL.out w5 hkw5).cel (by omega)
                obtain ⟨rfl, rfl⟩ : lb = lb5 ∧ lo9 = lo5 := by
                  simp only [Option.some.injEq, Addr.mk.injEq, and_true] at hee
                  exact hee
                have hcell5 := hcl5 k hkl
                rw [← gN_at hkl, HC.out] at hcell5
                clear hee
                by_cases hS0 : S.length = 0
                · have hS0i : ((S.length : Int) == 0) = true := by rw [hS0]; rfl
                  clear hcl5
                  as_aux_lemma =>
                    have hit := HIT.out
                    rw [if_pos hbad] at hit
                    have HF := hid (show brR l i ns SG = .er 4 i by rw [HSTEP3.out, hit]; rfl)
                    clear hit hbad
                    go_wp2_with fail
                    refine (specFail (p := 0) 4 i _ (by exact HB5.out)).mono ?_
                    rintro e w9 ⟨rfl, f1, f2⟩
                    have F1 := hid f1
                    have hk10 := HKw5.out.trans f2 (RowOn.refl _ _)
                    clear f1
                    go_wp2
                    go_ret
                    exact ⟨Or.inr ⟨4, i, 0, _, nv, ns, HF.out, rfl, by decide, F1.out, HN.out.kp hk10, RowOn.refl _ _, hlen2, by omega, by omega⟩, hk10.weak⟩
                have hS0i : ((S.length : Int) == 0) = false := by rw [beq_eq_false_iff_ne]; omega
                have hS0n : ¬ (S.length : Int) = 0 := by omega
                by_cases hk1 : k + 1 < l.length
                · have hk1i : ¬ (l.length : Int) ≤ ((k + 1 : Nat) : Int) := by omega
                  have hk1n : ¬ l.length ≤ k + 1 := by omega
                  clear hcl5
                  as_aux_lemma =>
                    have hit := HIT.out
                    rw [if_pos hbad] at hit
                    have HF := hid (show brR l i ns SG = .er 4 i by rw [HSTEP3.out, hit]; rfl)
                    clear hit hbad
                    go_wp2_with fail
                    refine (specFail (p := 0) 4 i _ (by exact HB5.out)).mono ?_
                    rintro e w9 ⟨rfl, f1, f2⟩
                    have F1 := hid f1
                    have hk10 := HKw5.out.trans f2 (RowOn.refl _ _)
                    clear f1
                    go_wp2
                    go_ret
                    exact ⟨Or.inr ⟨4, i, 0, _, nv, ns, HF.out, rfl, by decide, F1.out, HN.out.kp hk10, RowOn.refl _ _, hlen2, by omega, by omega⟩, hk10.weak⟩
                · have hk1i : (l.length : Int) ≤ ((k + 1 : Nat) : Int) := by omega
                  have hk1n : l.length ≤ k + 1 := by omega
                  clear hcl5
                  as_aux_lemma =>
                    have hit := HIT.out
                    rw [if_pos hbad] at hit
                    have HF := hid (show brR l i ns SG = .er 4 i by rw [HSTEP3.out, hit]; rfl)
                    clear hit hbad
                    go_wp2_with fail
                    refine (specFail (p := 0) 4 i _ (by exact HB5.out)).mono ?_
                    rintro e w9 ⟨rfl, f1, f2⟩
                    have F1 := hid f1
                    have hk10 := HKw5.out.trans f2 (RowOn.refl _ _)
                    clear f1
                    go_wp2
                    go_ret
                    exact ⟨Or.inr ⟨4, i, 0, _, nv, ns, HF.out, rfl, by decide, F1.out, HN.out.kp hk10, RowOn.refl _ _, hlen2, by omega, by omega⟩, hk10.weak⟩
            · have hki : ¬ (k : Int) < (l.length : Int) := by omega
              have hkn : ¬ k < l.length := hkl
              have hk1i : (l.length : Int) ≤ ((k + 1 : Nat) : Int) := by omega
              have hk1n : l.length ≤ k + 1 := by omega
              have hbad : S = [] ∨ ¬ (gN l k = 58 ∧ gN l (k + 1) = 93) := Or.inr (fun h => by have := gN_lt (l := l) (i := k) (by rw [h.1]; decide); omega)
              clear hstop hRL
              go_wp2_with fail
              refine CC.out.mono ?_
              rintro e w5 ⟨rfl, hcb, hb5⟩
              have hk5 := (HK9.out.trans (Kp.of_below hb5) (RowOn.refl _ _))
              have hkr5 := HKo.out.trans hk5 (RowOn.refl _ _)
              have hkw5 := HKR.out.trans hkr5 (RowOn.refl _ _)
              have hbr5 := (hb5.block g hgl9).trans HB9.out
              have HB5 := hid hbr5
              have HKr5 := hid hkr5
              have HKw5 := hid hkw5
              have HCB := hid hcb
              clear c0 c1 c2 c3 c4 c5
              obtain ⟨⟨c0, c1, c2, c3, c4, c5⟩, ⟨y1, y2, y3, y4, y5⟩, hgl5⟩ := blk6c hbr5
              clear hk5 hkr5 hbr5 hcb
              by_cases hS0 : S.length = 0
              · have hS0i : ((S.length : Int) == 0) = true := by rw [hS0]; rfl
                as_aux_lemma =>
                  have hit := HIT.out
                  rw [if_pos hbad] at hit
                  have HF := hid (show brR l i ns SG = .er 4 i by rw [HSTEP3.out, hit]; rfl)
                  clear hit hbad
                  go_wp2_with fail
                  refine (specFail (p := 0) 4 i _ (by exact HB5.out)).mono ?_
                  rintro e w9 ⟨rfl, f1, f2⟩
                  have F1 := hid f1
                  have hk10 := HKw5.out.trans f2 (RowOn.refl _ _)
                  clear f1
                  go_wp2
                  go_ret
                  exact ⟨Or.inr ⟨4, i, 0, _, nv, ns, HF.out, rfl, by decide, F1.out, HN.out.kp hk10, RowOn.refl _ _, hlen2, by omega, by omega⟩, hk10.weak⟩
              have hS0i : ((S.length : Int) == 0) = false := by rw [beq_eq_false_iff_ne]; omega
              have hS0n : ¬ (S.length : Int) = 0 := by omega
              as_aux_lemma =>
                have hit := HIT.out
                rw [if_pos hbad] at hit
                have HF := hid (show brR l i ns SG = .er 4 i by rw [HSTEP3.out, hit]; rfl)
                clear hit hbad
                go_wp2_with fail
                refine (specFail (p := 0) 4 i _ (by exact HB5.out)).mono ?_
                rintro e w9 ⟨rfl, f1, f2⟩
                have F1 := hid f1
                have hk10 := HKw5.out.trans f2 (RowOn.refl _ _)
                clear f1
                go_wp2
                go_ret
                exact ⟨Or.inr ⟨4, i, 0, _, nv, ns, HF.out, rfl, by decide, F1.out, HN.out.kp hk10, RowOn.refl _ _, hlen2, by omega, by omega⟩, hk10.weak⟩
    · rw [decide_eq_false hcl]
      as_aux_lemma =>
        have hq6 := Qt.one wr m6
        have hncl : ¬ (gN l j = 91 ∧ gN l (j + 1) = 58) := by rw [HU.out, HZ1.out]; exact hcl
        go_wp2_with fail
        refine (CI.out _ j (HKR.out.trans hq6.kp (RowOn.refl _ _)) (hq6.at HBRW.out) hlt).mono ?_
        rintro e w6 ⟨he, hk6⟩
        have hkw6 : Kp g none wr w6 := hq6.kp.trans hk6 (RowOn.refl _ _)
        have hk7 := HKR.out.trans hkw6 (RowOn.refl _ _)
        clear hcl
        rcases he with ⟨lo, m, h1, rfl, h3⟩ | ⟨m, h1, rfl, h2, h3⟩
        · have hin := oneAt_in hlt h1
          have hlo := oneAt_pt HPTS.out h1
          obtain ⟨v, hv⟩ : ∃ c, gN l m = c := ⟨_, rfl⟩
          obtain ⟨y, hy⟩ : ∃ c, gN l (m + 1) = c := ⟨_, rfl⟩
          have HV := hid hv
          have HY := hid hy
          have CXM := hid (fun w' (hq : Qt w6 w') => CX.out w' m (hk7.trans hq.kp (RowOn.refl _ _)) (hq.at h3) (by omega))
          rw [hv] at CXM
          have H1 := hid h1
          have H3 := hid h3
          have HK6 := hid hkw6
          have HK7 := hid hk7
          have HK6' := hid hk6
          obtain ⟨⟨c0, c1, c2, c3, c4, c5⟩, _, _⟩ := blk6c h3
          clear h1 h3 hkw6 hk7 hv hy hk6
          go_wp2_with fail
          go_cut [217] from 34 to 244 (fun t wx => t = .bool (decide (v = 45 ∧ ¬ y = 93 ∧ ¬ y = 0)) ∧ Qt w6 wx)
          case first =>
            as_aux_lemma =>
              have hw25 : IntKind.i64.wrap ((m : Int) + 1) = ((m + 1 : Nat) : Int) := by rw [IntWalk.i64_in _ (by omega)]; omega
              by_cases h45 : v = 45
              · subst h45
                by_cases hm1 : m + 1 < l.length
                · obtain ⟨lb, lo9, rfl, hlb, hcl9⟩ := (HLL.out w6 HK7.out).cel (by omega)
                  have hcell := hcl9 (m + 1) hm1
                  have hy1 : 1 ≤ y := by rw [← HY.out, gN_at hm1]; exact (HPTS.out _ (List.getElem_mem hm1)).1
                  rw [← gN_at hm1, HY.out] at hcell
                  obtain ⟨m1, hmm⟩ : ∃ x, m + 1 = x := ⟨_, rfl⟩
                  rw [hmm] at hcell hw25 hm1
                  have hi1 : (m1 : Int) < (l.length : Int) := by omega
                  have hi0 : (0 : Int) ≤ (m1 : Int) := by omega
                  have hz5 : ((y : Int) == 93) = decide (y = 93) := by by_cases h : y = 93 <;> simp [h]; omega
                  have hz6 : ((y : Int) != 93) = !decide (y = 93) := by unfold bne; rw [hz5]
                  have hy0 : ¬ y = 0 := by omega
                  clear hcl9 hmm
                  go_quiet (refine Calls.quiet_of (CXM.out _ (Qt.one _ _)))
                  go_wp2_with fail
                  go_meet
                  exact ⟨by simp [hz5, hz6, hy0], Qt.one _ _⟩
                · have hyz : y = 0 := by rw [← HY.out]; exact gN_end (by omega)
                  have hi1 : ¬ ((m + 1 : Nat) : Int) < (l.length : Int) := by omega
                  have hi2 : ¬ m + 1 < l.length := hm1
                  have hi3 : ¬ (m : Int) + 1 < (l.length : Int) := by omega
                  go_quiet (refine Calls.quiet_of (CXM.out _ (Qt.one _ _)))
                  go_wp2_with fail
                  go_meet
                  exact ⟨by rw [hyz]; rfl, Qt.one _ _⟩
              · have e45 : ((v : Int) == 45) = false := by rw [beq_eq_false_iff_ne]; omega
                go_quiet (refine Calls.quiet_of (CXM.out _ (Qt.one _ _)))
                go_wp2_with fail
                go_meet
                exact ⟨by simp [h45], Qt.one _ _⟩
          case rest =>
          obtain ⟨rfl, ⟨m7, rfl⟩⟩ := hcut
          have hq7 := Qt.one w6 m7
          by_cases hhi : v = 45 ∧ ¬ y = 93 ∧ ¬ y = 0
          · rw [decide_eq_true hhi]
            obtain ⟨rfl, hy93, hy0⟩ := hhi
            have hm1 := gN_lt (l := l) (i := m + 1) (by rw [HY.out]; exact hy0)
            have hcnd : ¬ (¬ gN l m = 45 ∨ gN l (m + 1) = 93 ∨ gN l (m + 1) = 0) := by rw [HV.out, HY.out]; simp [hy93, hy0]
            have hw8 : IntKind.i64.wrap ((m : Int) + 1) = (m : Int) + 1 := IntWalk.i64_in _ (by omega)
            have hc8 : ((m + 1 : Nat) : Int) = (m : Int) + 1 := by omega
            have hb7 := hq7.at H3.out
            obtain ⟨_, ⟨y1, y2, y3, y4, y5⟩, hl7⟩ := blk6c hb7
            have hb8 := blk6_set (o := 1) (.int .i64 ((m + 1 : Nat) : Int)) hb7
            have hk8 := (HK7.out.trans hq7.kp (RowOn.refl _ _)).set 1 (.int .i64 ((m + 1 : Nat) : Int))
            have CI8 := hid (CI.out _ (m + 1) hk8 hb8 hm1)
            have HK8 := hid hk8
            have HKr8 := hid ((HK6.out.trans hq7.kp (RowOn.refl _ _)).set 1 (.int .i64 ((m + 1 : Nat) : Int)))
            rw [hc8] at CI8 HK8 HKr8
            clear hb7 hb8 hk8
            unfold OneS at CI8
            go_wp2_with fail
            refine CI8.out.mono ?_
            rintro e w8 ⟨he, hk9⟩
            have hkw8 := HKr8.out.trans hk9 (RowOn.refl _ _)
            have hk9 := HK8.out.trans hk9 (RowOn.refl _ _)
            rcases he with ⟨hi9, q, g1, rfl, g3⟩ | ⟨q, g1, rfl, g2, g3⟩
            · have hin2 := oneAt_in hm1 g1
              have hhip := oneAt_pt HPTS.out g1
              obtain ⟨⟨c0, c1, c2, c3, c4, c5⟩, _, _⟩ := blk6c g3
              have G3 := hid g3
              by_cases hlt9 : hi9 < lo
              · have HF := hid (show brR l i ns SG = .er 4 i by
                  have : itemAt l j = .er 4 0 := by
                    unfold itemAt
                    rw [if_neg hncl, H1.out]
                    simp only
                    rw [if_neg hcnd, g1]
                    simp only
                    rw [if_pos hlt9]
                  rw [HSTEP3.out, this]; rfl)
                have hlti9 : (hi9 : Int) < (lo : Int) := by omega
                clear g1 g3
                go_wp2_with fail
                refine (specFail (p := 0) 4 i _ (by exact G3.out)).mono ?_
                rintro e w9 ⟨rfl, f1, f2⟩
                have F1 := hid f1
                have hk10 := hk9.trans f2 (RowOn.refl _ _)
                clear f1
                go_wp2
                go_ret
                exact ⟨Or.inr ⟨4, i, 0, q, nv, ns, HF.out, rfl, by decide, F1.out, HN.out.kp hk10, RowOn.refl _ _, hlen2, by omega, by omega⟩, hk10.weak⟩
              · have hlti9 : ¬ (hi9 : Int) < (lo : Int) := by omega
                have hltn9 : ¬ hi9 < lo := hlt9
                have hit : itemAt l j = .ok [(lo : Int), (hi9 : Int)] q := by
                  unfold itemAt
                  rw [if_neg hncl, H1.out]
                  simp only
                  rw [if_neg hcnd, g1]
                  simp only
                  rw [if_neg hlt9]
                clear g1 g3
                as_aux_lemma =>
                  have HSTEP4 := hid (show SG = setGo l i f q (set ++ [(lo : Int), (hi9 : Int)]) by rw [HSTEP3.out, hit])
                  have hi9T := hid (itemAt_pt HPTS.out hit)
                  have hkW : Kp g none wr w8 := hkw8
                  have hbW : (w8).heap[g]? = some (.cells #[.slice a l.length cap, .int .i64 ((q : Nat) : Int), .int .i64 ((0 : Nat) : Int), .int .i64 ((0 : Nat) : Int), .int .i64 ((d : Nat) : Int), nv] 87 (0, 0)) := G3.out
                  have hB6 := (hkW.block w.heap.size (show w.heap.size < wr.heap.size from hlB) (by omega) (by simp)).trans HBB.out
                  have row6 := (row_keep HROW.out hkW (show g < w.heap.size + 1 by omega)).alloc (.cells #[.int .i64 (lo : Int), .int .i64 (hi9 : Int)] 3)
                  rw [HSN.out] at row6
                  obtain ⟨⟨n0, n1, n2, n3, n4, n5⟩, v3, v4, hlB6⟩ := blk6 hB6
                  rw [HSN.out] at n4
                  have hgB6 : g < (w8).heap.size := (Array.getElem?_eq_some_iff.1 hbW).1
                  have HB6 := hid hB6
                  have HbW := hid hbW
                  have HKW6 := hid (HKR.out.trans hkW (RowOn.refl _ _))
                  have a1 : (ints' [(lo : Int), (hi9 : Int)]).length = 2 * 1 := rfl
                  have a2 : ∀ u ∈ ints' [(lo : Int), (hi9 : Int)], u.oneCell' = true := by
                    intro u hu
                    obtain ⟨q, _, rfl⟩ := List.mem_map.1 hu
                    rfl
                  have a3 : sn + 2 ≤ maxLen := by unfold maxLen; omega
                  have a4 : (sn + 2) * 8 ≤ 140737488355328 := by omega
                  have a5 : w.heap.size + 1 ≤ ((w8).alloc (.cells #[.int .i64 (lo : Int), .int .i64 (hi9 : Int)] 3)).heap.size := Nat.le_trans (show w.heap.size + 1 ≤ (w8).heap.size from hlB6) (ext_alloc _ _).size
                  have a6 := World.news_of_block (show ((w8).alloc (.cells #[.int .i64 (lo : Int), .int .i64 (hi9 : Int)] 3)).heap[(w8).heap.size]? = some (.cells (ints' [(lo : Int), (hi9 : Int)]).toArray 3 (0, 0)) from heap_alloc_new _ _)
                  have A := hid (And.intro a1 (And.intro a2 (And.intro a3 (And.intro a4 (And.intro a5 (And.intro a6 row6))))))
                  clear a1 a2 a3 a4 a5 a6 row6 hB6 hbW hkW hit
                  go_wp2_with ((at_builtin; refine wpList_append_lies _ rfl (.tmp 239) (.tmp 242) 78 rfl (w.heap.size + 1) 3 ii (.int .i64 0) 1 8 Tryz.underlying78 hii hz0 hz1 hz2 rfl (by decide) (.slice sa sn sc) sn (ints' set) rfl A.out.2.2.2.2.2.2 ⟨(w8).heap.size, 0, none⟩ 2 2 (ints' [(lo : Int), (hi9 : Int)]) rfl A.out.1 A.out.2.2.2.2.2.1 A.out.2.1 (by decide) A.out.2.2.1 A.out.2.2.2.1 A.out.2.2.2.2.1 _ rfl ?_))
                  intro g6 cap6 w9 hown9 hgrow9 hat9 hlt9
                  have hng := fun b (e : some b = Value.ownBlock (.slice sa sn sc)) => (A.out.2.2.2.2.2.2.lt b e.symm).1
                  have hB9 := (hgrow9.block w.heap.size (Nat.lt_of_lt_of_le (show w.heap.size < (w8).heap.size from hlB6) (ext_alloc _ _).size) (fun e => by have := hng _ e; omega)).trans (((ext_alloc w8 _).block w.heap.size hlB6).trans HB6.out)
                  have hb9 := (hgrow9.block g (Nat.lt_of_lt_of_le hgB6 (ext_alloc _ _).size) (fun e => by have := hng _ e; omega)).trans (((ext_alloc w8 _).block g hgB6).trans HbW.out)
                  have hK9 := (HKW6.out.alloc (.cells #[.int .i64 (lo : Int), .int .i64 (hi9 : Int)] 3)).grownNew hgrow9 (fun b e => by have := hng b e.symm; omega)
                  obtain ⟨⟨p0, p1, p2, p3, p4, p5⟩, u3, u4, hlB9⟩ := blk6 hB9
                  have HB9 := hid hB9
                  have Hb9 := hid hb9
                  have HO9 := hid hown9
                  have HK9 := hid hK9
                  clear hB9 hb9 hK9 hng hown9 hgrow9
                  go_wp2
                  go_roundw
                  case rel =>
                    have T : ∃ (b : Bool) (j : Nat) (set : List Int) (setv : Value), Value.bool false = .bool b ∧ (b = true ↔ set = []) ∧ bodyAt l i ≤ j ∧ j ≤ l.length ∧ BrS w (w9.setCell ⟨w.heap.size, 4, none⟩ (.slice (some ⟨g6, 0, none⟩) (sn + 2) cap6)) g cap d a l nv ng w.heap.size i j set setv SG :=
                      ⟨false, q, set ++ [(lo : Int), (hi9 : Int)], _, rfl, by simp, by omega, by omega, (Below.heap_setCell _ ⟨w.heap.size, 4, none⟩ _ g (show g ≠ w.heap.size by omega)).trans Hb9.out, blk6_set4 HB9.out _, row_keep (by rw [List.length_append, HSN.out, ints'_app]; exact HO9.out) ((Kp.refl w.heap.size none w9).set 4 _) (by omega), ⟨f, by omega, HSTEP4.out.symm⟩, by rw [List.length_append, HSN.out]; show sn + 2 ≤ _; omega, fun x hx => (List.mem_append.1 hx).elim (HPT.out x) (hi9T.out x), HK9.out.setNew (Nat.le_refl _) 4 _⟩
                    first | exact T | ((repeat apply Exists.intro); exact ⟨T, rfl⟩) | simpa using T
                  case measure =>
                    rw [atOf_blk (show _ = some (Value.int .i64 ((q : Nat) : Int)) from (blk6c ((Below.heap_setCell _ ⟨w.heap.size, 4, none⟩ _ g (show g ≠ w.heap.size by omega)).trans Hb9.out)).1.2.1), atOf_blk (blk6c HBRW.out).1.2.1]
                    omega
            · have HF := hid (show brR l i ns SG = .er 6 (m + 1) by
                have : itemAt l j = .er 6 (m + 1) := by
                  unfold itemAt
                  rw [if_neg hncl, H1.out]
                  simp only
                  rw [if_neg hcnd, g1]
                rw [HSTEP3.out, this]; rfl)
              obtain ⟨⟨c0, c1, c2, c3, c4, c5⟩, _, _⟩ := blk6c g3
              have G3 := hid g3
              clear g1 g3
              go_wp2
              go_ret
              exact ⟨Or.inr ⟨6, m + 1, 0, q, nv, ns, HF.out, rfl, by decide, G3.out, HN.out.kp hk9, RowOn.refl _ _, hlen2, by omega, by omega⟩, hk9.weak⟩
          · rw [decide_eq_false hhi]
            have hit : itemAt l j = .ok [(lo : Int), (lo : Int)] m := by
              unfold itemAt
              rw [if_neg hncl, H1.out]
              simp only
              rw [if_pos (by rw [HV.out, HY.out]; by_cases h1 : v = 45 <;> by_cases h2 : y = 93 <;> simp_all)]
            as_aux_lemma =>
              have HSTEP4 := hid (show SG = setGo l i f m (set ++ [(lo : Int), (lo : Int)]) by rw [HSTEP3.out, hit])
              have loT := hid (itemAt_pt HPTS.out hit)
              have hkW : Kp g none wr (w6.drewN m7) := HK6.out.trans hq7.kp (RowOn.refl _ _)
              have hbW : ((w6.drewN m7)).heap[g]? = some (.cells #[.slice a l.length cap, .int .i64 ((m : Nat) : Int), .int .i64 ((0 : Nat) : Int), .int .i64 ((0 : Nat) : Int), .int .i64 ((d : Nat) : Int), nv] 87 (0, 0)) := hq7.at H3.out
              have hB6 := (hkW.block w.heap.size (show w.heap.size < wr.heap.size from hlB) (by omega) (by simp)).trans HBB.out
              have row6 := (row_keep HROW.out hkW (show g < w.heap.size + 1 by omega)).alloc (.cells #[.int .i64 (lo : Int), .int .i64 (lo : Int)] 3)
              rw [HSN.out] at row6
              obtain ⟨⟨n0, n1, n2, n3, n4, n5⟩, v3, v4, hlB6⟩ := blk6 hB6
              rw [HSN.out] at n4
              have hgB6 : g < ((w6.drewN m7)).heap.size := (Array.getElem?_eq_some_iff.1 hbW).1
              have HB6 := hid hB6
              have HbW := hid hbW
              have HKW6 := hid (HKR.out.trans hkW (RowOn.refl _ _))
              have a1 : (ints' [(lo : Int), (lo : Int)]).length = 2 * 1 := rfl
              have a2 : ∀ u ∈ ints' [(lo : Int), (lo : Int)], u.oneCell' = true := by
                intro u hu
                obtain ⟨q, _, rfl⟩ := List.mem_map.1 hu
                rfl
              have a3 : sn + 2 ≤ maxLen := by unfold maxLen; omega
              have a4 : (sn + 2) * 8 ≤ 140737488355328 := by omega
              have a5 : w.heap.size + 1 ≤ (((w6.drewN m7)).alloc (.cells #[.int .i64 (lo : Int), .int .i64 (lo : Int)] 3)).heap.size := Nat.le_trans (show w.heap.size + 1 ≤ ((w6.drewN m7)).heap.size from hlB6) (ext_alloc _ _).size
              have a6 := World.news_of_block (show (((w6.drewN m7)).alloc (.cells #[.int .i64 (lo : Int), .int .i64 (lo : Int)] 3)).heap[((w6.drewN m7)).heap.size]? = some (.cells (ints' [(lo : Int), (lo : Int)]).toArray 3 (0, 0)) from heap_alloc_new _ _)
              have A := hid (And.intro a1 (And.intro a2 (And.intro a3 (And.intro a4 (And.intro a5 (And.intro a6 row6))))))
              clear a1 a2 a3 a4 a5 a6 row6 hB6 hbW hkW hit
              go_wp2_with ((at_builtin; refine wpList_append_lies _ rfl (.tmp 239) (.tmp 242) 78 rfl (w.heap.size + 1) 3 ii (.int .i64 0) 1 8 Tryz.underlying78 hii hz0 hz1 hz2 rfl (by decide) (.slice sa sn sc) sn (ints' set) rfl A.out.2.2.2.2.2.2 ⟨((w6.drewN m7)).heap.size, 0, none⟩ 2 2 (ints' [(lo : Int), (lo : Int)]) rfl A.out.1 A.out.2.2.2.2.2.1 A.out.2.1 (by decide) A.out.2.2.1 A.out.2.2.2.1 A.out.2.2.2.2.1 _ rfl ?_))
              intro g6 cap6 w9 hown9 hgrow9 hat9 hlt9
              have hng := fun b (e : some b = Value.ownBlock (.slice sa sn sc)) => (A.out.2.2.2.2.2.2.lt b e.symm).1
              have hB9 := (hgrow9.block w.heap.size (Nat.lt_of_lt_of_le (show w.heap.size < ((w6.drewN m7)).heap.size from hlB6) (ext_alloc _ _).size) (fun e => by have := hng _ e; omega)).trans (((ext_alloc (w6.drewN m7) _).block w.heap.size hlB6).trans HB6.out)
              have hb9 := (hgrow9.block g (Nat.lt_of_lt_of_le hgB6 (ext_alloc _ _).size) (fun e => by have := hng _ e; omega)).trans (((ext_alloc (w6.drewN m7) _).block g hgB6).trans HbW.out)
              have hK9 := (HKW6.out.alloc (.cells #[.int .i64 (lo : Int), .int .i64 (lo : Int)] 3)).grownNew hgrow9 (fun b e => by have := hng b e.symm; omega)
              obtain ⟨⟨p0, p1, p2, p3, p4, p5⟩, u3, u4, hlB9⟩ := blk6 hB9
              have HB9 := hid hB9
              have Hb9 := hid hb9
              have HO9 := hid hown9
              have HK9 := hid hK9
              clear hB9 hb9 hK9 hng hown9 hgrow9
              go_wp2
              go_roundw
              case rel =>
                have T : ∃ (b : Bool) (j : Nat) (set : List Int) (setv : Value), Value.bool false = .bool b ∧ (b = true ↔ set = []) ∧ bodyAt l i ≤ j ∧ j ≤ l.length ∧ BrS w (w9.setCell ⟨w.heap.size, 4, none⟩ (.slice (some ⟨g6, 0, none⟩) (sn + 2) cap6)) g cap d a l nv ng w.heap.size i j set setv SG :=
                  ⟨false, m, set ++ [(lo : Int), (lo : Int)], _, rfl, by simp, by omega, by omega, (Below.heap_setCell _ ⟨w.heap.size, 4, none⟩ _ g (show g ≠ w.heap.size by omega)).trans Hb9.out, blk6_set4 HB9.out _, row_keep (by rw [List.length_append, HSN.out, ints'_app]; exact HO9.out) ((Kp.refl w.heap.size none w9).set 4 _) (by omega), ⟨f, by omega, HSTEP4.out.symm⟩, by rw [List.length_append, HSN.out]; show sn + 2 ≤ _; omega, fun x hx => (List.mem_append.1 hx).elim (HPT.out x) (loT.out x), HK9.out.setNew (Nat.le_refl _) 4 _⟩
                first | exact T | ((repeat apply Exists.intro); exact ⟨T, rfl⟩) | simpa using T
              case measure =>
                rw [atOf_blk (show _ = some (Value.int .i64 ((m : Nat) : Int)) from (blk6c ((Below.heap_setCell _ ⟨w.heap.size, 4, none⟩ _ g (show g ≠ w.heap.size by omega)).trans Hb9.out)).1.2.1), atOf_blk (blk6c HBRW.out).1.2.1]
                omega
        · have HF := hid (show brR l i ns SG = .er 6 j by
            have : itemAt l j = .er 6 j := by unfold itemAt; rw [if_neg hncl, h1]
            rw [HSTEP3.out, this]; rfl)
          have H3 := hid h3
          obtain ⟨⟨c0, c1, c2, c3, c4, c5⟩, _, _⟩ := blk6c h3
          clear h1 h3
          go_wp2_with fail
          go_quiet (fail)
          go_wp2
          go_ret
          exact ⟨Or.inr ⟨6, j, 0, m, nv, ns, HF.out, rfl, by decide, H3.out, HN.out.kp (hk7.drewN _), RowOn.refl _ _, hlen2, by omega, by omega⟩, (hk7.drewN _).weak⟩
end Go.Proofs.YtomcoilmpkpoeaaGreatDoor
