/-
  What is proved here: the reference's pieces, off what its atoms are. No condition but that the reader, its list and its nodes lie in memory, and sizes.
-/
import Derived.Test.YtkmkencodcfloaaGreatDoorRxS7
namespace Go.Proofs.YtkmkencodcfloaaGreatDoor
open Go.RowKit
set_option linter.unusedVariables false
set_option linter.unusedSimpArgs false

def pieceS (l : List Nat) (grp : Nat → List RxNode → RR) (i : Nat) (ns : List RxNode) : RR := if gN l i = 41 then .er 2 i else pieceP l grp i ns
theorem pieceS_er {l : List Nat} {grp : Nat → List RxNode → RR} {i c p : Nat} {ns : List RxNode} (ha : atomS l grp i ns = .er c p) : pieceS l grp i ns = .er c p := by
  unfold pieceS
  unfold atomS at ha
  split at ha
  · rename_i h; rw [if_pos h]; exact ha
  · rename_i h
    rw [if_neg h]
    split at ha
    · rename_i h2; rw [pieceP_times h2]; exact ha
    · rename_i h2; exact pieceP_er (by simpa using h2) ha
theorem atomS_ok {l : List Nat} {grp : Nat → List RxNode → RR} {i kid j : Nat} {ns ns1 : List RxNode} (ha : atomS l grp i ns = .ok kid j ns1) : ¬ gN l i = 41 ∧ timesN (gN l i) = false ∧ atomP l grp i ns = .ok kid j ns1 := by
  unfold atomS at ha
  split at ha
  · cases ha
  · rename_i h
    split at ha
    · cases ha
    · rename_i h2; exact ⟨h, by simpa using h2, ha⟩
theorem pieceS_one {l : List Nat} {grp : Nat → List RxNode → RR} {i kid j : Nat} {ns ns1 : List RxNode} (ha : atomS l grp i ns = .ok kid j ns1) (hj : timesN (gN l j) = false) : pieceS l grp i ns = .ok kid j ns1 := by
  obtain ⟨h1, h2, h3⟩ := atomS_ok ha
  unfold pieceS; rw [if_neg h1]; exact pieceP_one h2 h3 hj
theorem pieceS_bad {l : List Nat} {grp : Nat → List RxNode → RR} {i kid j : Nat} {ns ns1 : List RxNode} (ha : atomS l grp i ns = .ok kid j ns1) (hj : timesN (gN l j) = true) (ht : timesAt l j = none) : pieceS l grp i ns = .er 5 j := by
  obtain ⟨h1, h2, h3⟩ := atomS_ok ha
  unfold pieceS; rw [if_neg h1]; exact pieceP_bad h2 h3 hj ht
theorem pieceS_rep {l : List Nat} {grp : Nat → List RxNode → RR} {i kid j k : Nat} {lo hi : Int} {ns ns1 : List RxNode} (ha : atomS l grp i ns = .ok kid j ns1) (hj : timesN (gN l j) = true) (ht : timesAt l j = some (lo, hi, k)) : pieceS l grp i ns = pieceQ l lo hi k kid ns1 := by
  obtain ⟨h1, h2, h3⟩ := atomS_ok ha
  unfold pieceS; rw [if_neg h1]; exact pieceP_rep h2 h3 hj ht
set_option maxHeartbeats 16000000 in
set_option maxRecDepth 100000 in
theorem specPiece {g cap d M : Nat} {a : Option Addr} {l : List Nat} {grp : Nat → List RxNode → RR} (hM : 5000 ≤ M) (HG : NodeCS 126 (atomS l grp) l.length M g cap d a l) (hfw : Fwd1 l (atomP l grp)) : NodeCS 112 (pieceS l grp) l.length M g cap d a l := by
  intro X w i nv ns hX hb hL hi hn hlen2
  have hlen := hL.len
  have hg : g < w.heap.size := (Array.getElem?_eq_some_iff.1 hb).1
  have CG := hid (HG X w i nv ns hX hb hL hi hn hlen2)
  have CX2 := hid (fun (w' : World) (j : Nat) (nv' : Value) (hk : Kp g nv.ownBlock w w') (hb' : w'.heap[g]? = some (.cells #[.slice a l.length cap, .int .i64 ((j : Nat) : Int), .int .i64 ((0 : Nat) : Int), .int .i64 ((0 : Nat) : Int), .int .i64 ((d : Nat) : Int), nv'] 93 (0, 0))) (hj : j ≤ 4000) => specPeek w' hb' (hL.kp hn hk hg) hj)
  have CT := hid (fun (w' : World) (j : Nat) (nv' : Value) (hk : Kp g nv.ownBlock w w') (hb' : w'.heap[g]? = some (.cells #[.slice a l.length cap, .int .i64 ((j : Nat) : Int), .int .i64 ((0 : Nat) : Int), .int .i64 ((0 : Nat) : Int), .int .i64 ((d : Nat) : Int), nv'] 93 (0, 0))) (hj : j < l.length) (ht : gN l j = 123) => specTimes w' hb' (hL.kp hn hk hg) hj ht)
  obtain ⟨R, hR⟩ : ∃ r, pieceS l grp i ns = r := ⟨_, rfl⟩
  rw [hR]
  have HR := hid hR
  have HSZ := hid hlen2
  have HX0 := hid hX
  have HFW := hid (hfw i ns)
  clear hb hR hn hL hlen2 hfw hX
  unfold NodeS at CG ⊢
  go_enter Tryz.func112, Tryz.ntmps112
  go_wp2_with fail
  refine CG.out.mono ?_
  rintro e w3 ⟨he, hk3⟩
  rcases he with ⟨kid, j, ns1, nv1, h1, rfl, h3, h4, h5⟩ | ⟨c, q, z, j, nv1, ns1, h1, rfl, h3, h4, h5, h6, h7, h8, h9⟩
  · have hfw := HFW.out kid j ns1 hi (atomS_ok h1).2.2
    have hsz := HSZ.out
    have H5 := hid h5
    have HK3 := hid hk3
    have H4 := hid h4
    have H3 := hid h3
    have HA := hid h1
    have CXJ := hid (CX2.out w3 j nv1 hk3 h3 (by omega))
    obtain ⟨⟨c0, c1, c2, c3, c4, c5⟩, ⟨y1, y2, y3, y4, y5⟩, hl3⟩ := blk6c h3
    clear h1 h3 h4 h5 hk3
    obtain ⟨y, hy⟩ : ∃ c, gN l j = c := ⟨_, rfl⟩
    rw [hy] at CXJ
    have HY := hid hy
    clear hy
    by_cases h42 : y = 42
    · subst h42
      have hjl := gN_lt (l := l) (i := j) (by rw [HY.out]; decide)
      have HF3 := hid (show R = pieceQ l (0) (-1) (j + 1) kid ns1 by rw [← HR.out]; exact pieceS_rep HA.out (by rw [HY.out]; rfl) (by unfold timesAt; rw [HY.out]; rfl))
      go_wp2_with fail
      refine CXJ.out.mono ?_
      rintro e w6 ⟨rfl, hq6⟩
      have hb6' := hq6.at H3.out
      have hk6m := HK3.out.trans hq6.kp H5.out
      have hn6m := H4.out.qt hq6
      have hin : j < j + 1 ∧ j + 1 ≤ l.length ∧ (-1 : Int) ≤ (0) ∧ ((0) : Int) ≤ 60 ∧ (-1 : Int) ≤ (-1) ∧ ((-1) : Int) ≤ 60 := by omega
      clear c0 c1 c2 c3 c4 c5 y1 y2 y3 y4 y5
      obtain ⟨⟨c0, c1, c2, c3, c4, c5⟩, ⟨y1, y2, y3, y4, y5⟩, hl6⟩ := blk6c hb6'
      have hwp : IntKind.i64.wrap ((j : Int) + 1) = (j : Int) + 1 := IntWalk.i64_in _ (by omega)
      have hcast : ((j + 1 : Nat) : Int) = (j : Int) + 1 := by omega
      have hb7 := blk6_set (o := 1) (.int .i64 ((j + 1 : Nat) : Int)) hb6'
      have hk7 := hk6m.set 1 (.int .i64 ((j + 1 : Nat) : Int))
      have hn7 := hn6m.kp ((Kp.refl g none w6).set 1 (.int .i64 ((j + 1 : Nat) : Int)))
      obtain ⟨w7, hw7⟩ : ∃ x, (w6).setCell ⟨g, 1, none⟩ (.int .i64 ((j + 1 : Nat) : Int)) = x := ⟨_, rfl⟩
      rw [hw7] at hb7 hk7 hn7
      have hl7 : g < w7.heap.size := (Array.getElem?_eq_some_iff.1 hb7).1
      have hb8 := ((ext_alloc w7 (.cells #[.int .i64 (kid : Int)] 3)).block g hl7).trans hb7
      have hn8 := hn7.kp ((Kp.refl g none w7).alloc (.cells #[.int .i64 (kid : Int)] 3))
      have hrd8 := rd_kid (S := Beside X g nv1.ownBlock (w7.alloc (.cells #[.int .i64 (kid : Int)] 3))) (w := w7) (e := 3) kid (by omega) ⟨hl7, by simp, fun e => by have := hn7.lt _ e; omega, fun h => by have := HX0.out _ h; have := hk7.size; omega⟩
      have CADD := hid (specPutAt ⟨9, (0), (-1), false, [], [(kid : Int)]⟩ _ hb8 hn8 (by omega) (by dsimp only; omega) (by dsimp only; omega) (by dsimp only; omega) rd_noInts hrd8)
      have HK8 := hid (hk7.alloc (.cells #[.int .i64 (kid : Int)] 3))
      dsimp only at CADD
      rw [← hw7, hcast] at CADD HK8
      rw [show ((w6).setCell ⟨g, 1, none⟩ (.int .i64 ((j : Int) + 1))).heap.size = (w6).heap.size by simp] at CADD
      have HWZ := hid (show (w6).heap.size = w6.heap.size by simp)
      clear hb6' hn6m hk6m hb7 hk7 hn7 hb8 hn8 hrd8 hl7 hw7
      try (rw [HWZ.out] at CADD)
      go_wp2_with fail
      refine CADD.out.mono ?_
      rintro e w9 ⟨nv2, rfl, h1, h2, h3, h4⟩
      have hro : RowOn w nv.ownBlock nv2.ownBlock := H5.out.trans h3 HK8.out.size
      have hk9 := HK8.out.trans h4 H5.out
      obtain ⟨z, hz⟩ : ∃ c, gN l (j + 1) = c := ⟨_, rfl⟩
      have CXK := hid (CX2.out w9 (j + 1) nv2 hk9 h1 (by omega))
      rw [hz] at CXK
      have HZ := hid hz
      have H1 := hid h1
      clear h1 hz
      go_wp2_with fail
      refine CXK.out.mono ?_
      rintro e w10 ⟨rfl, hq10⟩
      have hk11 := hk9.trans hq10.kp hro
      have hb10 := hq10.at H1.out
      have hn10 := h2.qt hq10
      clear c0 c1 c2 c3 c4 c5 y1 y2 y3 y4 y5
      obtain ⟨⟨c0, c1, c2, c3, c4, c5⟩, ⟨y1, y2, y3, y4, y5⟩, hl10⟩ := blk6c hb10
      have HB10 := hid hb10
      clear hb10
      by_cases z42 : z = 42
      · subst z42
        have HF4 := hid (show R = .er 5 (j + 1) by rw [HF3.out]; unfold pieceQ; rw [HZ.out, if_pos (by decide)])
        go_wp2_with fail
        refine (specFail (p := 0) 5 (j + 1) _ (by exact HB10.out)).mono ?_
        rintro e w12 ⟨rfl, f1, f2⟩
        have F1 := hid f1
        have hk12 := hk11.trans f2.weak hro
        clear f1
        go_wp2
        go_ret
        exact ⟨Or.inr ⟨5, j + 1, 0, j + 1, nv2, _, HF4.out, rfl, by decide, F1.out, hn10.kp f2, hro, by rw [List.length_append]; show ns1.length + 1 ≤ M; omega, by omega, by omega⟩, hk12⟩
      have g42 : ((z : Int) == 42) = false := by rw [beq_eq_false_iff_ne]; omega
      by_cases z43 : z = 43
      · subst z43
        have HF4 := hid (show R = .er 5 (j + 1) by rw [HF3.out]; unfold pieceQ; rw [HZ.out, if_pos (by decide)])
        go_wp2_with fail
        refine (specFail (p := 0) 5 (j + 1) _ (by exact HB10.out)).mono ?_
        rintro e w12 ⟨rfl, f1, f2⟩
        have F1 := hid f1
        have hk12 := hk11.trans f2.weak hro
        clear f1
        go_wp2
        go_ret
        exact ⟨Or.inr ⟨5, j + 1, 0, j + 1, nv2, _, HF4.out, rfl, by decide, F1.out, hn10.kp f2, hro, by rw [List.length_append]; show ns1.length + 1 ≤ M; omega, by omega, by omega⟩, hk12⟩
      have g43 : ((z : Int) == 43) = false := by rw [beq_eq_false_iff_ne]; omega
      by_cases z63 : z = 63
      · subst z63
        have HF4 := hid (show R = .er 5 (j + 1) by rw [HF3.out]; unfold pieceQ; rw [HZ.out, if_pos (by decide)])
        go_wp2_with fail
        refine (specFail (p := 0) 5 (j + 1) _ (by exact HB10.out)).mono ?_
        rintro e w12 ⟨rfl, f1, f2⟩
        have F1 := hid f1
        have hk12 := hk11.trans f2.weak hro
        clear f1
        go_wp2
        go_ret
        exact ⟨Or.inr ⟨5, j + 1, 0, j + 1, nv2, _, HF4.out, rfl, by decide, F1.out, hn10.kp f2, hro, by rw [List.length_append]; show ns1.length + 1 ≤ M; omega, by omega, by omega⟩, hk12⟩
      have g63 : ((z : Int) == 63) = false := by rw [beq_eq_false_iff_ne]; omega
      by_cases z123 : z = 123
      · subst z123
        have HF4 := hid (show R = .er 5 (j + 1) by rw [HF3.out]; unfold pieceQ; rw [HZ.out, if_pos (by decide)])
        go_wp2_with fail
        refine (specFail (p := 0) 5 (j + 1) _ (by exact HB10.out)).mono ?_
        rintro e w12 ⟨rfl, f1, f2⟩
        have F1 := hid f1
        have hk12 := hk11.trans f2.weak hro
        clear f1
        go_wp2
        go_ret
        exact ⟨Or.inr ⟨5, j + 1, 0, j + 1, nv2, _, HF4.out, rfl, by decide, F1.out, hn10.kp f2, hro, by rw [List.length_append]; show ns1.length + 1 ≤ M; omega, by omega, by omega⟩, hk12⟩
      have g123 : ((z : Int) == 123) = false := by rw [beq_eq_false_iff_ne]; omega
      have htz : timesN z = false := by unfold timesN; simp [z42, z43, z63, z123]
      have HF4 := hid (show R = putR ⟨9, (0), (-1), false, [], [(kid : Int)]⟩ (j + 1) ns1 by rw [HF3.out]; unfold pieceQ; rw [HZ.out, htz, if_neg (by decide)])
      clear htz z42 z43 z63 z123
      go_wp2
      go_ret
      exact ⟨Or.inl ⟨_, _, _, nv2, HF4.out, rfl, HB10.out, hn10, hro⟩, hk11⟩
    have e42 : ((y : Int) == 42) = false := by rw [beq_eq_false_iff_ne]; omega
    by_cases h43 : y = 43
    · subst h43
      have hjl := gN_lt (l := l) (i := j) (by rw [HY.out]; decide)
      have HF3 := hid (show R = pieceQ l (1) (-1) (j + 1) kid ns1 by rw [← HR.out]; exact pieceS_rep HA.out (by rw [HY.out]; rfl) (by unfold timesAt; rw [HY.out]; rfl))
      go_wp2_with fail
      refine CXJ.out.mono ?_
      rintro e w6 ⟨rfl, hq6⟩
      have hb6' := hq6.at H3.out
      have hk6m := HK3.out.trans hq6.kp H5.out
      have hn6m := H4.out.qt hq6
      have hin : j < j + 1 ∧ j + 1 ≤ l.length ∧ (-1 : Int) ≤ (1) ∧ ((1) : Int) ≤ 60 ∧ (-1 : Int) ≤ (-1) ∧ ((-1) : Int) ≤ 60 := by omega
      clear c0 c1 c2 c3 c4 c5 y1 y2 y3 y4 y5
      obtain ⟨⟨c0, c1, c2, c3, c4, c5⟩, ⟨y1, y2, y3, y4, y5⟩, hl6⟩ := blk6c hb6'
      have hwp : IntKind.i64.wrap ((j : Int) + 1) = (j : Int) + 1 := IntWalk.i64_in _ (by omega)
      have hcast : ((j + 1 : Nat) : Int) = (j : Int) + 1 := by omega
      have hb7 := blk6_set (o := 1) (.int .i64 ((j + 1 : Nat) : Int)) hb6'
      have hk7 := hk6m.set 1 (.int .i64 ((j + 1 : Nat) : Int))
      have hn7 := hn6m.kp ((Kp.refl g none w6).set 1 (.int .i64 ((j + 1 : Nat) : Int)))
      obtain ⟨w7, hw7⟩ : ∃ x, (w6).setCell ⟨g, 1, none⟩ (.int .i64 ((j + 1 : Nat) : Int)) = x := ⟨_, rfl⟩
      rw [hw7] at hb7 hk7 hn7
      have hl7 : g < w7.heap.size := (Array.getElem?_eq_some_iff.1 hb7).1
      have hb8 := ((ext_alloc w7 (.cells #[.int .i64 (kid : Int)] 3)).block g hl7).trans hb7
      have hn8 := hn7.kp ((Kp.refl g none w7).alloc (.cells #[.int .i64 (kid : Int)] 3))
      have hrd8 := rd_kid (S := Beside X g nv1.ownBlock (w7.alloc (.cells #[.int .i64 (kid : Int)] 3))) (w := w7) (e := 3) kid (by omega) ⟨hl7, by simp, fun e => by have := hn7.lt _ e; omega, fun h => by have := HX0.out _ h; have := hk7.size; omega⟩
      have CADD := hid (specPutAt ⟨9, (1), (-1), false, [], [(kid : Int)]⟩ _ hb8 hn8 (by omega) (by dsimp only; omega) (by dsimp only; omega) (by dsimp only; omega) rd_noInts hrd8)
      have HK8 := hid (hk7.alloc (.cells #[.int .i64 (kid : Int)] 3))
      dsimp only at CADD
      rw [← hw7, hcast] at CADD HK8
      rw [show ((w6).setCell ⟨g, 1, none⟩ (.int .i64 ((j : Int) + 1))).heap.size = (w6).heap.size by simp] at CADD
      have HWZ := hid (show (w6).heap.size = w6.heap.size by simp)
      clear hb6' hn6m hk6m hb7 hk7 hn7 hb8 hn8 hrd8 hl7 hw7
      try (rw [HWZ.out] at CADD)
      go_wp2_with fail
      refine CADD.out.mono ?_
      rintro e w9 ⟨nv2, rfl, h1, h2, h3, h4⟩
      have hro : RowOn w nv.ownBlock nv2.ownBlock := H5.out.trans h3 HK8.out.size
      have hk9 := HK8.out.trans h4 H5.out
      obtain ⟨z, hz⟩ : ∃ c, gN l (j + 1) = c := ⟨_, rfl⟩
      have CXK := hid (CX2.out w9 (j + 1) nv2 hk9 h1 (by omega))
      rw [hz] at CXK
      have HZ := hid hz
      have H1 := hid h1
      clear h1 hz
      go_wp2_with fail
      refine CXK.out.mono ?_
      rintro e w10 ⟨rfl, hq10⟩
      have hk11 := hk9.trans hq10.kp hro
      have hb10 := hq10.at H1.out
      have hn10 := h2.qt hq10
      clear c0 c1 c2 c3 c4 c5 y1 y2 y3 y4 y5
      obtain ⟨⟨c0, c1, c2, c3, c4, c5⟩, ⟨y1, y2, y3, y4, y5⟩, hl10⟩ := blk6c hb10
      have HB10 := hid hb10
      clear hb10
      by_cases z42 : z = 42
      · subst z42
        have HF4 := hid (show R = .er 5 (j + 1) by rw [HF3.out]; unfold pieceQ; rw [HZ.out, if_pos (by decide)])
        go_wp2_with fail
        refine (specFail (p := 0) 5 (j + 1) _ (by exact HB10.out)).mono ?_
        rintro e w12 ⟨rfl, f1, f2⟩
        have F1 := hid f1
        have hk12 := hk11.trans f2.weak hro
        clear f1
        go_wp2
        go_ret
        exact ⟨Or.inr ⟨5, j + 1, 0, j + 1, nv2, _, HF4.out, rfl, by decide, F1.out, hn10.kp f2, hro, by rw [List.length_append]; show ns1.length + 1 ≤ M; omega, by omega, by omega⟩, hk12⟩
      have g42 : ((z : Int) == 42) = false := by rw [beq_eq_false_iff_ne]; omega
      by_cases z43 : z = 43
      · subst z43
        have HF4 := hid (show R = .er 5 (j + 1) by rw [HF3.out]; unfold pieceQ; rw [HZ.out, if_pos (by decide)])
        go_wp2_with fail
        refine (specFail (p := 0) 5 (j + 1) _ (by exact HB10.out)).mono ?_
        rintro e w12 ⟨rfl, f1, f2⟩
        have F1 := hid f1
        have hk12 := hk11.trans f2.weak hro
        clear f1
        go_wp2
        go_ret
        exact ⟨Or.inr ⟨5, j + 1, 0, j + 1, nv2, _, HF4.out, rfl, by decide, F1.out, hn10.kp f2, hro, by rw [List.length_append]; show ns1.length + 1 ≤ M; omega, by omega, by omega⟩, hk12⟩
      have g43 : ((z : Int) == 43) = false := by rw [beq_eq_false_iff_ne]; omega
      by_cases z63 : z = 63
      · subst z63
        have HF4 := hid (show R = .er 5 (j + 1) by rw [HF3.out]; unfold pieceQ; rw [HZ.out, if_pos (by decide)])
        go_wp2_with fail
        refine (specFail (p := 0) 5 (j + 1) _ (by exact HB10.out)).mono ?_
        rintro e w12 ⟨rfl, f1, f2⟩
        have F1 := hid f1
        have hk12 := hk11.trans f2.weak hro
        clear f1
        go_wp2
        go_ret
        exact ⟨Or.inr ⟨5, j + 1, 0, j + 1, nv2, _, HF4.out, rfl, by decide, F1.out, hn10.kp f2, hro, by rw [List.length_append]; show ns1.length + 1 ≤ M; omega, by omega, by omega⟩, hk12⟩
      have g63 : ((z : Int) == 63) = false := by rw [beq_eq_false_iff_ne]; omega
      by_cases z123 : z = 123
      · subst z123
        have HF4 := hid (show R = .er 5 (j + 1) by rw [HF3.out]; unfold pieceQ; rw [HZ.out, if_pos (by decide)])
        go_wp2_with fail
        refine (specFail (p := 0) 5 (j + 1) _ (by exact HB10.out)).mono ?_
        rintro e w12 ⟨rfl, f1, f2⟩
        have F1 := hid f1
        have hk12 := hk11.trans f2.weak hro
        clear f1
        go_wp2
        go_ret
        exact ⟨Or.inr ⟨5, j + 1, 0, j + 1, nv2, _, HF4.out, rfl, by decide, F1.out, hn10.kp f2, hro, by rw [List.length_append]; show ns1.length + 1 ≤ M; omega, by omega, by omega⟩, hk12⟩
      have g123 : ((z : Int) == 123) = false := by rw [beq_eq_false_iff_ne]; omega
      have htz : timesN z = false := by unfold timesN; simp [z42, z43, z63, z123]
      have HF4 := hid (show R = putR ⟨9, (1), (-1), false, [], [(kid : Int)]⟩ (j + 1) ns1 by rw [HF3.out]; unfold pieceQ; rw [HZ.out, htz, if_neg (by decide)])
      clear htz z42 z43 z63 z123
      go_wp2
      go_ret
      exact ⟨Or.inl ⟨_, _, _, nv2, HF4.out, rfl, HB10.out, hn10, hro⟩, hk11⟩
    have e43 : ((y : Int) == 43) = false := by rw [beq_eq_false_iff_ne]; omega
    by_cases h63 : y = 63
    · subst h63
      have hjl := gN_lt (l := l) (i := j) (by rw [HY.out]; decide)
      have HF3 := hid (show R = pieceQ l (0) (1) (j + 1) kid ns1 by rw [← HR.out]; exact pieceS_rep HA.out (by rw [HY.out]; rfl) (by unfold timesAt; rw [HY.out]; rfl))
      go_wp2_with fail
      refine CXJ.out.mono ?_
      rintro e w6 ⟨rfl, hq6⟩
      have hb6' := hq6.at H3.out
      have hk6m := HK3.out.trans hq6.kp H5.out
      have hn6m := H4.out.qt hq6
      have hin : j < j + 1 ∧ j + 1 ≤ l.length ∧ (-1 : Int) ≤ (0) ∧ ((0) : Int) ≤ 60 ∧ (-1 : Int) ≤ (1) ∧ ((1) : Int) ≤ 60 := by omega
      clear c0 c1 c2 c3 c4 c5 y1 y2 y3 y4 y5
      obtain ⟨⟨c0, c1, c2, c3, c4, c5⟩, ⟨y1, y2, y3, y4, y5⟩, hl6⟩ := blk6c hb6'
      have hwp : IntKind.i64.wrap ((j : Int) + 1) = (j : Int) + 1 := IntWalk.i64_in _ (by omega)
      have hcast : ((j + 1 : Nat) : Int) = (j : Int) + 1 := by omega
      have hb7 := blk6_set (o := 1) (.int .i64 ((j + 1 : Nat) : Int)) hb6'
      have hk7 := hk6m.set 1 (.int .i64 ((j + 1 : Nat) : Int))
      have hn7 := hn6m.kp ((Kp.refl g none w6).set 1 (.int .i64 ((j + 1 : Nat) : Int)))
      obtain ⟨w7, hw7⟩ : ∃ x, (w6).setCell ⟨g, 1, none⟩ (.int .i64 ((j + 1 : Nat) : Int)) = x := ⟨_, rfl⟩
      rw [hw7] at hb7 hk7 hn7
      have hl7 : g < w7.heap.size := (Array.getElem?_eq_some_iff.1 hb7).1
      have hb8 := ((ext_alloc w7 (.cells #[.int .i64 (kid : Int)] 3)).block g hl7).trans hb7
      have hn8 := hn7.kp ((Kp.refl g none w7).alloc (.cells #[.int .i64 (kid : Int)] 3))
      have hrd8 := rd_kid (S := Beside X g nv1.ownBlock (w7.alloc (.cells #[.int .i64 (kid : Int)] 3))) (w := w7) (e := 3) kid (by omega) ⟨hl7, by simp, fun e => by have := hn7.lt _ e; omega, fun h => by have := HX0.out _ h; have := hk7.size; omega⟩
      have CADD := hid (specPutAt ⟨9, (0), (1), false, [], [(kid : Int)]⟩ _ hb8 hn8 (by omega) (by dsimp only; omega) (by dsimp only; omega) (by dsimp only; omega) rd_noInts hrd8)
      have HK8 := hid (hk7.alloc (.cells #[.int .i64 (kid : Int)] 3))
      dsimp only at CADD
      rw [← hw7, hcast] at CADD HK8
      rw [show ((w6).setCell ⟨g, 1, none⟩ (.int .i64 ((j : Int) + 1))).heap.size = (w6).heap.size by simp] at CADD
      have HWZ := hid (show (w6).heap.size = w6.heap.size by simp)
      clear hb6' hn6m hk6m hb7 hk7 hn7 hb8 hn8 hrd8 hl7 hw7
      try (rw [HWZ.out] at CADD)
      go_wp2_with fail
      refine CADD.out.mono ?_
      rintro e w9 ⟨nv2, rfl, h1, h2, h3, h4⟩
      have hro : RowOn w nv.ownBlock nv2.ownBlock := H5.out.trans h3 HK8.out.size
      have hk9 := HK8.out.trans h4 H5.out
      obtain ⟨z, hz⟩ : ∃ c, gN l (j + 1) = c := ⟨_, rfl⟩
      have CXK := hid (CX2.out w9 (j + 1) nv2 hk9 h1 (by omega))
      rw [hz] at CXK
      have HZ := hid hz
      have H1 := hid h1
      clear h1 hz
      go_wp2_with fail
      refine CXK.out.mono ?_
      rintro e w10 ⟨rfl, hq10⟩
      have hk11 := hk9.trans hq10.kp hro
      have hb10 := hq10.at H1.out
      have hn10 := h2.qt hq10
      clear c0 c1 c2 c3 c4 c5 y1 y2 y3 y4 y5
      obtain ⟨⟨c0, c1, c2, c3, c4, c5⟩, ⟨y1, y2, y3, y4, y5⟩, hl10⟩ := blk6c hb10
      have HB10 := hid hb10
      clear hb10
      by_cases z42 : z = 42
      · subst z42
        have HF4 := hid (show R = .er 5 (j + 1) by rw [HF3.out]; unfold pieceQ; rw [HZ.out, if_pos (by decide)])
        go_wp2_with fail
        refine (specFail (p := 0) 5 (j + 1) _ (by exact HB10.out)).mono ?_
        rintro e w12 ⟨rfl, f1, f2⟩
        have F1 := hid f1
        have hk12 := hk11.trans f2.weak hro
        clear f1
        go_wp2
        go_ret
        exact ⟨Or.inr ⟨5, j + 1, 0, j + 1, nv2, _, HF4.out, rfl, by decide, F1.out, hn10.kp f2, hro, by rw [List.length_append]; show ns1.length + 1 ≤ M; omega, by omega, by omega⟩, hk12⟩
      have g42 : ((z : Int) == 42) = false := by rw [beq_eq_false_iff_ne]; omega
      by_cases z43 : z = 43
      · subst z43
        have HF4 := hid (show R = .er 5 (j + 1) by rw [HF3.out]; unfold pieceQ; rw [HZ.out, if_pos (by decide)])
        go_wp2_with fail
        refine (specFail (p := 0) 5 (j + 1) _ (by exact HB10.out)).mono ?_
        rintro e w12 ⟨rfl, f1, f2⟩
        have F1 := hid f1
        have hk12 := hk11.trans f2.weak hro
        clear f1
        go_wp2
        go_ret
        exact ⟨Or.inr ⟨5, j + 1, 0, j + 1, nv2, _, HF4.out, rfl, by decide, F1.out, hn10.kp f2, hro, by rw [List.length_append]; show ns1.length + 1 ≤ M; omega, by omega, by omega⟩, hk12⟩
      have g43 : ((z : Int) == 43) = false := by rw [beq_eq_false_iff_ne]; omega
      by_cases z63 : z = 63
      · subst z63
        have HF4 := hid (show R = .er 5 (j + 1) by rw [HF3.out]; unfold pieceQ; rw [HZ.out, if_pos (by decide)])
        go_wp2_with fail
        refine (specFail (p := 0) 5 (j + 1) _ (by exact HB10.out)).mono ?_
        rintro e w12 ⟨rfl, f1, f2⟩
        have F1 := hid f1
        have hk12 := hk11.trans f2.weak hro
        clear f1
        go_wp2
        go_ret
        exact ⟨Or.inr ⟨5, j + 1, 0, j + 1, nv2, _, HF4.out, rfl, by decide, F1.out, hn10.kp f2, hro, by rw [List.length_append]; show ns1.length + 1 ≤ M; omega, by omega, by omega⟩, hk12⟩
      have g63 : ((z : Int) == 63) = false := by rw [beq_eq_false_iff_ne]; omega
      by_cases z123 : z = 123
      · subst z123
        have HF4 := hid (show R = .er 5 (j + 1) by rw [HF3.out]; unfold pieceQ; rw [HZ.out, if_pos (by decide)])
        go_wp2_with fail
        refine (specFail (p := 0) 5 (j + 1) _ (by exact HB10.out)).mono ?_
        rintro e w12 ⟨rfl, f1, f2⟩
        have F1 := hid f1
        have hk12 := hk11.trans f2.weak hro
        clear f1
        go_wp2
        go_ret
        exact ⟨Or.inr ⟨5, j + 1, 0, j + 1, nv2, _, HF4.out, rfl, by decide, F1.out, hn10.kp f2, hro, by rw [List.length_append]; show ns1.length + 1 ≤ M; omega, by omega, by omega⟩, hk12⟩
      have g123 : ((z : Int) == 123) = false := by rw [beq_eq_false_iff_ne]; omega
      have htz : timesN z = false := by unfold timesN; simp [z42, z43, z63, z123]
      have HF4 := hid (show R = putR ⟨9, (0), (1), false, [], [(kid : Int)]⟩ (j + 1) ns1 by rw [HF3.out]; unfold pieceQ; rw [HZ.out, htz, if_neg (by decide)])
      clear htz z42 z43 z63 z123
      go_wp2
      go_ret
      exact ⟨Or.inl ⟨_, _, _, nv2, HF4.out, rfl, HB10.out, hn10, hro⟩, hk11⟩
    have e63 : ((y : Int) == 63) = false := by rw [beq_eq_false_iff_ne]; omega
    by_cases h123 : y = 123
    · subst h123
      have hjl := gN_lt (l := l) (i := j) (by rw [HY.out]; decide)
      go_wp2_with fail
      refine CXJ.out.mono ?_
      rintro e w5 ⟨rfl, hq5⟩
      have hk5 := HK3.out.trans hq5.kp H5.out
      have CTJ := hid (CT.out w5 j nv1 hk5 (hq5.at H3.out) hjl HY.out)
      unfold TimesS at CTJ
      go_wp2_with fail
      refine CTJ.out.mono ?_
      rintro e w6 ⟨he, hk6⟩
      have hk6' := hk5.trans hk6.weak H5.out
      have hn6 := (H4.out.qt hq5).kp hk6
      rcases he with ⟨lo, hi2, k, h1, rfl, h3⟩ | ⟨k, h1, rfl, h2, h3⟩
      · have hin := timesAt_in h1
        have HF3 := hid (show R = pieceQ l lo hi2 k kid ns1 by rw [← HR.out]; exact pieceS_rep HA.out (by rw [HY.out]; rfl) h1)
        obtain ⟨k1, hkk⟩ : ∃ x, k = x + 1 := ⟨k - 1, by omega⟩
        subst hkk
        have hwm : IntKind.i64.wrap (((k1 + 1 : Nat) : Int) - 1) = (k1 : Int) := by rw [IntWalk.i64_in _ (by omega)]; omega
        have hwm2 : IntKind.i64.wrap ((k1 : Int) + 1 - 1) = (k1 : Int) := by rw [IntWalk.i64_in _ (by omega)]; omega
        have hb6' := blk6_set (o := 1) (.int .i64 ((k1 : Nat) : Int)) h3
        have hk6m := hk6'.set 1 (.int .i64 ((k1 : Nat) : Int))
        have hn6m := hn6.kp ((Kp.refl g none w6).set 1 (.int .i64 ((k1 : Nat) : Int)))
        clear c0 c1 c2 c3 c4 c5 y1 y2 y3 y4 y5
        obtain ⟨⟨c0, c1, c2, c3, c4, c5⟩, ⟨y1, y2, y3, y4, y5⟩, hl6⟩ := blk6c h3
        clear h1 h3
        have hwp : IntKind.i64.wrap ((k1 : Int) + 1) = (k1 : Int) + 1 := IntWalk.i64_in _ (by omega)
        have hcast : ((k1 + 1 : Nat) : Int) = (k1 : Int) + 1 := by omega
        have hb7 := blk6_set (o := 1) (.int .i64 ((k1 + 1 : Nat) : Int)) hb6'
        have hk7 := hk6m.set 1 (.int .i64 ((k1 + 1 : Nat) : Int))
        have hn7 := hn6m.kp ((Kp.refl g none (w6.setCell ⟨g, 1, none⟩ (.int .i64 ((k1 : Nat) : Int)))).set 1 (.int .i64 ((k1 + 1 : Nat) : Int)))
        obtain ⟨w7, hw7⟩ : ∃ x, ((w6.setCell ⟨g, 1, none⟩ (.int .i64 ((k1 : Nat) : Int)))).setCell ⟨g, 1, none⟩ (.int .i64 ((k1 + 1 : Nat) : Int)) = x := ⟨_, rfl⟩
        rw [hw7] at hb7 hk7 hn7
        have hl7 : g < w7.heap.size := (Array.getElem?_eq_some_iff.1 hb7).1
        have hb8 := ((ext_alloc w7 (.cells #[.int .i64 (kid : Int)] 3)).block g hl7).trans hb7
        have hn8 := hn7.kp ((Kp.refl g none w7).alloc (.cells #[.int .i64 (kid : Int)] 3))
        have hrd8 := rd_kid (S := Beside X g nv1.ownBlock (w7.alloc (.cells #[.int .i64 (kid : Int)] 3))) (w := w7) (e := 3) kid (by omega) ⟨hl7, by simp, fun e => by have := hn7.lt _ e; omega, fun h => by have := HX0.out _ h; have := hk7.size; omega⟩
        have CADD := hid (specPutAt ⟨9, lo, hi2, false, [], [(kid : Int)]⟩ _ hb8 hn8 (by omega) (by dsimp only; omega) (by dsimp only; omega) (by dsimp only; omega) rd_noInts hrd8)
        have HK8 := hid (hk7.alloc (.cells #[.int .i64 (kid : Int)] 3))
        dsimp only at CADD
        rw [← hw7, hcast] at CADD HK8
        rw [show (((w6.setCell ⟨g, 1, none⟩ (.int .i64 ((k1 : Nat) : Int)))).setCell ⟨g, 1, none⟩ (.int .i64 ((k1 : Int) + 1))).heap.size = ((w6.setCell ⟨g, 1, none⟩ (.int .i64 ((k1 : Nat) : Int)))).heap.size by simp] at CADD
        have HWZ := hid (show ((w6.setCell ⟨g, 1, none⟩ (.int .i64 ((k1 : Nat) : Int)))).heap.size = w6.heap.size by simp)
        clear hb6' hn6m hk6m hb7 hk7 hn7 hb8 hn8 hrd8 hl7 hw7
        try (rw [HWZ.out] at CADD)
        go_wp2_with fail
        refine CADD.out.mono ?_
        rintro e w9 ⟨nv2, rfl, h1, h2, h3, h4⟩
        have hro : RowOn w nv.ownBlock nv2.ownBlock := H5.out.trans h3 HK8.out.size
        have hk9 := HK8.out.trans h4 H5.out
        obtain ⟨z, hz⟩ : ∃ c, gN l (k1 + 1) = c := ⟨_, rfl⟩
        have CXK := hid (CX2.out w9 (k1 + 1) nv2 hk9 h1 (by omega))
        rw [hz] at CXK
        have HZ := hid hz
        have H1 := hid h1
        clear h1 hz
        go_wp2_with fail
        refine CXK.out.mono ?_
        rintro e w10 ⟨rfl, hq10⟩
        have hk11 := hk9.trans hq10.kp hro
        have hb10 := hq10.at H1.out
        have hn10 := h2.qt hq10
        clear c0 c1 c2 c3 c4 c5 y1 y2 y3 y4 y5
        obtain ⟨⟨c0, c1, c2, c3, c4, c5⟩, ⟨y1, y2, y3, y4, y5⟩, hl10⟩ := blk6c hb10
        have HB10 := hid hb10
        clear hb10
        by_cases z42 : z = 42
        · subst z42
          have HF4 := hid (show R = .er 5 (k1 + 1) by rw [HF3.out]; unfold pieceQ; rw [HZ.out, if_pos (by decide)])
          go_wp2_with fail
          refine (specFail (p := 0) 5 (k1 + 1) _ (by exact HB10.out)).mono ?_
          rintro e w12 ⟨rfl, f1, f2⟩
          have F1 := hid f1
          have hk12 := hk11.trans f2.weak hro
          clear f1
          go_wp2
          go_ret
          exact ⟨Or.inr ⟨5, k1 + 1, 0, k1 + 1, nv2, _, HF4.out, rfl, by decide, F1.out, hn10.kp f2, hro, by rw [List.length_append]; show ns1.length + 1 ≤ M; omega, by omega, by omega⟩, hk12⟩
        have g42 : ((z : Int) == 42) = false := by rw [beq_eq_false_iff_ne]; omega
        by_cases z43 : z = 43
        · subst z43
          have HF4 := hid (show R = .er 5 (k1 + 1) by rw [HF3.out]; unfold pieceQ; rw [HZ.out, if_pos (by decide)])
          go_wp2_with fail
          refine (specFail (p := 0) 5 (k1 + 1) _ (by exact HB10.out)).mono ?_
          rintro e w12 ⟨rfl, f1, f2⟩
          have F1 := hid f1
          have hk12 := hk11.trans f2.weak hro
          clear f1
          go_wp2
          go_ret
          exact ⟨Or.inr ⟨5, k1 + 1, 0, k1 + 1, nv2, _, HF4.out, rfl, by decide, F1.out, hn10.kp f2, hro, by rw [List.length_append]; show ns1.length + 1 ≤ M; omega, by omega, by omega⟩, hk12⟩
        have g43 : ((z : Int) == 43) = false := by rw [beq_eq_false_iff_ne]; omega
        by_cases z63 : z = 63
        · subst z63
          have HF4 := hid (show R = .er 5 (k1 + 1) by rw [HF3.out]; unfold pieceQ; rw [HZ.out, if_pos (by decide)])
          go_wp2_with fail
          refine (specFail (p := 0) 5 (k1 + 1) _ (by exact HB10.out)).mono ?_
          rintro e w12 ⟨rfl, f1, f2⟩
          have F1 := hid f1
          have hk12 := hk11.trans f2.weak hro
          clear f1
          go_wp2
          go_ret
          exact ⟨Or.inr ⟨5, k1 + 1, 0, k1 + 1, nv2, _, HF4.out, rfl, by decide, F1.out, hn10.kp f2, hro, by rw [List.length_append]; show ns1.length + 1 ≤ M; omega, by omega, by omega⟩, hk12⟩
        have g63 : ((z : Int) == 63) = false := by rw [beq_eq_false_iff_ne]; omega
        by_cases z123 : z = 123
        · subst z123
          have HF4 := hid (show R = .er 5 (k1 + 1) by rw [HF3.out]; unfold pieceQ; rw [HZ.out, if_pos (by decide)])
          go_wp2_with fail
          refine (specFail (p := 0) 5 (k1 + 1) _ (by exact HB10.out)).mono ?_
          rintro e w12 ⟨rfl, f1, f2⟩
          have F1 := hid f1
          have hk12 := hk11.trans f2.weak hro
          clear f1
          go_wp2
          go_ret
          exact ⟨Or.inr ⟨5, k1 + 1, 0, k1 + 1, nv2, _, HF4.out, rfl, by decide, F1.out, hn10.kp f2, hro, by rw [List.length_append]; show ns1.length + 1 ≤ M; omega, by omega, by omega⟩, hk12⟩
        have g123 : ((z : Int) == 123) = false := by rw [beq_eq_false_iff_ne]; omega
        have htz : timesN z = false := by unfold timesN; simp [z42, z43, z63, z123]
        have HF4 := hid (show R = putR ⟨9, lo, hi2, false, [], [(kid : Int)]⟩ (k1 + 1) ns1 by rw [HF3.out]; unfold pieceQ; rw [HZ.out, htz, if_neg (by decide)])
        clear htz z42 z43 z63 z123
        go_wp2
        go_ret
        exact ⟨Or.inl ⟨_, _, _, nv2, HF4.out, rfl, HB10.out, hn10, hro⟩, hk11⟩
      · have HF3 := hid (show R = .er 5 j by rw [← HR.out]; exact pieceS_bad HA.out (by rw [HY.out]; rfl) h1)
        have HB6 := hid h3
        clear h1 h3
        go_wp2_with fail
        refine (specFail (p := 0) 5 j _ (by exact HB6.out)).mono ?_
        rintro e w9 ⟨rfl, f1, f2⟩
        have F1 := hid f1
        have hk10 := hk6'.trans f2.weak H5.out
        clear f1
        go_wp2
        go_ret
        exact ⟨Or.inr ⟨5, j, 0, k, nv1, ns1, HF3.out, rfl, by decide, F1.out, hn6.kp f2, H5.out, by omega, by omega, by omega⟩, hk10⟩
    have e123 : ((y : Int) == 123) = false := by rw [beq_eq_false_iff_ne]; omega
    have htn : timesN y = false := by unfold timesN; simp [h42, h43, h63, h123]
    have HF3 := hid (show R = .ok kid j ns1 by rw [← HR.out]; exact pieceS_one HA.out (by rw [HY.out]; exact htn))
    clear htn h42 h43 h63 h123
    go_wp2_with fail
    refine CXJ.out.mono ?_
    rintro e w5 ⟨rfl, hq5⟩
    go_wp2
    go_ret
    exact ⟨Or.inl ⟨kid, j, ns1, nv1, HF3.out, rfl, hq5.at H3.out, H4.out.qt hq5, H5.out⟩, HK3.out.trans hq5.kp H5.out⟩
  · have HF2 := hid (show R = .er c q by rw [← HR.out]; exact pieceS_er h1)
    obtain ⟨⟨c0, c1, c2, c3, c4, c5⟩, _, _⟩ := blk6c h4
    have H4 := hid h4
    have hc1 : ((c : Int) == 0) = false := by rw [beq_eq_false_iff_ne]; omega
    have hc2 : ¬ (c : Int) = 0 := by omega
    have hc3 : ((c : Int) != 0) = true := by rw [bne_iff_ne]; omega
    clear h1 h4
    go_wp2
    go_ret
    exact ⟨Or.inr ⟨c, q, 0, j, nv1, ns1, HF2.out, rfl, h3, H4.out, h5, h6, h7, h8, by omega⟩, hk3⟩
end Go.Proofs.YtkmkencodcfloaaGreatDoor
