/-
  What is proved here: the pattern reader's pieces in impl, off what its atoms are. No condition but that the reader, its list and its nodes lie in memory, and sizes.
-/
import Derived.Test.YtomcoilmpkpoeaaGreatDoorQRxI6
namespace Go.Proofs.YtomcoilmpkpoeaaGreatDoor
open Go.RowKit
set_option linter.unusedVariables false
set_option linter.unusedSimpArgs false

theorem implIsTimes (c : Nat) (w : World) : Calls Tryz.prog 206 #[.int .i64 (c : Int)] w fun e w' => e = .returned (.bool (timesN c)) ∧ Qt w w' := by
  by_cases h42 : c = 42
  · subst h42
    rw [show timesN 42 = true from rfl]
    go_enter Tryz.func206, Tryz.ntmps206
    go_wp2
    go_ret
    exact ⟨rfl, Qt.refl _⟩
  have e42 : ((c : Int) == 42) = false := by rw [beq_eq_false_iff_ne]; omega
  by_cases h43 : c = 43
  · subst h43
    rw [show timesN 43 = true from rfl]
    go_enter Tryz.func206, Tryz.ntmps206
    go_wp2
    go_ret
    exact ⟨rfl, Qt.refl _⟩
  have e43 : ((c : Int) == 43) = false := by rw [beq_eq_false_iff_ne]; omega
  by_cases h63 : c = 63
  · subst h63
    rw [show timesN 63 = true from rfl]
    go_enter Tryz.func206, Tryz.ntmps206
    go_wp2
    go_ret
    exact ⟨rfl, Qt.refl _⟩
  have e63 : ((c : Int) == 63) = false := by rw [beq_eq_false_iff_ne]; omega
  by_cases h123 : c = 123
  · subst h123
    rw [show timesN 123 = true from rfl]
    go_enter Tryz.func206, Tryz.ntmps206
    go_wp2
    go_ret
    exact ⟨rfl, Qt.refl _⟩
  have e123 : ((c : Int) == 123) = false := by rw [beq_eq_false_iff_ne]; omega
  have hF : timesN c = false := by unfold timesN; simp [h42, h43, h63, h123]
  rw [hF]
  clear hF h42 h43 h63 h123
  go_enter Tryz.func206, Tryz.ntmps206
  go_wp2
  go_ret
  exact ⟨rfl, Qt.refl _⟩
def pieceQ (l : List Nat) (lo hi : Int) (k kid : Nat) (ns1 : List RxNode) : RR := if timesN (gN l k) = true then .er 5 k else putR ⟨9, lo, hi, false, [], [(kid : Int)]⟩ k ns1
theorem pieceP_times {l : List Nat} {grp : Nat → List RxNode → RR} {i : Nat} {ns : List RxNode} (h : timesN (gN l i) = true) : pieceP l grp i ns = .er 5 i := by
  unfold pieceP; rw [h, if_pos rfl]
theorem pieceP_er {l : List Nat} {grp : Nat → List RxNode → RR} {i c p : Nat} {ns : List RxNode} (h : timesN (gN l i) = false) (ha : atomP l grp i ns = .er c p) : pieceP l grp i ns = .er c p := by
  unfold pieceP; rw [h, if_neg (by decide), ha]
theorem pieceP_one {l : List Nat} {grp : Nat → List RxNode → RR} {i kid j : Nat} {ns ns1 : List RxNode} (h : timesN (gN l i) = false) (ha : atomP l grp i ns = .ok kid j ns1) (hj : timesN (gN l j) = false) : pieceP l grp i ns = .ok kid j ns1 := by
  unfold pieceP; rw [h, if_neg (by decide), ha]; simp only; rw [hj, if_neg (by decide)]
theorem pieceP_bad {l : List Nat} {grp : Nat → List RxNode → RR} {i kid j : Nat} {ns ns1 : List RxNode} (h : timesN (gN l i) = false) (ha : atomP l grp i ns = .ok kid j ns1) (hj : timesN (gN l j) = true) (ht : timesAt l j = none) : pieceP l grp i ns = .er 5 j := by
  unfold pieceP; rw [h, if_neg (by decide), ha]; simp only; rw [hj, if_pos rfl, ht]
theorem pieceP_rep {l : List Nat} {grp : Nat → List RxNode → RR} {i kid j k : Nat} {lo hi : Int} {ns ns1 : List RxNode} (h : timesN (gN l i) = false) (ha : atomP l grp i ns = .ok kid j ns1) (hj : timesN (gN l j) = true) (ht : timesAt l j = some (lo, hi, k)) : pieceP l grp i ns = pieceQ l lo hi k kid ns1 := by
  unfold pieceP; rw [h, if_neg (by decide), ha]; simp only; rw [hj, if_pos rfl, ht]; rfl
theorem RxNs.lt {X : Nat → Prop} {g : Nat} {nv : Value} {w : World} {ns : List RxNode} (h : RxNs X g nv w ns) : ∀ b, nv.ownBlock = some b → g < b ∧ b < w.heap.size := fun b e => by
  obtain ⟨_, ho, _⟩ := h
  have := ho.lt b e
  omega
theorem RxL.kp {X : Nat → Prop} {w w' : World} {g : Nat} {a : Option Addr} {l : List Nat} {nv : Value} {ns : List RxNode} (h : RxL w g a l) (hn : RxNs X g nv w ns) (k : Kp g nv.ownBlock w w') (hg : g < w.heap.size) : RxL w' g a l :=
  h.below (k.below (Nat.le_of_lt hg) (fun b e => (hn.lt b e).1))
/-- a row of one index, just made -/
theorem rd_kid {S : Nat → Prop} {w : World} {e : TypeId} (k : Nat) (hk : k ≤ 1000000) (hS : S w.heap.size) : Rd.rd S (w.alloc (.cells #[.int .i64 (k : Int)] e)) [.slice (some ⟨w.heap.size, 0, none⟩) 1 1] [(k : Int)] :=
  rd_of_block (css := [[.int .i64 (k : Int)]]) (xs := [(k : Int)]) (rest := []) (fr := (0, 0)) (heap_alloc_new w _) ⟨rfl, fun i h1 h2 => by
    have : i = 0 := by simp at h1; omega
    subst this
    exact ⟨rfl, by show (-9223372036854775808 : Int) ≤ (k : Int) ∧ (k : Int) ≤ 9223372036854775807; omega⟩⟩ hS (Nat.le_refl _) (by decide)
set_option maxHeartbeats 16000000 in
set_option maxRecDepth 100000 in
theorem implPiece {g cap d : Nat} {a : Option Addr} {l : List Nat} {grp : Nat → List RxNode → RR} (HG : NodeC 207 (atomP l grp) l.length g cap d a l) (hfw : Fwd1 l (atomP l grp)) : NodeC 189 (pieceP l grp) l.length g cap d a l := by
  intro X w i nv ns hX hb hL hi hn hlen2
  have hlen := hL.len
  have hg : g < w.heap.size := (Array.getElem?_eq_some_iff.1 hb).1
  have CX := hid (implNext w hb hL (by omega))
  have CG := hid (fun (w' : World) (hq : Qt w w') => HG X w' i nv ns (fun b h => by rw [hq.heap]; exact hX b h) (hq.at hb) (hL.qt hq) hi (hn.qt hq) hlen2)
  have CX2 := hid (fun (w' : World) (j : Nat) (nv' : Value) (hk : Kp g nv.ownBlock w w') (hb' : w'.heap[g]? = some (.cells #[.slice a l.length cap, .int .i64 ((j : Nat) : Int), .int .i64 ((d : Nat) : Int), nv'] 101 (0, 0))) (hj : j ≤ 1000) => implNext w' hb' (hL.kp hn hk hg) (by omega))
  have CT := hid (fun (w' : World) (j : Nat) (nv' : Value) (hk : Kp g nv.ownBlock w w') (hb' : w'.heap[g]? = some (.cells #[.slice a l.length cap, .int .i64 ((j : Nat) : Int), .int .i64 ((d : Nat) : Int), nv'] 101 (0, 0))) (hj : j ≤ 1000) (ht : timesN (gN l j) = true) => implTimes w' hb' (hL.kp hn hk hg) (by omega) ht)
  obtain ⟨R, hR⟩ : ∃ r, pieceP l grp i ns = r := ⟨_, rfl⟩
  rw [hR]
  have HR := hid hR
  have HN := hid hn
  have HB := hid hb
  have HSZ := hid hlen2
  have HFW := hid (hfw i ns)
  clear hb hR hn hL hlen2 hfw
  obtain ⟨x, hx⟩ : ∃ c, gN l i = c := ⟨_, rfl⟩
  rw [hx] at CX
  have HX := hid hx
  clear hx
  cases htx : timesN x with
  | true =>
    have HF := hid (show R = .er 5 i by rw [← HR.out]; exact pieceP_times (by rw [HX.out]; exact htx))
    have HTX := hid htx
    clear htx
    unfold NodeE
    go_enter Tryz.func189, Tryz.ntmps189
    go_wp2_with fail
    refine CX.out.mono ?_
    rintro e w1 ⟨rfl, hq1⟩
    go_wp2_with fail
    refine (implIsTimes x w1).mono ?_
    rintro e w2 ⟨rfl, hq2⟩
    have hq := hq1.trans hq2
    rw [HTX.out]
    go_wp2
    go_ret2
    exact ⟨Or.inr ⟨5, i, _, d, nv, HF.out, rfl, by decide, hq.at HB.out⟩, hq.kp⟩
  | false =>
    have HT0 := hid (show timesN (gN l i) = false by rw [HX.out]; exact htx)
    have HTX := hid htx
    clear htx
    unfold NodeE
    go_enter Tryz.func189, Tryz.ntmps189
    go_wp2_with fail
    refine CX.out.mono ?_
    rintro e w1 ⟨rfl, hq1⟩
    go_wp2_with fail
    refine (implIsTimes x w1).mono ?_
    rintro e w2 ⟨rfl, hq2⟩
    have hq := hq1.trans hq2
    rw [HTX.out]
    go_wp2_with fail
    refine (CG.out _ hq).mono ?_
    rintro e w3 ⟨he, hk3⟩
    have he := he.up (w := w) (nv := nv) (RowOn.refl _ _) (Nat.le_of_eq (by rw [hq.heap]))
    have hk3 := hq.kp.trans hk3 (RowOn.refl _ _)
    rcases he with ⟨kid, j, ns1, nv1, h1, rfl, h3, h4, h5⟩ | ⟨c, j, z, d', nv1, h1, rfl, h3, h4⟩
    · have hfw := HFW.out kid j ns1 hi h1
      have H5 := hid h5
      have HK3 := hid hk3
      have H4 := hid h4
      have H3 := hid h3
      have HA := hid h1
      have hsz := HSZ.out
      have CXJ := hid (CX2.out w3 j nv1 hk3 h3 (by omega))
      clear h1 h3 h4 h5 hk3
      obtain ⟨y, hy⟩ : ∃ c, gN l j = c := ⟨_, rfl⟩
      rw [hy] at CXJ
      have HY := hid hy
      clear hy
      cases hty : timesN y with
      | false =>
        have HF3 := hid (show R = .ok kid j ns1 by rw [← HR.out]; exact pieceP_one HT0.out HA.out (by rw [HY.out]; exact hty))
        have HTY := hid hty
        clear hty
        go_wp2_with fail
        refine CXJ.out.mono ?_
        rintro e w4 ⟨rfl, hq4⟩
        go_wp2_with fail
        refine (implIsTimes y w4).mono ?_
        rintro e w5 ⟨rfl, hq5⟩
        have hq45 := hq4.trans hq5
        rw [HTY.out]
        go_wp2
        go_ret2
        exact ⟨Or.inl ⟨kid, j, ns1, nv1, HF3.out, rfl, hq45.at H3.out, H4.out.qt hq45, H5.out⟩, HK3.out.trans hq45.kp H5.out⟩
      | true =>
        have HTY := hid hty
        clear hty
        go_wp2_with fail
        refine CXJ.out.mono ?_
        rintro e w4 ⟨rfl, hq4⟩
        go_wp2_with fail
        refine (implIsTimes y w4).mono ?_
        rintro e w5 ⟨rfl, hq5⟩
        have hq45 := hq4.trans hq5
        have hk5 := HK3.out.trans hq45.kp H5.out
        rw [HTY.out]
        go_wp2_with fail
        refine (CT.out w5 j nv1 hk5 (hq45.at H3.out) (by omega) (by rw [HY.out]; exact HTY.out)).mono ?_
        rintro e w6 ⟨he, hq6⟩
        have hq46 := hq45.trans hq6
        have hk6 := HK3.out.trans hq46.kp H5.out
        have hb6 := hq46.at H3.out
        have hn6 := H4.out.qt hq46
        rcases he with ⟨lo, hi2, q, h1, hq0, rfl⟩ | ⟨h1, rfl⟩
        · have hin := timesAt_in h1
          have HF3 := hid (show R = pieceQ l lo hi2 (j + q) kid ns1 by rw [← HR.out]; exact pieceP_rep HT0.out HA.out (by rw [HY.out]; exact HTY.out) h1)
          obtain ⟨c0, c1, c2, c3, y0, y1, y2, y3, hl6⟩ := blk4 hb6
          have hw6 : IntKind.i64.wrap ((j : Int) + (q : Int)) = (j : Int) + (q : Int) := IntWalk.i64_in _ (by omega)
          have hcast : ((j + q : Nat) : Int) = (j : Int) + (q : Int) := by omega
          have hqz : ((q : Int) == 0) = false := by rw [beq_eq_false_iff_ne]; omega
          have hqz2 : ¬ (q : Int) = 0 := by omega
          have hqz3 : ¬ q = 0 := by omega
          have hb7 := blk4_set (o := 1) (.int .i64 ((j + q : Nat) : Int)) hb6
          have hk7 := hk6.set 1 (.int .i64 ((j + q : Nat) : Int))
          have hn7 := hn6.kp ((Kp.refl g none w6).set 1 (.int .i64 ((j + q : Nat) : Int)))
          obtain ⟨w7, hw7⟩ : ∃ x, w6.setCell ⟨g, 1, none⟩ (.int .i64 ((j + q : Nat) : Int)) = x := ⟨_, rfl⟩
          rw [hw7] at hb7 hk7 hn7
          have hl7 : g < w7.heap.size := (Array.getElem?_eq_some_iff.1 hb7).1
          have hb8 := ((ext_alloc w7 (.cells #[.int .i64 (kid : Int)] 3)).block g hl7).trans hb7
          have hn8 := hn7.kp ((Kp.refl g none w7).alloc (.cells #[.int .i64 (kid : Int)] 3))
          have hrd8 := rd_kid (S := Beside X g nv1.ownBlock (w7.alloc (.cells #[.int .i64 (kid : Int)] 3))) (w := w7) (e := 3) kid (by omega) ⟨hl7, by simp, fun e => by have := hn7.lt _ e; omega, fun h => by have := hX _ h; have := hk7.size; omega⟩
          have CADD := hid (implNodeAt ⟨9, lo, hi2, false, [], [(kid : Int)]⟩ _ hb8 hn8 (by omega) (by dsimp only; omega) (by dsimp only; omega) (by dsimp only; omega) rd_noInts hrd8)
          have HK8 := hid (hk7.alloc (.cells #[.int .i64 (kid : Int)] 3))
          dsimp only at CADD
          rw [← hw7, hcast] at CADD HK8
          rw [show (w6.setCell ⟨g, 1, none⟩ (.int .i64 ((j : Int) + (q : Int)))).heap.size = w6.heap.size by simp] at CADD
          clear hb6 hn6 hk6 hb7 hk7 hn7 hb8 hn8 hrd8 hl7 h1 hw7
          go_wp2_with fail
          refine CADD.out.mono ?_
          rintro e w9 ⟨nv2, rfl, h1, h2, h3, h4⟩
          have hro : RowOn w nv.ownBlock nv2.ownBlock := H5.out.trans h3 HK8.out.size
          have hk9 := HK8.out.trans h4 H5.out
          obtain ⟨z, hz⟩ : ∃ c, gN l (j + q) = c := ⟨_, rfl⟩
          have CXK := hid (CX2.out w9 (j + q) nv2 hk9 h1 (by omega))
          rw [hz] at CXK
          have HZ := hid hz
          have H1 := hid h1
          clear h1 hz
          go_wp2_with fail
          refine CXK.out.mono ?_
          rintro e w10 ⟨rfl, hq10⟩
          go_wp2_with fail
          refine (implIsTimes z w10).mono ?_
          rintro e w11 ⟨rfl, hq11⟩
          have hq1 := hq10.trans hq11
          cases htz : timesN z with
          | true =>
            have HF4 := hid (show R = .er 5 (j + q) by rw [HF3.out]; unfold pieceQ; rw [HZ.out, htz, if_pos rfl])
            clear htz
            go_wp2
            go_ret2
            exact ⟨Or.inr ⟨5, j + q, _, d, nv2, HF4.out, rfl, by decide, hq1.at H1.out⟩, hk9.trans hq1.kp hro⟩
          | false =>
            have HF4 := hid (show R = putR ⟨9, lo, hi2, false, [], [(kid : Int)]⟩ (j + q) ns1 by rw [HF3.out]; unfold pieceQ; rw [HZ.out, htz, if_neg (by decide)])
            clear htz
            go_wp2
            go_ret2
            exact ⟨Or.inl ⟨_, _, _, nv2, HF4.out, rfl, hq1.at H1.out, h2.qt hq1, hro⟩, hk9.trans hq1.kp hro⟩
        · have HF3 := hid (show R = .er 5 j by rw [← HR.out]; exact pieceP_bad HT0.out HA.out (by rw [HY.out]; exact HTY.out) h1)
          have HB6 := hid hb6
          clear h1 hb6
          go_wp2
          go_ret2
          exact ⟨Or.inr ⟨5, j, _, d, nv1, HF3.out, rfl, by decide, HB6.out⟩, hk6⟩
    · have HF2 := hid (show R = .er c j by rw [← HR.out]; exact pieceP_er HT0.out h1)
      have H4 := hid h4
      have hc1 : ((c : Int) == 0) = false := by rw [beq_eq_false_iff_ne]; omega
      have hc2 : ¬ (c : Int) = 0 := by omega
      clear h1 h4
      go_wp2
      go_ret2
      exact ⟨Or.inr ⟨c, j, _, d', nv1, HF2.out, rfl, h3, H4.out⟩, hk3⟩
end Go.Proofs.YtomcoilmpkpoeaaGreatDoor
