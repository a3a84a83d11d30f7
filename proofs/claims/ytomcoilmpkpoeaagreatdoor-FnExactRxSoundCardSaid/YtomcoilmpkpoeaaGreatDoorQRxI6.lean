/-
  What is proved here: the pattern reader's atoms in impl, off what its groups are. No condition but that the reader, its list and its nodes lie in memory, and sizes.
-/
import Derived.Test.YtomcoilmpkpoeaaGreatDoorQRxI5
namespace Go.Proofs.YtomcoilmpkpoeaaGreatDoor
open Go.RowKit
set_option linter.unusedVariables false
set_option linter.unusedSimpArgs false

theorem NodeE.up {X : Nat → Prop} {w w1 w' : World} {g cap d : Nat} {a : Option Addr} {l : List Nat} {nv nv1 : Value} {r : RR} {e : Ending} (h : NodeE X w1 w' g cap d a l nv1 r e) (hr : RowOn w nv.ownBlock nv1.ownBlock) (hs : w.heap.size ≤ w1.heap.size) : NodeE X w w' g cap d a l nv r e := by
  rcases h with ⟨kid, j, ns', nv', h1, h2, h3, h4, h5⟩ | h
  · exact Or.inl ⟨kid, j, ns', nv', h1, h2, h3, h4, hr.trans h5 hs⟩
  · exact Or.inr h
/-- what a function of the reader answers, wherever it stands below a length -/
def NodeC (fn : Nat) (p : Nat → List RxNode → RR) (n g cap d : Nat) (a : Option Addr) (l : List Nat) : Prop :=
  ∀ (X : Nat → Prop) (w : World) (i : Nat) (nv : Value) (ns : List RxNode), (∀ b, X b → b < w.heap.size) → w.heap[g]? = some (.cells #[.slice a l.length cap, .int .i64 ((i : Nat) : Int), .int .i64 ((d : Nat) : Int), nv] 101 (0, 0)) → RxL w g a l → i < n → RxNs X g nv w ns → ns.length ≤ 4 * i + 4 →
    Calls Tryz.prog fn #[.pointer (some ⟨g, 0, none⟩)] w fun e w' => NodeE X w w' g cap d a l nv (p i ns) e ∧ Kp g nv.ownBlock w w'
theorem implNodeAt {X : Nat → Prop} {g cap i d : Nat} {a : Option Addr} {l : List Nat} {nv : Value} {ns : List RxNode} (n : RxNode) (w : World) {a1 a2 : Option Addr} {m1 m2 k1 k2 : Nat} (hb : w.heap[g]? = some (.cells #[.slice a l.length cap, .int .i64 ((i : Nat) : Int), .int .i64 ((d : Nat) : Int), nv] 101 (0, 0)))
    (hn : RxNs X g nv w ns) (hlen : ns.length ≤ 100000) (hk : -9223372036854775808 ≤ n.kind ∧ n.kind ≤ 9223372036854775807) (hl : -9223372036854775808 ≤ n.lo ∧ n.lo ≤ 9223372036854775807) (hh : -9223372036854775808 ≤ n.hi ∧ n.hi ≤ 9223372036854775807)
    (hs : Rd.rd (Beside X g nv.ownBlock w) w [.slice a1 m1 k1] n.set) (hd : Rd.rd (Beside X g nv.ownBlock w) w [.slice a2 m2 k2] n.kids) :
    Calls Tryz.prog 160 #[.pointer (some ⟨g, 0, none⟩), .agg #[.int .i64 n.kind, .int .i64 n.lo, .int .i64 n.hi, .bool n.neg, .slice a1 m1 k1, .slice a2 m2 k2]] w fun e w' => implAddNE X g i d (.slice a l.length cap) nv w w' ns n e :=
  implAddN w hb hn (rdNode_mk hk hl hh hs hd) hlen
theorem RxNs.qt {X : Nat → Prop} {g : Nat} {nv : Value} {w w' : World} {ns : List RxNode} (h : RxNs X g nv w ns) (hq : Qt w w') : RxNs X g nv w' ns := h.kp hq.kp
set_option maxHeartbeats 16000000 in
set_option maxRecDepth 100000 in
theorem implAtom {g cap d : Nat} {a : Option Addr} {l : List Nat} {grp : Nat → List RxNode → RR} (HG : NodeC 220 grp l.length g cap d a l) : NodeC 207 (atomP l grp) l.length g cap d a l := by
  intro X w i nv ns hX hb hL hi hn hlen2
  have hlen := hL.len
  have hg : g < w.heap.size := (Array.getElem?_eq_some_iff.1 hb).1
  have CX := hid (implNext w hb hL (by omega))
  have CG := hid (fun (w' : World) (hq : Qt w w') => HG X w' i nv ns (fun b h => by rw [hq.heap]; exact hX b h) (hq.at hb) (hL.qt hq) hi (hn.qt hq) hlen2)
  have CB := hid (fun (w' : World) (hq : Qt w w') => implBracket w' (hq.at hb) (hL.qt hq) hi (hn.qt hq) (by omega) (fun b h => by rw [hq.heap]; exact hX b h))
  have CE := hid (fun (w' : World) (hq : Qt w w') => implEscape w' (hq.at hb) (hL.qt hq) (by omega))
  obtain ⟨R, hR⟩ : ∃ r, atomP l grp i ns = r := ⟨_, rfl⟩
  rw [hR]
  have HR := hid hR
  have HN := hid hn
  have HB := hid hb
  have hgl := gN_le hL.pts i
  have HPTS := hid hL.pts
  obtain ⟨c0, c1, c2, c3, y0, y1, y2, y3, hl⟩ := blk4 hb
  have hw : IntKind.i64.wrap ((i : Int) + 1) = (i : Int) + 1 := IntWalk.i64_in _ (by omega)
  have hcast : ((i + 1 : Nat) : Int) = (i : Int) + 1 := by omega
  have HC := hid (fun (w1 : World) (hq : Qt w w1) => blk4_set (o := 1) (.int .i64 ((i + 1 : Nat) : Int)) (hq.at hb))
  have HM := hid (fun (w1 : World) (hq : Qt w w1) => hn.kp ((Kp.refl g none w).trans ((hq.kp).set 1 (.int .i64 ((i + 1 : Nat) : Int))) (RowOn.refl _ _)))
  have HSZ := hid hlen2
  clear hb hR hn hL hlen2
  obtain ⟨x, hx⟩ : ∃ c, gN l i = c := ⟨_, rfl⟩
  rw [hx] at CX hgl
  have HX := hid hx
  clear hx
  unfold NodeE
  by_cases h40 : x = 40
  · subst h40
    have HF := hid (show grp i ns = R by rw [← HR.out]; unfold atomP; rw [if_pos HX.out])
    go_enter Tryz.func207, Tryz.ntmps207
    go_wp2_with fail
    refine CX.out.mono ?_
    rintro e w1 ⟨rfl, hq1⟩
    go_wp2_with fail
    refine (CG.out _ hq1).mono ?_
    rintro e w2 ⟨he, hk2⟩
    have he := he.up (w := w) (nv := nv) (RowOn.refl _ _) (Nat.le_of_eq (by rw [hq1.heap]))
    rw [HF.out] at he
    have hk3 := hq1.kp.trans hk2 (RowOn.refl _ _)
    rcases he with ⟨kid, j, ns', nv', h1, rfl, h3, h4, h5⟩ | ⟨c, j, z, d', nv', h1, rfl, h3, h4⟩
    · have H1 := hid h1
      have H3 := hid h3
      clear h1 h3
      go_wp2
      go_ret2
      exact ⟨Or.inl ⟨kid, j, ns', nv', H1.out, rfl, H3.out, h4, h5⟩, hk3⟩
    · have H1 := hid h1
      have H4 := hid h4
      clear h1 h4
      go_wp2
      go_ret2
      exact ⟨Or.inr ⟨c, j, _, d', nv', H1.out, rfl, h3, H4.out⟩, hk3⟩
  have e40 : ((x : Int) == 40) = false := by rw [beq_eq_false_iff_ne]; omega
  by_cases h91 : x = 91
  · subst h91
    have HF := hid (show bracketP l i ns = R by rw [← HR.out]; unfold atomP; rw [HX.out]; simp)
    go_enter Tryz.func207, Tryz.ntmps207
    go_wp2_with fail
    refine CX.out.mono ?_
    rintro e w1 ⟨rfl, hq1⟩
    go_wp2_with fail
    refine (CB.out _ hq1).mono ?_
    rintro e w2 ⟨he, hk2⟩
    have he := he.up (w := w) (nv := nv) (RowOn.refl _ _) (Nat.le_of_eq (by rw [hq1.heap]))
    rw [HF.out] at he
    have hk3 := hq1.kp.trans hk2 (RowOn.refl _ _)
    rcases he with ⟨kid, j, ns', nv', h1, rfl, h3, h4, h5⟩ | ⟨c, j, z, d', nv', h1, rfl, h3, h4⟩
    · have H1 := hid h1
      have H3 := hid h3
      clear h1 h3
      go_wp2
      go_ret2
      exact ⟨Or.inl ⟨kid, j, ns', nv', H1.out, rfl, H3.out, h4, h5⟩, hk3⟩
    · have H1 := hid h1
      have H4 := hid h4
      clear h1 h4
      go_wp2
      go_ret2
      exact ⟨Or.inr ⟨c, j, _, d', nv', H1.out, rfl, h3, H4.out⟩, hk3⟩
  have e91 : ((x : Int) == 91) = false := by rw [beq_eq_false_iff_ne]; omega
  by_cases h92 : x = 92
  · subst h92
    have HF := hid (show (match escAt l i with | none => .er 6 i | some c => putR ⟨2, c, 0, false, [], []⟩ (i + 2) ns) = R by rw [← HR.out]; unfold atomP; rw [HX.out, if_neg (by decide), if_neg (by decide), if_pos rfl] <;> (cases escAt l i <;> rfl))
    clear h40 h91
    go_enter Tryz.func207, Tryz.ntmps207
    go_wp2_with fail
    refine CX.out.mono ?_
    rintro e w1 ⟨rfl, hq1⟩
    go_wp2_with fail
    refine (CE.out _ hq1).mono ?_
    rintro e w2 ⟨he, hk2⟩
    rcases he with ⟨c, j, h1, rfl, h3⟩ | ⟨h1, ⟨z, rfl⟩, h3⟩
    · obtain ⟨c', hc', hcj⟩ : ∃ c', escAt l i = some c' ∧ c = c' ∧ j = i + 2 := by
        unfold escR at h1
        cases hh : escAt l i with
        | none => rw [hh] at h1; cases h1
        | some c' => rw [hh] at h1; simp only [Option.some.injEq, Prod.mk.injEq] at h1; exact ⟨c', rfl, h1.1.symm, h1.2.symm⟩
      obtain ⟨rfl, rfl⟩ := hcj
      have hpt := escAt_pt HPTS.out hc'
      have HF2 := hid (show putR ⟨2, c, 0, false, [], []⟩ (i + 2) ns = R by rw [← HF.out, hc'])
      have hk3 := hq1.kp.trans hk2 (RowOn.refl _ _)
      have CADD := hid (implNodeAt ⟨2, c, 0, false, [], []⟩ w2 h3 (HN.out.kp hk3) (by have := HSZ.out; omega) (by dsimp only; omega) (by dsimp only; omega) (by dsimp only; omega) rd_noInts rd_noInts)
      dsimp only at CADD
      have HK := hid hk3
      clear h1 hc' h3 hk3
      go_wp2_with fail
      refine CADD.out.mono ?_
      rintro e w9 ⟨nv', rfl, h1, h2, h3, h4⟩
      have H1 := hid h1
      clear h1
      go_wp2
      go_ret2
      exact ⟨Or.inl ⟨_, _, _, nv', HF2.out.symm, rfl, H1.out, h2, h3.up HK.out.size⟩, HK.out.weak.trans h4 (RowOn.refl _ _)⟩
    · have HF2 := hid (show R = .er 6 i by
        rw [← HF.out]
        unfold escR at h1
        cases hh : escAt l i with
        | none => rfl
        | some c' => rw [hh] at h1; cases h1)
      have H3 := hid h3
      clear h1 h3
      go_wp2
      go_ret2
      exact ⟨Or.inr ⟨6, i, _, d, nv, HF2.out, rfl, by decide, H3.out⟩, (hq1.kp.trans hk2 (RowOn.refl _ _)).weak⟩
  have e92 : ((x : Int) == 92) = false := by rw [beq_eq_false_iff_ne]; omega
  by_cases h46 : x = 46
  · subst h46
    have HF := hid (show putR ⟨3, 0, 0, false, [], []⟩ (i + 1) ns = R by rw [← HR.out]; unfold atomP; rw [HX.out]; simp [signOf])
    clear h40 h91 h92
    go_enter Tryz.func207, Tryz.ntmps207
    go_wp2_with fail
    refine CX.out.mono ?_
    rintro e w1 ⟨rfl, ⟨m1, rfl⟩⟩
    have CADD := hid (implNodeAt ⟨3, 0, 0, false, [], []⟩ _ (HC.out _ (Qt.one w m1)) (HM.out _ (Qt.one w m1)) (by have := HSZ.out; omega) (by dsimp only; omega) (by dsimp only; omega) (by dsimp only; omega) rd_noInts rd_noInts)
    dsimp only at CADD
    rw [hcast] at CADD
    go_wp2_with fail
    refine CADD.out.mono ?_
    rintro e w9 ⟨nv', rfl, h1, h2, h3, h4⟩
    have H1 := hid h1
    clear h1
    go_wp2
    go_ret2
    exact ⟨Or.inl ⟨_, _, _, nv', HF.out.symm, rfl, by rw [hcast]; exact H1.out, h2, h3.up (by simp)⟩, ((((Qt.one w m1).kp).set 1 _).trans h4 (RowOn.refl _ _))⟩
  have e46 : ((x : Int) == 46) = false := by rw [beq_eq_false_iff_ne]; omega
  have f46 : ¬ (x : Int) = 46 := by omega
  by_cases h94 : x = 94
  · subst h94
    have HF := hid (show putR ⟨5, 0, 0, false, [], []⟩ (i + 1) ns = R by rw [← HR.out]; unfold atomP; rw [HX.out]; simp [signOf])
    clear h40 h91 h92
    go_enter Tryz.func207, Tryz.ntmps207
    go_wp2_with fail
    refine CX.out.mono ?_
    rintro e w1 ⟨rfl, ⟨m1, rfl⟩⟩
    have CADD := hid (implNodeAt ⟨5, 0, 0, false, [], []⟩ _ (HC.out _ (Qt.one w m1)) (HM.out _ (Qt.one w m1)) (by have := HSZ.out; omega) (by dsimp only; omega) (by dsimp only; omega) (by dsimp only; omega) rd_noInts rd_noInts)
    dsimp only at CADD
    rw [hcast] at CADD
    go_wp2_with fail
    refine CADD.out.mono ?_
    rintro e w9 ⟨nv', rfl, h1, h2, h3, h4⟩
    have H1 := hid h1
    clear h1
    go_wp2
    go_ret2
    exact ⟨Or.inl ⟨_, _, _, nv', HF.out.symm, rfl, by rw [hcast]; exact H1.out, h2, h3.up (by simp)⟩, ((((Qt.one w m1).kp).set 1 _).trans h4 (RowOn.refl _ _))⟩
  have e94 : ((x : Int) == 94) = false := by rw [beq_eq_false_iff_ne]; omega
  have f94 : ¬ (x : Int) = 94 := by omega
  by_cases h36 : x = 36
  · subst h36
    have HF := hid (show putR ⟨6, 0, 0, false, [], []⟩ (i + 1) ns = R by rw [← HR.out]; unfold atomP; rw [HX.out]; simp [signOf])
    clear h40 h91 h92
    go_enter Tryz.func207, Tryz.ntmps207
    go_wp2_with fail
    refine CX.out.mono ?_
    rintro e w1 ⟨rfl, ⟨m1, rfl⟩⟩
    have CADD := hid (implNodeAt ⟨6, 0, 0, false, [], []⟩ _ (HC.out _ (Qt.one w m1)) (HM.out _ (Qt.one w m1)) (by have := HSZ.out; omega) (by dsimp only; omega) (by dsimp only; omega) (by dsimp only; omega) rd_noInts rd_noInts)
    dsimp only at CADD
    rw [hcast] at CADD
    go_wp2_with fail
    refine CADD.out.mono ?_
    rintro e w9 ⟨nv', rfl, h1, h2, h3, h4⟩
    have H1 := hid h1
    clear h1
    go_wp2
    go_ret2
    exact ⟨Or.inl ⟨_, _, _, nv', HF.out.symm, rfl, by rw [hcast]; exact H1.out, h2, h3.up (by simp)⟩, ((((Qt.one w m1).kp).set 1 _).trans h4 (RowOn.refl _ _))⟩
  have e36 : ((x : Int) == 36) = false := by rw [beq_eq_false_iff_ne]; omega
  have f36 : ¬ (x : Int) = 36 := by omega
  have HF := hid (show putR ⟨2, (x : Nat), 0, false, [], []⟩ (i + 1) ns = R by rw [← HR.out]; unfold atomP; rw [HX.out, if_neg h40, if_neg h91, if_neg h92, if_neg (by omega)])
  clear h40 h91 h92 h46 h94 h36
  go_enter Tryz.func207, Tryz.ntmps207
  go_wp2_with fail
  refine CX.out.mono ?_
  rintro e w1 ⟨rfl, ⟨m1, rfl⟩⟩
  have CADD := hid (implNodeAt ⟨2, (x : Int), 0, false, [], []⟩ _ (HC.out _ (Qt.one w m1)) (HM.out _ (Qt.one w m1)) (by have := HSZ.out; omega) (by dsimp only; omega) (by dsimp only; omega) (by dsimp only; omega) rd_noInts rd_noInts)
  dsimp only at CADD
  rw [hcast] at CADD
  go_wp2_with fail
  refine CADD.out.mono ?_
  rintro e w9 ⟨nv', rfl, h1, h2, h3, h4⟩
  have H1 := hid h1
  clear h1
  go_wp2
  go_ret2
  exact ⟨Or.inl ⟨_, _, _, nv', HF.out.symm, rfl, by rw [hcast]; exact H1.out, h2, h3.up (by simp)⟩, ((((Qt.one w m1).kp).set 1 _).trans h4 (RowOn.refl _ _))⟩
end Go.Proofs.YtomcoilmpkpoeaaGreatDoor
