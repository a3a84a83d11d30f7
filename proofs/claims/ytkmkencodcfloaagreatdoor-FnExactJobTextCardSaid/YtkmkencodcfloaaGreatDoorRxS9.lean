/-
  What is proved here: the reference's rows of pieces, off what its pieces are. No condition but that the reader, its list and its nodes lie in memory, and sizes.
-/
import Derived.Test.YtkmkencodcfloaaGreatDoorRxS8
import Derived.Deep.Cut
import Derived.Deep.CutRange
namespace Go.Proofs.YtkmkencodcfloaaGreatDoor
open Go.RowKit
set_option linter.unusedVariables false
set_option linter.unusedSimpArgs false

theorem rowGoS_step {l : List Nat} {grp : Nat → List RxNode → RR} {top : Bool} {f i : Nat} {ns : List RxNode} {kids : List Nat} (h : ¬ (gN l i = 0 ∨ gN l i = 124 ∨ (gN l i = 41 ∧ top = false))) : rowGoS l grp top (f + 1) i ns kids = match pieceS l grp i ns with | .er c p => .er c p | .ok kid j ns1 => rowGoS l grp top f j ns1 (kids ++ [kid]) := by
  rw [rowGoS, if_neg h]
  unfold pieceS
  by_cases h41 : gN l i = 41
  · rw [if_pos h41, if_pos h41]
  · rw [if_neg h41, if_neg h41]
    cases pieceP l grp i ns <;> rfl
theorem rowGoS_stop {l : List Nat} {grp : Nat → List RxNode → RR} {top : Bool} {f i : Nat} {ns : List RxNode} {kids : List Nat} (h : gN l i = 0 ∨ gN l i = 124 ∨ (gN l i = 41 ∧ top = false)) : rowGoS l grp top (f + 1) i ns kids = endRow kids i ns := by
  rw [rowGoS, if_pos h]
theorem pieceS_in {l : List Nat} {grp : Nat → List RxNode → RR} (hg : Fwd1 l (pieceP l grp)) : Fwd1 l (pieceS l grp) := by
  intro i ns kid j ns1 hi h
  unfold pieceS at h
  split at h
  · cases h
  · exact hg i ns kid j ns1 hi h
theorem grown_none (w : World) : w.grownBy w none := ⟨rfl, rfl, rfl, Nat.le_refl _, fun _ _ _ => rfl⟩
def meaS (g : Nat) (w : World) : Nat := match w.cell? ⟨g, 2, none⟩ with | some (.int _ z) => if z = 0 then 5000 - atOf g w else 0 | _ => 0
theorem meaS_ok {g j : Nat} {w : World} (h : w.cell? ⟨g, 2, none⟩ = some (.int .i64 ((0 : Nat) : Int))) (h1 : w.cell? ⟨g, 1, none⟩ = some (.int .i64 ((j : Nat) : Int))) : meaS g w = 5000 - j := by
  unfold meaS
  rw [h, atOf_blk h1]
  rfl
theorem meaS_er {g c : Nat} {w : World} (h : w.cell? ⟨g, 2, none⟩ = some (.int .i64 ((c : Nat) : Int))) (hc : c ≠ 0) : meaS g w = 0 := by
  unfold meaS
  rw [h]
  simp only
  rw [if_neg (by omega)]
/-- nodes under way, and the row of their indices; or an error -/
def SeqS (X : Nat → Prop) (w wr : World) (g cap d : Nat) (a : Option Addr) (l : List Nat) (nv : Value) (i M : Nat) (F : Nat → Nat → List RxNode → List Nat → RR) (R : RR) (kv : Value) : Prop :=
  ∃ (nsj : List RxNode) (nvj : Value) (kids : List Nat) (j c q : Nat), wr.heap[g]? = some (.cells #[.slice a l.length cap, .int .i64 ((j : Nat) : Int), .int .i64 ((c : Nat) : Int), .int .i64 ((q : Nat) : Int), .int .i64 ((d : Nat) : Int), nvj] 93 (0, 0)) ∧ RxNs (fun b => X b ∨ kv.ownBlock = some b) g nvj wr nsj ∧ wr.ownsRow w.heap.size 3 1 kv kids.length (ints' (ints kids)) ∧ (∀ b, kv.ownBlock = some b → nvj.ownBlock ≠ some b)
    ∧ RowOn w nv.ownBlock nvj.ownBlock ∧ Kp g nv.ownBlock w wr ∧ j ≤ 4000 ∧ (∀ k ∈ kids, k ≤ 100000) ∧ kids.length ≤ 2000
    ∧ ((c = 0 ∧ q = 0 ∧ i ≤ j ∧ j ≤ l.length ∧ nsj.length ≤ 4 * j + 4 ∧ (∀ k ∈ kids, k < nsj.length) ∧ kids.length ≤ j ∧ ∃ f, l.length + 1 ≤ f + j ∧ F f j nsj kids = R) ∨ (c ≠ 0 ∧ R = .er c q ∧ 0 < kids.length ∧ nsj.length ≤ M))
set_option maxHeartbeats 16000000 in
set_option maxRecDepth 100000 in
theorem specRow {g cap d M : Nat} {a : Option Addr} {l : List Nat} {grp : Nat → List RxNode → RR} (hM : 5000 ≤ M) (hM9 : M ≤ 90000) (HP : NodeCS 112 (pieceS l grp) l.length M g cap d a l) (hfw : Fwd1 l (pieceP l grp)) (hd9 : d ≤ 6) : NodeCS 95 (rowS l grp (decide (d = 0))) (l.length + 1) (M + 1) g cap d a l := by
  intro X w i nv ns hX hb hL hi hn hlen2
  have hlen := hL.len
  have hg : g < w.heap.size := (Array.getElem?_eq_some_iff.1 hb).1
  have CX2 := hid (fun (w' : World) (j : Nat) (nv' : Value) (hk : Kp g nv.ownBlock w w') (hb' : w'.heap[g]? = some (.cells #[.slice a l.length cap, .int .i64 ((j : Nat) : Int), .int .i64 ((0 : Nat) : Int), .int .i64 ((0 : Nat) : Int), .int .i64 ((d : Nat) : Int), nv'] 93 (0, 0))) (hj : j ≤ 4000) => specPeek w' hb' (hL.kp hn hk hg) hj)
  have HLL := hid (fun (w' : World) (hk : Kp g nv.ownBlock w w') => hL.kp hn hk hg)
  have HPTS := hid hL.pts
  obtain ⟨R, hR⟩ : ∃ r, rowS l grp (decide (d = 0)) i ns = r := ⟨_, rfl⟩
  rw [hR]
  have HR := hid hR
  have HN := hid hn
  have HB := hid hb
  have HX := hid hX
  have HP := hid HP
  have HFW := hid (pieceS_in hfw)
  have HL := hid hlen2
  obtain ⟨ii, hii, hz0, hz1, hz2⟩ := info_parts info_int
  clear hb hR hn hL hlen2 hfw hX
  unfold NodeS
  go_enter Tryz.func95, Tryz.ntmps95
  go_wp2
  go_loopw [3] (fun kv wr => SeqS X w wr g cap d a l nv i M (rowGoS l grp (decide (d = 0))) R kv) (fun _ wr => meaS g wr)
  case atStart =>
    refine ⟨ns, nv, [], i, 0, 0, ((ext_alloc w _).block g hg).trans HB.out, (HN.out.grow (r := none) (grown_none w) (fun b e => by cases e) (fun b e => by cases e) (fun b hlt h => ?_)).kp ((Kp.refl g none w).alloc _), ⟨by simp [ints', ints], Or.inr ⟨w.heap.size, 0, #[], rfl, Nat.le_refl _, heap_alloc_new _ _, Nat.le_refl _, by decide, by simp, by simp [ints', ints]⟩⟩, ?_, RowOn.refl _ _, (Kp.refl _ _ _).alloc _, by omega, by simp, by simp, Or.inl ⟨rfl, rfl, Nat.le_refl _, by omega, HL.out, by simp, by simp, l.length + 1 - i, by omega, HR.out⟩⟩
    · rcases h with h | h
      · exact h
      · simp only [Value.ownBlock, Option.some.injEq] at h
        omega
    · intro b h e
      simp only [Value.ownBlock, Option.some.injEq] at h
      have := (HN.out.lt b e).2
      omega
  case round =>
    obtain ⟨nsj, nvj, kids, j, c, q, hbr, hns, hrow, hnk, hro, hkr, hj4, hk1, hk2, hmode⟩ := hrel
    obtain ⟨sa, sc, rfl⟩ := row_shape hrow
    obtain ⟨⟨c0, c1, c2, c3, c4, c5⟩, ⟨y1, y2, y3, y4, y5⟩, hgr⟩ := blk6c hbr
    have HBR := hid hbr
    have HNS := hid hns
    have HROW := hid hrow
    have HNK := hid hnk
    have HRO := hid hro
    have HKR := hid hkr
    have HK1 := hid hk1
    have hkp : ∀ x ∈ ints kids, ptI x := by
      intro x hx
      obtain ⟨k, hk, rfl⟩ := List.mem_map.1 hx
      have := hk1 k hk
      unfold ptI; omega
    have HKP := hid hkp
    have hws := hkr.size
    clear hns hrow hnk hro hk1 hkp
    rcases hmode with ⟨rfl, rfl, hij, hjl, hnl, hkl, hkj, f, hf, hgo⟩ | ⟨hc0, hRe, hkn, hnM⟩
    · obtain ⟨f, rfl⟩ : ∃ m, f = m + 1 := ⟨f - 1, by omega⟩
      have CXJ := hid (fun (w' : World) (hq : Qt wr w') => CX2.out w' j nvj (hkr.trans hq.kp HRO.out) (hq.at hbr) (by omega))
      have HKL := hid hkl
      obtain ⟨u, hu⟩ : ∃ c, gN l j = c := ⟨_, rfl⟩
      rw [hu] at CXJ
      have HU := hid hu
      have HGO := hid hgo
      clear hbr hkr hu hgo hkl
      go_wp2_with fail
      go_cut [39] from 5 to 44 (fun t wx => t = .bool (!(decide (u = 0) || decide (u = 124) || (decide (u = 41) && !decide (d = 0)))) ∧ Qt wr wx)
      case first =>
        as_aux_lemma =>
          have hdg : ((0 : Int) < (d : Int)) ↔ ¬ d = 0 := by omega
          by_cases hjlt : j < l.length
          · have hji : (j : Int) < (l.length : Int) := by omega
            have hu0 : ¬ u = 0 := by rw [← HU.out, gN_at hjlt]; have := (HPTS.out _ (List.getElem_mem hjlt)).1; omega
            by_cases h124 : u = 124
            · subst h124
              go_quiet (refine Calls.quiet_of (CXJ.out _ (Qt.one _ _)))
              go_wp2_with fail
              go_meet
              exact ⟨by simp, Qt.one _ _⟩
            have e124 : ((u : Int) == 124) = false := by rw [beq_eq_false_iff_ne]; omega
            have f124 : ¬ (u : Int) = 124 := by omega
            have n124 : ((u : Int) != 124) = true := by rw [bne_iff_ne]; omega
            by_cases h41 : u = 41
            · subst h41
              by_cases hd0 : d = 0
              · subst hd0
                go_quiet (refine Calls.quiet_of (CXJ.out _ (Qt.one _ _)))
                go_wp2_with fail
                go_meet
                exact ⟨by simp, Qt.one _ _⟩
              · have hdp : (0 : Int) < (d : Int) := by omega
                have hdn : 0 < d := by omega
                go_quiet (refine Calls.quiet_of (CXJ.out _ (Qt.one _ _)))
                go_wp2_with fail
                go_meet
                exact ⟨by simp [hd0, hdn], Qt.one _ _⟩
            have e41 : ((u : Int) == 41) = false := by rw [beq_eq_false_iff_ne]; omega
            go_quiet (refine Calls.quiet_of (CXJ.out _ (Qt.one _ _)))
            go_wp2_with fail
            go_meet
            exact ⟨by simp [hu0, h124, h41], Qt.one _ _⟩
          · have hji : ¬ (j : Int) < (l.length : Int) := by omega
            have hjd : decide ((j : Int) < (l.length : Int)) = false := decide_eq_false hji
            have hu0 : u = 0 := by rw [← HU.out]; exact gN_end (by omega)
            go_quiet (fail)
            go_wp2_with fail
            go_meet
            exact ⟨by simp [hu0], Qt.one _ _⟩
      case rest =>
      obtain ⟨rfl, ⟨m6, rfl⟩⟩ := hcut
      have hq6 := Qt.one wr m6
      by_cases hstop : u = 0 ∨ u = 124 ∨ (u = 41 ∧ decide (d = 0) = false)
      · have hb9 : (!(decide (u = 0) || decide (u = 124) || (decide (u = 41) && !decide (d = 0)))) = false := by
          rcases hstop with h | h | ⟨h, h2⟩
          · simp [h]
          · simp [h]
          · have : ¬ d = 0 := by simpa using h2
            simp [h, this]
        have HF := hid (show endRow kids j nsj = R by rw [← HGO.out, rowGoS_stop (by rw [HU.out]; exact hstop)])
        rw [hb9]
        clear hb9 hstop
        have HW : Qt wr (wr.drewN m6) := Qt.one _ _
        rcases kids with _ | ⟨k1, _ | ⟨k2, rest⟩⟩
        · simp only [List.length_nil] at *
          have CADD := hid (specPutAt (X := X) ⟨1, 0, 0, false, [], []⟩ _ (HW.at HBR.out) ((HNS.out.mono (fun b h => Or.inl h)).qt HW) (by omega) (by dsimp only; omega) (by dsimp only; omega) (by dsimp only; omega) rd_noInts rd_noInts)
          dsimp only at CADD
          go_wp2_with fail
          refine CADD.out.mono ?_
          rintro e w9 ⟨nv', rfl, h1, h2, h3, h4⟩
          have hkk := (HKR.out.trans HW.kp HRO.out).trans h4 HRO.out
          have hrr := HRO.out.trans (h3.up (w := wr) (by rw [HW.heap]; exact Nat.le_refl _)) hws
          have H1 := hid h1
          clear h1
          go_wp2
          go_ret
          exact ⟨Or.inl ⟨_, _, _, nv', HF.out.symm, rfl, H1.out, h2, hrr⟩, hkk⟩
        · simp only [List.length_cons, List.length_nil, Nat.zero_add] at *
          obtain ⟨b, rfl, hcb⟩ := row_one HROW.out
          go_wp2
          go_ret
          exact ⟨Or.inl ⟨k1, j, nsj, nvj, HF.out.symm, rfl, HW.at HBR.out, (HNS.out.mono (fun b h => Or.inl h)).qt HW, HRO.out⟩, HKR.out.trans HW.kp HRO.out⟩
        · simp only [List.length_cons] at *
          have q0 : (((rest.length : Int) + 1 + 1) == 0) = false := by rw [beq_eq_false_iff_ne]; omega
          have q1 : (((rest.length : Int) + 1 + 1) == 1) = false := by rw [beq_eq_false_iff_ne]; omega
          have q2 : ¬ ((rest.length : Int) + 1 + 1) = 0 := by omega
          have q3 : ¬ ((rest.length : Int) + 1 + 1) = 1 := by omega
          have q4 : ¬ ((rest.length : Int) + 1) = 0 := by omega
          have q5 : (((rest.length : Int) + 1) == 0) = false := by rw [beq_eq_false_iff_ne]; omega
          have hrk0 := rd_own_ints (S := Beside X g nvj.ownBlock wr) (by simpa [ints] using HROW.out) HKP.out (fun b hb h1 h2 => ⟨by omega, h2, HNK.out b hb, fun h => by have := HX.out b h; omega⟩)
          have hrk := Rd.same (fun b hb => by rw [HW.heap]) (Rd.mono (T := Beside X g nvj.ownBlock (wr.drewN m6)) (fun b hb => hb) hrk0)
          have CADD := hid (specPutAt (X := X) ⟨7, 0, 0, false, [], ints (k1 :: k2 :: rest)⟩ _ (HW.at HBR.out) ((HNS.out.mono (fun b h => Or.inl h)).qt HW) (by omega) (by dsimp only; omega) (by dsimp only; omega) (by dsimp only; omega) rd_noInts hrk)
          dsimp only at CADD
          go_wp2_with fail
          refine CADD.out.mono ?_
          rintro e w9 ⟨nv', rfl, h1, h2, h3, h4⟩
          have hkk := (HKR.out.trans HW.kp HRO.out).trans h4 HRO.out
          have hrr := HRO.out.trans (h3.up (w := wr) (by rw [HW.heap]; exact Nat.le_refl _)) hws
          have H1 := hid h1
          clear h1
          go_wp2
          go_ret
          exact ⟨Or.inl ⟨_, _, _, nv', HF.out.symm, rfl, H1.out, h2, hrr⟩, hkk⟩
      have hb9 : (!(decide (u = 0) || decide (u = 124) || (decide (u = 41) && !decide (d = 0)))) = true := by
        simp only [not_or, not_and] at hstop
        by_cases h41 : u = 41
        · have := hstop.2.2 h41
          simp only [decide_eq_false_iff_not, Decidable.not_not] at this
          simp [hstop.1, hstop.2.1, this]
        · simp [hstop.1, hstop.2.1, h41]
      have hjlt : j < l.length := gN_lt (by rw [HU.out]; exact fun h => hstop (Or.inl h))
      have HGO9 := hid (show (match pieceS l grp j nsj with | .er c p => .er c p | .ok kid k ns1 => rowGoS l grp (decide (d = 0)) f k ns1 (kids ++ [kid])) = R by rw [← HGO.out, rowGoS_step (by rw [HU.out]; exact hstop)])
      rw [hb9]
      clear hb9 hstop
      go_wp2_with fail
      refine (HP.out (fun b => X b ∨ (Value.slice sa kids.length sc).ownBlock = some b) (wr.drewN m6) j nvj nsj (fun b h => h.elim (fun h => by have := HX.out b h; exact Nat.lt_of_lt_of_le this hws) (fun h => (HROW.out.lt b h).2)) (hq6.at HBR.out) (HLL.out _ (HKR.out.trans hq6.kp HRO.out)) hjlt (HNS.out.qt hq6) hnl).mono ?_
      rintro e w3 ⟨he, hk3⟩
      have hk3 : Kp g nvj.ownBlock wr w3 := hq6.kp.trans hk3 (RowOn.refl _ _)
      have he := he.up (w := wr) (nv := nvj) (M' := M) (RowOn.refl _ _) (Nat.le_refl _) (Nat.le_refl _)
      rcases he with ⟨kid, k, ns2, nv2, h1, rfl, h3, h4, h5⟩ | ⟨c, p, kid, k, nv2, ns2, h1, rfl, hc0, h3, h4, h5, h7, h8, h9⟩
      · have hfw := HFW.out j nsj kid k ns2 hjlt h1
        have HGO2 := hid (show rowGoS l grp (decide (d = 0)) f k ns2 (kids ++ [kid]) = R by rw [← HGO9.out, h1])
        have hkb : kid ≤ 100000 := by omega
        have hro7 := HRO.out.trans h5 hws
        have hk7a := HKR.out.trans hk3 HRO.out
        have hne2 : ∀ b, (Value.slice sa kids.length sc).ownBlock = some b → nv2.ownBlock ≠ some b := fun b hb => h5.ne (HROW.out.lt b hb).2 (HNK.out b hb)
        have row3 := (row_kp HROW.out hk3 (by omega) (fun b hb => HNK.out b hb)).alloc (.cells #[.int .i64 (kid : Int)] 3)
        have hb8 := ((ext_alloc w3 (.cells #[.int .i64 (kid : Int)] 3)).block g (by have := hk3.size; omega)).trans h3
        have hn8 := h4.kp ((Kp.refl g none w3).alloc (.cells #[.int .i64 (kid : Int)] 3))
        have hk8 := hk7a.alloc (.cells #[.int .i64 (kid : Int)] 3)
        have hs3 := hk3.size
        have a1 : ([Value.int .i64 (kid : Int)] : List Value).length = 1 * 1 := rfl
        have a2 : ∀ u ∈ ([Value.int .i64 (kid : Int)] : List Value), u.oneCell' = true := by
          intro u hu
          simp only [List.mem_singleton] at hu
          subst hu
          rfl
        have a3 : kids.length + 1 ≤ maxLen := by unfold maxLen; omega
        have a4 : (kids.length + 1) * 8 ≤ 140737488355328 := by omega
        have a5 : w.heap.size ≤ (w3.alloc (.cells #[.int .i64 (kid : Int)] 3)).heap.size := by simp; omega
        have a6 := World.news_of_block (show (w3.alloc (.cells #[.int .i64 (kid : Int)] 3)).heap[w3.heap.size]? = some (.cells ([Value.int .i64 (kid : Int)] : List Value).toArray 3 (0, 0)) from heap_alloc_new _ _)
        have A := hid (And.intro a1 (And.intro a2 (And.intro a3 (And.intro a4 (And.intro a5 (And.intro a6 row3))))))
        have H358 := hid (And.intro hb8 (And.intro hn8 (And.intro hk8 hne2)))
        clear a1 a2 a3 a4 a5 a6 row3 hb8 hn8 hk8 hne2 h1 h3 h4 h5 hk7a
        go_wp2_with ((at_builtin; refine wpList_append_lies _ rfl (.tmp 40) (.tmp 43) 84 rfl w.heap.size 3 ii (.int .i64 0) 1 8 Tryz.underlying84 hii hz0 hz1 hz2 rfl (by decide) (.slice sa kids.length sc) kids.length (ints' (ints kids)) rfl A.out.2.2.2.2.2.2 ⟨w3.heap.size, 0, none⟩ 1 1 [.int .i64 (kid : Int)] rfl A.out.1 A.out.2.2.2.2.2.1 A.out.2.1 (by decide) A.out.2.2.1 A.out.2.2.2.1 A.out.2.2.2.2.1 _ rfl ?_))
        intro g6 cap6 w7 hown7 hgrow7 hat7 hlt7
        obtain ⟨hb8, hn8, hk8, hne2⟩ := H358.out
        have hng := fun b (e : some b = Value.ownBlock (.slice sa kids.length sc)) => (A.out.2.2.2.2.2.2.lt b e.symm).1
        have Hb7 := hid ((hgrow7.block g (by simp; omega) (fun e => by have := hng _ e; omega)).trans hb8)
        have HK7 := hid (hk8.grownNew hgrow7 (fun b e => hng b e.symm))
        have HO7 := hid hown7
        have HN7 := hid (hn8.grow (Y := fun b => X b ∨ (Value.slice (some ⟨g6, 0, none⟩) (kids.length + 1) cap6).ownBlock = some b) hgrow7 (fun b e => Or.inr e) (fun b e => hne2 b e) (fun b hlt hy => by
          rcases hy with hy | hy
          · exact Or.inl hy
          · right
            simp only [Value.ownBlock, Option.some.injEq] at hy
            subst hy
            rcases hat7 with h | h
            · exact h
            · exfalso; simp at hlt h; omega))
        have HNE7 := hid (show ∀ b, (Value.slice (some ⟨g6, 0, none⟩) (kids.length + 1) cap6).ownBlock = some b → nv2.ownBlock ≠ some b from fun b e => by
          simp only [Value.ownBlock, Option.some.injEq] at e
          subst e
          rcases hat7 with h | h
          · exact hne2 _ h
          · intro e2
            have h9 := (hn8.lt _ e2).2
            simp at h h9
            omega)
        have HKA := hid (show ∀ k ∈ kids ++ [kid], k ≤ 100000 from fun q hq => by
          rcases List.mem_append.1 hq with hq | hq
          · exact HK1.out q hq
          · rw [List.mem_singleton.1 hq]; exact hkb)
        have HKL7 := hid (show ∀ k ∈ kids ++ [kid], k < ns2.length from fun q hq => by
          rcases List.mem_append.1 hq with hq | hq
          · have := HKL.out q hq; omega
          · rw [List.mem_singleton.1 hq]; exact hfw.2.2.1)
        clear hb8 hn8 hk8 hne2 hown7 hgrow7 hng
        go_wp2
        go_roundw
        case rel => exact ⟨ns2, nv2, kids ++ [kid], k, 0, 0, Hb7.out, HN7.out, by rw [ints_ints, List.length_append]; exact HO7.out, HNE7.out, hro7, HK7.out, by omega, HKA.out, by rw [List.length_append]; show kids.length + 1 ≤ _; omega, Or.inl ⟨rfl, rfl, by omega, hfw.2.1, by omega, HKL7.out, by rw [List.length_append]; show kids.length + 1 ≤ k; omega, f, by omega, HGO2.out⟩⟩
        case measure =>
          rw [meaS_ok (blk6c Hb7.out).1.2.2.1 (blk6c Hb7.out).1.2.1, meaS_ok (blk6c HBR.out).1.2.2.1 (blk6c HBR.out).1.2.1]
          omega
      · have HRE := hid (show R = .er c p by rw [← HGO9.out, h1])
        have hkb : kid ≤ 100000 := h9
        have hro7 := HRO.out.trans h5 hws
        have hk7a := HKR.out.trans hk3 HRO.out
        have hne2 : ∀ b, (Value.slice sa kids.length sc).ownBlock = some b → nv2.ownBlock ≠ some b := fun b hb => h5.ne (HROW.out.lt b hb).2 (HNK.out b hb)
        have row3 := (row_kp HROW.out hk3 (by omega) (fun b hb => HNK.out b hb)).alloc (.cells #[.int .i64 (kid : Int)] 3)
        have hb8 := ((ext_alloc w3 (.cells #[.int .i64 (kid : Int)] 3)).block g (by have := hk3.size; omega)).trans h3
        have hn8 := h4.kp ((Kp.refl g none w3).alloc (.cells #[.int .i64 (kid : Int)] 3))
        have hk8 := hk7a.alloc (.cells #[.int .i64 (kid : Int)] 3)
        have hs3 := hk3.size
        have a1 : ([Value.int .i64 (kid : Int)] : List Value).length = 1 * 1 := rfl
        have a2 : ∀ u ∈ ([Value.int .i64 (kid : Int)] : List Value), u.oneCell' = true := by
          intro u hu
          simp only [List.mem_singleton] at hu
          subst hu
          rfl
        have a3 : kids.length + 1 ≤ maxLen := by unfold maxLen; omega
        have a4 : (kids.length + 1) * 8 ≤ 140737488355328 := by omega
        have a5 : w.heap.size ≤ (w3.alloc (.cells #[.int .i64 (kid : Int)] 3)).heap.size := by simp; omega
        have a6 := World.news_of_block (show (w3.alloc (.cells #[.int .i64 (kid : Int)] 3)).heap[w3.heap.size]? = some (.cells ([Value.int .i64 (kid : Int)] : List Value).toArray 3 (0, 0)) from heap_alloc_new _ _)
        have A := hid (And.intro a1 (And.intro a2 (And.intro a3 (And.intro a4 (And.intro a5 (And.intro a6 row3))))))
        have H358 := hid (And.intro hb8 (And.intro hn8 (And.intro hk8 hne2)))
        clear a1 a2 a3 a4 a5 a6 row3 hb8 hn8 hk8 hne2 h1 h3 h4 h5 hk7a
        go_wp2_with ((at_builtin; refine wpList_append_lies _ rfl (.tmp 40) (.tmp 43) 84 rfl w.heap.size 3 ii (.int .i64 0) 1 8 Tryz.underlying84 hii hz0 hz1 hz2 rfl (by decide) (.slice sa kids.length sc) kids.length (ints' (ints kids)) rfl A.out.2.2.2.2.2.2 ⟨w3.heap.size, 0, none⟩ 1 1 [.int .i64 (kid : Int)] rfl A.out.1 A.out.2.2.2.2.2.1 A.out.2.1 (by decide) A.out.2.2.1 A.out.2.2.2.1 A.out.2.2.2.2.1 _ rfl ?_))
        intro g6 cap6 w7 hown7 hgrow7 hat7 hlt7
        obtain ⟨hb8, hn8, hk8, hne2⟩ := H358.out
        have hng := fun b (e : some b = Value.ownBlock (.slice sa kids.length sc)) => (A.out.2.2.2.2.2.2.lt b e.symm).1
        have Hb7 := hid ((hgrow7.block g (by simp; omega) (fun e => by have := hng _ e; omega)).trans hb8)
        have HK7 := hid (hk8.grownNew hgrow7 (fun b e => hng b e.symm))
        have HO7 := hid hown7
        have HN7 := hid (hn8.grow (Y := fun b => X b ∨ (Value.slice (some ⟨g6, 0, none⟩) (kids.length + 1) cap6).ownBlock = some b) hgrow7 (fun b e => Or.inr e) (fun b e => hne2 b e) (fun b hlt hy => by
          rcases hy with hy | hy
          · exact Or.inl hy
          · right
            simp only [Value.ownBlock, Option.some.injEq] at hy
            subst hy
            rcases hat7 with h | h
            · exact h
            · exfalso; simp at hlt h; omega))
        have HNE7 := hid (show ∀ b, (Value.slice (some ⟨g6, 0, none⟩) (kids.length + 1) cap6).ownBlock = some b → nv2.ownBlock ≠ some b from fun b e => by
          simp only [Value.ownBlock, Option.some.injEq] at e
          subst e
          rcases hat7 with h | h
          · exact hne2 _ h
          · intro e2
            have h9 := (hn8.lt _ e2).2
            simp at h h9
            omega)
        have HKA := hid (show ∀ k ∈ kids ++ [kid], k ≤ 100000 from fun q hq => by
          rcases List.mem_append.1 hq with hq | hq
          · exact HK1.out q hq
          · rw [List.mem_singleton.1 hq]; exact hkb)
        skip
        clear hb8 hn8 hk8 hne2 hown7 hgrow7 hng
        go_wp2
        go_roundw
        case rel => exact ⟨ns2, nv2, kids ++ [kid], k, c, p, Hb7.out, HN7.out, by rw [ints_ints, List.length_append]; exact HO7.out, HNE7.out, hro7, HK7.out, h8, HKA.out, by rw [List.length_append]; show kids.length + 1 ≤ _; omega, Or.inr ⟨hc0, HRE.out, by rw [List.length_append]; show 0 < kids.length + 1; omega, h7⟩⟩
        case measure =>
          rw [meaS_er (blk6c Hb7.out).1.2.2.1 hc0, meaS_ok (blk6c HBR.out).1.2.2.1 (blk6c HBR.out).1.2.1]
          omega
    · have hz1 : ((c : Int) == 0) = false := by rw [beq_eq_false_iff_ne]; omega
      have hz2 : ¬ (c : Int) = 0 := by omega
      clear hbr hkr
      go_wp2_with fail
      go_quiet (fail)
      have HW : Qt wr (wr.drewN nq) := Qt.one _ _
      rcases kids with _ | ⟨k1, _ | ⟨k2, rest⟩⟩
      · exact absurd hkn (by simp)
      · simp only [List.length_cons, List.length_nil, Nat.zero_add] at *
        obtain ⟨b, rfl, hcb⟩ := row_one HROW.out
        go_wp2
        go_ret
        exact ⟨Or.inr ⟨c, q, k1, j, nvj, nsj, hRe, rfl, hc0, HW.at HBR.out, (HNS.out.mono (fun b h => Or.inl h)).qt HW, HRO.out, by omega, hj4, HK1.out k1 (by simp)⟩, HKR.out.trans HW.kp HRO.out⟩
      · simp only [List.length_cons] at *
        have q0 : (((rest.length : Int) + 1 + 1) == 0) = false := by rw [beq_eq_false_iff_ne]; omega
        have q1 : (((rest.length : Int) + 1 + 1) == 1) = false := by rw [beq_eq_false_iff_ne]; omega
        have q2 : ¬ ((rest.length : Int) + 1 + 1) = 0 := by omega
        have q3 : ¬ ((rest.length : Int) + 1 + 1) = 1 := by omega
        have q4 : ¬ ((rest.length : Int) + 1) = 0 := by omega
        have q5 : (((rest.length : Int) + 1) == 0) = false := by rw [beq_eq_false_iff_ne]; omega
        have hrk0 := rd_own_ints (S := Beside X g nvj.ownBlock wr) (by simpa [ints] using HROW.out) HKP.out (fun b hb h1 h2 => ⟨by omega, h2, HNK.out b hb, fun h => by have := HX.out b h; omega⟩)
        have hrk := Rd.same (fun b hb => by rw [HW.heap]) (Rd.mono (T := Beside X g nvj.ownBlock (wr.drewN nq)) (fun b hb => hb) hrk0)
        have CADD := hid (specPutAt (X := X) ⟨7, 0, 0, false, [], ints (k1 :: k2 :: rest)⟩ _ (HW.at HBR.out) ((HNS.out.mono (fun b h => Or.inl h)).qt HW) (by omega) (by dsimp only; omega) (by dsimp only; omega) (by dsimp only; omega) rd_noInts hrk)
        dsimp only at CADD
        go_wp2_with fail
        refine CADD.out.mono ?_
        rintro e w9 ⟨nv', rfl, h1, h2, h3, h4⟩
        have hkk := (HKR.out.trans HW.kp HRO.out).trans h4 HRO.out
        have hrr := HRO.out.trans (h3.up (w := wr) (by rw [HW.heap]; exact Nat.le_refl _)) hws
        have H1 := hid h1
        clear h1
        go_wp2
        go_ret
        exact ⟨Or.inr ⟨c, q, nsj.length, j, nv', _, hRe, rfl, hc0, H1.out, h2, hrr, by rw [List.length_append]; show nsj.length + 1 ≤ M + 1; omega, hj4, by omega⟩, hkk⟩
end Go.Proofs.YtkmkencodcfloaaGreatDoor
