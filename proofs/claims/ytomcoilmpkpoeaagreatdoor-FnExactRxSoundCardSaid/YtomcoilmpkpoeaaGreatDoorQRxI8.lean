/-
  What is proved here: the pattern reader's sequences and alternatives in impl, off what its pieces are. No condition but that the reader, its list and its nodes lie in memory, and sizes.
-/
import Derived.Test.YtomcoilmpkpoeaaGreatDoorQRxI7
namespace Go.Proofs.YtomcoilmpkpoeaaGreatDoor
open Go.RowKit
set_option linter.unusedVariables false
set_option linter.unusedSimpArgs false

theorem RxNs.grow {X Y : Nat → Prop} {g : Nat} {nv : Value} {w w' : World} {ns : List RxNode} {r : Option Nat} (h : RxNs X g nv w ns) (hg : w.grownBy w' r) (hr : ∀ b, r = some b → X b) (hn : ∀ b, r = some b → nv.ownBlock ≠ some b) (hY : ∀ b, b < w.heap.size → Y b → X b) : RxNs Y g nv w' ns := by
  obtain ⟨css, h1, h2⟩ := h
  refine ⟨css, h1.kept hg ?_, h2.1, fun i a b => ?_⟩
  · cases hv : nv.ownBlock with
    | none => exact .inl rfl
    | some q => right; intro e; exact hn q e.symm hv
  · refine Rd.mono (S := Beside X g nv.ownBlock w) (fun c hc => ⟨hc.1, Nat.lt_of_lt_of_le hc.2.1 hg.size, hc.2.2.1, fun hy => hc.2.2.2 (hY c hc.2.1 hy)⟩) (Rd.same (fun c hc => hg.block c hc.2.1 (fun e => hc.2.2.2 (hr c e.symm))) (h2.2 i a b))
theorem RxNs.mono {X Y : Nat → Prop} {g : Nat} {nv : Value} {w : World} {ns : List RxNode} (h : RxNs X g nv w ns) (hY : ∀ b, Y b → X b) : RxNs Y g nv w ns := by
  obtain ⟨css, h1, h2⟩ := h
  exact ⟨css, h1, h2.1, fun i a b => Rd.mono (S := Beside X g nv.ownBlock w) (fun c hc => ⟨hc.1, hc.2.1, hc.2.2.1, fun hy => hc.2.2.2 (hY c hy)⟩) (h2.2 i a b)⟩
theorem row_kp {g : Nat} {r : Option Nat} {w w' : World} {base : Nat} {e : TypeId} {size n : Nat} {v : Value} {xs : List Value} (hv : w.ownsRow base e size v n xs) (h : Kp g r w w') (hg : g < base) (hne : ∀ b, v.ownBlock = some b → r ≠ some b) : w'.ownsRow base e size v n xs := by
  refine ⟨hv.1, ?_⟩
  rcases hv.2 with ⟨rfl, hn⟩ | ⟨b, cap, cur, rfl, h1, h2, h3, h4, h5, h6⟩
  · exact Or.inl ⟨rfl, hn⟩
  · have hb : b < w.heap.size := (Array.getElem?_eq_some_iff.1 h2).1
    exact Or.inr ⟨b, cap, cur, rfl, h1, (h.block b hb (by omega) (hne b rfl)).trans h2, h3, h4, h5, h6⟩
theorem ints_ints (ks : List Nat) (k : Nat) : ints' (ints (ks ++ [k])) = ints' (ints ks) ++ [.int .i64 (k : Int)] := by simp [ints', ints]
theorem ints_pt {ks : List Nat} {n : Nat} (h : ∀ k ∈ ks, k < n) (hn : n ≤ 100000) : ∀ x ∈ ints ks, ptI x := by
  intro x hx
  obtain ⟨k, hk, rfl⟩ := List.mem_map.1 hx
  have := h k hk
  unfold ptI; omega
/-- nodes under way, and the row of their indices -/
def SeqI (X : Nat → Prop) (w wr : World) (g cap d : Nat) (a : Option Addr) (l : List Nat) (nv : Value) (i : Nat) (F : Nat → Nat → List RxNode → List Nat → RR) (R : RR) (kv : Value) (j : Nat) : Prop :=
  ∃ (nsj : List RxNode) (nvj : Value) (kids : List Nat), wr.heap[g]? = some (.cells #[.slice a l.length cap, .int .i64 ((j : Nat) : Int), .int .i64 ((d : Nat) : Int), nvj] 101 (0, 0)) ∧ RxNs (fun b => X b ∨ kv.ownBlock = some b) g nvj wr nsj ∧ wr.ownsRow w.heap.size 3 1 kv kids.length (ints' (ints kids)) ∧ (∀ b, kv.ownBlock = some b → nvj.ownBlock ≠ some b)
    ∧ RowOn w nv.ownBlock nvj.ownBlock ∧ Kp g nv.ownBlock w wr ∧ i ≤ j ∧ j ≤ l.length ∧ nsj.length ≤ 4 * j + 4 ∧ (∀ k ∈ kids, k < nsj.length) ∧ kids.length ≤ j ∧ ∃ f, l.length + 1 ≤ f + j ∧ F f j nsj kids = R
theorem row_one {w : World} {base : Nat} {e : TypeId} {a : Option Addr} {c k : Nat} (h : w.ownsRow base e 1 (.slice a 1 c) 1 (ints' (ints [k]))) : ∃ b, a = some ⟨b, 0, none⟩ ∧ w.cell? ⟨b, 0, none⟩ = some (.int .i64 (k : Int)) := by
  rcases h.2 with ⟨hv, h1⟩ | ⟨g, cap', cur, hv, hB, hg, _⟩
  · omega
  · simp only [Value.slice.injEq, true_and] at hv
    obtain ⟨rfl, rfl⟩ := hv
    have hx := h.cells (g := g) rfl 0 (.int .i64 (k : Int)) (by simp [ints', ints])
    exact ⟨g, rfl, by simpa [Addr.add_lit] using hx⟩
set_option maxHeartbeats 16000000 in
set_option maxRecDepth 100000 in
theorem implSequence {g cap d : Nat} {a : Option Addr} {l : List Nat} {grp : Nat → List RxNode → RR} (HP : NodeC 189 (pieceP l grp) l.length g cap d a l) (hfw : Fwd1 l (pieceP l grp)) : NodeC 158 (rowP l grp) (l.length + 1) g cap d a l := by
  intro X w i nv ns hX hb hL hi hn hlen2
  have hlen := hL.len
  have hg : g < w.heap.size := (Array.getElem?_eq_some_iff.1 hb).1
  have CX2 := hid (fun (w' : World) (j : Nat) (nv' : Value) (hk : Kp g nv.ownBlock w w') (hb' : w'.heap[g]? = some (.cells #[.slice a l.length cap, .int .i64 ((j : Nat) : Int), .int .i64 ((d : Nat) : Int), nv'] 101 (0, 0))) (hj : j ≤ 1000) => implNext w' hb' (hL.kp hn hk hg) (by omega))
  have HLL := hid (fun (w' : World) (hk : Kp g nv.ownBlock w w') => hL.kp hn hk hg)
  obtain ⟨R, hR⟩ : ∃ r, rowP l grp i ns = r := ⟨_, rfl⟩
  rw [hR]
  have HR := hid hR
  have HN := hid hn
  have HB := hid hb
  have HX := hid hX
  have HP := hid HP
  have HFW := hid hfw
  have HL := hid hlen2
  have CXI := hid (CX2.out w i nv (Kp.refl _ _ _) hb (by omega))
  obtain ⟨ii, hii, hz0, hz1, hz2⟩ := info_parts info_int
  clear hb hR hn hL hlen2 hfw hX
  unfold NodeE
  go_enter Tryz.func158, Tryz.ntmps158
  go_wp2_with fail
  refine CXI.out.mono ?_
  rintro e w1 ⟨rfl, hq1⟩
  go_wp2
  go_loopw [4, 5] (fun kv c wr => ∃ j : Nat, c = .int .i64 ((gN l j : Nat) : Int) ∧ SeqI X w wr g cap d a l nv i (rowGo l grp) R kv j) (fun _ _ wr => 2000 - atOf g wr)
  case atStart =>
    refine ⟨i, rfl, ns, nv, [], hq1.at HB.out, (HN.out.mono (fun b h => ?_)).qt hq1, ⟨by simp [ints', ints], Or.inl ⟨rfl, rfl⟩⟩, ?_, RowOn.refl _ _, hq1.kp, Nat.le_refl _, by omega, HL.out, by simp, by simp, l.length + 1 - i, by omega, HR.out⟩
    · rcases h with h | h
      · exact h
      · cases h
    · intro b h; cases h
  case round =>
    obtain ⟨j, rfl, nsj, nvj, kids, hbr, hns, hrow, hnk, hro, hkr, hij, hjl, hnl, hkl, hkj, f, hf, hgo⟩ := hrel
    obtain ⟨sa, sc, rfl⟩ := row_shape hrow
    obtain ⟨f, rfl⟩ : ∃ m, f = m + 1 := ⟨f - 1, by omega⟩
    have hkp : ∀ x ∈ ints kids, ptI x := ints_pt hkl (by omega)
    obtain ⟨u, hu⟩ : ∃ c, gN l j = c := ⟨_, rfl⟩
    rw [hu]
    rw [rowGo, hu] at hgo
    have HU := hid hu
    have HBR := hid hbr
    have HNS := hid hns
    have HROW := hid hrow
    have HNK := hid hnk
    have HRO := hid hro
    have HKR := hid hkr
    have HKL := hid hkl
    have HKP := hid hkp
    have hgr : g < wr.heap.size := (Array.getElem?_eq_some_iff.1 hbr).1
    have hws := hkr.size
    clear hbr hns hrow hnk hro hkr hkl hu hkp
    by_cases h0 : u = 0
    · subst h0
      have HF := hid (show endRow kids j nsj = R by rw [if_pos (by decide)] at hgo; exact hgo)
      clear hgo
      rcases kids with _ | ⟨k1, _ | ⟨k2, rest⟩⟩
      · simp only [List.length_nil]
        have CADD := hid (implNodeAt (X := X) ⟨1, 0, 0, false, [], []⟩ wr HBR.out (HNS.out.mono (fun b h => Or.inl h)) (by omega) (by dsimp only; omega) (by dsimp only; omega) (by dsimp only; omega) rd_noInts rd_noInts)
        dsimp only at CADD
        go_wp2_with fail
        refine CADD.out.mono ?_
        rintro e w9 ⟨nv', rfl, h1, h2, h3, h4⟩
        have H1 := hid h1
        clear h1
        go_wp2
        go_ret2
        exact ⟨Or.inl ⟨_, _, _, nv', HF.out.symm, rfl, H1.out, h2, HRO.out.trans h3 hws⟩, HKR.out.trans h4 HRO.out⟩
      · simp only [List.length_cons, List.length_nil, Nat.zero_add] at *
        obtain ⟨b, rfl, hcb⟩ := row_one HROW.out
        go_wp2
        go_ret2
        exact ⟨Or.inl ⟨k1, j, nsj, nvj, HF.out.symm, rfl, HBR.out, HNS.out.mono (fun b h => Or.inl h), HRO.out⟩, HKR.out⟩
      · simp only [List.length_cons] at *
        have hl2 : (((k2 :: rest : List Nat).length : Int) + 1 == 0) = false := by rw [beq_eq_false_iff_ne]; simp; omega
        have q0 : (((rest.length : Int) + 1 + 1) == 0) = false := by rw [beq_eq_false_iff_ne]; omega
        have q1 : (((rest.length : Int) + 1 + 1) == 1) = false := by rw [beq_eq_false_iff_ne]; omega
        have q2 : ¬ ((rest.length : Int) + 1 + 1) = 0 := by omega
        have q3 : ¬ ((rest.length : Int) + 1 + 1) = 1 := by omega
        have q4 : ¬ ((rest.length : Int) + 1) = 0 := by omega
        have q5 : (((rest.length : Int) + 1) == 0) = false := by rw [beq_eq_false_iff_ne]; omega
        have hrk := rd_own_ints (S := Beside X g nvj.ownBlock wr) (by simpa [ints] using HROW.out) HKP.out (fun b hb h1 h2 => ⟨by omega, h2, HNK.out b hb, fun h => by have := HX.out b h; omega⟩)
        have CADD := hid (implNodeAt (X := X) ⟨7, 0, 0, false, [], ints (k1 :: k2 :: rest)⟩ wr HBR.out (HNS.out.mono (fun b h => Or.inl h)) (by omega) (by dsimp only; omega) (by dsimp only; omega) (by dsimp only; omega) rd_noInts hrk)
        dsimp only at CADD
        go_wp2_with fail
        refine CADD.out.mono ?_
        rintro e w9 ⟨nv', rfl, h1, h2, h3, h4⟩
        have H1 := hid h1
        clear h1
        go_wp2
        go_ret2
        exact ⟨Or.inl ⟨_, _, _, nv', HF.out.symm, rfl, H1.out, h2, HRO.out.trans h3 hws⟩, HKR.out.trans h4 HRO.out⟩
    have e0 : ((u : Int) == 0) = false := by rw [beq_eq_false_iff_ne]; omega
    have f0 : ¬ (u : Int) = 0 := by omega
    have n0 : ((u : Int) != 0) = true := by rw [bne_iff_ne]; omega
    by_cases h124 : u = 124
    · subst h124
      have HF := hid (show endRow kids j nsj = R by rw [if_pos (by decide)] at hgo; exact hgo)
      clear hgo
      rcases kids with _ | ⟨k1, _ | ⟨k2, rest⟩⟩
      · simp only [List.length_nil]
        have CADD := hid (implNodeAt (X := X) ⟨1, 0, 0, false, [], []⟩ wr HBR.out (HNS.out.mono (fun b h => Or.inl h)) (by omega) (by dsimp only; omega) (by dsimp only; omega) (by dsimp only; omega) rd_noInts rd_noInts)
        dsimp only at CADD
        go_wp2_with fail
        refine CADD.out.mono ?_
        rintro e w9 ⟨nv', rfl, h1, h2, h3, h4⟩
        have H1 := hid h1
        clear h1
        go_wp2
        go_ret2
        exact ⟨Or.inl ⟨_, _, _, nv', HF.out.symm, rfl, H1.out, h2, HRO.out.trans h3 hws⟩, HKR.out.trans h4 HRO.out⟩
      · simp only [List.length_cons, List.length_nil, Nat.zero_add] at *
        obtain ⟨b, rfl, hcb⟩ := row_one HROW.out
        go_wp2
        go_ret2
        exact ⟨Or.inl ⟨k1, j, nsj, nvj, HF.out.symm, rfl, HBR.out, HNS.out.mono (fun b h => Or.inl h), HRO.out⟩, HKR.out⟩
      · simp only [List.length_cons] at *
        have hl2 : (((k2 :: rest : List Nat).length : Int) + 1 == 0) = false := by rw [beq_eq_false_iff_ne]; simp; omega
        have q0 : (((rest.length : Int) + 1 + 1) == 0) = false := by rw [beq_eq_false_iff_ne]; omega
        have q1 : (((rest.length : Int) + 1 + 1) == 1) = false := by rw [beq_eq_false_iff_ne]; omega
        have q2 : ¬ ((rest.length : Int) + 1 + 1) = 0 := by omega
        have q3 : ¬ ((rest.length : Int) + 1 + 1) = 1 := by omega
        have q4 : ¬ ((rest.length : Int) + 1) = 0 := by omega
        have q5 : (((rest.length : Int) + 1) == 0) = false := by rw [beq_eq_false_iff_ne]; omega
        have hrk := rd_own_ints (S := Beside X g nvj.ownBlock wr) (by simpa [ints] using HROW.out) HKP.out (fun b hb h1 h2 => ⟨by omega, h2, HNK.out b hb, fun h => by have := HX.out b h; omega⟩)
        have CADD := hid (implNodeAt (X := X) ⟨7, 0, 0, false, [], ints (k1 :: k2 :: rest)⟩ wr HBR.out (HNS.out.mono (fun b h => Or.inl h)) (by omega) (by dsimp only; omega) (by dsimp only; omega) (by dsimp only; omega) rd_noInts hrk)
        dsimp only at CADD
        go_wp2_with fail
        refine CADD.out.mono ?_
        rintro e w9 ⟨nv', rfl, h1, h2, h3, h4⟩
        have H1 := hid h1
        clear h1
        go_wp2
        go_ret2
        exact ⟨Or.inl ⟨_, _, _, nv', HF.out.symm, rfl, H1.out, h2, HRO.out.trans h3 hws⟩, HKR.out.trans h4 HRO.out⟩
    have e124 : ((u : Int) == 124) = false := by rw [beq_eq_false_iff_ne]; omega
    have f124 : ¬ (u : Int) = 124 := by omega
    have n124 : ((u : Int) != 124) = true := by rw [bne_iff_ne]; omega
    by_cases h41 : u = 41
    · subst h41
      have HF := hid (show endRow kids j nsj = R by rw [if_pos (by decide)] at hgo; exact hgo)
      clear hgo
      rcases kids with _ | ⟨k1, _ | ⟨k2, rest⟩⟩
      · simp only [List.length_nil]
        have CADD := hid (implNodeAt (X := X) ⟨1, 0, 0, false, [], []⟩ wr HBR.out (HNS.out.mono (fun b h => Or.inl h)) (by omega) (by dsimp only; omega) (by dsimp only; omega) (by dsimp only; omega) rd_noInts rd_noInts)
        dsimp only at CADD
        go_wp2_with fail
        refine CADD.out.mono ?_
        rintro e w9 ⟨nv', rfl, h1, h2, h3, h4⟩
        have H1 := hid h1
        clear h1
        go_wp2
        go_ret2
        exact ⟨Or.inl ⟨_, _, _, nv', HF.out.symm, rfl, H1.out, h2, HRO.out.trans h3 hws⟩, HKR.out.trans h4 HRO.out⟩
      · simp only [List.length_cons, List.length_nil, Nat.zero_add] at *
        obtain ⟨b, rfl, hcb⟩ := row_one HROW.out
        go_wp2
        go_ret2
        exact ⟨Or.inl ⟨k1, j, nsj, nvj, HF.out.symm, rfl, HBR.out, HNS.out.mono (fun b h => Or.inl h), HRO.out⟩, HKR.out⟩
      · simp only [List.length_cons] at *
        have hl2 : (((k2 :: rest : List Nat).length : Int) + 1 == 0) = false := by rw [beq_eq_false_iff_ne]; simp; omega
        have q0 : (((rest.length : Int) + 1 + 1) == 0) = false := by rw [beq_eq_false_iff_ne]; omega
        have q1 : (((rest.length : Int) + 1 + 1) == 1) = false := by rw [beq_eq_false_iff_ne]; omega
        have q2 : ¬ ((rest.length : Int) + 1 + 1) = 0 := by omega
        have q3 : ¬ ((rest.length : Int) + 1 + 1) = 1 := by omega
        have q4 : ¬ ((rest.length : Int) + 1) = 0 := by omega
        have q5 : (((rest.length : Int) + 1) == 0) = false := by rw [beq_eq_false_iff_ne]; omega
        have hrk := rd_own_ints (S := Beside X g nvj.ownBlock wr) (by simpa [ints] using HROW.out) HKP.out (fun b hb h1 h2 => ⟨by omega, h2, HNK.out b hb, fun h => by have := HX.out b h; omega⟩)
        have CADD := hid (implNodeAt (X := X) ⟨7, 0, 0, false, [], ints (k1 :: k2 :: rest)⟩ wr HBR.out (HNS.out.mono (fun b h => Or.inl h)) (by omega) (by dsimp only; omega) (by dsimp only; omega) (by dsimp only; omega) rd_noInts hrk)
        dsimp only at CADD
        go_wp2_with fail
        refine CADD.out.mono ?_
        rintro e w9 ⟨nv', rfl, h1, h2, h3, h4⟩
        have H1 := hid h1
        clear h1
        go_wp2
        go_ret2
        exact ⟨Or.inl ⟨_, _, _, nv', HF.out.symm, rfl, H1.out, h2, HRO.out.trans h3 hws⟩, HKR.out.trans h4 HRO.out⟩
    have e41 : ((u : Int) == 41) = false := by rw [beq_eq_false_iff_ne]; omega
    have f41 : ¬ (u : Int) = 41 := by omega
    have n41 : ((u : Int) != 41) = true := by rw [bne_iff_ne]; omega
    have HGO := hid (show (match pieceP l grp j nsj with | .er c p => .er c p | .ok kid k ns1 => rowGo l grp f k ns1 (kids ++ [kid])) = R by rw [if_neg (by omega)] at hgo; exact hgo)
    have hjlt : j < l.length := gN_lt (by rw [HU.out]; exact h0)
    clear hgo
    go_wp2_with fail
    refine (HP.out (fun b => X b ∨ (Value.slice sa kids.length sc).ownBlock = some b) wr j nvj nsj (fun b h => h.elim (fun h => by have := HX.out b h; omega) (fun h => (HROW.out.lt b h).2)) HBR.out (HLL.out wr HKR.out) hjlt HNS.out hnl).mono ?_
    rintro e w3 ⟨he, hk3⟩
    rcases he with ⟨kid, k, ns2, nv2, h1, rfl, h3, h4, h5⟩ | ⟨c, p, z, d', nv2, h1, rfl, h3, h4⟩
    · have hfw := HFW.out j nsj kid k ns2 hjlt h1
      have HGO2 := hid (show rowGo l grp f k ns2 (kids ++ [kid]) = R by rw [← HGO.out, h1])
      have hro7 := HRO.out.trans h5 hws
      have hk7a := HKR.out.trans hk3 HRO.out
      have hne2 : ∀ b, (Value.slice sa kids.length sc).ownBlock = some b → nv2.ownBlock ≠ some b := fun b hb => h5.ne (HROW.out.lt b hb).2 (HNK.out b hb)
      have row3 := (row_kp HROW.out hk3 (by omega) (fun b hb => HNK.out b hb)).alloc (.cells #[.int .i64 (kid : Int)] 3)
      have hb8 := ((ext_alloc w3 (.cells #[.int .i64 (kid : Int)] 3)).block g (by have := hk3.size; omega)).trans h3
      have hn8 := h4.kp ((Kp.refl g none w3).alloc (.cells #[.int .i64 (kid : Int)] 3))
      have hk8 := hk7a.alloc (.cells #[.int .i64 (kid : Int)] 3)
      have hs3 := hk3.size
      have a1 : ([Value.int .i64 (kid : Int)] : List Value).length = 1 * 1 := rfl
      have a2 : ∀ u ∈ ([Value.int .i64 (kid : Int)] : List Value), u.oneCell' = true := by
        intro u hu
        simp only [List.mem_singleton] at hu
        subst hu
        rfl
      have hkl : kids.length ≤ 2000 := by omega
      have a3 : kids.length + 1 ≤ maxLen := by unfold maxLen; omega
      have a4 : (kids.length + 1) * 8 ≤ 140737488355328 := by omega
      have a5 : w.heap.size ≤ (w3.alloc (.cells #[.int .i64 (kid : Int)] 3)).heap.size := by simp; omega
      have a6 := World.news_of_block (show (w3.alloc (.cells #[.int .i64 (kid : Int)] 3)).heap[w3.heap.size]? = some (.cells ([Value.int .i64 (kid : Int)] : List Value).toArray 3 (0, 0)) from heap_alloc_new _ _)
      have A := hid (And.intro a1 (And.intro a2 (And.intro a3 (And.intro a4 (And.intro a5 (And.intro a6 row3))))))
      have H358 := hid (And.intro hb8 (And.intro hn8 (And.intro hk8 hne2)))
      clear a1 a2 a3 a4 a5 a6 row3 hb8 hn8 hk8 hne2 h1 h3 h4 h5 hk7a
      go_wp2_with ((at_builtin; refine wpList_append_lies _ rfl (.tmp 30) (.tmp 32) 78 rfl w.heap.size 3 ii (.int .i64 0) 1 8 Tryz.underlying78 hii hz0 hz1 hz2 rfl (by decide) (.slice sa kids.length sc) kids.length (ints' (ints kids)) rfl A.out.2.2.2.2.2.2 ⟨w3.heap.size, 0, none⟩ 1 1 [.int .i64 (kid : Int)] rfl A.out.1 A.out.2.2.2.2.2.1 A.out.2.1 (by decide) A.out.2.2.1 A.out.2.2.2.1 A.out.2.2.2.2.1 _ rfl ?_))
      intro g6 cap6 w7 hown7 hgrow7 hat7 hlt7
      obtain ⟨hb8, hn8, hk8, hne2⟩ := H358.out
      have hng := fun b (e : some b = Value.ownBlock (.slice sa kids.length sc)) => (A.out.2.2.2.2.2.2.lt b e.symm).1
      have Hb7 := hid ((hgrow7.block g (by simp; omega) (fun e => by have := hng _ e; omega)).trans hb8)
      have HK7 := hid (hk8.grownNew hgrow7 (fun b e => hng b e.symm))
      have HO7 := hid hown7
      have HN7 := hid (hn8.grow (Y := fun b => X b ∨ (Value.slice (some ⟨g6, 0, none⟩) (kids.length + 1) cap6).ownBlock = some b) hgrow7 (fun b e => Or.inr e) (fun b e => hne2 b e) (fun b hlt hy => by
        rcases hy with hy | hy
        · exact Or.inl hy
        · right
          simp only [Value.ownBlock, Option.some.injEq] at hy
          subst hy
          rcases hat7 with h | h
          · exact h
          · exfalso; simp at hlt h; omega))
      have HNE7 := hid (show ∀ b, (Value.slice (some ⟨g6, 0, none⟩) (kids.length + 1) cap6).ownBlock = some b → nv2.ownBlock ≠ some b from fun b e => by
        simp only [Value.ownBlock, Option.some.injEq] at e
        subst e
        rcases hat7 with h | h
        · exact hne2 _ h
        · intro e2
          have h9 := (hn8.lt _ e2).2
          simp at h h9
          omega)
      have HKL7 := hid (show ∀ k ∈ kids ++ [kid], k < ns2.length from fun q hq => by
        rcases List.mem_append.1 hq with hq | hq
        · have := HKL.out q hq; omega
        · rw [List.mem_singleton.1 hq]; exact hfw.2.2.1)
      clear hb8 hn8 hk8 hne2 hown7 hgrow7 hng
      go_wp2_with fail
      refine (CX2.out w7 k nv2 HK7.out Hb7.out (by omega)).mono ?_
      rintro e w9 ⟨rfl, hq9⟩
      go_wp2
      go_roundw
      case rel => exact ⟨k, rfl, ns2, nv2, kids ++ [kid], hq9.at Hb7.out, HN7.out.qt hq9, row_kp (r := none) (by rw [ints_ints, List.length_append]; exact HO7.out) hq9.kp hg (fun b _ => by simp), HNE7.out, hro7, HK7.out.trans hq9.kp hro7, by omega, hfw.2.1, by omega, HKL7.out, by rw [List.length_append]; show kids.length + 1 ≤ k; omega, f, by omega, HGO2.out⟩
      case measure =>
        rw [atOf_blk (show _ = some (Value.int .i64 ((k : Nat) : Int)) from (blk4 (hq9.at Hb7.out)).2.1), atOf_blk (blk4 HBR.out).2.1]
        omega
    · have HF := hid (show R = .er c p by rw [← HGO.out, h1])
      have H4 := hid h4
      have hc1 : ((c : Int) == 0) = false := by rw [beq_eq_false_iff_ne]; omega
      have hc2 : ¬ (c : Int) = 0 := by omega
      clear h1 h4
      go_wp2
      go_ret2
      exact ⟨Or.inr ⟨c, p, _, d', nv2, HF.out, rfl, h3, H4.out⟩, HKR.out.trans hk3 HRO.out⟩
theorem endAlt_many {kids : List Nat} {kid i : Nat} {ns : List RxNode} (h : ¬ kids.length = 0) : endAlt (kids ++ [kid]) i ns = putR ⟨8, 0, 0, false, [], ints (kids ++ [kid])⟩ i ns := by
  rcases kids with _ | ⟨k1, _ | ⟨k2, r⟩⟩
  · exact absurd rfl h
  · rfl
  · rfl
set_option maxHeartbeats 16000000 in
set_option maxRecDepth 100000 in
theorem implAlternatives {g cap d : Nat} {a : Option Addr} {l : List Nat} {grp : Nat → List RxNode → RR} (HP : NodeC 158 (rowP l grp) (l.length + 1) g cap d a l) (hfw : Fwd1 l grp) : NodeC 123 (altsP l grp) (l.length + 1) g cap d a l := by
  intro X w i nv ns hX hb hL hi hn hlen2
  have hlen := hL.len
  have hg : g < w.heap.size := (Array.getElem?_eq_some_iff.1 hb).1
  have CX2 := hid (fun (w' : World) (j : Nat) (nv' : Value) (hk : Kp g nv.ownBlock w w') (hb' : w'.heap[g]? = some (.cells #[.slice a l.length cap, .int .i64 ((j : Nat) : Int), .int .i64 ((d : Nat) : Int), nv'] 101 (0, 0))) (hj : j ≤ 1000) => implNext w' hb' (hL.kp hn hk hg) (by omega))
  have HLL := hid (fun (w' : World) (hk : Kp g nv.ownBlock w w') => hL.kp hn hk hg)
  obtain ⟨R, hR⟩ : ∃ r, altsP l grp i ns = r := ⟨_, rfl⟩
  rw [hR]
  have HR := hid hR
  have HN := hid hn
  have HB := hid hb
  have HX := hid hX
  have HP := hid HP
  have HFW := hid hfw
  have HL := hid hlen2
  obtain ⟨ii, hii, hz0, hz1, hz2⟩ := info_parts info_int
  clear hb hR hn hL hlen2 hfw hX
  unfold NodeE
  go_enter Tryz.func123, Tryz.ntmps123
  go_wp2
  go_loopw [4] (fun kv wr => ∃ j : Nat, SeqI X w wr g cap d a l nv i (altsGo l grp) R kv j) (fun _ wr => 2000 - atOf g wr)
  case atStart =>
    refine ⟨i, ns, nv, [], HB.out, (HN.out.mono (fun b h => ?_)), ⟨by simp [ints', ints], Or.inl ⟨rfl, rfl⟩⟩, ?_, RowOn.refl _ _, Kp.refl _ _ _, Nat.le_refl _, by omega, HL.out, by simp, by simp, l.length + 1 - i, by omega, HR.out⟩
    · rcases h with h | h
      · exact h
      · cases h
    · intro b h; cases h
  case round =>
    obtain ⟨j, nsj, nvj, kids, hbr, hns, hrow, hnk, hro, hkr, hij, hjl, hnl, hkl, hkj, f, hf, hgo⟩ := hrel
    obtain ⟨sa, sc, rfl⟩ := row_shape hrow
    obtain ⟨f, rfl⟩ : ∃ m, f = m + 1 := ⟨f - 1, by omega⟩
    rw [altsGo] at hgo
    have HGO := hid hgo
    have HBR := hid hbr
    have HNS := hid hns
    have HROW := hid hrow
    have HNK := hid hnk
    have HRO := hid hro
    have HKR := hid hkr
    have HKL := hid hkl
    have hgr : g < wr.heap.size := (Array.getElem?_eq_some_iff.1 hbr).1
    have hws := hkr.size
    clear hbr hns hrow hnk hro hkr hkl hgo
    go_wp2_with fail
    refine (HP.out (fun b => X b ∨ (Value.slice sa kids.length sc).ownBlock = some b) wr j nvj nsj (fun b h => h.elim (fun h => by have := HX.out b h; omega) (fun h => (HROW.out.lt b h).2)) HBR.out (HLL.out wr HKR.out) (by omega) HNS.out hnl).mono ?_
    rintro e w3 ⟨he, hk3⟩
    rcases he with ⟨kid, k, ns2, nv2, h1, rfl, h3, h4, h5⟩ | ⟨c, p, z, d', nv2, h1, rfl, h3, h4⟩
    · have hfw := rowP_in HFW.out (by omega) h1
      have HGO2 := hid (show (if gN l k = 124 then altsGo l grp f (k + 1) ns2 (kids ++ [kid]) else endAlt (kids ++ [kid]) k ns2) = R by rw [← HGO.out, h1])
      have hro7 := HRO.out.trans h5 hws
      have hk7a := HKR.out.trans hk3 HRO.out
      have hne2 : ∀ b, (Value.slice sa kids.length sc).ownBlock = some b → nv2.ownBlock ≠ some b := fun b hb => h5.ne (HROW.out.lt b hb).2 (HNK.out b hb)
      have row3 := (row_kp HROW.out hk3 (by omega) (fun b hb => HNK.out b hb)).alloc (.cells #[.int .i64 (kid : Int)] 3)
      have hb8 := ((ext_alloc w3 (.cells #[.int .i64 (kid : Int)] 3)).block g (by have := hk3.size; omega)).trans h3
      have hn8 := h4.kp ((Kp.refl g none w3).alloc (.cells #[.int .i64 (kid : Int)] 3))
      have hk8 := hk7a.alloc (.cells #[.int .i64 (kid : Int)] 3)
      have hs3 := hk3.size
      have a1 : ([Value.int .i64 (kid : Int)] : List Value).length = 1 * 1 := rfl
      have a2 : ∀ u ∈ ([Value.int .i64 (kid : Int)] : List Value), u.oneCell' = true := by
        intro u hu
        simp only [List.mem_singleton] at hu
        subst hu
        rfl
      have hkl : kids.length ≤ 2000 := by omega
      have a3 : kids.length + 1 ≤ maxLen := by unfold maxLen; omega
      have a4 : (kids.length + 1) * 8 ≤ 140737488355328 := by omega
      have a5 : w.heap.size ≤ (w3.alloc (.cells #[.int .i64 (kid : Int)] 3)).heap.size := by simp; omega
      have a6 := World.news_of_block (show (w3.alloc (.cells #[.int .i64 (kid : Int)] 3)).heap[w3.heap.size]? = some (.cells ([Value.int .i64 (kid : Int)] : List Value).toArray 3 (0, 0)) from heap_alloc_new _ _)
      have A := hid (And.intro a1 (And.intro a2 (And.intro a3 (And.intro a4 (And.intro a5 (And.intro a6 row3))))))
      have H358 := hid (And.intro hb8 (And.intro hn8 (And.intro hk8 hne2)))
      clear a1 a2 a3 a4 a5 a6 row3 hb8 hn8 hk8 hne2 h1 h3 h4 h5 hk7a
      go_wp2_with ((at_builtin; refine wpList_append_lies _ rfl (.tmp 15) (.tmp 17) 78 rfl w.heap.size 3 ii (.int .i64 0) 1 8 Tryz.underlying78 hii hz0 hz1 hz2 rfl (by decide) (.slice sa kids.length sc) kids.length (ints' (ints kids)) rfl A.out.2.2.2.2.2.2 ⟨w3.heap.size, 0, none⟩ 1 1 [.int .i64 (kid : Int)] rfl A.out.1 A.out.2.2.2.2.2.1 A.out.2.1 (by decide) A.out.2.2.1 A.out.2.2.2.1 A.out.2.2.2.2.1 _ rfl ?_))
      intro g6 cap6 w7 hown7 hgrow7 hat7 hlt7
      obtain ⟨hb8, hn8, hk8, hne2⟩ := H358.out
      have hng := fun b (e : some b = Value.ownBlock (.slice sa kids.length sc)) => (A.out.2.2.2.2.2.2.lt b e.symm).1
      have Hb7 := hid ((hgrow7.block g (by simp; omega) (fun e => by have := hng _ e; omega)).trans hb8)
      have HK7 := hid (hk8.grownNew hgrow7 (fun b e => hng b e.symm))
      have HO7 := hid hown7
      have HN7 := hid (hn8.grow (Y := fun b => X b ∨ (Value.slice (some ⟨g6, 0, none⟩) (kids.length + 1) cap6).ownBlock = some b) hgrow7 (fun b e => Or.inr e) (fun b e => hne2 b e) (fun b hlt hy => by
        rcases hy with hy | hy
        · exact Or.inl hy
        · right
          simp only [Value.ownBlock, Option.some.injEq] at hy
          subst hy
          rcases hat7 with h | h
          · exact h
          · exfalso; simp at hlt h; omega))
      have HNE7 := hid (show ∀ b, (Value.slice (some ⟨g6, 0, none⟩) (kids.length + 1) cap6).ownBlock = some b → nv2.ownBlock ≠ some b from fun b e => by
        simp only [Value.ownBlock, Option.some.injEq] at e
        subst e
        rcases hat7 with h | h
        · exact hne2 _ h
        · intro e2
          have h9 := (hn8.lt _ e2).2
          simp at h h9
          omega)
      have HKL7 := hid (show ∀ k ∈ kids ++ [kid], k < ns2.length from fun q hq => by
        rcases List.mem_append.1 hq with hq | hq
        · have := HKL.out q hq; omega
        · rw [List.mem_singleton.1 hq]; exact hfw.2.2.1)
      clear hb8 hn8 hk8 hne2 hown7 hgrow7 hng
      obtain ⟨u, hu⟩ : ∃ c, gN l k = c := ⟨_, rfl⟩
      have CXK := hid (CX2.out w7 k nv2 HK7.out Hb7.out (by omega))
      rw [hu] at CXK HGO2
      have HU := hid hu
      clear hu
      go_wp2_with fail
      refine CXK.out.mono ?_
      rintro e w9 ⟨rfl, hq9⟩
      by_cases h124 : u = 124
      · subst h124
        have hkl2 := gN_lt (l := l) (i := k) (by rw [HU.out]; decide)
        have HGO3 := hid (show altsGo l grp f (k + 1) ns2 (kids ++ [kid]) = R by rw [← HGO2.out, if_pos rfl])
        have hb9 := hq9.at Hb7.out
        obtain ⟨c0, c1, c2, c3, y0, y1, y2, y3, hl9⟩ := blk4 hb9
        have hw9 : IntKind.i64.wrap ((k : Int) + 1) = (k : Int) + 1 := IntWalk.i64_in _ (by omega)
        have hcast : ((k + 1 : Nat) : Int) = (k : Int) + 1 := by omega
        have HB10 := hid (blk4_set (o := 1) (.int .i64 ((k : Int) + 1)) hb9)
        clear hb9
        go_wp2
        go_roundw
        case rel => exact ⟨k + 1, ns2, nv2, kids ++ [kid], by rw [hcast]; exact HB10.out, (HN7.out.qt hq9).kp ((Kp.refl g none _).set 1 _), row_kp (r := none) (by rw [ints_ints, List.length_append]; exact HO7.out) ((hq9.kp).set 1 _) hg (fun b _ => by simp), HNE7.out, hro7, (HK7.out.trans hq9.kp hro7).set 1 _, by omega, by omega, by omega, HKL7.out, by rw [List.length_append]; show kids.length + 1 ≤ k + 1; omega, f, by omega, HGO3.out⟩
        case measure =>
          rw [atOf_blk (show _ = some (Value.int .i64 ((k + 1 : Nat) : Int)) by rw [hcast]; exact (blk4 HB10.out).2.1), atOf_blk (blk4 HBR.out).2.1]
          omega
      · have HGO3 := hid (show endAlt (kids ++ [kid]) k ns2 = R by rw [← HGO2.out, if_neg h124])
        have e124 : ((u : Int) == 124) = false := by rw [beq_eq_false_iff_ne]; omega
        have f124 : ¬ (u : Int) = 124 := by omega
        have n124 : ((u : Int) != 124) = true := by rw [bne_iff_ne]; omega
        have hkk := HK7.out.trans hq9.kp hro7
        have HK9 := hid hkk
        clear hkk
        by_cases hk0 : kids.length = 0
        · have hnil := List.length_eq_zero_iff.1 hk0
          have HF := hid (show endAlt [kid] k ns2 = R by rw [← HGO3.out, hnil]; rfl)
          have hcell : w9.cell? ⟨g6, 0, none⟩ = some (.int .i64 (kid : Int)) := by
            have h9 := row_kp (r := none) HO7.out hq9.kp hg (fun b _ => by simp)
            have hx := h9.cells (g := g6) rfl 0 (.int .i64 (kid : Int)) (by rw [hnil]; rfl)
            simpa [Addr.add_lit] using hx
          have q1 : (((kids.length : Int) + 1) == 1) = true := by rw [hk0]; rfl
          clear hnil
          go_wp2
          go_ret2
          exact ⟨Or.inl ⟨kid, k, ns2, nv2, HF.out.symm, rfl, hq9.at Hb7.out, (HN7.out.qt hq9).mono (fun b h => Or.inl h), hro7⟩, HK9.out⟩
        · have HF := hid (show putR ⟨8, 0, 0, false, [], ints (kids ++ [kid])⟩ k ns2 = R by rw [← HGO3.out, endAlt_many hk0])
          have q1 : (((kids.length : Int) + 1) == 1) = false := by rw [beq_eq_false_iff_ne]; omega
          have q3 : ¬ ((kids.length : Int) + 1) = 1 := by omega
          have q4 : ¬ (kids.length : Int) = 0 := by omega
          have h9 := row_kp (r := none) HO7.out hq9.kp hg (fun b _ => by simp)
          have hrk := rd_own_ints (S := Beside X g nv2.ownBlock w9) (xs := ints (kids ++ [kid])) (by rw [ints_ints, show (ints (kids ++ [kid])).length = kids.length + 1 by simp [ints]]; exact h9) (ints_pt HKL7.out (by omega)) (fun b hb h1 h2 => ⟨by omega, h2, HNE7.out b hb, fun h => by have := HX.out b h; omega⟩)
          have CADD := hid (implNodeAt (X := X) ⟨8, 0, 0, false, [], ints (kids ++ [kid])⟩ w9 (hq9.at Hb7.out) ((HN7.out.qt hq9).mono (fun b h => Or.inl h)) (by omega) (by dsimp only; omega) (by dsimp only; omega) (by dsimp only; omega) rd_noInts hrk)
          dsimp only at CADD
          clear h9 hrk
          go_wp2_with fail
          refine CADD.out.mono ?_
          rintro e w10 ⟨nv', rfl, h1, h2, h3, h4⟩
          have H1 := hid h1
          clear h1
          go_wp2
          go_ret2
          exact ⟨Or.inl ⟨_, _, _, nv', HF.out.symm, rfl, H1.out, h2, hro7.trans h3 HK9.out.size⟩, HK9.out.trans h4 hro7⟩
    · have HF := hid (show R = .er c p by rw [← HGO.out, h1])
      have H4 := hid h4
      have hc1 : ((c : Int) == 0) = false := by rw [beq_eq_false_iff_ne]; omega
      have hc2 : ¬ (c : Int) = 0 := by omega
      clear h1 h4
      go_wp2
      go_ret2
      exact ⟨Or.inr ⟨c, p, _, d', nv2, HF.out, rfl, h3, H4.out⟩, HKR.out.trans hk3 HRO.out⟩
end Go.Proofs.YtomcoilmpkpoeaaGreatDoor
