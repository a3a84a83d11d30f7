/-
  What is proved here: the reference's pattern reader: numbers, how often. No condition but that the reader and its list lie in memory.
-/
import Derived.Test.YtomcoilmpkpoeaaGreatDoorQRxS1
import Derived.Test.YtomcoilmpkpoeaaGreatDoorQA
namespace Go.Proofs.YtomcoilmpkpoeaaGreatDoor
open Go.RowKit
set_option linter.unusedVariables false
set_option linter.unusedSimpArgs false

def NumS (w' : World) (g cap d : Nat) (a : Option Addr) (l : List Nat) (nv : Value) (i : Nat) (e : Ending) : Prop :=
  (∃ n j, numAt l i = some (n, j) ∧ e = .returned (.tuple #[.int .i64 ((n : Nat) : Int), .bool true]) ∧ w'.heap[g]? = some (.cells #[.slice a l.length cap, .int .i64 ((j : Nat) : Int), .int .i64 ((0 : Nat) : Int), .int .i64 ((0 : Nat) : Int), .int .i64 ((d : Nat) : Int), nv] 87 (0, 0))) ∨ (∃ n j, numAt l i = none ∧ e = .returned (.tuple #[.int .i64 ((n : Nat) : Int), .bool false]) ∧ j ≤ 2000 ∧ w'.heap[g]? = some (.cells #[.slice a l.length cap, .int .i64 ((j : Nat) : Int), .int .i64 ((0 : Nat) : Int), .int .i64 ((0 : Nat) : Int), .int .i64 ((d : Nat) : Int), nv] 87 (0, 0)))
set_option maxHeartbeats 16000000 in
set_option maxRecDepth 100000 in
theorem specNumber {g cap i d : Nat} {a : Option Addr} {l : List Nat} {nv : Value} (w : World) (hb : w.heap[g]? = some (.cells #[.slice a l.length cap, .int .i64 ((i : Nat) : Int), .int .i64 ((0 : Nat) : Int), .int .i64 ((0 : Nat) : Int), .int .i64 ((d : Nat) : Int), nv] 87 (0, 0))) (hL : RxL w g a l) (hi : i ≤ 1200) :
    Calls Tryz.prog 203 #[.pointer (some ⟨g, 0, none⟩)] w fun e w' => NumS w' g cap d a l nv i e ∧ Kp g none w w' := by
  have hlen := hL.len
  have hg : g < w.heap.size := (Array.getElem?_eq_some_iff.1 hb).1
  have CP := hid (fun (w' : World) (j : Nat) (hk : Kp g none w w') (hb' : w'.heap[g]? = some (.cells #[.slice a l.length cap, .int .i64 ((j : Nat) : Int), .int .i64 ((0 : Nat) : Int), .int .i64 ((0 : Nat) : Int), .int .i64 ((d : Nat) : Int), nv] 87 (0, 0))) (hj : j ≤ 4000) => specPeek w' hb' (hL.below (hk.base hg)) hj)
  have HLL := hid (fun (w' : World) (hk : Kp g none w w') => hL.below (hk.base hg))
  obtain ⟨⟨c0, c1, c2, c3, c4, c5⟩, ⟨y1, y2, y3, y4, y5⟩, hl⟩ := blk6c hb
  have HB := hid hb
  have hpt := fun m => gN_le hL.pts m
  have HPT := hid hpt
  obtain ⟨D, hD⟩ : ∃ n, (runD l i).length = n := ⟨_, rfl⟩
  have HD := hid hD
  have hDl : D ≤ l.length - i := by rw [← hD]; exact runD_len l i
  clear hb hL hpt hD
  unfold NumS
  go_enter Tryz.func203, Tryz.ntmps203
  go_wp2
  go_loopw [5] (fun nv0 wr => ∃ m j n : Nat, i + m = j ∧ m ≤ D ∧ nv0 = .int .i64 (n : Int) ∧ n ≤ 609 ∧ (valNd ((runD l i).take m) ≤ 60 → n = valNd ((runD l i).take m)) ∧ (60 < valNd ((runD l i).take m) → 60 < n) ∧ wr.heap[g]? = some (.cells #[.slice a l.length cap, .int .i64 ((j : Nat) : Int), .int .i64 ((0 : Nat) : Int), .int .i64 ((0 : Nat) : Int), .int .i64 ((d : Nat) : Int), nv] 87 (0, 0)) ∧ Kp g none w wr) (fun _ wr => 4000 - atOf g wr)
  case atStart => exact ⟨0, i, 0, rfl, Nat.zero_le _, rfl, by omega, fun _ => rfl, fun h => by simp [valNd] at h, HB.out, Kp.refl _ _ _⟩
  case round =>
    obtain ⟨m, j, n, hmj, hmD, rfl, hn, hv1, hv2, hbr, hkr⟩ := hrel
    have CPJ := hid (fun (w' : World) (hq : Qt wr w') => CP.out w' j (hkr.trans hq.kp (RowOn.refl _ _)) (hq.at hbr) (by omega))
    have HBR := hid hbr
    have HKR := hid hkr
    have HV1 := hid hv1
    have HV2 := hid hv2
    have hcle := HPT.out j
    clear hbr hkr hv1 hv2
    by_cases hgo : m < D
    · obtain ⟨e1, d1⟩ := run_take l i m (by rw [HD.out]; exact hgo)
      rw [digN_iff, hmj] at d1
      have HV := hid (show valNd ((runD l i).take (m + 1)) = 10 * valNd ((runD l i).take m) + (gN l j - 48) by rw [e1, valNd_snoc, hmj])
      obtain ⟨c, hc⟩ : ∃ c, gN l j = c := ⟨_, rfl⟩
      rw [hc] at CPJ d1 HV hcle
      have d11 : (48 : Int) ≤ (c : Int) := by omega
      have d12 : (c : Int) ≤ 57 := by omega
      clear e1 hc
      go_wp2_with fail
      refine (CPJ.out _ (Qt.refl _)).mono ?_
      rintro e w1 ⟨rfl, hq1⟩
      go_wp2_with fail
      refine (CPJ.out _ hq1).mono ?_
      rintro e w2 ⟨rfl, hq2⟩
      have hq := hq1.trans hq2
      by_cases h60 : n ≤ 60
      · have h60i : (n : Int) ≤ 60 := by omega
        have hw1 : IntKind.i64.wrap (10 * (n : Int)) = 10 * (n : Int) := IntWalk.i64_in _ (by omega)
        have hw2 : IntKind.i64.wrap (10 * (n : Int) + (c : Int)) = 10 * (n : Int) + (c : Int) := IntWalk.i64_in _ (by omega)
        have hw3 : IntKind.i64.wrap (10 * (n : Int) + (c : Int) - 48) = 10 * (n : Int) + (c : Int) - 48 := IntWalk.i64_in _ (by omega)
        go_wp2_with fail
        refine (CPJ.out _ hq).mono ?_
        rintro e w3 ⟨rfl, hq3⟩
        have hqq := hq.trans hq3
        have hb9 := hqq.at HBR.out
        obtain ⟨⟨c0, c1, c2, c3, c4, c5⟩, ⟨y1, y2, y3, y4, y5⟩, hl9⟩ := blk6c hb9
        have hwj : IntKind.i64.wrap ((j : Int) + 1) = (j : Int) + 1 := IntWalk.i64_in _ (by omega)
        have hcj : ((j + 1 : Nat) : Int) = (j : Int) + 1 := by omega
        have HB9 := hid (blk6_set (o := 1) (.int .i64 ((j : Int) + 1)) hb9)
        clear hb9
        go_wp2
        go_roundw
        case rel =>
          refine ⟨m + 1, j + 1, 10 * n + (c - 48), by omega, by omega, congrArg (Value.int .i64) (by omega), by omega, fun h => ?_, fun h => ?_, by rw [hcj]; exact HB9.out, (HKR.out.trans hqq.kp (RowOn.refl _ _)).set 1 _⟩
          · rw [HV.out] at h ⊢
            rw [HV1.out (by omega)]
          · rw [HV.out] at h
            rcases Nat.lt_or_ge 60 (valNd ((runD l i).take m)) with h9 | h9
            · have := HV2.out h9; omega
            · rw [HV1.out h9]; exact h
        case measure =>
          rw [atOf_blk (show _ = some (Value.int .i64 ((j + 1 : Nat) : Int)) by rw [hcj]; exact (blk6c HB9.out).1.2.1), atOf_blk (blk6c HBR.out).1.2.1]
          omega
      · have h60i : ¬ (n : Int) ≤ 60 := by omega
        have hqq := hq
        have hb9 := hqq.at HBR.out
        obtain ⟨⟨c0, c1, c2, c3, c4, c5⟩, ⟨y1, y2, y3, y4, y5⟩, hl9⟩ := blk6c hb9
        have hwj : IntKind.i64.wrap ((j : Int) + 1) = (j : Int) + 1 := IntWalk.i64_in _ (by omega)
        have hcj : ((j + 1 : Nat) : Int) = (j : Int) + 1 := by omega
        have HB9 := hid (blk6_set (o := 1) (.int .i64 ((j : Int) + 1)) hb9)
        clear hb9
        go_wp2
        go_roundw
        case rel =>
          refine ⟨m + 1, j + 1, n, by omega, by omega, rfl, by omega, fun h => ?_, fun h => by omega, by rw [hcj]; exact HB9.out, (HKR.out.trans hqq.kp (RowOn.refl _ _)).set 1 _⟩
          rw [HV.out] at h
          have := HV1.out (by omega)
          omega
        case measure =>
          rw [atOf_blk (show _ = some (Value.int .i64 ((j + 1 : Nat) : Int)) by rw [hcj]; exact (blk6c HB9.out).1.2.1), atOf_blk (blk6c HBR.out).1.2.1]
          omega
    · obtain rfl : m = D := by omega
      have hstop : digN (gN l j) = false := by
        have := run_stop l i
        rw [HD.out, hmj] at this
        exact this
      have hns : ¬ (48 ≤ gN l j ∧ gN l j ≤ 57) := by rw [← digN_iff, hstop]; decide
      obtain ⟨c, hc⟩ : ∃ c, gN l j = c := ⟨_, rfl⟩
      rw [hc] at CPJ hns hcle
      have HTK := hid (show (runD l i).take m = runD l i from List.take_of_length_le (by rw [HD.out]; exact Nat.le_refl _))
      have HV1' := hid (fun h : valNd (runD l i) ≤ 60 => show n = valNd (runD l i) by rw [← HTK.out]; exact HV1.out (by rw [HTK.out]; exact h))
      have HV2' := hid (fun h : 60 < valNd (runD l i) => HV2.out (by rw [HTK.out]; exact h))
      have HNA := hid (show numAt l i = (if m = 0 ∨ 60 < valNd (runD l i) ∨ (gN l i = 48 ∧ 1 < m) then none else some (valNd (runD l i), j)) by unfold numAt; rw [HD.out, hmj])
      clear hstop hc
      by_cases h48 : 48 ≤ c
      · have d11 : (48 : Int) ≤ (c : Int) := by omega
        have d12 : ¬ (c : Int) ≤ 57 := by omega
        go_wp2_with fail
        refine (CPJ.out _ (Qt.refl _)).mono ?_
        rintro e w1 ⟨rfl, hq1⟩
        go_wp2_with fail
        refine (CPJ.out _ hq1).mono ?_
        rintro e w2 ⟨rfl, hq2⟩
        have hq := hq1.trans hq2
        have hb9 := hq.at HBR.out
        obtain ⟨⟨c0, c1, c2, c3, c4, c5⟩, ⟨y1, y2, y3, y4, y5⟩, hl9⟩ := blk6c hb9
        have HB9 := hid hb9
        have hk9 := HKR.out.trans hq.kp (RowOn.refl _ _)
        have HK9 := hid hk9
        have hRL := HLL.out _ hk9
        clear hb9 hk9
        by_cases hD0 : m = 0
        · have hji : ¬ (i : Int) < (j : Int) := by omega
          have hjn : ¬ i < j := by omega
          have hjd : decide ((i : Int) < (j : Int)) = false := decide_eq_false hji
          have HF := hid (show numAt l i = none by rw [HNA.out, if_pos (Or.inl hD0)])
          clear hRL hD0
          go_wp2_with fail
          go_quiet (fail)
          go_wp2
          go_ret2
          exact ⟨Or.inr ⟨n, j, HF.out, rfl, by omega, HB9.out⟩, HK9.out.drewN _⟩
        have hji : (i : Int) < (j : Int) := by omega
        have hjd : decide ((i : Int) < (j : Int)) = true := decide_eq_true hji
        by_cases h60 : n ≤ 60
        · have h60i : (n : Int) ≤ 60 := by omega
          have h60d : decide ((n : Int) ≤ 60) = true := decide_eq_true h60i
          have hv60 : valNd (runD l i) ≤ 60 := Nat.le_of_not_lt (fun h => by have := HV2'.out h; omega)
          have hil : i < l.length := by omega
          obtain ⟨lb, lo, rfl, hlb, hcl⟩ := hRL.cel (by omega)
          have hcell := hcl i hil
          have HGI := hid (gN_at (l := l) hil)
          obtain ⟨z, hz⟩ : ∃ z, l[i] = z := ⟨_, rfl⟩
          rw [hz] at hcell HGI
          have hi0 : (0 : Int) ≤ (i : Int) := by omega
          have hil2 : (i : Int) < (l.length : Int) := by omega
          have hwi : IntKind.i64.wrap ((i : Int) + 1) = (i : Int) + 1 := IntWalk.i64_in _ (by omega)
          clear hRL hcl hz
          by_cases hz48 : z = 48
          · subst hz48
            by_cases hm1 : 1 < m
            · have hjm : (i : Int) + 1 < (j : Int) := by omega
              have hjmd : decide ((i : Int) + 1 < (j : Int)) = true := decide_eq_true hjm
              have HF := hid (show numAt l i = none by rw [HNA.out, if_pos (Or.inr (Or.inr ⟨HGI.out, hm1⟩))])
              go_wp2_with fail
              go_quiet (fail)
              go_wp2
              go_ret2
              exact ⟨Or.inr ⟨n, j, HF.out, rfl, by omega, HB9.out⟩, HK9.out.drewN _⟩
            · have hjm : ¬ (i : Int) + 1 < (j : Int) := by omega
              have hjmd : decide ((i : Int) + 1 < (j : Int)) = false := decide_eq_false hjm
              have HF := hid (show numAt l i = some (n, j) by rw [HNA.out, if_neg (by omega), HV1'.out hv60])
              go_wp2_with fail
              go_quiet (fail)
              go_wp2
              go_ret2
              exact ⟨Or.inl ⟨n, j, HF.out, rfl, HB9.out⟩, HK9.out.drewN _⟩
          · have z48 : ((z : Int) == 48) = false := by rw [beq_eq_false_iff_ne]; omega
            have HF := hid (show numAt l i = some (n, j) by rw [HNA.out, HGI.out, if_neg (by omega), HV1'.out hv60])
            go_wp2_with fail
            go_quiet (fail)
            go_wp2
            go_ret2
            exact ⟨Or.inl ⟨n, j, HF.out, rfl, HB9.out⟩, HK9.out.drewN _⟩
        · have h60i : ¬ (n : Int) ≤ 60 := by omega
          have h60d : decide ((n : Int) ≤ 60) = false := decide_eq_false h60i
          have HF := hid (show numAt l i = none by rw [HNA.out, if_pos (Or.inr (Or.inl (Nat.lt_of_not_le (fun h => by have := HV1'.out h; omega))))])
          clear hRL
          go_wp2_with fail
          go_quiet (fail)
          go_wp2
          go_ret2
          exact ⟨Or.inr ⟨n, j, HF.out, rfl, by omega, HB9.out⟩, HK9.out.drewN _⟩
      · have d11 : ¬ (48 : Int) ≤ (c : Int) := by omega
        go_wp2_with fail
        refine (CPJ.out _ (Qt.refl _)).mono ?_
        rintro e w2 ⟨rfl, hq⟩
        have hb9 := hq.at HBR.out
        obtain ⟨⟨c0, c1, c2, c3, c4, c5⟩, ⟨y1, y2, y3, y4, y5⟩, hl9⟩ := blk6c hb9
        have HB9 := hid hb9
        have hk9 := HKR.out.trans hq.kp (RowOn.refl _ _)
        have HK9 := hid hk9
        have hRL := HLL.out _ hk9
        clear hb9 hk9
        by_cases hD0 : m = 0
        · have hji : ¬ (i : Int) < (j : Int) := by omega
          have hjn : ¬ i < j := by omega
          have hjd : decide ((i : Int) < (j : Int)) = false := decide_eq_false hji
          have HF := hid (show numAt l i = none by rw [HNA.out, if_pos (Or.inl hD0)])
          clear hRL hD0
          go_wp2_with fail
          go_quiet (fail)
          go_wp2
          go_ret2
          exact ⟨Or.inr ⟨n, j, HF.out, rfl, by omega, HB9.out⟩, HK9.out.drewN _⟩
        have hji : (i : Int) < (j : Int) := by omega
        have hjd : decide ((i : Int) < (j : Int)) = true := decide_eq_true hji
        by_cases h60 : n ≤ 60
        · have h60i : (n : Int) ≤ 60 := by omega
          have h60d : decide ((n : Int) ≤ 60) = true := decide_eq_true h60i
          have hv60 : valNd (runD l i) ≤ 60 := Nat.le_of_not_lt (fun h => by have := HV2'.out h; omega)
          have hil : i < l.length := by omega
          obtain ⟨lb, lo, rfl, hlb, hcl⟩ := hRL.cel (by omega)
          have hcell := hcl i hil
          have HGI := hid (gN_at (l := l) hil)
          obtain ⟨z, hz⟩ : ∃ z, l[i] = z := ⟨_, rfl⟩
          rw [hz] at hcell HGI
          have hi0 : (0 : Int) ≤ (i : Int) := by omega
          have hil2 : (i : Int) < (l.length : Int) := by omega
          have hwi : IntKind.i64.wrap ((i : Int) + 1) = (i : Int) + 1 := IntWalk.i64_in _ (by omega)
          clear hRL hcl hz
          by_cases hz48 : z = 48
          · subst hz48
            by_cases hm1 : 1 < m
            · have hjm : (i : Int) + 1 < (j : Int) := by omega
              have hjmd : decide ((i : Int) + 1 < (j : Int)) = true := decide_eq_true hjm
              have HF := hid (show numAt l i = none by rw [HNA.out, if_pos (Or.inr (Or.inr ⟨HGI.out, hm1⟩))])
              go_wp2_with fail
              go_quiet (fail)
              go_wp2
              go_ret2
              exact ⟨Or.inr ⟨n, j, HF.out, rfl, by omega, HB9.out⟩, HK9.out.drewN _⟩
            · have hjm : ¬ (i : Int) + 1 < (j : Int) := by omega
              have hjmd : decide ((i : Int) + 1 < (j : Int)) = false := decide_eq_false hjm
              have HF := hid (show numAt l i = some (n, j) by rw [HNA.out, if_neg (by omega), HV1'.out hv60])
              go_wp2_with fail
              go_quiet (fail)
              go_wp2
              go_ret2
              exact ⟨Or.inl ⟨n, j, HF.out, rfl, HB9.out⟩, HK9.out.drewN _⟩
          · have z48 : ((z : Int) == 48) = false := by rw [beq_eq_false_iff_ne]; omega
            have HF := hid (show numAt l i = some (n, j) by rw [HNA.out, HGI.out, if_neg (by omega), HV1'.out hv60])
            go_wp2_with fail
            go_quiet (fail)
            go_wp2
            go_ret2
            exact ⟨Or.inl ⟨n, j, HF.out, rfl, HB9.out⟩, HK9.out.drewN _⟩
        · have h60i : ¬ (n : Int) ≤ 60 := by omega
          have h60d : decide ((n : Int) ≤ 60) = false := decide_eq_false h60i
          have HF := hid (show numAt l i = none by rw [HNA.out, if_pos (Or.inr (Or.inl (Nat.lt_of_not_le (fun h => by have := HV1'.out h; omega))))])
          clear hRL
          go_wp2_with fail
          go_quiet (fail)
          go_wp2
          go_ret2
          exact ⟨Or.inr ⟨n, j, HF.out, rfl, by omega, HB9.out⟩, HK9.out.drewN _⟩
end Go.Proofs.YtomcoilmpkpoeaaGreatDoor
