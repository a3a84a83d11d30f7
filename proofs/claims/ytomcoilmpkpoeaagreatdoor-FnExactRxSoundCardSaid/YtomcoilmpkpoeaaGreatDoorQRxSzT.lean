/-
  What is proved here: the size of a pattern in the reference. No condition but that the nodes lie in memory, and sizes.
-/
import Derived.Test.YtomcoilmpkpoeaaGreatDoorQRxSzS
namespace Go.Proofs.YtomcoilmpkpoeaaGreatDoor
open Go.RowKit
set_option linter.unusedVariables false
set_option linter.unusedSimpArgs false

theorem max2 (lo hi : Int) : (if (if 1 < lo then lo else 1) < hi then hi else if 1 < lo then lo else 1) = (((max 1 (max lo hi)).toNat : Nat) : Int) := by
  split <;> split <;> omega
theorem often_ge (N : RxNode) : 1 ≤ often N := by
  unfold often
  split
  · omega
  · exact Nat.le_refl _
/-- the sum under way stands for the true one -/
def sumOk (sum t : Nat) : Prop := sum ≤ 200000 ∧ (sum = t ∨ (100000 ≤ sum ∧ 100000 ≤ t))
theorem sumOk_big {sum t c z : Nat} (h : sumOk sum t) (hz : 1 ≤ z) (hc : ¬ c ≤ 100000 / z) : sumOk 100000 (t + c * z) := by
  have := capS_big (t := t) hz hc
  exact ⟨by omega, Or.inr ⟨Nat.le_refl _, this⟩⟩
theorem sumOk_small {sum t c z : Nat} (h : sumOk sum t) (hs : sum < 100000) (hz : 1 ≤ z) (hc : c ≤ 100000 / z) : sumOk (sum + c * z) (t + c * z) := by
  have h1 := capS_small hz hc
  rcases h.2 with h2 | h2
  · subst h2
    exact ⟨by omega, Or.inl rfl⟩
  · omega
theorem sumK_le (N : RxNode) (S : List Nat) (j : Nat) : sumK N S j ≤ sumK N S N.kids.length := by
  rw [sumK_all]
  unfold sumK
  conv => rhs; rw [← List.take_append_drop j N.kids]
  rw [List.map_append, List.sum_append]
  omega
theorem sumOk_end {sum c S1 S2 : Nat} (h : sumOk sum (1 + c * S1)) (hs : S1 = S2 ∨ (100000 ≤ sum ∧ S1 ≤ S2)) : min sum 100000 = min 100000 (1 + c * S2) := by
  rcases hs with rfl | ⟨h1, h2⟩
  · rcases h.2 with h3 | h3 <;> omega
  · have h3 : 1 + c * S1 ≤ 1 + c * S2 := by have := Nat.mul_le_mul_left c h2; omega
    rcases h.2 with h4 | h4 <;> omega
theorem min_if (s : Nat) : (if (100000 : Int) < (s : Int) then (100000 : Int) else (s : Int)) = ((min s 100000 : Nat) : Int) := by split <;> omega
theorem min_if2 (s : Nat) : (if (s : Int) < (100000 : Int) then (s : Int) else (100000 : Int)) = ((min s 100000 : Nat) : Int) := by split <;> omega
set_option maxHeartbeats 16000000 in
set_option maxRecDepth 100000 in
theorem specRxSize {v : Value} {ns : List RxNode} (w : World) (h : Rd.rd (Old w) w [v] ns) (hn : ns.length ≤ 2000000) :
    Calls Tryz.prog 70 #[.agg #[v]] w fun e w' => e = .returned (.int .i64 ((sizeOf' ns : Nat) : Int)) ∧ Below w.heap.size w w' := by
  obtain ⟨a, cap, rfl, h1, h2, hc⟩ := rdNodes h
  have CT := hid (specTree (w.alloc (.cells #[.slice a ns.length cap] 29)) (Rd.later (ext_alloc w _) h) hn)
  obtain ⟨n, hnn⟩ : ∃ n, ns.length = n := ⟨_, rfl⟩
  have HNN := hid hnn
  have HC := hid hc
  have HBX := hid (show (w.alloc (.cells #[.slice a ns.length cap] 29)).cell? ⟨w.heap.size, 0, none⟩ = some (.slice a ns.length cap) from cell_of_row _ _ 0 _ _ _ (heap_alloc_new w _))
  rw [hnn] at hn h1 CT HBX ⊢
  clear hc h
  have hmk := run_make_row' (P := Tryz.prog) 78 3 _ 8 Tryz.underlying78 info_int rfl .i64 .i64 n (by omega) (by omega)
  have HMK := hid hmk
  clear hnn hmk
  go_enter Tryz.func70, Tryz.ntmps70
  go_wp2_with fail
  refine CT.out.mono ?_
  rintro e w1 ⟨rfl, hb1⟩
  have hB1 := (ext_alloc w (.cells #[.slice a n cap] 29)).trans (hb1.mono (ext_alloc w _).size)
  cases ht : treeB (kidsOf ns) with
  | false =>
    have HF := hid (show sizeOf' ns = 0 by unfold sizeOf'; rw [ht, if_neg (by decide)])
    clear ht
    go_wp2
    go_ret
    exact ⟨by rw [HF.out]; rfl, hB1⟩
  | true =>
    have HT := hid (treeB_iff.1 ht)
    have HF := hid (show sizeOf' ns = (sizesL ns).getLastD 0 by unfold sizeOf'; rw [ht, if_pos rfl])
    clear ht
    have hcb : w1.cell? ⟨w.heap.size, 0, none⟩ = some (.slice a n cap) := (hb1.cell (p := ⟨w.heap.size, 0, none⟩) (by simp)).trans HBX.out
    have HCB := hid hcb
    have hmk := HMK.out
    have hn0 : 0 < n := by have := HT.out.1; simp [kidsOf] at this; rw [← HNN.out]; exact this
    have HB1 := hid hB1
    have hs1 := hB1.size
    have hws : w.heap.size < w1.heap.size := by have := hb1.size; simp at this; omega
    have hwn : ¬ w.heap.size = w1.heap.size := by omega
    clear hB1 hb1
    go_wp2
    clear hmk hcb
    go_loopw [4] (fun iv wr => ∃ i : Nat, i ≤ n ∧ iv = .int .i64 (i : Int) ∧ wr.heap[w1.heap.size]? = some (.cells (szRow n (sizesL (ns.take i))).toArray 3 (0, 0)) ∧ Below w1.heap.size w1 wr) (fun iv _ => n - (intOf iv).toNat)
    case atStart => exact ⟨0, Nat.zero_le _, rfl, by rw [List.take_zero]; show _ = some (Obj.cells (szRow n []).toArray _ _); rw [szRow_nil]; exact made_ints _ _ _, ext_alloc _ _⟩
    case round =>
      obtain ⟨i, hi, rfl, hg, hb⟩ := hrel
      have hcb : wr.cell? ⟨w.heap.size, 0, none⟩ = some (.slice a n cap) := (hb.cell (p := ⟨w.heap.size, 0, none⟩) hws).trans HCB.out
      by_cases hlt : i < n
      · have hik : i < ns.length := by rw [HNN.out]; exact hlt
        obtain ⟨b, off, rfl, hB, hcell⟩ := HC.out (by omega)
        obtain ⟨us, uk, ⟨d0, d1, d2, d3, d4, d5⟩, ⟨b0, b1, b2⟩, hrs, hrk⟩ := hcell i hik
        obtain ⟨sa, sc, rfl, _⟩ := rdInts hrs
        obtain ⟨ka, kc, rfl, hk1, hk2, hkc⟩ := rdInts hrk
        have hwr : Below w.heap.size w wr := HB1.out.trans (hb.mono hs1)
        have hbc := fun o => hwr.cell (p := ⟨b, o, none⟩) hB
        have e0 := (hbc _).trans d0
        have e1 := (hbc _).trans d1
        have e2 := (hbc _).trans d2
        have e3 := (hbc _).trans d3
        have e4 := (hbc _).trans d4
        have e5 := (hbc _).trans d5
        have hlti : (i : Int) < (n : Int) := by omega
        have hi0 : (0 : Int) ≤ (i : Int) := by omega
        have hsz : w1.heap.size < wr.heap.size := (Array.getElem?_eq_some_iff.1 hg).1
        have hsl : (sizesL (ns.take i)).length = i := by rw [sizesL_len, List.length_take]; omega
        obtain ⟨S, hS⟩ : ∃ S, sizesL (ns.take i) = S := ⟨_, rfl⟩
        have hSin : ∀ m, m < i → 1 ≤ S.getD m 0 ∧ S.getD m 0 ≤ 100000 := fun m hm => by rw [← hS]; exact sizesL_getD _ (by rw [List.length_take]; omega)
        rw [hS] at hg hsl
        obtain ⟨N, hN⟩ : ∃ N, ns[i] = N := ⟨_, rfl⟩
        have HTK := hid (fun j (hj : j < ns[i].kids.length) => tree_kid HT.out hik hj)
        rw [hN] at e0 e1 e2 e3 e4 e5 b0 b1 b2 hkc HTK
        rw [hN] at hk1
        obtain ⟨kl, hkl⟩ : ∃ k, N.kids.length = k := ⟨_, rfl⟩
        rw [hkl] at e5 hk1
        have HKL := hid hkl
        have HN := hid hN
        have HS := hid hS
        have HSL := hid hsl
        have HSI := hid hSin
        have HG := hid hg
        have HBL := hid hb
        have HKC := hid hkc
        obtain ⟨c, hcc⟩ : ∃ c, often N = c := ⟨_, rfl⟩
        have hcge : 1 ≤ c := by rw [← hcc]; exact often_ge N
        have HCC := hid hcc
        obtain ⟨wo, hwo⟩ : ∃ wo : World, wo = wr := ⟨_, rfl⟩
        rw [← hwo] at e0 e1 e2 e3 e4 e5 HG HBL hsz hwr hcb ⊢
        have HWR := hid hwr
        have HE5 := hid e5
        have HNEW := hid (show sizesL (ns.take (i + 1)) = S ++ [szAt N S] by rw [sizesL_take ns i hik, HS.out, HN.out])
        have HSET := hid (fun x : Nat => show (wo.setCell ⟨w1.heap.size, i, none⟩ (.int .i64 (x : Int))).heap[w1.heap.size]? = some (.cells (szRow n (S ++ [x])).toArray 3 (0, 0)) by
          have h9 := szRow_set (n := n) (S := S) x (by rw [HSL.out]; exact hlt)
          rw [HSL.out] at h9
          rw [← h9]
          exact set_row HG.out)
        clear hcell hbc d0 d1 d2 d3 d4 d5 hg hb hrs hrk hkc hkl hN hS hsl hSin hwo wr hwr hcc
        by_cases h9 : N.kind = 9
        · rw [h9] at e0
          obtain ⟨lo, hlo⟩ : ∃ x, N.lo = x := ⟨_, rfl⟩
          obtain ⟨hi9, hhi⟩ : ∃ x, N.hi = x := ⟨_, rfl⟩
          have HOF := hid (show c = (max 1 (max lo hi9)).toNat by rw [← HCC.out]; unfold often; rw [if_pos h9, hlo, hhi])
          rw [hlo] at e1
          rw [hhi] at e2
          by_cases hA : 1 < lo
          · by_cases hB : lo < hi9
            · obtain rfl : hi9 = (c : Int) := by have := HOF.out; omega
              go_wp2
              go_loopw [7, 8] (fun sv jv wr => ∃ j sum : Nat, j ≤ kl ∧ jv = .int .i64 (j : Int) ∧ sv = .int .i64 (sum : Int) ∧ sumOk sum (1 + c * sumK N S j) ∧ wr = wo.alloc (.cells #[.int .i64 9, .int .i64 lo, .int .i64 (c : Int), .bool N.neg, .slice sa N.set.length sc, .slice ka kl kc] 82)) (fun _ jv _ => kl - (intOf jv).toNat)
              case atStart => exact ⟨0, 1, Nat.zero_le _, rfl, rfl, by rw [sumK_zero]; exact ⟨by omega, Or.inl (by omega)⟩, rfl⟩
              case round =>
                obtain ⟨j, sum, hj, rfl, rfl, hok, rfl⟩ := hrel
                have HOK := hid hok
                have hs2 := hok.1
                have hnk : (wo.alloc (.cells #[.int .i64 9, .int .i64 lo, .int .i64 (c : Int), .bool N.neg, .slice sa N.set.length sc, .slice ka kl kc] 82)).cell? ⟨wo.heap.size, 5, none⟩ = some (.slice ka kl kc) := cell_of_row _ _ 5 _ _ _ (heap_alloc_new wo _)
                clear hok
                by_cases hgo : j < kl ∧ sum < 100000
                · obtain ⟨hltj, hsl⟩ := hgo
                  have hjk : j < N.kids.length := by rw [HKL.out]; exact hltj
                  obtain ⟨b', off', rfl, hB', hcell'⟩ := HKC.out (by omega)
                  obtain ⟨hcj, _, _⟩ := hcell' j hjk
                  have htk := HTK.out j hjk
                  have hst := sumK_step N S j hjk
                  obtain ⟨x, hx⟩ : ∃ x, N.kids[j] = x := ⟨_, rfl⟩
                  rw [hx] at hcj htk hst
                  obtain ⟨m, rfl⟩ : ∃ m : Nat, x = (m : Int) := ⟨x.toNat, by omega⟩
                  have hmi : m < i := by omega
                  have hcw : wo.cell? ⟨b', off' + j, none⟩ = some (.int .i64 (m : Int)) := (HWR.out.cell (p := ⟨b', off' + j, none⟩) hB').trans hcj
                  have hbs : b' < wo.heap.size := Nat.lt_of_lt_of_le hB' HWR.out.size
                  have hcw2 : (wo.alloc (.cells #[.int .i64 9, .int .i64 lo, .int .i64 (c : Int), .bool N.neg, .slice sa N.set.length sc, .slice (some ⟨b', off', none⟩) kl kc] 82)).cell? ⟨b', off' + j, none⟩ = some (.int .i64 (m : Int)) := ((ext_alloc wo _).cell (p := ⟨b', off' + j, none⟩) hbs).trans hcw
                  have hszc := cell_row HG.out (szRow_get (m := m) (by rw [HSL.out]; exact hmi))
                  obtain ⟨z, hz⟩ : ∃ z, S.getD m 0 = z := ⟨_, rfl⟩
                  have hzb := HSI.out m hmi
                  rw [Int.toNat_natCast, hz] at hst
                  rw [hz] at hszc hzb
                  have hszc2 : (wo.alloc (.cells #[.int .i64 9, .int .i64 lo, .int .i64 (c : Int), .bool N.neg, .slice sa N.set.length sc, .slice (some ⟨b', off', none⟩) kl kc] 82)).cell? ⟨w1.heap.size, m, none⟩ = some (.int .i64 (z : Int)) := ((ext_alloc wo _).cell (p := ⟨w1.heap.size, m, none⟩) hsz).trans hszc
                  have hm0 : (0 : Int) ≤ (m : Int) := by omega
                  have hm1 : (m : Int) < (n : Int) := by omega
                  have hj0 : (0 : Int) ≤ (j : Int) := by omega
                  have hltji : (j : Int) < (kl : Int) := by omega
                  have hsli : (sum : Int) < 100000 := by omega
                  have hz1 : (1 : Int) ≤ (z : Int) := by omega
                  have hzn : 1 ≤ z := hzb.1
                  have hz2 : ((z : Int) == 0) = false := by rw [beq_eq_false_iff_ne]; omega
                  have hz3 : ¬ (z : Int) = 0 := by omega
                  have hz4 : ¬ z = 0 := by omega
                  obtain ⟨D, hD⟩ : ∃ D, 100000 / z = D := ⟨_, rfl⟩
                  have hDi : (100000 : Int) / (z : Int) = (D : Int) := by rw [← hD]; exact (Int.natCast_ediv 100000 z).symm
                  have hDt : (100000 : Int).tdiv (z : Int) = (D : Int) := by rw [Int.tdiv_eq_ediv_of_nonneg (by decide)]; exact hDi
                  have hDl : D ≤ 100000 := by rw [← hD]; exact Nat.div_le_self _ _
                  have hDw : IntKind.i64.wrap (D : Int) = (D : Int) := IntWalk.i64_in _ (by omega)
                  have hwj : IntKind.i64.wrap ((j : Int) + 1) = (j : Int) + 1 := IntWalk.i64_in _ (by omega)
                  have HST := hid (show 1 + c * sumK N S (j + 1) = (1 + c * sumK N S j) + c * z by rw [hst, Nat.mul_add]; omega)
                  have HD := hid hD
                  clear hcell' hcj hx hcw hszc hz hst hD
                  by_cases hbig : c ≤ D
                  · have hbi : ¬ (D : Int) < (c : Int) := by omega
                    have hbn : ¬ D < c := by omega
                    have hcz := capS_small (c := c) (z := z) hzn (by rw [HD.out]; exact hbig)
                    have hmw : IntKind.i64.wrap ((c : Int) * (z : Int)) = ((c * z : Nat) : Int) := by
                      rw [← Int.natCast_mul]
                      exact IntWalk.i64_in _ (by omega)
                    obtain ⟨pz, hpz⟩ : ∃ p, c * z = p := ⟨_, rfl⟩
                    have HPZ := hid hpz
                    rw [hpz] at hmw hcz
                    have hsw : IntKind.i64.wrap ((sum : Int) + (pz : Int)) = (sum : Int) + (pz : Int) := IntWalk.i64_in _ (by omega)
                    clear hpz
                    go_wp2
                    go_roundw
                    case rel => exact ⟨j + 1, sum + pz, by omega, by go_num, by first | rfl | (exact congrArg (Value.int .i64) (by have := HPZ.out; omega)), by rw [HST.out, ← HPZ.out]; exact sumOk_small HOK.out hsl hzn (by rw [HD.out]; exact hbig), by simp⟩
                    case measure => simp [intOf]; omega
                  · have hbi : (D : Int) < (c : Int) := by omega
                    have hbn : D < c := by omega
                    go_wp2
                    go_roundw
                    case rel => exact ⟨j + 1, 100000, by omega, by go_num, rfl, by rw [HST.out]; exact sumOk_big HOK.out hzn (by rw [HD.out]; exact hbig), by simp⟩
                    case measure => simp [intOf]; omega
                · have HV := hid (show min sum 100000 = szAt N S by
                    rw [szAt_eq, HCC.out]
                    refine sumOk_end HOK.out ?_
                    by_cases hjl : j = kl
                    · left; rw [hjl, HKL.out]
                    · right; exact ⟨by omega, sumK_le N S j⟩)
                  have hold := cell_row HG.out (show (szRow n S)[i]? = _ by rw [← HSL.out]; exact szRow_zero (by rw [HSL.out]; exact hlt))
                  have hfr : wo.frozen? ⟨w1.heap.size, i, none⟩ = false := frozen_of_row wo _ _ _ _ HG.out
                  have hne : ¬ wo.heap.size = w1.heap.size := by omega
                  have hne2 : ¬ w1.heap.size = wo.heap.size := by omega
                  have hwi : IntKind.i64.wrap ((i : Int) + 1) = (i : Int) + 1 := IntWalk.i64_in _ (by omega)
                  by_cases hjl : j < kl
                  · have hltji : (j : Int) < (kl : Int) := by omega
                    have hsli : ¬ (sum : Int) < 100000 := by omega
                    have hsln : ¬ sum < 100000 := by omega
                    go_wp2
                    go_roundw
                    case rel =>
                      refine ⟨i + 1, by omega, by go_num, ?_, (HBL.out.setCell (p := ⟨w1.heap.size, i, none⟩) (Nat.le_refl _) _).alloc (by simp; omega) _⟩
                      have h9 := HSET.out (szAt N S)
                      rw [← HNEW.out, ← HV.out] at h9
                      first
                        | exact (heap_alloc_old _ _ (by simp; omega)).trans h9
                        | (rw [← min_if] at h9; exact (heap_alloc_old _ _ (by simp; omega)).trans h9)
                        | (rw [← min_if2] at h9; exact (heap_alloc_old _ _ (by simp; omega)).trans h9)
                    case measure => simp [intOf]; omega
                  · have hltji : ¬ (j : Int) < (kl : Int) := by omega
                    go_wp2
                    go_roundw
                    case rel =>
                      refine ⟨i + 1, by omega, by go_num, ?_, (HBL.out.setCell (p := ⟨w1.heap.size, i, none⟩) (Nat.le_refl _) _).alloc (by simp; omega) _⟩
                      have h9 := HSET.out (szAt N S)
                      rw [← HNEW.out, ← HV.out] at h9
                      first
                        | exact (heap_alloc_old _ _ (by simp; omega)).trans h9
                        | (rw [← min_if] at h9; exact (heap_alloc_old _ _ (by simp; omega)).trans h9)
                        | (rw [← min_if2] at h9; exact (heap_alloc_old _ _ (by simp; omega)).trans h9)
                    case measure => simp [intOf]; omega
            · obtain rfl : lo = (c : Int) := by have := HOF.out; omega
              go_wp2
              go_loopw [7, 8] (fun sv jv wr => ∃ j sum : Nat, j ≤ kl ∧ jv = .int .i64 (j : Int) ∧ sv = .int .i64 (sum : Int) ∧ sumOk sum (1 + c * sumK N S j) ∧ wr = wo.alloc (.cells #[.int .i64 9, .int .i64 (c : Int), .int .i64 hi9, .bool N.neg, .slice sa N.set.length sc, .slice ka kl kc] 82)) (fun _ jv _ => kl - (intOf jv).toNat)
              case atStart => exact ⟨0, 1, Nat.zero_le _, rfl, rfl, by rw [sumK_zero]; exact ⟨by omega, Or.inl (by omega)⟩, rfl⟩
              case round =>
                obtain ⟨j, sum, hj, rfl, rfl, hok, rfl⟩ := hrel
                have HOK := hid hok
                have hs2 := hok.1
                have hnk : (wo.alloc (.cells #[.int .i64 9, .int .i64 (c : Int), .int .i64 hi9, .bool N.neg, .slice sa N.set.length sc, .slice ka kl kc] 82)).cell? ⟨wo.heap.size, 5, none⟩ = some (.slice ka kl kc) := cell_of_row _ _ 5 _ _ _ (heap_alloc_new wo _)
                clear hok
                by_cases hgo : j < kl ∧ sum < 100000
                · obtain ⟨hltj, hsl⟩ := hgo
                  have hjk : j < N.kids.length := by rw [HKL.out]; exact hltj
                  obtain ⟨b', off', rfl, hB', hcell'⟩ := HKC.out (by omega)
                  obtain ⟨hcj, _, _⟩ := hcell' j hjk
                  have htk := HTK.out j hjk
                  have hst := sumK_step N S j hjk
                  obtain ⟨x, hx⟩ : ∃ x, N.kids[j] = x := ⟨_, rfl⟩
                  rw [hx] at hcj htk hst
                  obtain ⟨m, rfl⟩ : ∃ m : Nat, x = (m : Int) := ⟨x.toNat, by omega⟩
                  have hmi : m < i := by omega
                  have hcw : wo.cell? ⟨b', off' + j, none⟩ = some (.int .i64 (m : Int)) := (HWR.out.cell (p := ⟨b', off' + j, none⟩) hB').trans hcj
                  have hbs : b' < wo.heap.size := Nat.lt_of_lt_of_le hB' HWR.out.size
                  have hcw2 : (wo.alloc (.cells #[.int .i64 9, .int .i64 (c : Int), .int .i64 hi9, .bool N.neg, .slice sa N.set.length sc, .slice (some ⟨b', off', none⟩) kl kc] 82)).cell? ⟨b', off' + j, none⟩ = some (.int .i64 (m : Int)) := ((ext_alloc wo _).cell (p := ⟨b', off' + j, none⟩) hbs).trans hcw
                  have hszc := cell_row HG.out (szRow_get (m := m) (by rw [HSL.out]; exact hmi))
                  obtain ⟨z, hz⟩ : ∃ z, S.getD m 0 = z := ⟨_, rfl⟩
                  have hzb := HSI.out m hmi
                  rw [Int.toNat_natCast, hz] at hst
                  rw [hz] at hszc hzb
                  have hszc2 : (wo.alloc (.cells #[.int .i64 9, .int .i64 (c : Int), .int .i64 hi9, .bool N.neg, .slice sa N.set.length sc, .slice (some ⟨b', off', none⟩) kl kc] 82)).cell? ⟨w1.heap.size, m, none⟩ = some (.int .i64 (z : Int)) := ((ext_alloc wo _).cell (p := ⟨w1.heap.size, m, none⟩) hsz).trans hszc
                  have hm0 : (0 : Int) ≤ (m : Int) := by omega
                  have hm1 : (m : Int) < (n : Int) := by omega
                  have hj0 : (0 : Int) ≤ (j : Int) := by omega
                  have hltji : (j : Int) < (kl : Int) := by omega
                  have hsli : (sum : Int) < 100000 := by omega
                  have hz1 : (1 : Int) ≤ (z : Int) := by omega
                  have hzn : 1 ≤ z := hzb.1
                  have hz2 : ((z : Int) == 0) = false := by rw [beq_eq_false_iff_ne]; omega
                  have hz3 : ¬ (z : Int) = 0 := by omega
                  have hz4 : ¬ z = 0 := by omega
                  obtain ⟨D, hD⟩ : ∃ D, 100000 / z = D := ⟨_, rfl⟩
                  have hDi : (100000 : Int) / (z : Int) = (D : Int) := by rw [← hD]; exact (Int.natCast_ediv 100000 z).symm
                  have hDt : (100000 : Int).tdiv (z : Int) = (D : Int) := by rw [Int.tdiv_eq_ediv_of_nonneg (by decide)]; exact hDi
                  have hDl : D ≤ 100000 := by rw [← hD]; exact Nat.div_le_self _ _
                  have hDw : IntKind.i64.wrap (D : Int) = (D : Int) := IntWalk.i64_in _ (by omega)
                  have hwj : IntKind.i64.wrap ((j : Int) + 1) = (j : Int) + 1 := IntWalk.i64_in _ (by omega)
                  have HST := hid (show 1 + c * sumK N S (j + 1) = (1 + c * sumK N S j) + c * z by rw [hst, Nat.mul_add]; omega)
                  have HD := hid hD
                  clear hcell' hcj hx hcw hszc hz hst hD
                  by_cases hbig : c ≤ D
                  · have hbi : ¬ (D : Int) < (c : Int) := by omega
                    have hbn : ¬ D < c := by omega
                    have hcz := capS_small (c := c) (z := z) hzn (by rw [HD.out]; exact hbig)
                    have hmw : IntKind.i64.wrap ((c : Int) * (z : Int)) = ((c * z : Nat) : Int) := by
                      rw [← Int.natCast_mul]
                      exact IntWalk.i64_in _ (by omega)
                    obtain ⟨pz, hpz⟩ : ∃ p, c * z = p := ⟨_, rfl⟩
                    have HPZ := hid hpz
                    rw [hpz] at hmw hcz
                    have hsw : IntKind.i64.wrap ((sum : Int) + (pz : Int)) = (sum : Int) + (pz : Int) := IntWalk.i64_in _ (by omega)
                    clear hpz
                    go_wp2
                    go_roundw
                    case rel => exact ⟨j + 1, sum + pz, by omega, by go_num, by first | rfl | (exact congrArg (Value.int .i64) (by have := HPZ.out; omega)), by rw [HST.out, ← HPZ.out]; exact sumOk_small HOK.out hsl hzn (by rw [HD.out]; exact hbig), by simp⟩
                    case measure => simp [intOf]; omega
                  · have hbi : (D : Int) < (c : Int) := by omega
                    have hbn : D < c := by omega
                    go_wp2
                    go_roundw
                    case rel => exact ⟨j + 1, 100000, by omega, by go_num, rfl, by rw [HST.out]; exact sumOk_big HOK.out hzn (by rw [HD.out]; exact hbig), by simp⟩
                    case measure => simp [intOf]; omega
                · have HV := hid (show min sum 100000 = szAt N S by
                    rw [szAt_eq, HCC.out]
                    refine sumOk_end HOK.out ?_
                    by_cases hjl : j = kl
                    · left; rw [hjl, HKL.out]
                    · right; exact ⟨by omega, sumK_le N S j⟩)
                  have hold := cell_row HG.out (show (szRow n S)[i]? = _ by rw [← HSL.out]; exact szRow_zero (by rw [HSL.out]; exact hlt))
                  have hfr : wo.frozen? ⟨w1.heap.size, i, none⟩ = false := frozen_of_row wo _ _ _ _ HG.out
                  have hne : ¬ wo.heap.size = w1.heap.size := by omega
                  have hne2 : ¬ w1.heap.size = wo.heap.size := by omega
                  have hwi : IntKind.i64.wrap ((i : Int) + 1) = (i : Int) + 1 := IntWalk.i64_in _ (by omega)
                  by_cases hjl : j < kl
                  · have hltji : (j : Int) < (kl : Int) := by omega
                    have hsli : ¬ (sum : Int) < 100000 := by omega
                    have hsln : ¬ sum < 100000 := by omega
                    go_wp2
                    go_roundw
                    case rel =>
                      refine ⟨i + 1, by omega, by go_num, ?_, (HBL.out.setCell (p := ⟨w1.heap.size, i, none⟩) (Nat.le_refl _) _).alloc (by simp; omega) _⟩
                      have h9 := HSET.out (szAt N S)
                      rw [← HNEW.out, ← HV.out] at h9
                      first
                        | exact (heap_alloc_old _ _ (by simp; omega)).trans h9
                        | (rw [← min_if] at h9; exact (heap_alloc_old _ _ (by simp; omega)).trans h9)
                        | (rw [← min_if2] at h9; exact (heap_alloc_old _ _ (by simp; omega)).trans h9)
                    case measure => simp [intOf]; omega
                  · have hltji : ¬ (j : Int) < (kl : Int) := by omega
                    go_wp2
                    go_roundw
                    case rel =>
                      refine ⟨i + 1, by omega, by go_num, ?_, (HBL.out.setCell (p := ⟨w1.heap.size, i, none⟩) (Nat.le_refl _) _).alloc (by simp; omega) _⟩
                      have h9 := HSET.out (szAt N S)
                      rw [← HNEW.out, ← HV.out] at h9
                      first
                        | exact (heap_alloc_old _ _ (by simp; omega)).trans h9
                        | (rw [← min_if] at h9; exact (heap_alloc_old _ _ (by simp; omega)).trans h9)
                        | (rw [← min_if2] at h9; exact (heap_alloc_old _ _ (by simp; omega)).trans h9)
                    case measure => simp [intOf]; omega
          · by_cases hB : 1 < hi9
            · obtain rfl : hi9 = (c : Int) := by have := HOF.out; omega
              go_wp2
              go_loopw [7, 8] (fun sv jv wr => ∃ j sum : Nat, j ≤ kl ∧ jv = .int .i64 (j : Int) ∧ sv = .int .i64 (sum : Int) ∧ sumOk sum (1 + c * sumK N S j) ∧ wr = wo.alloc (.cells #[.int .i64 9, .int .i64 lo, .int .i64 (c : Int), .bool N.neg, .slice sa N.set.length sc, .slice ka kl kc] 82)) (fun _ jv _ => kl - (intOf jv).toNat)
              case atStart => exact ⟨0, 1, Nat.zero_le _, rfl, rfl, by rw [sumK_zero]; exact ⟨by omega, Or.inl (by omega)⟩, rfl⟩
              case round =>
                obtain ⟨j, sum, hj, rfl, rfl, hok, rfl⟩ := hrel
                have HOK := hid hok
                have hs2 := hok.1
                have hnk : (wo.alloc (.cells #[.int .i64 9, .int .i64 lo, .int .i64 (c : Int), .bool N.neg, .slice sa N.set.length sc, .slice ka kl kc] 82)).cell? ⟨wo.heap.size, 5, none⟩ = some (.slice ka kl kc) := cell_of_row _ _ 5 _ _ _ (heap_alloc_new wo _)
                clear hok
                by_cases hgo : j < kl ∧ sum < 100000
                · obtain ⟨hltj, hsl⟩ := hgo
                  have hjk : j < N.kids.length := by rw [HKL.out]; exact hltj
                  obtain ⟨b', off', rfl, hB', hcell'⟩ := HKC.out (by omega)
                  obtain ⟨hcj, _, _⟩ := hcell' j hjk
                  have htk := HTK.out j hjk
                  have hst := sumK_step N S j hjk
                  obtain ⟨x, hx⟩ : ∃ x, N.kids[j] = x := ⟨_, rfl⟩
                  rw [hx] at hcj htk hst
                  obtain ⟨m, rfl⟩ : ∃ m : Nat, x = (m : Int) := ⟨x.toNat, by omega⟩
                  have hmi : m < i := by omega
                  have hcw : wo.cell? ⟨b', off' + j, none⟩ = some (.int .i64 (m : Int)) := (HWR.out.cell (p := ⟨b', off' + j, none⟩) hB').trans hcj
                  have hbs : b' < wo.heap.size := Nat.lt_of_lt_of_le hB' HWR.out.size
                  have hcw2 : (wo.alloc (.cells #[.int .i64 9, .int .i64 lo, .int .i64 (c : Int), .bool N.neg, .slice sa N.set.length sc, .slice (some ⟨b', off', none⟩) kl kc] 82)).cell? ⟨b', off' + j, none⟩ = some (.int .i64 (m : Int)) := ((ext_alloc wo _).cell (p := ⟨b', off' + j, none⟩) hbs).trans hcw
                  have hszc := cell_row HG.out (szRow_get (m := m) (by rw [HSL.out]; exact hmi))
                  obtain ⟨z, hz⟩ : ∃ z, S.getD m 0 = z := ⟨_, rfl⟩
                  have hzb := HSI.out m hmi
                  rw [Int.toNat_natCast, hz] at hst
                  rw [hz] at hszc hzb
                  have hszc2 : (wo.alloc (.cells #[.int .i64 9, .int .i64 lo, .int .i64 (c : Int), .bool N.neg, .slice sa N.set.length sc, .slice (some ⟨b', off', none⟩) kl kc] 82)).cell? ⟨w1.heap.size, m, none⟩ = some (.int .i64 (z : Int)) := ((ext_alloc wo _).cell (p := ⟨w1.heap.size, m, none⟩) hsz).trans hszc
                  have hm0 : (0 : Int) ≤ (m : Int) := by omega
                  have hm1 : (m : Int) < (n : Int) := by omega
                  have hj0 : (0 : Int) ≤ (j : Int) := by omega
                  have hltji : (j : Int) < (kl : Int) := by omega
                  have hsli : (sum : Int) < 100000 := by omega
                  have hz1 : (1 : Int) ≤ (z : Int) := by omega
                  have hzn : 1 ≤ z := hzb.1
                  have hz2 : ((z : Int) == 0) = false := by rw [beq_eq_false_iff_ne]; omega
                  have hz3 : ¬ (z : Int) = 0 := by omega
                  have hz4 : ¬ z = 0 := by omega
                  obtain ⟨D, hD⟩ : ∃ D, 100000 / z = D := ⟨_, rfl⟩
                  have hDi : (100000 : Int) / (z : Int) = (D : Int) := by rw [← hD]; exact (Int.natCast_ediv 100000 z).symm
                  have hDt : (100000 : Int).tdiv (z : Int) = (D : Int) := by rw [Int.tdiv_eq_ediv_of_nonneg (by decide)]; exact hDi
                  have hDl : D ≤ 100000 := by rw [← hD]; exact Nat.div_le_self _ _
                  have hDw : IntKind.i64.wrap (D : Int) = (D : Int) := IntWalk.i64_in _ (by omega)
                  have hwj : IntKind.i64.wrap ((j : Int) + 1) = (j : Int) + 1 := IntWalk.i64_in _ (by omega)
                  have HST := hid (show 1 + c * sumK N S (j + 1) = (1 + c * sumK N S j) + c * z by rw [hst, Nat.mul_add]; omega)
                  have HD := hid hD
                  clear hcell' hcj hx hcw hszc hz hst hD
                  by_cases hbig : c ≤ D
                  · have hbi : ¬ (D : Int) < (c : Int) := by omega
                    have hbn : ¬ D < c := by omega
                    have hcz := capS_small (c := c) (z := z) hzn (by rw [HD.out]; exact hbig)
                    have hmw : IntKind.i64.wrap ((c : Int) * (z : Int)) = ((c * z : Nat) : Int) := by
                      rw [← Int.natCast_mul]
                      exact IntWalk.i64_in _ (by omega)
                    obtain ⟨pz, hpz⟩ : ∃ p, c * z = p := ⟨_, rfl⟩
                    have HPZ := hid hpz
                    rw [hpz] at hmw hcz
                    have hsw : IntKind.i64.wrap ((sum : Int) + (pz : Int)) = (sum : Int) + (pz : Int) := IntWalk.i64_in _ (by omega)
                    clear hpz
                    go_wp2
                    go_roundw
                    case rel => exact ⟨j + 1, sum + pz, by omega, by go_num, by first | rfl | (exact congrArg (Value.int .i64) (by have := HPZ.out; omega)), by rw [HST.out, ← HPZ.out]; exact sumOk_small HOK.out hsl hzn (by rw [HD.out]; exact hbig), by simp⟩
                    case measure => simp [intOf]; omega
                  · have hbi : (D : Int) < (c : Int) := by omega
                    have hbn : D < c := by omega
                    go_wp2
                    go_roundw
                    case rel => exact ⟨j + 1, 100000, by omega, by go_num, rfl, by rw [HST.out]; exact sumOk_big HOK.out hzn (by rw [HD.out]; exact hbig), by simp⟩
                    case measure => simp [intOf]; omega
                · have HV := hid (show min sum 100000 = szAt N S by
                    rw [szAt_eq, HCC.out]
                    refine sumOk_end HOK.out ?_
                    by_cases hjl : j = kl
                    · left; rw [hjl, HKL.out]
                    · right; exact ⟨by omega, sumK_le N S j⟩)
                  have hold := cell_row HG.out (show (szRow n S)[i]? = _ by rw [← HSL.out]; exact szRow_zero (by rw [HSL.out]; exact hlt))
                  have hfr : wo.frozen? ⟨w1.heap.size, i, none⟩ = false := frozen_of_row wo _ _ _ _ HG.out
                  have hne : ¬ wo.heap.size = w1.heap.size := by omega
                  have hne2 : ¬ w1.heap.size = wo.heap.size := by omega
                  have hwi : IntKind.i64.wrap ((i : Int) + 1) = (i : Int) + 1 := IntWalk.i64_in _ (by omega)
                  by_cases hjl : j < kl
                  · have hltji : (j : Int) < (kl : Int) := by omega
                    have hsli : ¬ (sum : Int) < 100000 := by omega
                    have hsln : ¬ sum < 100000 := by omega
                    go_wp2
                    go_roundw
                    case rel =>
                      refine ⟨i + 1, by omega, by go_num, ?_, (HBL.out.setCell (p := ⟨w1.heap.size, i, none⟩) (Nat.le_refl _) _).alloc (by simp; omega) _⟩
                      have h9 := HSET.out (szAt N S)
                      rw [← HNEW.out, ← HV.out] at h9
                      first
                        | exact (heap_alloc_old _ _ (by simp; omega)).trans h9
                        | (rw [← min_if] at h9; exact (heap_alloc_old _ _ (by simp; omega)).trans h9)
                        | (rw [← min_if2] at h9; exact (heap_alloc_old _ _ (by simp; omega)).trans h9)
                    case measure => simp [intOf]; omega
                  · have hltji : ¬ (j : Int) < (kl : Int) := by omega
                    go_wp2
                    go_roundw
                    case rel =>
                      refine ⟨i + 1, by omega, by go_num, ?_, (HBL.out.setCell (p := ⟨w1.heap.size, i, none⟩) (Nat.le_refl _) _).alloc (by simp; omega) _⟩
                      have h9 := HSET.out (szAt N S)
                      rw [← HNEW.out, ← HV.out] at h9
                      first
                        | exact (heap_alloc_old _ _ (by simp; omega)).trans h9
                        | (rw [← min_if] at h9; exact (heap_alloc_old _ _ (by simp; omega)).trans h9)
                        | (rw [← min_if2] at h9; exact (heap_alloc_old _ _ (by simp; omega)).trans h9)
                    case measure => simp [intOf]; omega
            · obtain rfl : c = 1 := by have := HOF.out; omega
              go_wp2
              go_loopw [7, 8] (fun sv jv wr => ∃ j sum : Nat, j ≤ kl ∧ jv = .int .i64 (j : Int) ∧ sv = .int .i64 (sum : Int) ∧ sumOk sum (1 + 1 * sumK N S j) ∧ wr = wo.alloc (.cells #[.int .i64 9, .int .i64 lo, .int .i64 hi9, .bool N.neg, .slice sa N.set.length sc, .slice ka kl kc] 82)) (fun _ jv _ => kl - (intOf jv).toNat)
              case atStart => exact ⟨0, 1, Nat.zero_le _, rfl, rfl, by rw [sumK_zero]; exact ⟨by omega, Or.inl (by omega)⟩, rfl⟩
              case round =>
                obtain ⟨j, sum, hj, rfl, rfl, hok, rfl⟩ := hrel
                have HOK := hid hok
                have hs2 := hok.1
                have hnk : (wo.alloc (.cells #[.int .i64 9, .int .i64 lo, .int .i64 hi9, .bool N.neg, .slice sa N.set.length sc, .slice ka kl kc] 82)).cell? ⟨wo.heap.size, 5, none⟩ = some (.slice ka kl kc) := cell_of_row _ _ 5 _ _ _ (heap_alloc_new wo _)
                clear hok
                by_cases hgo : j < kl ∧ sum < 100000
                · obtain ⟨hltj, hsl⟩ := hgo
                  have hjk : j < N.kids.length := by rw [HKL.out]; exact hltj
                  obtain ⟨b', off', rfl, hB', hcell'⟩ := HKC.out (by omega)
                  obtain ⟨hcj, _, _⟩ := hcell' j hjk
                  have htk := HTK.out j hjk
                  have hst := sumK_step N S j hjk
                  obtain ⟨x, hx⟩ : ∃ x, N.kids[j] = x := ⟨_, rfl⟩
                  rw [hx] at hcj htk hst
                  obtain ⟨m, rfl⟩ : ∃ m : Nat, x = (m : Int) := ⟨x.toNat, by omega⟩
                  have hmi : m < i := by omega
                  have hcw : wo.cell? ⟨b', off' + j, none⟩ = some (.int .i64 (m : Int)) := (HWR.out.cell (p := ⟨b', off' + j, none⟩) hB').trans hcj
                  have hbs : b' < wo.heap.size := Nat.lt_of_lt_of_le hB' HWR.out.size
                  have hcw2 : (wo.alloc (.cells #[.int .i64 9, .int .i64 lo, .int .i64 hi9, .bool N.neg, .slice sa N.set.length sc, .slice (some ⟨b', off', none⟩) kl kc] 82)).cell? ⟨b', off' + j, none⟩ = some (.int .i64 (m : Int)) := ((ext_alloc wo _).cell (p := ⟨b', off' + j, none⟩) hbs).trans hcw
                  have hszc := cell_row HG.out (szRow_get (m := m) (by rw [HSL.out]; exact hmi))
                  obtain ⟨z, hz⟩ : ∃ z, S.getD m 0 = z := ⟨_, rfl⟩
                  have hzb := HSI.out m hmi
                  rw [Int.toNat_natCast, hz] at hst
                  rw [hz] at hszc hzb
                  have hszc2 : (wo.alloc (.cells #[.int .i64 9, .int .i64 lo, .int .i64 hi9, .bool N.neg, .slice sa N.set.length sc, .slice (some ⟨b', off', none⟩) kl kc] 82)).cell? ⟨w1.heap.size, m, none⟩ = some (.int .i64 (z : Int)) := ((ext_alloc wo _).cell (p := ⟨w1.heap.size, m, none⟩) hsz).trans hszc
                  have hm0 : (0 : Int) ≤ (m : Int) := by omega
                  have hm1 : (m : Int) < (n : Int) := by omega
                  have hj0 : (0 : Int) ≤ (j : Int) := by omega
                  have hltji : (j : Int) < (kl : Int) := by omega
                  have hsli : (sum : Int) < 100000 := by omega
                  have hz1 : (1 : Int) ≤ (z : Int) := by omega
                  have hzn : 1 ≤ z := hzb.1
                  have hz2 : ((z : Int) == 0) = false := by rw [beq_eq_false_iff_ne]; omega
                  have hz3 : ¬ (z : Int) = 0 := by omega
                  have hz4 : ¬ z = 0 := by omega
                  obtain ⟨D, hD⟩ : ∃ D, 100000 / z = D := ⟨_, rfl⟩
                  have hDi : (100000 : Int) / (z : Int) = (D : Int) := by rw [← hD]; exact (Int.natCast_ediv 100000 z).symm
                  have hDt : (100000 : Int).tdiv (z : Int) = (D : Int) := by rw [Int.tdiv_eq_ediv_of_nonneg (by decide)]; exact hDi
                  have hDl : D ≤ 100000 := by rw [← hD]; exact Nat.div_le_self _ _
                  have hDw : IntKind.i64.wrap (D : Int) = (D : Int) := IntWalk.i64_in _ (by omega)
                  have hwj : IntKind.i64.wrap ((j : Int) + 1) = (j : Int) + 1 := IntWalk.i64_in _ (by omega)
                  have HST := hid (show 1 + 1 * sumK N S (j + 1) = (1 + 1 * sumK N S j) + 1 * z by rw [hst, Nat.mul_add]; omega)
                  have HD := hid hD
                  clear hcell' hcj hx hcw hszc hz hst hD
                  by_cases hbig : 1 ≤ D
                  · have hbi : ¬ (D : Int) < (1 : Int) := by omega
                    have hbn : ¬ D < 1 := by omega
                    have hcz := capS_small (c := 1) (z := z) hzn (by rw [HD.out]; exact hbig)
                    have hmw : IntKind.i64.wrap ((1 : Int) * (z : Int)) = ((1 * z : Nat) : Int) := by
                      rw [IntWalk.i64_in _ (by omega)]; omega
                    obtain ⟨pz, hpz⟩ : ∃ p, 1 * z = p := ⟨_, rfl⟩
                    have HPZ := hid hpz
                    rw [hpz] at hmw hcz
                    have hsw : IntKind.i64.wrap ((sum : Int) + (pz : Int)) = (sum : Int) + (pz : Int) := IntWalk.i64_in _ (by omega)
                    have hsw2 : IntKind.i64.wrap ((sum : Int) + (z : Int)) = (sum : Int) + (z : Int) := IntWalk.i64_in _ (by omega)
                    have hsw3 : IntKind.i64.wrap (z : Int) = (z : Int) := IntWalk.i64_in _ (by omega)
                    clear hpz
                    go_wp2
                    go_roundw
                    case rel => exact ⟨j + 1, sum + pz, by omega, by go_num, by first | rfl | (exact congrArg (Value.int .i64) (by have := HPZ.out; omega)), by rw [HST.out, ← HPZ.out]; exact sumOk_small HOK.out hsl hzn (by rw [HD.out]; exact hbig), by simp⟩
                    case measure => simp [intOf]; omega
                  · have hbi : (D : Int) < (1 : Int) := by omega
                    have hbn : D < 1 := by omega
                    go_wp2
                    go_roundw
                    case rel => exact ⟨j + 1, 100000, by omega, by go_num, rfl, by rw [HST.out]; exact sumOk_big HOK.out hzn (by rw [HD.out]; exact hbig), by simp⟩
                    case measure => simp [intOf]; omega
                · have HV := hid (show min sum 100000 = szAt N S by
                    rw [szAt_eq, HCC.out]
                    refine sumOk_end HOK.out ?_
                    by_cases hjl : j = kl
                    · left; rw [hjl, HKL.out]
                    · right; exact ⟨by omega, sumK_le N S j⟩)
                  have hold := cell_row HG.out (show (szRow n S)[i]? = _ by rw [← HSL.out]; exact szRow_zero (by rw [HSL.out]; exact hlt))
                  have hfr : wo.frozen? ⟨w1.heap.size, i, none⟩ = false := frozen_of_row wo _ _ _ _ HG.out
                  have hne : ¬ wo.heap.size = w1.heap.size := by omega
                  have hne2 : ¬ w1.heap.size = wo.heap.size := by omega
                  have hwi : IntKind.i64.wrap ((i : Int) + 1) = (i : Int) + 1 := IntWalk.i64_in _ (by omega)
                  by_cases hjl : j < kl
                  · have hltji : (j : Int) < (kl : Int) := by omega
                    have hsli : ¬ (sum : Int) < 100000 := by omega
                    have hsln : ¬ sum < 100000 := by omega
                    go_wp2
                    go_roundw
                    case rel =>
                      refine ⟨i + 1, by omega, by go_num, ?_, (HBL.out.setCell (p := ⟨w1.heap.size, i, none⟩) (Nat.le_refl _) _).alloc (by simp; omega) _⟩
                      have h9 := HSET.out (szAt N S)
                      rw [← HNEW.out, ← HV.out] at h9
                      first
                        | exact (heap_alloc_old _ _ (by simp; omega)).trans h9
                        | (rw [← min_if] at h9; exact (heap_alloc_old _ _ (by simp; omega)).trans h9)
                        | (rw [← min_if2] at h9; exact (heap_alloc_old _ _ (by simp; omega)).trans h9)
                    case measure => simp [intOf]; omega
                  · have hltji : ¬ (j : Int) < (kl : Int) := by omega
                    go_wp2
                    go_roundw
                    case rel =>
                      refine ⟨i + 1, by omega, by go_num, ?_, (HBL.out.setCell (p := ⟨w1.heap.size, i, none⟩) (Nat.le_refl _) _).alloc (by simp; omega) _⟩
                      have h9 := HSET.out (szAt N S)
                      rw [← HNEW.out, ← HV.out] at h9
                      first
                        | exact (heap_alloc_old _ _ (by simp; omega)).trans h9
                        | (rw [← min_if] at h9; exact (heap_alloc_old _ _ (by simp; omega)).trans h9)
                        | (rw [← min_if2] at h9; exact (heap_alloc_old _ _ (by simp; omega)).trans h9)
                    case measure => simp [intOf]; omega
        · have g9 : (N.kind == 9) = false := by rw [beq_eq_false_iff_ne]; exact h9
          have HOF := hid (show c = 1 by rw [← HCC.out]; unfold often; rw [if_neg h9])
          go_wp2
          obtain rfl : c = 1 := HOF.out
          go_loopw [7, 8] (fun sv jv wr => ∃ j sum : Nat, j ≤ kl ∧ jv = .int .i64 (j : Int) ∧ sv = .int .i64 (sum : Int) ∧ sumOk sum (1 + 1 * sumK N S j) ∧ wr = wo.alloc (.cells #[.int .i64 N.kind, .int .i64 N.lo, .int .i64 N.hi, .bool N.neg, .slice sa N.set.length sc, .slice ka kl kc] 82)) (fun _ jv _ => kl - (intOf jv).toNat)
          case atStart => exact ⟨0, 1, Nat.zero_le _, rfl, rfl, by rw [sumK_zero]; exact ⟨by omega, Or.inl (by omega)⟩, rfl⟩
          case round =>
            obtain ⟨j, sum, hj, rfl, rfl, hok, rfl⟩ := hrel
            have HOK := hid hok
            have hs2 := hok.1
            have hnk : (wo.alloc (.cells #[.int .i64 N.kind, .int .i64 N.lo, .int .i64 N.hi, .bool N.neg, .slice sa N.set.length sc, .slice ka kl kc] 82)).cell? ⟨wo.heap.size, 5, none⟩ = some (.slice ka kl kc) := cell_of_row _ _ 5 _ _ _ (heap_alloc_new wo _)
            clear hok
            by_cases hgo : j < kl ∧ sum < 100000
            · obtain ⟨hltj, hsl⟩ := hgo
              have hjk : j < N.kids.length := by rw [HKL.out]; exact hltj
              obtain ⟨b', off', rfl, hB', hcell'⟩ := HKC.out (by omega)
              obtain ⟨hcj, _, _⟩ := hcell' j hjk
              have htk := HTK.out j hjk
              have hst := sumK_step N S j hjk
              obtain ⟨x, hx⟩ : ∃ x, N.kids[j] = x := ⟨_, rfl⟩
              rw [hx] at hcj htk hst
              obtain ⟨m, rfl⟩ : ∃ m : Nat, x = (m : Int) := ⟨x.toNat, by omega⟩
              have hmi : m < i := by omega
              have hcw : wo.cell? ⟨b', off' + j, none⟩ = some (.int .i64 (m : Int)) := (HWR.out.cell (p := ⟨b', off' + j, none⟩) hB').trans hcj
              have hbs : b' < wo.heap.size := Nat.lt_of_lt_of_le hB' HWR.out.size
              have hcw2 : (wo.alloc (.cells #[.int .i64 N.kind, .int .i64 N.lo, .int .i64 N.hi, .bool N.neg, .slice sa N.set.length sc, .slice (some ⟨b', off', none⟩) kl kc] 82)).cell? ⟨b', off' + j, none⟩ = some (.int .i64 (m : Int)) := ((ext_alloc wo _).cell (p := ⟨b', off' + j, none⟩) hbs).trans hcw
              have hszc := cell_row HG.out (szRow_get (m := m) (by rw [HSL.out]; exact hmi))
              obtain ⟨z, hz⟩ : ∃ z, S.getD m 0 = z := ⟨_, rfl⟩
              have hzb := HSI.out m hmi
              rw [Int.toNat_natCast, hz] at hst
              rw [hz] at hszc hzb
              have hszc2 : (wo.alloc (.cells #[.int .i64 N.kind, .int .i64 N.lo, .int .i64 N.hi, .bool N.neg, .slice sa N.set.length sc, .slice (some ⟨b', off', none⟩) kl kc] 82)).cell? ⟨w1.heap.size, m, none⟩ = some (.int .i64 (z : Int)) := ((ext_alloc wo _).cell (p := ⟨w1.heap.size, m, none⟩) hsz).trans hszc
              have hm0 : (0 : Int) ≤ (m : Int) := by omega
              have hm1 : (m : Int) < (n : Int) := by omega
              have hj0 : (0 : Int) ≤ (j : Int) := by omega
              have hltji : (j : Int) < (kl : Int) := by omega
              have hsli : (sum : Int) < 100000 := by omega
              have hz1 : (1 : Int) ≤ (z : Int) := by omega
              have hzn : 1 ≤ z := hzb.1
              have hz2 : ((z : Int) == 0) = false := by rw [beq_eq_false_iff_ne]; omega
              have hz3 : ¬ (z : Int) = 0 := by omega
              have hz4 : ¬ z = 0 := by omega
              obtain ⟨D, hD⟩ : ∃ D, 100000 / z = D := ⟨_, rfl⟩
              have hDi : (100000 : Int) / (z : Int) = (D : Int) := by rw [← hD]; exact (Int.natCast_ediv 100000 z).symm
              have hDt : (100000 : Int).tdiv (z : Int) = (D : Int) := by rw [Int.tdiv_eq_ediv_of_nonneg (by decide)]; exact hDi
              have hDl : D ≤ 100000 := by rw [← hD]; exact Nat.div_le_self _ _
              have hDw : IntKind.i64.wrap (D : Int) = (D : Int) := IntWalk.i64_in _ (by omega)
              have hwj : IntKind.i64.wrap ((j : Int) + 1) = (j : Int) + 1 := IntWalk.i64_in _ (by omega)
              have HST := hid (show 1 + 1 * sumK N S (j + 1) = (1 + 1 * sumK N S j) + 1 * z by rw [hst, Nat.mul_add]; omega)
              have HD := hid hD
              clear hcell' hcj hx hcw hszc hz hst hD
              by_cases hbig : 1 ≤ D
              · have hbi : ¬ (D : Int) < (1 : Int) := by omega
                have hbn : ¬ D < 1 := by omega
                have hcz := capS_small (c := 1) (z := z) hzn (by rw [HD.out]; exact hbig)
                have hmw : IntKind.i64.wrap ((1 : Int) * (z : Int)) = ((1 * z : Nat) : Int) := by
                  rw [IntWalk.i64_in _ (by omega)]; omega
                obtain ⟨pz, hpz⟩ : ∃ p, 1 * z = p := ⟨_, rfl⟩
                have HPZ := hid hpz
                rw [hpz] at hmw hcz
                have hsw : IntKind.i64.wrap ((sum : Int) + (pz : Int)) = (sum : Int) + (pz : Int) := IntWalk.i64_in _ (by omega)
                have hsw2 : IntKind.i64.wrap ((sum : Int) + (z : Int)) = (sum : Int) + (z : Int) := IntWalk.i64_in _ (by omega)
                have hsw3 : IntKind.i64.wrap (z : Int) = (z : Int) := IntWalk.i64_in _ (by omega)
                clear hpz
                go_wp2
                go_roundw
                case rel => exact ⟨j + 1, sum + pz, by omega, by go_num, by first | rfl | (exact congrArg (Value.int .i64) (by have := HPZ.out; omega)), by rw [HST.out, ← HPZ.out]; exact sumOk_small HOK.out hsl hzn (by rw [HD.out]; exact hbig), by simp⟩
                case measure => simp [intOf]; omega
              · have hbi : (D : Int) < (1 : Int) := by omega
                have hbn : D < 1 := by omega
                go_wp2
                go_roundw
                case rel => exact ⟨j + 1, 100000, by omega, by go_num, rfl, by rw [HST.out]; exact sumOk_big HOK.out hzn (by rw [HD.out]; exact hbig), by simp⟩
                case measure => simp [intOf]; omega
            · have HV := hid (show min sum 100000 = szAt N S by
                rw [szAt_eq, HCC.out]
                refine sumOk_end HOK.out ?_
                by_cases hjl : j = kl
                · left; rw [hjl, HKL.out]
                · right; exact ⟨by omega, sumK_le N S j⟩)
              have hold := cell_row HG.out (show (szRow n S)[i]? = _ by rw [← HSL.out]; exact szRow_zero (by rw [HSL.out]; exact hlt))
              have hfr : wo.frozen? ⟨w1.heap.size, i, none⟩ = false := frozen_of_row wo _ _ _ _ HG.out
              have hne : ¬ wo.heap.size = w1.heap.size := by omega
              have hne2 : ¬ w1.heap.size = wo.heap.size := by omega
              have hwi : IntKind.i64.wrap ((i : Int) + 1) = (i : Int) + 1 := IntWalk.i64_in _ (by omega)
              by_cases hjl : j < kl
              · have hltji : (j : Int) < (kl : Int) := by omega
                have hsli : ¬ (sum : Int) < 100000 := by omega
                have hsln : ¬ sum < 100000 := by omega
                go_wp2
                go_roundw
                case rel =>
                  refine ⟨i + 1, by omega, by go_num, ?_, (HBL.out.setCell (p := ⟨w1.heap.size, i, none⟩) (Nat.le_refl _) _).alloc (by simp; omega) _⟩
                  have h9 := HSET.out (szAt N S)
                  rw [← HNEW.out, ← HV.out] at h9
                  first
                    | exact (heap_alloc_old _ _ (by simp; omega)).trans h9
                    | (rw [← min_if] at h9; exact (heap_alloc_old _ _ (by simp; omega)).trans h9)
                    | (rw [← min_if2] at h9; exact (heap_alloc_old _ _ (by simp; omega)).trans h9)
                case measure => simp [intOf]; omega
              · have hltji : ¬ (j : Int) < (kl : Int) := by omega
                go_wp2
                go_roundw
                case rel =>
                  refine ⟨i + 1, by omega, by go_num, ?_, (HBL.out.setCell (p := ⟨w1.heap.size, i, none⟩) (Nat.le_refl _) _).alloc (by simp; omega) _⟩
                  have h9 := HSET.out (szAt N S)
                  rw [← HNEW.out, ← HV.out] at h9
                  first
                    | exact (heap_alloc_old _ _ (by simp; omega)).trans h9
                    | (rw [← min_if] at h9; exact (heap_alloc_old _ _ (by simp; omega)).trans h9)
                    | (rw [← min_if2] at h9; exact (heap_alloc_old _ _ (by simp; omega)).trans h9)
                case measure => simp [intOf]; omega
      · obtain rfl : i = n := by omega
        rw [List.take_of_length_le (by rw [HNN.out]; exact Nat.le_refl _)] at hg
        have hlast := cell_row hg (szRow_get (m := i - 1) (by rw [sizesL_len, HNN.out]; omega))
        have hF := HF.out
        rw [List.getLastD_eq_getLast?, List.getLast?_eq_getElem?, sizesL_len, HNN.out, ← List.getD_eq_getElem?_getD] at hF
        rw [← hF] at hlast
        have hwl : IntKind.i64.wrap ((i : Int) - 1) = (i : Int) - 1 := IntWalk.i64_in _ (by omega)
        obtain ⟨m, hm⟩ : ∃ m, i - 1 = m := ⟨_, rfl⟩
        rw [hm] at hlast
        have hmi : (i : Int) - 1 = (m : Int) := by omega
        have hm0 : (0 : Int) ≤ (m : Int) := by omega
        have hm1 : (m : Int) < (i : Int) := by omega
        have HB := hid hb
        clear hg hb hF hm hlt
        go_wp2
        go_ret
        exact ⟨rfl, HB1.out.trans (HB.out.mono hs1)⟩
end Go.Proofs.YtomcoilmpkpoeaaGreatDoor
