/-
  What is proved here: whether lists of kids are a tree, and the size of a pattern, in the reference. No condition but that the nodes lie in memory, and sizes.
-/
import Derived.Test.YtomcoilmpkpoeaaGreatDoorQRxSzI
namespace Go.Proofs.YtomcoilmpkpoeaaGreatDoor
open Go.RowKit
set_option linter.unusedVariables false
set_option linter.unusedSimpArgs false

theorem info_boolR : (Tryz.prog.info? 4).map (fun i => (i.zero, i.size, i.bytes)) = some (some (.bool false), 1, 1) := by kernel_rfl
theorem made_bools (w : World) (n : Nat) (e : TypeId) : (w.alloc (.cells (madeCells #[.bool false] n) e)).heap[w.heap.size]? = some (.cells (useds n []).toArray e (0, 0)) := by
  rw [useds_nil, ← toList_madeCells1]
  exact heap_alloc_new w _
theorem tree_all {ks : List (List Int)} (h0 : 0 < ks.length) (hin : inBf ks ks.length) (hnd : ks.flatten.Nodup) (hall : ∀ q : Nat, q + 1 < ks.length → (q : Int) ∈ ks.flatten) : treeOk ks := by
  refine ⟨h0, fun i h k hk => hin i h h k hk, fun m hm => ?_⟩
  have h1 := nodup_count hnd (m : Int)
  have h2 : 0 < ks.flatten.count (m : Int) := List.count_pos_iff.2 (hall m hm)
  omega
theorem tree_not_all {ks : List (List Int)} {m : Nat} (hm : m + 1 < ks.length) (h : ¬ (m : Int) ∈ ks.flatten) : ¬ treeOk ks := by
  intro ht
  have := ht.2.2 m hm
  rw [List.count_eq_zero_of_not_mem h] at this
  omega
set_option maxHeartbeats 16000000 in
set_option maxRecDepth 100000 in
theorem specTree {v : Value} {ns : List RxNode} (w : World) (h : Rd.rd (Old w) w [v] ns) (hn : ns.length ≤ 2000000) :
    Calls Tryz.prog 30 #[.agg #[v]] w fun e w' => e = .returned (.bool (treeB (kidsOf ns))) ∧ Below w.heap.size w w' := by
  obtain ⟨a, cap, rfl, h1, h2, hc⟩ := rdNodes h
  obtain ⟨n, hnn⟩ : ∃ n, ns.length = n := ⟨_, rfl⟩
  have HNN := hid hnn
  have hkn : (kidsOf ns).length = n := by simp [kidsOf, hnn]
  have HKN := hid hkn
  have HC := hid hc
  rw [hnn] at hn h1 ⊢
  clear hc h hkn
  have hmk := run_make_row' (P := Tryz.prog) 81 4 _ 1 Tryz.underlying81 info_boolR rfl .i64 .i64 n (by omega) (by omega)
  clear hnn
  by_cases hz : n = 0
  · have HF := hid (treeB_false (ks := kidsOf ns) (fun ht => by have := ht.1; rw [HKN.out] at this; omega))
    subst hz
    clear hmk
    go_enter Tryz.func30, Tryz.ntmps30
    go_wp2
    go_ret
    exact ⟨by rw [HF.out]; rfl, ext_alloc _ _⟩
  have hn0 : ((n : Int) == 0) = false := by rw [beq_eq_false_iff_ne]; omega
  have hn1 : ¬ (n : Int) = 0 := by omega
  go_enter Tryz.func30, Tryz.ntmps30
  go_wp2
  clear hmk
  go_loopw [4] (fun iv wr => ∃ i : Nat, i ≤ n ∧ iv = .int .i64 (i : Int) ∧ wr.heap[w.heap.size]? = some (.cells #[.slice a n cap] 29 (0, 0)) ∧ wr.heap[w.heap.size + 1]? = some (.cells (useds n (procd (kidsOf ns) i 0)).toArray 4 (0, 0)) ∧ Below w.heap.size w wr ∧ inBf (kidsOf ns) i ∧ (procd (kidsOf ns) i 0).Nodup) (fun iv _ => n - (intOf iv).toNat)
  case atStart => exact ⟨0, Nat.zero_le _, rfl, ((ext_alloc (w.alloc (Obj.cells #[.slice a n cap] 29)) _).block w.heap.size (by simp)).trans (heap_alloc_new _ _), by rw [procd_zero]; have := made_bools (w.alloc (Obj.cells #[.slice a n cap] 29)) n 4; simpa using this, (ext_alloc _ _).trans ((ext_alloc _ _).mono (by simp)), fun m _ h => absurd h (by omega), by rw [procd_zero]; exact List.nodup_nil⟩
  case round =>
    obtain ⟨i, hi, rfl, hx, hg, hb, hin, hnd⟩ := hrel
    have cx : wr.cell? ⟨w.heap.size, 0, none⟩ = some (.slice a n cap) := cell_of_row _ _ 0 _ _ _ hx
    have HXB := hid hx
    by_cases hlt : i < n
    · have hik : i < ns.length := by rw [HNN.out]; exact hlt
      have hikk : i < (kidsOf ns).length := by rw [HKN.out]; exact hlt
      obtain ⟨b, off, rfl, hB, hcell⟩ := HC.out (by omega)
      obtain ⟨us, uk, ⟨d0, d1, d2, d3, d4, d5⟩, _, hrs, hrk⟩ := hcell i hik
      obtain ⟨ka, kc, rfl, hu1, hu2, huc⟩ := rdInts hrk
      have hg5 := kidsOf_get hik
      obtain ⟨K, hK⟩ : ∃ K, ns[i].kids = K := ⟨_, rfl⟩
      rw [hK] at d5 huc hu1 hg5
      obtain ⟨kl, hkl⟩ : ∃ k, K.length = k := ⟨_, rfl⟩
      rw [hkl] at d5 hu1
      have HKL := hid hkl
      have HG5 := hid hg5
      have HUC := hid huc
      have HG := hid hg
      have HBL := hid hb
      have HIN := hid hin
      have HND := hid hnd
      have HD5 := hid d5
      have hlti : (i : Int) < (n : Int) := by omega
      have hi0 : (0 : Int) ≤ (i : Int) := by omega
      obtain ⟨wo, hwo⟩ : ∃ wo : World, wo = wr := ⟨_, rfl⟩
      rw [← hwo] at HG HBL HXB cx ⊢
      clear hg hb hin hnd hcell hrs hrk huc hkl hK hg5 d0 d1 d2 d3 d4 d5 hwo hx wr
      go_wp2
      clear cx
      go_loopw [5] (fun jv wr => ∃ j : Nat, j ≤ kl ∧ jv = .int .i64 (j : Int) ∧ wr.heap[w.heap.size]? = some (.cells #[.slice (some ⟨b, off, none⟩) n cap] 29 (0, 0)) ∧ wr.heap[w.heap.size + 1]? = some (.cells (useds n (procd (kidsOf ns) i j)).toArray 4 (0, 0)) ∧ Below w.heap.size w wr ∧ (∀ q (hq : q < K.length), q < j → 0 ≤ K[q] ∧ K[q] < (i : Int)) ∧ (procd (kidsOf ns) i j).Nodup) (fun jv _ => kl - (intOf jv).toNat)
      case atStart => exact ⟨0, Nat.zero_le _, rfl, HXB.out, HG.out, HBL.out, fun q _ h => absurd h (by omega), HND.out⟩
      case round =>
        obtain ⟨j, hj, rfl, hx, hg, hb, hjn, hnd⟩ := hrel
        have cx : wr.cell? ⟨w.heap.size, 0, none⟩ = some (.slice (some ⟨b, off, none⟩) n cap) := cell_of_row _ _ 0 _ _ _ hx
        have d5 : wr.cell? ⟨b, off + i * 6 + 5, none⟩ = some (.slice ka kl kc) := (hb.cell (p := ⟨b, off + i * 6 + 5, none⟩) hB).trans HD5.out
        have HXB2 := hid hx
        have HG2 := hid hg
        have HB2 := hid hb
        have HJN := hid hjn
        have HND2 := hid hnd
        have hge : w.heap.size + 1 < wr.heap.size := (Array.getElem?_eq_some_iff.1 hg).1
        clear hx hg hjn hnd
        by_cases hltj : j < kl
        · have hjk : j < K.length := by rw [HKL.out]; exact hltj
          obtain ⟨b', off', rfl, hB', hcell'⟩ := HUC.out (by omega)
          obtain ⟨hcj, hr1, hr2⟩ := hcell' j hjk
          obtain ⟨x, hx⟩ : ∃ x, K[j] = x := ⟨_, rfl⟩
          have hcx : wr.cell? ⟨b', off' + j, none⟩ = some (.int .i64 x) := by rw [← hx]; exact (hb.cell (p := ⟨b', off' + j, none⟩) hB').trans hcj
          have hkx : (kidsOf ns)[i][j]'(by rw [HG5.out]; exact hjk) = x := by
            rw [← hx]
            simp only [HG5.out]
          have hltji : (j : Int) < (kl : Int) := by omega
          have hj0 : (0 : Int) ≤ (j : Int) := by omega
          have HX := hid hx
          have HKX := hid hkx
          clear hcell' hcj hx hb hkx
          by_cases hneg : x < 0
          · have HF := hid (treeB_false (not_tree_at hikk (by rw [HG5.out]; exact hjk) (by rw [HKX.out]; omega)))
            go_wp2
            go_ret
            exact ⟨by rw [HF.out]; rfl, HB2.out⟩
          obtain ⟨m, rfl⟩ : ∃ m : Nat, x = (m : Int) := ⟨x.toNat, by omega⟩
          by_cases hbig : i ≤ m
          · have HF := hid (treeB_false (not_tree_at hikk (by rw [HG5.out]; exact hjk) (by rw [HKX.out]; omega)))
            have hbigi : (i : Int) ≤ (m : Int) := by omega
            go_wp2
            go_ret
            exact ⟨by rw [HF.out]; rfl, HB2.out⟩
          have hbigi : ¬ (i : Int) ≤ (m : Int) := by omega
          have hmn : m < n := by omega
          have hm0 : (0 : Int) ≤ (m : Int) := by omega
          have hm1 : (m : Int) < (n : Int) := by omega
          have hcm := cell_row HG2.out (useds_get (procd (kidsOf ns) i j) hmn)
          have hzm : wr.frozen? ⟨w.heap.size + 1, m, none⟩ = false := frozen_of_row wr _ _ _ _ HG2.out
          by_cases hmem : (m : Int) ∈ procd (kidsOf ns) i j
          · rw [decide_eq_true hmem] at hcm
            have HF := hid (treeB_false (not_tree_dup hikk (by rw [HG5.out]; exact hjk) (by rw [HKX.out]; omega) (by rw [HKX.out]; exact hmem)))
            clear hmem
            go_wp2
            go_ret
            exact ⟨by rw [HF.out]; rfl, HB2.out⟩
          · rw [decide_eq_false hmem] at hcm
            have HMEM := hid hmem
            have hwj : IntKind.i64.wrap ((j : Int) + 1) = (j : Int) + 1 := IntWalk.i64_in _ (by omega)
            clear hmem
            go_wp2
            go_roundw
            case rel =>
              have hst := procd_step (kidsOf ns) i j hikk (by rw [HG5.out]; exact hjk)
              rw [HKX.out] at hst
              refine ⟨j + 1, by omega, by go_num, (Below.heap_setCell _ ⟨w.heap.size + 1, m, none⟩ _ w.heap.size (by show w.heap.size ≠ w.heap.size + 1; omega)).trans HXB2.out, ?_, HB2.out.setCell (p := ⟨w.heap.size + 1, m, none⟩) (Nat.le_succ _) _, ?_, ?_⟩
              · rw [hst, ← useds_set _ hmn]
                exact set_row HG2.out
              · intro q hq hqj
                rcases Nat.lt_or_ge q j with h | h
                · exact HJN.out q hq h
                · obtain rfl : q = j := by omega
                  rw [HX.out]
                  omega
              · rw [hst, List.nodup_append]
                refine ⟨HND2.out, by simp, fun x hx y hy e => ?_⟩
                simp only [List.mem_singleton] at hy
                exact HMEM.out (by rw [← hy, ← e]; exact hx)
            case measure => simp [intOf]; omega
        · obtain rfl : j = kl := by omega
          have hwi : IntKind.i64.wrap ((i : Int) + 1) = (i : Int) + 1 := IntWalk.i64_in _ (by omega)
          clear hb
          go_wp2
          go_roundw
          case rel =>
            have hnx := procd_next (kidsOf ns) i hikk
            rw [show ((kidsOf ns)[i]).length = j by rw [HG5.out, HKL.out]] at hnx
            refine ⟨i + 1, by omega, by go_num, HXB2.out, by rw [hnx]; exact HG2.out, HB2.out, ?_, by rw [hnx]; exact HND2.out⟩
            intro m hm hmi k hk
            rcases Nat.lt_or_ge m i with h | h
            · exact HIN.out m hm h k hk
            · obtain rfl : m = i := by omega
              rw [HG5.out] at hk
              obtain ⟨q, hq, rfl⟩ := List.mem_iff_getElem.1 hk
              exact HJN.out q hq (by rw [← HKL.out]; exact hq)
          case measure => simp [intOf]; omega
    · obtain rfl : i = n := by omega
      have hall : procd (kidsOf ns) i 0 = (kidsOf ns).flatten := by rw [← HKN.out]; exact procd_all _
      rw [hall] at hg hnd
      have HG := hid hg
      have HBL := hid hb
      have HIN := hid hin
      have HND := hid hnd
      clear hg hb hin hlt hall hnd hx
      obtain ⟨wo, hwo⟩ : ∃ wo : World, wo = wr := ⟨_, rfl⟩
      rw [← hwo] at HG HBL cx HXB ⊢
      clear hwo wr
      go_wp2
      go_loopw [7] (fun mv wr => ∃ m : Nat, m + 1 ≤ i ∧ mv = .int .i64 (m : Int) ∧ wr = wo ∧ (∀ q : Nat, q < m → (q : Int) ∈ (kidsOf ns).flatten)) (fun mv _ => i - (intOf mv).toNat)
      case atStart => exact ⟨0, by omega, rfl, rfl, fun q h => absurd h (by omega)⟩
      case round =>
        obtain ⟨m, hm, rfl, rfl, hq⟩ := hrel
        have HQ := hid hq
        have hwm : IntKind.i64.wrap ((m : Int) + 1) = (m : Int) + 1 := IntWalk.i64_in _ (by omega)
        clear hq
        by_cases hltm : m + 1 < i
        · have hl1 : (m : Int) + 1 < (i : Int) := by omega
          have hm0 : (0 : Int) ≤ (m : Int) := by omega
          have hm1 : (m : Int) < (i : Int) := by omega
          have hcm := cell_row HG.out (useds_get (kidsOf ns).flatten (show m < i by omega))
          by_cases hmem : (m : Int) ∈ (kidsOf ns).flatten
          · rw [decide_eq_true hmem] at hcm
            have HMEM := hid hmem
            clear hmem
            go_wp2
            go_roundw
            case rel =>
              refine ⟨m + 1, by omega, by go_num, by simp, fun q h1 => ?_⟩
              rcases Nat.lt_or_ge q m with h | h
              · exact HQ.out q h
              · obtain rfl : q = m := by omega
                exact HMEM.out
            case measure => simp [intOf]; omega
          · rw [decide_eq_false hmem] at hcm
            have HF := hid (treeB_false (tree_not_all (by rw [HKN.out]; exact hltm) hmem))
            clear hmem
            go_wp2
            go_ret
            exact ⟨by rw [HF.out]; rfl, HBL.out⟩
        · have hl1 : ¬ (m : Int) + 1 < (i : Int) := by omega
          have HF := hid (treeB_true (tree_all (ks := kidsOf ns) (by rw [HKN.out]; omega) (by rw [HKN.out]; exact HIN.out) HND.out (fun q hq => HQ.out q (by rw [HKN.out] at hq; omega))))
          go_wp2
          go_ret
          exact ⟨by rw [HF.out]; rfl, HBL.out⟩
end Go.Proofs.YtomcoilmpkpoeaaGreatDoor
