/-
  What is proved here: whether lists of kids are a tree, and the size of a pattern, in impl. No condition but that the nodes lie in memory, and sizes.
-/
import Derived.Test.YtomcoilmpkpoeaaGreatDoorQA
import Derived.Test.YtomcoilmpkpoeaaGreatDoorQRxI5
namespace Go.Proofs.YtomcoilmpkpoeaaGreatDoor
open Go.RowKit
set_option linter.unusedVariables false
set_option linter.unusedSimpArgs false

theorem rdRow {α : Type} [Rd α] {S : Nat → Prop} {w : World} {v : Value} {xs : List α} (h : Rd.rd S w [v] xs) : ∃ a cap, v = .slice a xs.length cap ∧ xs.length ≤ cap ∧ cap ≤ 9223372036854775807 ∧
    (0 < xs.length → ∃ b off, a = some ⟨b, off, none⟩ ∧ S b ∧ ∀ i (hi : i < xs.length), ∃ cs : List Value, (∀ j, j < Rd.n α → w.cell? ⟨b, off + i * Rd.n α + j, none⟩ = cs[j]?) ∧ Rd.rd S w cs xs[i]) := by
  obtain ⟨a, cap, hv, h1, h2, h3⟩ := h
  simp only [List.cons.injEq, and_true] at hv
  exact ⟨a, cap, hv, h1, h2, fun hp => let ⟨b, off, e, hr⟩ := h3 hp; ⟨b, off, e, hr.1, hr.2⟩⟩
theorem rdInts {S : Nat → Prop} {w : World} {v : Value} {xs : List Int} (h : Rd.rd S w [v] xs) : ∃ a cap, v = .slice a xs.length cap ∧ xs.length ≤ cap ∧ cap ≤ 9223372036854775807 ∧
    (0 < xs.length → ∃ b off, a = some ⟨b, off, none⟩ ∧ S b ∧ ∀ i (hi : i < xs.length), w.cell? ⟨b, off + i, none⟩ = some (.int .i64 xs[i]) ∧ -9223372036854775808 ≤ xs[i] ∧ xs[i] ≤ 9223372036854775807) := by
  obtain ⟨a, cap, hv, h1, h2, h3⟩ := rdRow h
  refine ⟨a, cap, hv, h1, h2, fun hp => ?_⟩
  obtain ⟨b, off, e, hS, hr⟩ := h3 hp
  refine ⟨b, off, e, hS, fun i hi => ?_⟩
  obtain ⟨cs, hc, hcs, hb⟩ := hr i hi
  have := hc 0 (by decide)
  subst hcs
  exact ⟨by simpa [Rd.n] using this, hb⟩
theorem rdRows {S : Nat → Prop} {w : World} {v : Value} {ks : List (List Int)} (h : Rd.rd S w [v] ks) : ∃ a cap, v = .slice a ks.length cap ∧ ks.length ≤ cap ∧ cap ≤ 9223372036854775807 ∧
    (0 < ks.length → ∃ b off, a = some ⟨b, off, none⟩ ∧ S b ∧ ∀ i (hi : i < ks.length), ∃ u, w.cell? ⟨b, off + i, none⟩ = some u ∧ Rd.rd S w [u] ks[i]) := by
  obtain ⟨a, cap, hv, h1, h2, h3⟩ := rdRow h
  refine ⟨a, cap, hv, h1, h2, fun hp => ?_⟩
  obtain ⟨b, off, e, hS, hr⟩ := h3 hp
  refine ⟨b, off, e, hS, fun i hi => ?_⟩
  obtain ⟨cs, hc, hcs⟩ := hr i hi
  obtain ⟨a', c', hcs', _⟩ := id hcs
  have := hc 0 (by decide)
  subst hcs'
  exact ⟨_, by simpa [Rd.n] using this, hcs⟩
theorem toList_inb {xs : List Value} {m : Nat} {v : Value} : xs.toArray.setIfInBounds m v = (xs.set m v).toArray := by simp
theorem cell_row {w : World} {b m : Nat} {xs : List Value} {t : TypeId} {fr : Nat × Nat} {v : Value} (h : w.heap[b]? = some (.cells xs.toArray t fr)) (hv : xs[m]? = some v) : w.cell? ⟨b, m, none⟩ = some v := by
  rw [cell_of_block h]; exact hv
theorem set_row {w : World} {b m : Nat} {xs : List Value} {t : TypeId} {v : Value} (h : w.heap[b]? = some (.cells xs.toArray t (0, 0))) : (w.setCell ⟨b, m, none⟩ v).heap[b]? = some (.cells (xs.set m v).toArray t (0, 0)) := by
  rw [← toList_inb]
  exact heap_setCell_same w b m _ _ v h
theorem made_ints (w : World) (n : Nat) (e : TypeId) : (w.alloc (.cells (madeCells #[.int .i64 0] n) e)).heap[w.heap.size]? = some (.cells (cnts n []).toArray e (0, 0)) := by
  rw [cnts_nil, ← toList_madeCells1]
  exact heap_alloc_new w _
set_option maxHeartbeats 16000000 in
set_option maxRecDepth 100000 in
theorem implIsTree {v : Value} {ks : List (List Int)} (w : World) (h : Rd.rd (Old w) w [v] ks) (hn : ks.length ≤ 2000000) (hf : ks.flatten.length ≤ 1000000000000) :
    Calls Tryz.prog 149 #[v] w fun e w' => e = .returned (.bool (treeB ks)) ∧ Below w.heap.size w w' := by
  obtain ⟨a, cap, rfl, h1, h2, hc⟩ := rdRows h
  obtain ⟨n, hnn⟩ : ∃ n, ks.length = n := ⟨_, rfl⟩
  have HNN := hid hnn
  have HC := hid hc
  have HFL := hid (procd_len ks)
  rw [hnn] at hn h1 ⊢
  clear hc h
  have hmk := run_make_row' (P := Tryz.prog) 78 3 _ 8 Tryz.underlying78 info_int rfl .i64 .i64 n (by omega) (by omega)
  clear hnn
  go_enter Tryz.func149, Tryz.ntmps149
  go_wp2
  clear hmk
  go_loopw [15] (fun iv wr => ∃ i : Nat, i ≤ n ∧ iv = .int .i64 (i : Int) ∧ wr.heap[w.heap.size]? = some (.cells (cnts n (procd ks i 0)).toArray 3 (0, 0)) ∧ Below w.heap.size w wr ∧ inBf ks i) (fun iv _ => n - (intOf iv).toNat)
  case atStart => exact ⟨0, Nat.zero_le _, rfl, by rw [procd_zero]; exact made_ints _ _ _, ext_alloc _ _, fun m _ h => absurd h (by omega)⟩
  case round =>
    obtain ⟨i, hi, rfl, hg, hb, hin⟩ := hrel
    by_cases hlt : i < n
    · have hik : i < ks.length := by rw [HNN.out]; exact hlt
      obtain ⟨b, off, rfl, hB, hcell⟩ := HC.out (by omega)
      obtain ⟨u, hu, hrd⟩ := hcell i hik
      obtain ⟨ua, uc, rfl, hu1, hu2, huc⟩ := rdInts hrd
      have hce : wr.cell? ⟨b, off + i, none⟩ = some (.slice ua ks[i].length uc) := (hb.cell (p := ⟨b, off + i, none⟩) hB).trans hu
      obtain ⟨kl, hkl⟩ : ∃ k, ks[i].length = k := ⟨_, rfl⟩
      rw [hkl] at hce hu1
      have HKL := hid hkl
      have HUC := hid huc
      have HG := hid hg
      have HBL := hid hb
      have HIN := hid hin
      have hlti : (i : Int) < (n : Int) := by omega
      have hw1 : IntKind.i64.wrap ((i : Int) - 1) = (i : Int) - 1 := IntWalk.i64_in _ (by omega)
      obtain ⟨wo, hwo⟩ : ∃ wo : World, wo = wr := ⟨_, rfl⟩
      rw [← hwo] at hce HG HBL ⊢
      clear hg hb hin hcell hu hrd huc hkl hwo wr
      go_wp2
      clear hce
      go_loopw [22] (fun jv wr => ∃ j : Nat, j ≤ kl ∧ jv = .int .i64 (j : Int) ∧ wr.heap[w.heap.size]? = some (.cells (cnts n (procd ks i j)).toArray 3 (0, 0)) ∧ Below w.heap.size w wr ∧ (∀ q (hq : q < ks[i].length), q < j → 0 ≤ ks[i][q] ∧ ks[i][q] < (i : Int))) (fun jv _ => kl - (intOf jv).toNat)
      case atStart => exact ⟨0, Nat.zero_le _, rfl, HG.out, HBL.out, fun q _ h => absurd h (by omega)⟩
      case round =>
        obtain ⟨j, hj, rfl, hg, hb, hjn⟩ := hrel
        by_cases hltj : j < kl
        · have hjk : j < ks[i].length := by rw [HKL.out]; exact hltj
          obtain ⟨b', off', rfl, hB', hcell'⟩ := HUC.out (by omega)
          obtain ⟨hcj, hr1, hr2⟩ := hcell' j hjk
          obtain ⟨x, hx⟩ : ∃ x, ks[i][j] = x := ⟨_, rfl⟩
          have hcx : wr.cell? ⟨b', off' + j, none⟩ = some (.int .i64 x) := by rw [← hx]; exact (hb.cell (p := ⟨b', off' + j, none⟩) hB').trans hcj
          have hltji : (j : Int) < (kl : Int) := by omega
          have HX := hid hx
          have HG2 := hid hg
          have HB2 := hid hb
          have HJN := hid hjn
          have HCX := hid hcx
          clear hg hb hjn hcell' hcj hx
          by_cases hin : 0 ≤ x ∧ x ≤ (i : Int) - 1
          · obtain ⟨m, rfl⟩ : ∃ m : Nat, x = (m : Int) := ⟨x.toNat, by omega⟩
            have hmn : m < n := by omega
            have hm0 : (0 : Int) ≤ (m : Int) := by omega
            have hm1 : (m : Int) < (n : Int) := by omega
            have hcm := cell_row HG2.out (cnts_get (procd ks i j) hmn)
            have hzm : wr.frozen? ⟨w.heap.size, m, none⟩ = false := frozen_of_row wr w.heap.size _ _ _ HG2.out
            obtain ⟨c, hcc⟩ : ∃ c, (procd ks i j).count (m : Int) = c := ⟨_, rfl⟩
            have hcl : c ≤ 1000000000000 := by rw [← hcc]; exact Nat.le_trans (Nat.le_trans List.count_le_length (HFL.out i j)) hf
            rw [hcc] at hcm
            have HCC := hid hcc
            have hwc : IntKind.i64.wrap ((c : Int) + 1) = (c : Int) + 1 := IntWalk.i64_in _ (by omega)
            have hinb := inB_true hin
            clear hcc
            go_wp2_with fail
            refine (within_any (m : Int) 0 ((i : Int) - 1) wr).mono ?_
            rintro e w5 ⟨rfl, rfl⟩
            rw [hinb]
            go_wp2
            go_roundw
            case rel =>
              refine ⟨j + 1, by omega, by go_num, ?_, HB2.out.setCell (Nat.le_refl _) _, ?_⟩
              · rw [procd_step ks i j hik hjk, HX.out, ← cnts_set _ hmn, HCC.out]
                exact set_row HG2.out
              · intro q hq hqj
                rcases Nat.lt_or_ge q j with h | h
                · exact HJN.out q hq h
                · obtain rfl : q = j := by omega
                  rw [HX.out]
                  exact ⟨hin.1, by omega⟩
            case measure => simp [intOf]; omega
          · have hinb := inB_false hin
            have HF := hid (treeB_false (not_tree_at hik hjk (by rw [HX.out]; omega)))
            go_wp2_with fail
            refine (within_any x 0 ((i : Int) - 1) wr).mono ?_
            rintro e w5 ⟨rfl, rfl⟩
            rw [hinb]
            go_wp2
            go_ret
            exact ⟨by rw [HF.out]; rfl, HB2.out⟩
        · obtain rfl : j = kl := by omega
          have HG2 := hid hg
          have HB2 := hid hb
          have HJN := hid hjn
          clear hg hb hjn
          have hwi : IntKind.i64.wrap ((i : Int) + 1) = (i : Int) + 1 := IntWalk.i64_in _ (by omega)
          go_wp2
          go_roundw
          case rel =>
            refine ⟨i + 1, by omega, by go_num, ?_, HB2.out, ?_⟩
            · rw [procd_next ks i hik, HKL.out]; exact HG2.out
            · intro m hm hmi k hk
              rcases Nat.lt_or_ge m i with h | h
              · exact HIN.out m hm h k hk
              · obtain rfl : m = i := by omega
                obtain ⟨q, hq, rfl⟩ := List.mem_iff_getElem.1 hk
                exact HJN.out q hq (by rw [← HKL.out]; exact hq)
          case measure => simp [intOf]; omega
    · obtain rfl : i = n := by omega
      have hall : procd ks i 0 = ks.flatten := by rw [← HNN.out]; exact procd_all ks
      rw [hall] at hg
      have HG := hid hg
      have HBL := hid hb
      have HIN := hid hin
      clear hg hb hin hlt hall
      obtain ⟨wo, hwo⟩ : ∃ wo : World, wo = wr := ⟨_, rfl⟩
      rw [← hwo] at HG HBL ⊢
      clear hwo wr
      go_wp2
      go_loopw [41] (fun mv wr => ∃ m : Nat, m ≤ i ∧ mv = .int .i64 (m : Int) ∧ wr = wo ∧ (∀ q, q < m → q + 1 < i → ks.flatten.count (q : Int) = 1)) (fun mv _ => i - (intOf mv).toNat)
      case atStart => exact ⟨0, Nat.zero_le _, rfl, rfl, fun q h => absurd h (by omega)⟩
      case round =>
        obtain ⟨m, hm, rfl, rfl, hq⟩ := hrel
        have HQ := hid hq
        clear hq
        by_cases hltm : m < i
        · have hltmi : (m : Int) < (i : Int) := by omega
          have hm0 : (0 : Int) ≤ (m : Int) := by omega
          have hcm := cell_row HG.out (cnts_get ks.flatten hltm)
          obtain ⟨c, hcc⟩ : ∃ c, ks.flatten.count (m : Int) = c := ⟨_, rfl⟩
          rw [hcc] at hcm
          have HCC := hid hcc
          have hwm : IntKind.i64.wrap ((m : Int) + 1) = (m : Int) + 1 := IntWalk.i64_in _ (by omega)
          have hwn : IntKind.i64.wrap ((i : Int) - 1) = (i : Int) - 1 := IntWalk.i64_in _ (by omega)
          clear hcc
          by_cases hlast : m + 1 < i
          · have hl1 : (m : Int) < (i : Int) - 1 := by omega
            by_cases hc1 : c = 1
            · subst hc1
              go_wp2
              go_roundw
              case rel =>
                refine ⟨m + 1, by omega, by go_num, by simp, fun q h1 h2 => ?_⟩
                rcases Nat.lt_or_ge q m with h | h
                · exact HQ.out q h h2
                · obtain rfl : q = m := by omega
                  exact HCC.out
              case measure => simp [intOf]; omega
            · have hce : ((c : Int) == 1) = false := by rw [beq_eq_false_iff_ne]; omega
              have hce2 : ¬ (c : Int) = 1 := by omega
              have hce3 : ((c : Int) != 1) = true := by rw [bne_iff_ne]; omega
              have HF := hid (treeB_false (ks := ks) (fun ht => hc1 (by rw [← HCC.out]; exact ht.2.2 m (by rw [HNN.out]; exact hlast))))
              go_wp2
              go_ret
              exact ⟨by rw [HF.out]; rfl, HBL.out⟩
          · have hl1 : ¬ (m : Int) < (i : Int) - 1 := by omega
            go_wp2
            go_roundw
            case rel =>
              refine ⟨m + 1, by omega, by go_num, by simp, fun q h1 h2 => ?_⟩
              exact HQ.out q (by omega) h2
            case measure => simp [intOf]; omega
        · obtain rfl : m = i := by omega
          by_cases h0 : 0 < m
          · have HF := hid (treeB_true (ks := ks) ⟨by rw [HNN.out]; exact h0, fun q hq k hk => HIN.out q hq (by rw [HNN.out] at hq; exact hq) k hk, fun q hq => HQ.out q (by rw [HNN.out] at hq; omega) (by rw [HNN.out] at hq; exact hq)⟩)
            have h0i : (0 : Int) < (m : Int) := by omega
            go_wp2
            go_ret
            exact ⟨by rw [HF.out]; simp <;> omega, HBL.out⟩
          · have HF := hid (treeB_false (ks := ks) (fun ht => h0 (by have := ht.1; rw [HNN.out] at this; exact this)))
            have h0i : ¬ (0 : Int) < (m : Int) := by omega
            go_wp2
            go_ret
            exact ⟨by rw [HF.out]; simp <;> omega, HBL.out⟩
theorem rdNode {S : Nat → Prop} {w : World} {cs : List Value} {x : RxNode} (h : Rd.rd S w cs x) : ∃ us uk, cs = [.int .i64 x.kind, .int .i64 x.lo, .int .i64 x.hi, .bool x.neg, us, uk] ∧ (-9223372036854775808 ≤ x.kind ∧ x.kind ≤ 9223372036854775807) ∧ (-9223372036854775808 ≤ x.lo ∧ x.lo ≤ 9223372036854775807) ∧ (-9223372036854775808 ≤ x.hi ∧ x.hi ≤ 9223372036854775807) ∧ Rd.rd S w [us] x.set ∧ Rd.rd S w [uk] x.kids := by
  obtain ⟨c1, r1, rfl, ⟨rfl, h1⟩, c2, r2, rfl, ⟨rfl, h2⟩, c3, r3, rfl, ⟨rfl, h3⟩, c4, r4, rfl, h4, c5, c6, rfl, h5, h6⟩ := h
  obtain rfl : c4 = [.bool x.neg] := h4
  obtain ⟨a5, k5, rfl, h5'⟩ := id h5
  obtain ⟨a6, k6, rfl, h6'⟩ := id h6
  exact ⟨_, _, rfl, h1, h2, h3, h5, h6⟩
theorem rdNodes {S : Nat → Prop} {w : World} {v : Value} {ns : List RxNode} (h : Rd.rd S w [v] ns) : ∃ a cap, v = .slice a ns.length cap ∧ ns.length ≤ cap ∧ cap ≤ 9223372036854775807 ∧
    (0 < ns.length → ∃ b off, a = some ⟨b, off, none⟩ ∧ S b ∧ ∀ i (hi : i < ns.length), ∃ us uk, (w.cell? ⟨b, off + i * 6, none⟩ = some (.int .i64 ns[i].kind) ∧ w.cell? ⟨b, off + i * 6 + 1, none⟩ = some (.int .i64 ns[i].lo) ∧ w.cell? ⟨b, off + i * 6 + 2, none⟩ = some (.int .i64 ns[i].hi)
      ∧ w.cell? ⟨b, off + i * 6 + 3, none⟩ = some (.bool ns[i].neg) ∧ w.cell? ⟨b, off + i * 6 + 4, none⟩ = some us ∧ w.cell? ⟨b, off + i * 6 + 5, none⟩ = some uk) ∧ ((-9223372036854775808 ≤ ns[i].kind ∧ ns[i].kind ≤ 9223372036854775807) ∧ (-9223372036854775808 ≤ ns[i].lo ∧ ns[i].lo ≤ 9223372036854775807) ∧ (-9223372036854775808 ≤ ns[i].hi ∧ ns[i].hi ≤ 9223372036854775807)) ∧ Rd.rd S w [us] ns[i].set ∧ Rd.rd S w [uk] ns[i].kids) := by
  obtain ⟨a, cap, hv, h1, h2, h3⟩ := rdRow h
  refine ⟨a, cap, hv, h1, h2, fun hp => ?_⟩
  obtain ⟨b, off, e, hS, hr⟩ := h3 hp
  refine ⟨b, off, e, hS, fun i hi => ?_⟩
  obtain ⟨cs, hc, hcs⟩ := hr i hi
  obtain ⟨us, uk, rfl, g1, g2, g3, g4, g5⟩ := rdNode hcs
  exact ⟨us, uk, ⟨hc 0 (by decide), hc 1 (by decide), hc 2 (by decide), hc 3 (by decide), hc 4 (by decide), hc 5 (by decide)⟩, ⟨g1, g2, g3⟩, g4, g5⟩
theorem info_intsR : (Tryz.prog.info? 78).map (fun i => (i.zero, i.size, i.bytes)) = some (some (.slice none 0 0), 1, 24) := by kernel_rfl
theorem kidsOf_get {ns : List RxNode} {i : Nat} (h : i < ns.length) : (kidsOf ns)[i]'(by simpa [kidsOf] using h) = ns[i].kids := by simp [kidsOf]
set_option maxHeartbeats 16000000 in
set_option maxRecDepth 100000 in
theorem implIsRxTree {v : Value} {ns : List RxNode} (w : World) (h : Rd.rd (Old w) w [v] ns) (hn : ns.length ≤ 2000000) (hf : (kidsOf ns).flatten.length ≤ 1000000000000) :
    Calls Tryz.prog 119 #[.agg #[v]] w fun e w' => e = .returned (.bool (treeB (kidsOf ns))) ∧ Below w.heap.size w w' := by
  obtain ⟨a, cap, rfl, h1, h2, hc⟩ := rdNodes h
  obtain ⟨n, hnn⟩ : ∃ n, ns.length = n := ⟨_, rfl⟩
  have HNN := hid hnn
  have hkn : (kidsOf ns).length = n := by simp [kidsOf, hnn]
  have HKN := hid hkn
  have HC := hid hc
  rw [hnn] at hn h1 ⊢
  clear hc h hkn
  have hmk := run_make_row' (P := Tryz.prog) 149 78 _ 24 Tryz.underlying149 info_intsR rfl .i64 .i64 n (by omega) (by omega)
  clear hnn
  go_enter Tryz.func119, Tryz.ntmps119
  go_wp2
  clear hmk
  go_loopw [13] (fun iv wr => ∃ (i : Nat) (css : List (List Value)), i ≤ n ∧ iv = .int .i64 (i : Int) ∧ wr.heap[w.heap.size + 1]? = some (.cells (css.flatten ++ List.replicate (n - i) (Value.slice none 0 0)).toArray 78 (0, 0)) ∧ Below w.heap.size w wr ∧ Each (Old w) w css ((kidsOf ns).take i)) (fun iv _ => n - (intOf iv).toNat)
  case atStart => exact ⟨0, [], Nat.zero_le _, rfl, by have := fill_made (w.alloc (Obj.cells #[Value.slice a n cap] 29)) (Value.slice none 0 0) n 78; simpa using this, (ext_alloc _ _).trans ((ext_alloc _ _).mono (by simp)), Each.nil⟩
  case round =>
    obtain ⟨i, css, hi, rfl, hg, hb, he⟩ := hrel
    by_cases hlt : i < n
    · have hik : i < ns.length := by rw [HNN.out]; exact hlt
      obtain ⟨b, off, rfl, hB, hcell⟩ := HC.out (by omega)
      obtain ⟨us, uk, ⟨d0, d1, d2, d3, d4, d5⟩, _, hrs, hrk⟩ := hcell i hik
      obtain ⟨sa, sc, rfl, _⟩ := rdInts hrs
      obtain ⟨ka, kc, rfl, _⟩ := rdInts hrk
      have hbc := fun o => hb.cell (p := ⟨b, o, none⟩) hB
      have e0 := (hbc _).trans d0
      have e1 := (hbc _).trans d1
      have e2 := (hbc _).trans d2
      have e3 := (hbc _).trans d3
      have e4 := (hbc _).trans d4
      have e5 := (hbc _).trans d5
      have hcl := each_take he (by rw [HKN.out]; exact hi)
      have hold := fill_old hg he.len hcl hlt
      have hfr : wr.frozen? ⟨w.heap.size + 1, i, none⟩ = false := frozen_of_row wr _ _ _ _ hg
      have hlti : (i : Int) < (n : Int) := by omega
      have hi0 : (0 : Int) ≤ (i : Int) := by omega
      have hsz : w.heap.size + 1 < wr.heap.size := (Array.getElem?_eq_some_iff.1 hg).1
      have hne : ¬ wr.heap.size = w.heap.size + 1 := by omega
      have hne2 : ¬ w.heap.size + 1 = wr.heap.size := by omega
      have HG := hid hg
      have HE := hid he
      have HB := hid hb
      have HCL := hid hcl
      have HRK := hid hrk
      clear hcell hbc d0 d1 d2 d3 d4 d5 hg he hcl hb hrk
      go_wp2
      go_roundw
      case rel =>
        refine ⟨i + 1, css ++ [[.slice ka ns[i].kids.length kc]], by omega, by go_num, ?_, ?_, ?_⟩
        · exact (heap_alloc_old _ _ (by simp; omega)).trans (fill_set HG.out HE.out.len HCL.out hlt)
        · exact (HB.out.setCell (p := ⟨w.heap.size + 1, i, none⟩) (Nat.le_succ _) _).alloc (by simp; omega) _
        · exact each_next HE.out (by rw [HKN.out]; exact hlt) (by rw [kidsOf_get hik]; exact HRK.out)
      case measure => simp [intOf]; omega
    · obtain rfl : i = n := by omega
      rw [List.take_of_length_le (by rw [HKN.out]; exact Nat.le_refl _)] at he
      rw [Nat.sub_self] at hg
      have hrd := rd_of_block (S := Old wr) (xs := kidsOf ns) (cap := i) hg ((he.same (fun b hb' => hb.block b hb')).mono (T := Old wr) (fun b hb' => Nat.lt_of_lt_of_le hb' hb.size)) (Array.getElem?_eq_some_iff.1 hg).1 (by rw [HKN.out]; exact Nat.le_refl _) (by omega)
      rw [HKN.out] at hrd
      have CT := hid (implIsTree wr hrd (by rw [HKN.out]; omega) hf)
      have HB := hid hb
      clear hg he hb hrd hlt
      go_wp2_with fail
      refine CT.out.mono ?_
      rintro e w5 ⟨rfl, hb5⟩
      go_wp2
      go_ret
      exact ⟨rfl, HB.out.trans (hb5.mono HB.out.size)⟩
/-- the sizes so far, and zeros -/
def szRow (n : Nat) (S : List Nat) : List Value := (S.map fun s : Nat => Value.int .i64 (s : Int)) ++ List.replicate (n - S.length) (Value.int .i64 0)
theorem szRow_get {n m : Nat} {S : List Nat} (h : m < S.length) : (szRow n S)[m]? = some (.int .i64 ((S.getD m 0 : Nat) : Int)) := by
  unfold szRow
  rw [List.getElem?_append_left (by simpa using h), List.getElem?_map, List.getElem?_eq_getElem h, List.getD_eq_getElem?_getD, List.getElem?_eq_getElem h]
  rfl
theorem szRow_zero {n : Nat} {S : List Nat} (h : S.length < n) : (szRow n S)[S.length]? = some (.int .i64 0) := by
  unfold szRow
  rw [List.getElem?_append_right (by simp), List.getElem?_replicate, if_pos (by simp; omega)]
theorem szRow_set {n : Nat} {S : List Nat} (x : Nat) (h : S.length < n) : (szRow n S).set S.length (.int .i64 (x : Int)) = szRow n (S ++ [x]) := by
  unfold szRow
  rw [List.set_append_right _ _ (by simp)]
  simp only [List.length_map, Nat.sub_self, List.map_append, List.length_append, List.length_singleton, List.append_assoc]
  obtain ⟨m, hm⟩ : ∃ m, n - S.length = m + 1 := ⟨n - S.length - 1, by omega⟩
  rw [hm, List.replicate_succ, List.set_cons_zero, show n - (S.length + 1) = m by omega]
  rfl
theorem szRow_nil (n : Nat) : szRow n [] = cnts n [] := by
  rw [cnts_nil]; rfl
theorem sizesL_getD (ns : List RxNode) {m : Nat} (h : m < ns.length) : 1 ≤ (sizesL ns).getD m 0 ∧ (sizesL ns).getD m 0 ≤ 100000 := by
  have hl : m < (sizesL ns).length := by rw [sizesL_len]; exact h
  rw [List.getD_eq_getElem?_getD, List.getElem?_eq_getElem hl]
  exact sizesL_in ns _ (List.getElem_mem hl)
theorem tree_kid {ns : List RxNode} (h : treeOk (kidsOf ns)) {i j : Nat} (hi : i < ns.length) (hj : j < ns[i].kids.length) : 0 ≤ ns[i].kids[j] ∧ ns[i].kids[j] < (i : Int) := by
  have := h.2.1 i (by simpa [kidsOf] using hi) ns[i].kids[j] (by rw [kidsOf_get hi]; exact List.getElem_mem hj)
  exact this
theorem cap_if (t : Nat) : (if 1 + (t : Int) < 100000 then 1 + (t : Int) else 100000) = ((min 100000 (1 + t) : Nat) : Int) := by
  split <;> omega
theorem max3 (lo hi : Int) : (if (if (if 1 < lo then lo else 1) < hi then hi else if 1 < lo then lo else 1) < 100000 then if (if 1 < lo then lo else 1) < hi then hi else if 1 < lo then lo else 1 else 100000) = ((min 100000 (max 1 (max lo hi)).toNat : Nat) : Int) := by
  split <;> split <;> split <;> omega
set_option maxHeartbeats 16000000 in
set_option maxRecDepth 100000 in
theorem implRxSize {v : Value} {ns : List RxNode} (w : World) (h : Rd.rd (Old w) w [v] ns) (hn : ns.length ≤ 2000000) (hf : (kidsOf ns).flatten.length ≤ 1000000000000) :
    Calls Tryz.prog 79 #[.agg #[v]] w fun e w' => e = .returned (.int .i64 ((sizeOf' ns : Nat) : Int)) ∧ Below w.heap.size w w' := by
  obtain ⟨a, cap, rfl, h1, h2, hc⟩ := rdNodes h
  have CT := hid (implIsRxTree (w.alloc (.cells #[.slice a ns.length cap] 29)) (Rd.later (ext_alloc w _) h) hn hf)
  obtain ⟨n, hnn⟩ : ∃ n, ns.length = n := ⟨_, rfl⟩
  have HNN := hid hnn
  have HC := hid hc
  have HBX := hid (show (w.alloc (.cells #[.slice a ns.length cap] 29)).cell? ⟨w.heap.size, 0, none⟩ = some (.slice a ns.length cap) from cell_of_row _ _ 0 _ _ _ (heap_alloc_new w _))
  rw [hnn] at hn h1 CT HBX ⊢
  clear hc h
  have hmk := run_make_row' (P := Tryz.prog) 78 3 _ 8 Tryz.underlying78 info_int rfl .i64 .i64 n (by omega) (by omega)
  have HMK := hid hmk
  clear hnn hmk
  go_enter Tryz.func79, Tryz.ntmps79
  go_wp2_with fail
  refine CT.out.mono ?_
  rintro e w1 ⟨rfl, hb1⟩
  have hB1 := (ext_alloc w (.cells #[.slice a n cap] 29)).trans (hb1.mono (ext_alloc w _).size)
  cases ht : treeB (kidsOf ns) with
  | false =>
    have HF := hid (show sizeOf' ns = 0 by unfold sizeOf'; rw [ht, if_neg (by decide)])
    clear ht
    go_wp2
    go_ret
    exact ⟨by rw [HF.out]; rfl, hB1⟩
  | true =>
    have HT := hid (treeB_iff.1 ht)
    have HF := hid (show sizeOf' ns = (sizesL ns).getLastD 0 by unfold sizeOf'; rw [ht, if_pos rfl])
    clear ht
    have hcb : w1.cell? ⟨w.heap.size, 0, none⟩ = some (.slice a n cap) := (hb1.cell (p := ⟨w.heap.size, 0, none⟩) (by simp)).trans HBX.out
    have hmk := HMK.out
    have hn0 : 0 < n := by have := HT.out.1; simp [kidsOf] at this; rw [← HNN.out]; exact this
    have HB1 := hid hB1
    have hs1 := hB1.size
    have hws : w.heap.size < w1.heap.size := by have := hb1.size; simp at this; omega
    have hwn : ¬ w.heap.size = w1.heap.size := by omega
    clear hB1 hb1
    go_wp2
    clear hmk
    go_loopw [19] (fun iv wr => ∃ i : Nat, i ≤ n ∧ iv = .int .i64 (i : Int) ∧ wr.heap[w1.heap.size]? = some (.cells (szRow n (sizesL (ns.take i))).toArray 3 (0, 0)) ∧ Below w1.heap.size w1 wr) (fun iv _ => n - (intOf iv).toNat)
    case atStart => exact ⟨0, Nat.zero_le _, rfl, by rw [List.take_zero]; show _ = some (Obj.cells (szRow n []).toArray _ _); rw [szRow_nil]; exact made_ints _ _ _, ext_alloc _ _⟩
    case round =>
      obtain ⟨i, hi, rfl, hg, hb⟩ := hrel
      by_cases hlt : i < n
      · have hik : i < ns.length := by rw [HNN.out]; exact hlt
        obtain ⟨b, off, rfl, hB, hcell⟩ := HC.out (by omega)
        obtain ⟨us, uk, ⟨d0, d1, d2, d3, d4, d5⟩, ⟨b0, b1, b2⟩, hrs, hrk⟩ := hcell i hik
        obtain ⟨sa, sc, rfl, _⟩ := rdInts hrs
        obtain ⟨ka, kc, rfl, hk1, hk2, hkc⟩ := rdInts hrk
        have hwr : Below w.heap.size w wr := HB1.out.trans (hb.mono hs1)
        have hbc := fun o => hwr.cell (p := ⟨b, o, none⟩) hB
        have e0 := (hbc _).trans d0
        have e1 := (hbc _).trans d1
        have e2 := (hbc _).trans d2
        have e3 := (hbc _).trans d3
        have e4 := (hbc _).trans d4
        have e5 := (hbc _).trans d5
        have hlti : (i : Int) < (n : Int) := by omega
        have hi0 : (0 : Int) ≤ (i : Int) := by omega
        have hsz : w1.heap.size < wr.heap.size := (Array.getElem?_eq_some_iff.1 hg).1
        have hsl : (sizesL (ns.take i)).length = i := by rw [sizesL_len, List.length_take]; omega
        obtain ⟨S, hS⟩ : ∃ S, sizesL (ns.take i) = S := ⟨_, rfl⟩
        have hSin : ∀ m, m < i → 1 ≤ S.getD m 0 ∧ S.getD m 0 ≤ 100000 := fun m hm => by rw [← hS]; exact sizesL_getD _ (by rw [List.length_take]; omega)
        rw [hS] at hg hsl
        obtain ⟨N, hN⟩ : ∃ N, ns[i] = N := ⟨_, rfl⟩
        have HTK := hid (fun j (hj : j < ns[i].kids.length) => tree_kid HT.out hik hj)
        rw [hN] at e0 e1 e2 e3 e4 e5 b0 b1 b2 hkc HTK
        rw [hN] at hk1
        obtain ⟨kl, hkl⟩ : ∃ k, N.kids.length = k := ⟨_, rfl⟩
        rw [hkl] at e5 hk1
        have HKL := hid hkl
        have HN := hid hN
        have HS := hid hS
        have HSL := hid hsl
        have HSI := hid hSin
        have HG := hid hg
        have HBL := hid hb
        have HKC := hid hkc
        obtain ⟨wo, hwo⟩ : ∃ wo : World, wo = wr := ⟨_, rfl⟩
        rw [← hwo] at e0 e1 e2 e3 e4 e5 HG HBL hsz hwr ⊢
        have HWR := hid hwr
        clear hcell hbc d0 d1 d2 d3 d4 d5 hg hb hrs hrk hkc hkl hN hS hsl hSin hwo wr hwr
        go_wp2
        clear e0 e1 e2 e3 e4 e5
        go_loopw [6, 27] (fun sv jv wr => ∃ j : Nat, j ≤ kl ∧ jv = .int .i64 (j : Int) ∧ sv = .int .i64 ((min 100000 (sumK N S j) : Nat) : Int) ∧ wr = wo.alloc (.cells #[.int .i64 N.kind, .int .i64 N.lo, .int .i64 N.hi, .bool N.neg, .slice sa N.set.length sc, .slice ka kl kc] 82)) (fun _ jv _ => kl - (intOf jv).toNat)
        case atStart => exact ⟨0, Nat.zero_le _, rfl, by rw [sumK_zero]; rfl, rfl⟩
        case round =>
          obtain ⟨j, hj, rfl, rfl, rfl⟩ := hrel
          by_cases hltj : j < kl
          · have hjk : j < N.kids.length := by rw [HKL.out]; exact hltj
            obtain ⟨b', off', rfl, hB', hcell'⟩ := HKC.out (by omega)
            obtain ⟨hcj, _, _⟩ := hcell' j hjk
            have htk := HTK.out j hjk
            have hst := sumK_step N S j hjk
            obtain ⟨x, hx⟩ : ∃ x, N.kids[j] = x := ⟨_, rfl⟩
            rw [hx] at hcj htk hst
            obtain ⟨m, rfl⟩ : ∃ m : Nat, x = (m : Int) := ⟨x.toNat, by omega⟩
            have hmi : m < i := by omega
            have hcw : wo.cell? ⟨b', off' + j, none⟩ = some (.int .i64 (m : Int)) := (HWR.out.cell (p := ⟨b', off' + j, none⟩) hB').trans hcj
            have hbs : b' < wo.heap.size := Nat.lt_of_lt_of_le hB' HWR.out.size
            have hcw2 : (wo.alloc (.cells #[.int .i64 N.kind, .int .i64 N.lo, .int .i64 N.hi, .bool N.neg, .slice sa N.set.length sc, .slice (some ⟨b', off', none⟩) kl kc] 82)).cell? ⟨b', off' + j, none⟩ = some (.int .i64 (m : Int)) := ((ext_alloc wo _).cell (p := ⟨b', off' + j, none⟩) hbs).trans hcw
            have hszc := cell_row HG.out (szRow_get (m := m) (by rw [HSL.out]; exact hmi))
            obtain ⟨z, hz⟩ : ∃ z, S.getD m 0 = z := ⟨_, rfl⟩
            have hzb := HSI.out m hmi
            rw [Int.toNat_natCast, hz] at hst
            rw [hz] at hszc hzb
            have hszc2 : (wo.alloc (.cells #[.int .i64 N.kind, .int .i64 N.lo, .int .i64 N.hi, .bool N.neg, .slice sa N.set.length sc, .slice (some ⟨b', off', none⟩) kl kc] 82)).cell? ⟨w1.heap.size, m, none⟩ = some (.int .i64 (z : Int)) := ((ext_alloc wo _).cell (p := ⟨w1.heap.size, m, none⟩) hsz).trans hszc
            have hm0 : (0 : Int) ≤ (m : Int) := by omega
            have hm1 : (m : Int) < (n : Int) := by omega
            have hltji : (j : Int) < (kl : Int) := by omega
            obtain ⟨q, hq⟩ : ∃ q, sumK N S j = q := ⟨_, rfl⟩
            rw [hq] at hst ⊢
            obtain ⟨p, hp⟩ : ∃ p, min 100000 q = p := ⟨_, rfl⟩
            have hpl : p ≤ 100000 := by omega
            rw [hp]
            have HST := hid hst
            have HP := hid hp
            have hwp : IntKind.i64.wrap ((p : Int) + (z : Int)) = (p : Int) + (z : Int) := IntWalk.i64_in _ (by omega)
            have hmin : (min 100000 ((p : Int) + (z : Int))) = ((min 100000 (p + z) : Nat) : Int) := by omega
            clear hcell' hcj hx hcw hszc hz hq hst hp
            go_wp2
            go_roundw
            case rel => exact ⟨j + 1, by omega, by go_num, by rw [HST.out]; exact congrArg (Value.int .i64) (by have := HP.out; omega), by simp⟩
            case measure => simp [intOf]; omega
          · obtain rfl : j = kl := by omega
            have hold := cell_row HG.out (show (szRow n S)[i]? = _ by rw [← HSL.out]; exact szRow_zero (by rw [HSL.out]; exact hlt))
            have hfr : wo.frozen? ⟨w1.heap.size, i, none⟩ = false := frozen_of_row wo _ _ _ _ HG.out
            have hne : ¬ wo.heap.size = w1.heap.size := by omega
            have hne2 : ¬ w1.heap.size = wo.heap.size := by omega
            obtain ⟨q, hq⟩ : ∃ q, sumK N S j = q := ⟨_, rfl⟩
            rw [hq]
            obtain ⟨p, hp⟩ : ∃ p, min 100000 q = p := ⟨_, rfl⟩
            have hpl : p ≤ 100000 := by omega
            rw [hp]
            have HP := hid hp
            have HQ := hid hq
            clear hp hq
            have HNEW := hid (show sizesL (ns.take (i + 1)) = S ++ [szAt N S] by rw [sizesL_take ns i hik, HS.out, HN.out])
            have HSET := hid (fun x : Nat => show (wo.setCell ⟨w1.heap.size, i, none⟩ (.int .i64 (x : Int))).heap[w1.heap.size]? = some (.cells (szRow n (S ++ [x])).toArray 3 (0, 0)) by
              have h9 := szRow_set (n := n) (S := S) x (by rw [HSL.out]; exact hlt)
              rw [HSL.out] at h9
              rw [← h9]
              exact set_row HG.out)
            by_cases h9 : N.kind = 9
            · rw [h9]
              obtain ⟨lo, hlo⟩ : ∃ x, N.lo = x := ⟨_, rfl⟩
              obtain ⟨hi9, hhi⟩ : ∃ x, N.hi = x := ⟨_, rfl⟩
              rw [hlo, hhi]
              go_wp2
              go_roundw
              case rel =>
                refine ⟨i + 1, by omega, by go_num, ?_, (HBL.out.setCell (p := ⟨w1.heap.size, i, none⟩) (Nat.le_refl _) _).alloc (by simp; omega) _⟩
                have hof : often N = (max 1 (max lo hi9)).toNat := by unfold often; rw [if_pos h9, hlo, hhi]
                rw [max3, ← hof]
                obtain ⟨c, hc⟩ : ∃ c, min 100000 (often N) = c := ⟨_, rfl⟩
                have hc1 : c ≤ 100000 := by omega
                have hpc := Nat.mul_le_mul hpl hc1
                have e1 : wrap64 ((p : Int) * (c : Int)) = ((p * c : Nat) : Int) := by
                  rw [← Int.natCast_mul]
                  obtain ⟨t, ht⟩ : ∃ t, p * c = t := ⟨_, rfl⟩
                  rw [ht] at hpc ⊢
                  exact IntWalk.wrap64_in _ (by omega)
                obtain ⟨t, ht⟩ : ∃ t, p * c = t := ⟨_, rfl⟩
                rw [ht] at e1 hpc
                have ht9 : t ≤ 10000000000 := by omega
                clear hpc
                have e2 : wrap64 (1 + (t : Int)) = 1 + (t : Int) := IntWalk.wrap64_in _ (by omega)
                rw [hc, e1, e2]
                have hx : (if 1 + (t : Int) < 100000 then 1 + (t : Int) else 100000) = ((szAt N S : Nat) : Int) := by
                  rw [szAt_eq, HKL.out, HQ.out, ← cap_mul q (often N) (by rw [hof]; omega), HP.out, hc, ht]
                  exact cap_if t
                have h9 := HSET.out (szAt N S)
                rw [← hx, ← HNEW.out] at h9
                exact (heap_alloc_old _ _ (by simp; omega)).trans h9
              case measure => simp [intOf]; omega
            · have g9 : (N.kind == 9) = false := by rw [beq_eq_false_iff_ne]; exact h9
              have hwp : IntKind.i64.wrap (1 + (p : Int)) = 1 + (p : Int) := IntWalk.i64_in _ (by omega)
              have hx : (if 1 + (p : Int) < 100000 then 1 + (p : Int) else 100000) = ((szAt N S : Nat) : Int) := by
                rw [szAt_eq, HKL.out, HQ.out]
                unfold often
                rw [if_neg h9, ← cap_one, HP.out]
                omega
              have HX := hid hx
              clear hx
              go_wp2
              go_roundw
              case rel => exact ⟨i + 1, by omega, by go_num, by
                have h9 := HSET.out (szAt N S)
                rw [← HX.out, ← HNEW.out] at h9
                exact (heap_alloc_old _ _ (by simp; omega)).trans h9, (HBL.out.setCell (p := ⟨w1.heap.size, i, none⟩) (Nat.le_refl _) _).alloc (by simp; omega) _⟩
              case measure => simp [intOf]; omega
      · obtain rfl : i = n := by omega
        rw [List.take_of_length_le (by rw [HNN.out]; exact Nat.le_refl _)] at hg
        have hlast := cell_row hg (szRow_get (m := i - 1) (by rw [sizesL_len, HNN.out]; omega))
        have hF := HF.out
        rw [List.getLastD_eq_getLast?, List.getLast?_eq_getElem?, sizesL_len, HNN.out, ← List.getD_eq_getElem?_getD] at hF
        rw [← hF] at hlast
        have hwl : IntKind.i64.wrap ((i : Int) - 1) = (i : Int) - 1 := IntWalk.i64_in _ (by omega)
        obtain ⟨m, hm⟩ : ∃ m, i - 1 = m := ⟨_, rfl⟩
        rw [hm] at hlast
        have hmi : (i : Int) - 1 = (m : Int) := by omega
        have hm0 : (0 : Int) ≤ (m : Int) := by omega
        have hm1 : (m : Int) < (i : Int) := by omega
        have HB := hid hb
        clear hg hb hF hm hlt
        go_wp2
        go_ret
        exact ⟨rfl, HB1.out.trans (HB.out.mono hs1)⟩
end Go.Proofs.YtomcoilmpkpoeaaGreatDoor
