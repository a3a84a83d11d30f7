/-
  What is proved here: slices.Delete of one element of a fresh row of strings, of values: what the row holds then; all but its block stands. No condition.
-/
import Derived.Test.YtommldonooicjaaDoorRowLaw
import Derived.Shelf.RegionOpenPlain
namespace Go.Proofs.YtommldonooicjaaDoor
open Go.RowKit
set_option linter.unusedVariables false
set_option linter.unusedSimpArgs false

theorem heap_setCells {g : Nat} {t : TypeId} : ∀ (vs : List Value) (o : Nat) (w : World) (cur : Array Value), w.heap[g]? = some (.cells cur t (0, 0)) →
    ∃ cur', (w.setCells g o vs).heap[g]? = some (.cells cur' t (0, 0)) ∧ cur'.size = cur.size ∧ ∀ j, j < cur.size → cur'[j]? = if o ≤ j ∧ j < o + vs.length then vs[j - o]? else cur[j]?
  | [], o, w, cur, h => ⟨cur, h, rfl, fun j hj => by rw [if_neg (by simp only [List.length_nil]; omega)]⟩
  | v :: r, o, w, cur, h => by
    have h1 := heap_setCell_same w g o cur t v h
    obtain ⟨cur', h2, h3, h4⟩ := heap_setCells r (o + 1) _ _ h1
    refine ⟨cur', h2, by simpa using h3, fun j hj => ?_⟩
    rw [h4 j (by simpa using hj)]
    by_cases e : o = j
    · subst e
      rw [if_neg (by omega), if_pos (by simp), Nat.sub_self]
      rw [set_get, if_pos ⟨rfl, hj⟩]
      rfl
    · by_cases hin : o + 1 ≤ j ∧ j < o + 1 + r.length
      · rw [if_pos hin, if_pos (by simp; omega)]
        rw [show j - o = (j - (o + 1)) + 1 by omega]
        rfl
      · rw [if_neg hin, if_neg (by simp; omega), set_get, if_neg (by omega)]
theorem Off.setCells {g : Nat} {w : World} : ∀ (vs : List Value) (o : Nat) {w1 : World}, Off g w w1 → Off g w (w1.setCells g o vs)
  | [], _, _, h => h
  | v :: r, o, _, h => Off.setCells r (o + 1) (h.set o v)
theorem run_clear_k {P : Program} (w : World) (t e ty : TypeId) (z : Value) (m : Nat) (ht : P.underlying t = some (.slice e)) (hv : ∀ w, (zeroValue e).run P w = .ok z w) (hz : z.cells.size = m) (h1 : ∀ u ∈ z.cells.toList, u.oneCell' = true) (b o n c : Nat) (hn : 0 < n) (hm : 0 < m)
    (hc : ∀ j, j < n * m → (w.cell? ⟨b, o + j, none⟩).isSome = true) (hf : ∀ j, j < n * m → w.frozen? ⟨b, o + j, none⟩ = false) :
    ∃ zl : List Value, zl.length = n * m ∧ (Builtin.clear_ #[t] ty #[.slice (some ⟨b, o, none⟩) n c]).run P w = .ok (.tuple #[]) (w.setCells b o zl) := by
  have hlen : (Builtin.zeroCells z.cells n).toList.length = n * m := by simp [Builtin.zeroCells, hz]
  have hone : ∀ v ∈ (Builtin.zeroCells z.cells n).toList, v.oneCell' = true := by
    intro v hv'
    rw [Array.mem_toList_iff, Builtin.zeroCells, Array.mem_map] at hv'
    obtain ⟨i, _, rfl⟩ := hv'
    have hi : i % z.cells.size < z.cells.size := Nat.mod_lt _ (by omega)
    rw [getElem!_pos z.cells _ hi]
    exact h1 _ (by simp)
  have hst := run_storeCells_cells (P := P) b o (Builtin.zeroCells z.cells n).toList 0 w (by simpa [hlen] using hc) (by simpa [hlen] using hf) hone
  simp only [Nat.add_zero] at hst
  refine ⟨_, hlen, ?_⟩
  obtain ⟨q, rfl⟩ : ∃ q, n = q + 1 := ⟨n - 1, by omega⟩
  simp [Builtin.clear_, run_underlying ht, hv, hst]

theorem infoS : (Tryd.prog.info? 9).map (fun i => (i.zero, i.size, i.bytes)) = some (some (.string ⟨#[]⟩), 1, 16) := by kernel_rfl
theorem infoV : (Tryd.prog.info? 31).map (fun i => (i.zero, i.size, i.bytes)) = some (some (.agg #[.int .i64 0, .bool false, .string ⟨#[]⟩, .int .i64 0, .string ⟨#[]⟩]), 5, 56) := by kernel_rfl

set_option maxHeartbeats 8000000 in
set_option maxRecDepth 1000000 in
theorem delVals (B g n cap k j : Nat) (xs : List Value) (w : World) (hown : w.ownsRow B 31 5 (.slice (some ⟨g, 0, none⟩) n cap) n xs) (hk : k < n) (hj : j = k + 1) (hone : ∀ u ∈ xs, u.oneCell' = true) :
    Calls Tryd.prog 39 #[.slice (some ⟨g, 0, none⟩) n cap, .int .i64 (k : Int), .int .i64 (j : Int)] w fun e' w' => e' = .returned (.slice (some ⟨g, 0, none⟩) (n - 1) cap) ∧
      w'.ownsRow B 31 5 (.slice (some ⟨g, 0, none⟩) (n - 1) cap) (n - 1) (xs.take (k * 5) ++ xs.drop ((k + 1) * 5)) ∧ Off g w w' := by
  obtain ⟨i0, hi0, hz0, hz1, hz2⟩ := info_parts infoV
  obtain ⟨hxl, hor⟩ := hown
  rcases hor with ⟨h, _⟩ | ⟨g', cap', cur, hv, hB, hg, hnc, hcm, hcs, htake⟩
  · simp at h
  simp only [Value.slice.injEq, Option.some.injEq, Addr.mk.injEq, and_true] at hv
  obtain ⟨rfl, _, rfl⟩ := hv
  have hmul : ∀ a b : Nat, a ≤ b → a * 5 ≤ b * 5 := fun a b h => Nat.mul_le_mul_right _ h
  have hget : ∀ j, j < n * 5 → cur[j]? = xs[j]? := by
    intro j hj
    rw [← htake, List.getElem?_take, if_pos hj, Array.getElem?_toList]
  have hcellg : ∀ j, w.cell? ⟨g, j, none⟩ = cur[j]? := fun j => cell_arr hg
  obtain ⟨news, hnews⟩ : ∃ news, news = xs.drop ((k + 1) * 5) := ⟨_, rfl⟩
  have hnl : news.length = (n - j) * 5 := by rw [hj]; rw [hnews, List.length_drop, hxl, ← Nat.sub_mul]
  have hn1 := hmul (k + 1) n (by omega)
  have hn2 := hmul n cap hnc
  have hn3 := hmul k (k + 1) (by omega)
  have hn4 : (n - (k + 1)) * 5 + (k + 1) * 5 = n * 5 := by rw [← Nat.add_mul]; congr 1; omega
  have hn5 : (k + 1) * 5 = k * 5 + 5 := by rw [Nat.add_mul, Nat.one_mul]
  have hn6 : (n - 1) * 5 + 5 = n * 5 := by omega
  obtain ⟨A, hA, hsrc⟩ : ∃ A : Addr, (if cap = j then some (⟨g, 0, none⟩ : Addr) else some ⟨g, j * 5, none⟩) = some A ∧ Hid (∀ t u, news[t]? = some u → w.drew.cell? (A.add t) = some u) := by
    by_cases h : cap = j
    · refine ⟨⟨g, 0, none⟩, by simp [h], hid fun t u hu => ?_⟩
      have h0 : news.length = 0 := by rw [hnl]; have : n - j = 0 := by omega
                                      rw [this, Nat.zero_mul]
      rw [List.length_eq_zero_iff.1 h0] at hu
      simp at hu
    · refine ⟨⟨g, j * 5, none⟩, by simp [h], hid fun t u hu => ?_⟩
      have ht : t < news.length := (List.getElem?_eq_some_iff.1 hu).1
      rw [Addr.add_lit]
      show w.cell? _ = _
      rw [hj, hcellg, hget _ (by omega), ← hu, hnews, List.getElem?_drop]
  have s1 := hid hnl
  have s2 : Hid (∀ u ∈ news, u.oneCell' = true) := hid (fun u hu => hone u (by rw [hnews] at hu; exact List.mem_of_mem_drop hu))
  have s3 : Hid (∀ t, t < news.length → (w.drew.cell? ⟨g, 0 + k * 5 + t, none⟩).isSome = true ∧ w.drew.frozen? ⟨g, 0 + k * 5 + t, none⟩ = false) := hid (fun t ht => by
    refine ⟨?_, ?_⟩
    · show (w.cell? _).isSome = true
      rw [hcellg, Array.getElem?_eq_getElem (by omega)]
      rfl
    · show w.frozen? _ = false
      exact free_arr hg)
  obtain ⟨W1, hW1⟩ : ∃ W1, W1 = w.drew.setCells g (0 + k * 5) news := ⟨_, rfl⟩
  obtain ⟨cur1, c1, c2, c3⟩ := heap_setCells news (0 + k * 5) w.drew cur hg
  rw [← hW1] at c1
  have hO1 : Off g w W1 := by rw [hW1]; exact Off.setCells news _ ⟨rfl, rfl, rfl, Nat.le_refl _, fun _ _ _ => rfl⟩
  have hcl1 := run_clear_k (P := Tryd.prog) W1 25 31 0 (.agg #[.int .i64 0, .bool false, .string ⟨#[]⟩, .int .i64 0, .string ⟨#[]⟩]) 5 Tryd.underlying25 Tryd.zeroValue31 rfl (by decide) g ((k + (n - j)) * 5) (n - (k + (n - j))) (cap - (k + (n - j))) (by omega) (by decide)
    (fun t ht => by
      have e1 : k + (n - j) = n - 1 := by omega
      have e2 : n - (n - 1) = 1 := by omega
      rw [e1] at ht ⊢
      rw [e2] at ht
      have hlt : (n - 1) * 5 + t < cur1.size := by rw [c2]; omega
      rw [cell_arr c1, Array.getElem?_eq_getElem hlt]; rfl) (fun j hj => free_arr c1)
  obtain ⟨zl, hzl, hcl⟩ := hcl1
  have e1 : k + (n - j) = n - 1 := by omega
  have e2 : n - (n - 1) = 1 := by omega
  rw [e1, e2] at hzl
  have HC := hid hcl
  clear hcl
  obtain ⟨cur2, d1, d2, d3⟩ := heap_setCells zl ((n - 1) * 5) W1 cur1 c1
  have hO2 : Off g w (W1.setCells g ((n - 1) * 5) zl) := Off.setCells zl _ hO1
  have HD := hid d1
  have HF : Hid ((W1.setCells g ((n - 1) * 5) zl).ownsRow B 31 5 (.slice (some ⟨g, 0, none⟩) (n - 1) cap) (n - 1) (xs.take (k * 5) ++ xs.drop ((k + 1) * 5))) := by
    refine hid ⟨?_, Or.inr ⟨g, cap, cur2, rfl, hB, d1, by omega, hcm, by rw [d2, c2, hcs], ?_⟩⟩
    · rw [List.length_append, List.length_take, List.length_drop, hxl]; omega
    · apply List.ext_getElem?
      intro j
      rw [List.getElem?_take]
      by_cases hj : j < (n - 1) * 5
      · rw [if_pos hj, Array.getElem?_toList, d3 j (by rw [c2]; omega), if_neg (by omega), c3 j (by omega)]
        by_cases hjk : j < k * 5
        · rw [if_neg (by omega), List.getElem?_append_left (by rw [List.length_take]; omega), List.getElem?_take, if_pos hjk, hget j (by omega)]
        · rw [if_pos (by omega), List.getElem?_append_right (by rw [List.length_take]; omega), List.length_take, hnews]
          congr 1
          omega
      · rw [if_neg hj]
        symm
        apply List.getElem?_eq_none
        rw [List.length_append, List.length_take, List.length_drop, hxl]
        omega
  have HO := hid hO2
  have HW : Hid (W1 = w.drew.setCells g (0 + k * 5) news) := hid hW1
  have hlt : k < j := by omega
  have hic : k ≤ cap := by omega
  have hjc : j ≤ cap := by omega
  have hjn : j ≤ n := by omega
  have HL0 := hid e1
  have hcl := HC.out
  have hcn : ¬ cap = k + (n - j) := by omega
  have hpn : k + (n - j) ≤ n := by omega
  have hpc : k + (n - j) ≤ cap := by omega
  have HL := hid (show k + (n - j) = n - 1 by omega)
  have hroom : k + (n - j) ≤ cap := by omega
  clear hj hW1 hcellg hget c1 c2 c3 d1 d2 d3 hO1 hO2 hcs htake hg hnews hone hxl hmul hn1 hn2 hn3 hn4 hn5 hn6 hnl hzl hk hB hcm HD e1 e2 HC
  go_enter Tryd.func39, Tryd.ntmps39
  go_wp2_with fail
  have mixed : Tryd.prog.follows .mixedOrders = true := by kernel_rfl
  
  go_region_law (refine step_append_room rfl (.tmp 22) (.tmp 25) 25 rfl 31 i0 5 Tryd.underlying25 hi0 hz1 g 0 k cap (by first | rfl | simp [Act.eval, Act.put]) A (n - j) (cap - j) news (by simp [Act.eval, Act.put]) s1.out hsrc.out s2.out hroom s3.out ?_; rw [← HW.out])
  go_wp2
  go_ret
  rw [HL.out]
  exact ⟨rfl, HF.out, HO.out⟩
set_option maxHeartbeats 8000000 in
set_option maxRecDepth 1000000 in
theorem delStrs (B g n cap k j : Nat) (xs : List Value) (w : World) (hown : w.ownsRow B 9 1 (.slice (some ⟨g, 0, none⟩) n cap) n xs) (hk : k < n) (hj : j = k + 1) (hone : ∀ u ∈ xs, u.oneCell' = true) :
    Calls Tryd.prog 38 #[.slice (some ⟨g, 0, none⟩) n cap, .int .i64 (k : Int), .int .i64 (j : Int)] w fun e' w' => e' = .returned (.slice (some ⟨g, 0, none⟩) (n - 1) cap) ∧
      w'.ownsRow B 9 1 (.slice (some ⟨g, 0, none⟩) (n - 1) cap) (n - 1) (xs.take (k * 1) ++ xs.drop ((k + 1) * 1)) ∧ Off g w w' := by
  obtain ⟨i0, hi0, hz0, hz1, hz2⟩ := info_parts infoS
  obtain ⟨hxl, hor⟩ := hown
  rcases hor with ⟨h, _⟩ | ⟨g', cap', cur, hv, hB, hg, hnc, hcm, hcs, htake⟩
  · simp at h
  simp only [Value.slice.injEq, Option.some.injEq, Addr.mk.injEq, and_true] at hv
  obtain ⟨rfl, _, rfl⟩ := hv
  have hmul : ∀ a b : Nat, a ≤ b → a * 1 ≤ b * 1 := fun a b h => Nat.mul_le_mul_right _ h
  have hget : ∀ j, j < n * 1 → cur[j]? = xs[j]? := by
    intro j hj
    rw [← htake, List.getElem?_take, if_pos hj, Array.getElem?_toList]
  have hcellg : ∀ j, w.cell? ⟨g, j, none⟩ = cur[j]? := fun j => cell_arr hg
  obtain ⟨news, hnews⟩ : ∃ news, news = xs.drop ((k + 1) * 1) := ⟨_, rfl⟩
  have hnl : news.length = (n - j) * 1 := by rw [hj]; rw [hnews, List.length_drop, hxl, ← Nat.sub_mul]
  have hn1 := hmul (k + 1) n (by omega)
  have hn2 := hmul n cap hnc
  have hn3 := hmul k (k + 1) (by omega)
  have hn4 : (n - (k + 1)) * 1 + (k + 1) * 1 = n * 1 := by rw [← Nat.add_mul]; congr 1; omega
  have hn5 : (k + 1) * 1 = k * 1 + 1 := by rw [Nat.add_mul, Nat.one_mul]
  have hn6 : (n - 1) * 1 + 1 = n * 1 := by omega
  obtain ⟨A, hA, hsrc⟩ : ∃ A : Addr, (if cap = j then some (⟨g, 0, none⟩ : Addr) else some ⟨g, j, none⟩) = some A ∧ Hid (∀ t u, news[t]? = some u → w.drew.cell? (A.add t) = some u) := by
    by_cases h : cap = j
    · refine ⟨⟨g, 0, none⟩, by simp [h], hid fun t u hu => ?_⟩
      have h0 : news.length = 0 := by rw [hnl]; have : n - j = 0 := by omega
                                      rw [this, Nat.zero_mul]
      rw [List.length_eq_zero_iff.1 h0] at hu
      simp at hu
    · refine ⟨⟨g, j, none⟩, by simp [h], hid fun t u hu => ?_⟩
      have ht : t < news.length := (List.getElem?_eq_some_iff.1 hu).1
      rw [Addr.add_lit]
      show w.cell? _ = _
      rw [hj, hcellg, hget _ (by omega), ← hu, hnews, List.getElem?_drop, Nat.mul_one]
  have s1 := hid hnl
  have s2 : Hid (∀ u ∈ news, u.oneCell' = true) := hid (fun u hu => hone u (by rw [hnews] at hu; exact List.mem_of_mem_drop hu))
  have s3 : Hid (∀ t, t < news.length → (w.drew.cell? ⟨g, 0 + k * 1 + t, none⟩).isSome = true ∧ w.drew.frozen? ⟨g, 0 + k * 1 + t, none⟩ = false) := hid (fun t ht => by
    refine ⟨?_, ?_⟩
    · show (w.cell? _).isSome = true
      rw [hcellg, Array.getElem?_eq_getElem (by omega)]
      rfl
    · show w.frozen? _ = false
      exact free_arr hg)
  obtain ⟨W1, hW1⟩ : ∃ W1, W1 = w.drew.setCells g (0 + k * 1) news := ⟨_, rfl⟩
  obtain ⟨cur1, c1, c2, c3⟩ := heap_setCells news (0 + k * 1) w.drew cur hg
  rw [← hW1] at c1
  have hO1 : Off g w W1 := by rw [hW1]; exact Off.setCells news _ ⟨rfl, rfl, rfl, Nat.le_refl _, fun _ _ _ => rfl⟩
  have hcl1 := run_clear_k (P := Tryd.prog) W1 24 9 0 (.string ⟨#[]⟩) 1 Tryd.underlying24 Tryd.zeroValue9 rfl (by decide) g ((k + (n - j)) * 1) (n - (k + (n - j))) (cap - (k + (n - j))) (by omega) (by decide)
    (fun t ht => by
      have e1 : k + (n - j) = n - 1 := by omega
      have e2 : n - (n - 1) = 1 := by omega
      rw [e1] at ht ⊢
      rw [e2] at ht
      have hlt : (n - 1) * 1 + t < cur1.size := by rw [c2]; omega
      rw [cell_arr c1, Array.getElem?_eq_getElem hlt]; rfl) (fun j hj => free_arr c1)
  obtain ⟨zl, hzl, hcl⟩ := hcl1
  have e1 : k + (n - j) = n - 1 := by omega
  have e2 : n - (n - 1) = 1 := by omega
  rw [e1, e2] at hzl
  have HC := hid hcl
  clear hcl
  obtain ⟨cur2, d1, d2, d3⟩ := heap_setCells zl ((n - 1) * 1) W1 cur1 c1
  have hO2 : Off g w (W1.setCells g ((n - 1) * 1) zl) := Off.setCells zl _ hO1
  have HD := hid d1
  have HF : Hid ((W1.setCells g ((n - 1) * 1) zl).ownsRow B 9 1 (.slice (some ⟨g, 0, none⟩) (n - 1) cap) (n - 1) (xs.take (k * 1) ++ xs.drop ((k + 1) * 1))) := by
    refine hid ⟨?_, Or.inr ⟨g, cap, cur2, rfl, hB, d1, by omega, hcm, by rw [d2, c2, hcs], ?_⟩⟩
    · rw [List.length_append, List.length_take, List.length_drop, hxl]; omega
    · apply List.ext_getElem?
      intro j
      rw [List.getElem?_take]
      by_cases hj : j < (n - 1) * 1
      · rw [if_pos hj, Array.getElem?_toList, d3 j (by rw [c2]; omega), if_neg (by omega), c3 j (by omega)]
        by_cases hjk : j < k * 1
        · rw [if_neg (by omega), List.getElem?_append_left (by rw [List.length_take]; omega), List.getElem?_take, if_pos hjk, hget j (by omega)]
        · rw [if_pos (by omega), List.getElem?_append_right (by rw [List.length_take]; omega), List.length_take, hnews]
          congr 1
          omega
      · rw [if_neg hj]
        symm
        apply List.getElem?_eq_none
        rw [List.length_append, List.length_take, List.length_drop, hxl]
        omega
  have HO := hid hO2
  have HW : Hid (W1 = w.drew.setCells g (0 + k * 1) news) := hid hW1
  have hlt : k < j := by omega
  have hic : k ≤ cap := by omega
  have hjc : j ≤ cap := by omega
  have hjn : j ≤ n := by omega
  have HL0 := hid e1
  have hcl := HC.out
  simp only [Nat.mul_one] at hcl
  have hcn : ¬ cap = k + (n - j) := by omega
  have hpn : k + (n - j) ≤ n := by omega
  have hpc : k + (n - j) ≤ cap := by omega
  have HL := hid (show k + (n - j) = n - 1 by omega)
  have hroom : k + (n - j) ≤ cap := by omega
  clear hj hW1 hcellg hget c1 c2 c3 d1 d2 d3 hO1 hO2 hcs htake hg hnews hone hxl hmul hn1 hn2 hn3 hn4 hn5 hn6 hnl hzl hk hB hcm HD e1 e2 HC
  go_enter Tryd.func38, Tryd.ntmps38
  go_wp2_with fail
  have mixed : Tryd.prog.follows .mixedOrders = true := by kernel_rfl
  
  go_region_law (refine step_append_room rfl (.tmp 22) (.tmp 25) 24 rfl 9 i0 1 Tryd.underlying24 hi0 hz1 g 0 k cap (by first | rfl | simp [Act.eval, Act.put]) A (n - j) (cap - j) news (by simp [Act.eval, Act.put]) s1.out hsrc.out s2.out hroom s3.out ?_; rw [← HW.out])
  go_wp2
  go_ret
  rw [HL.out]
  have hf := HF.out
  have ho := HO.out
  rw [Nat.mul_one (n - 1)] at hf ho
  exact ⟨rfl, hf, ho⟩
end Go.Proofs.YtommldonooicjaaDoor
