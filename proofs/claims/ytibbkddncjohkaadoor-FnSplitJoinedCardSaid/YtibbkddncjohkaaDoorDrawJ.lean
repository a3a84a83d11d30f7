/-
  What is proved here: DrawJoined. No condition.
-/
import Derived.Test.YtibbkddncjohkaaDoorSjI
import Derived.Test.YtibbkddncjohkaaDoorCurAny
import Derived.Test.YtibbkddncjohkaaDoorDrw
import Derived.Deep.RegionHeld3
import Derived.Deep.AppendLies
import Derived.Deep.Cut
namespace Go.Proofs.YtibbkddncjohkaaDoor
open Go.RowKit
set_option linter.unusedVariables false
set_option linter.unusedSimpArgs false

theorem info_strJ : (Tryd.prog.info? 9).map (fun i => (i.zero, i.size, i.bytes)) = some (some (.string ⟨#[]⟩), 1, 16) := by kernel_rfl
theorem cell_oneJ (w : World) (u : Value) (e : TypeId) : ∀ j v, [u][j]? = some v → (w.alloc (.cells #[u] e)).cell? ((⟨w.heap.size, 0, none⟩ : Addr).add j) = some v := World.news_of_block (cs := #[u]) (heap_alloc_new w _)
theorem own_gj {w w' : World} {B p : Nat} {e : TypeId} {size n : Nat} {v : Value} {xs : List Value} (h : w.ownsRow B e size v n xs) (hg : w.grownBy w' (some p)) (hp : p < B) : w'.ownsRow B e size v n xs := by
  refine ⟨h.1, ?_⟩
  rcases h.2 with hn | ⟨b, cap, cur, rfl, h1, h2, h3⟩
  · exact Or.inl hn
  · exact Or.inr ⟨b, cap, cur, rfl, h1, (hg.block b (Array.getElem?_eq_some_iff.1 h2).1 (fun e => by have := Option.some.inj e; omega)).trans h2, h3⟩
theorem over_gj {a b c : World} {p R : Nat} (h : a.grownBy b (some p)) (k : Below R b c) (hR : a.heap.size ≤ R) : a.grownBy c (some p) :=
  ⟨k.os.trans h.os, k.tape.trans h.tape, k.output.trans h.output, Nat.le_trans h.size k.size, fun i hi hne => (k.block i (by omega)).trans (h.block i hi hne)⟩
theorem wpAnyH_rowJ {P : Program} {ops : Array Oper} {Q : Exit → Act → World → Prop} {md : Region.Mode} {S : World → Prop} {fuel : Nat} {listed : Array Bool} {a : Act} {w : World} {b : Nat} {o : Obj} (hc : w.heap[b]? = some o) (hS : S w)
    (h : (S w ∧ w.heap[b]? = some o) → wpAnyH P md ops Q (fun w' => S w' ∧ w'.heap[b]? = some o) fuel listed a w) : wpAnyH P md ops Q S fuel listed a w :=
  wpAnyH_weaken (fun _ h => h.1) (h ⟨hS, hc⟩)
theorem six_lit {a0 a1 a2 a3 a4 a5 : ByteArray} {r : Nat} (h : r < 6) : ∃ t, (#[.string a0, .string a1, .string a2, .string a3, .string a4, .string a5] : Array Value)[r]? = some (.string t) := by
  rcases (show r = 0 ∨ r = 1 ∨ r = 2 ∨ r = 3 ∨ r = 4 ∨ r = 5 by omega) with rfl | rfl | rfl | rfl | rfl | rfl
  · exact ⟨a0, rfl⟩
  · exact ⟨a1, rfl⟩
  · exact ⟨a2, rfl⟩
  · exact ⟨a3, rfl⟩
  · exact ⟨a4, rfl⟩
  · exact ⟨a5, rfl⟩
def DjRes (w w' : World) (e : Ending) : Prop := ∃ (v : Value) (t : ByteArray) (xs : List ByteArray), e = .returned (.tuple #[v, .string t]) ∧ Rd.rd (New w.heap.size w') w' [v] xs ∧ xs.length ≤ 7 ∧ Below w.heap.size w w'
set_option maxHeartbeats 16000000 in
set_option maxRecDepth 100000 in
theorem drawJoined {v : Value} {c : List UInt8} (w : World) (h : Rd.rd (Old w) w [v] c) (hn : c.length ≤ 1048576) :
    Calls Tryd.prog 8 #[v] w fun e w' => DjRes w w' e := by
  obtain ⟨iS, hiS, hs0, hs1, hs2⟩ := info_parts info_strJ
  obtain ⟨a, cap, rfl, h1, h2, hc⟩ := rdBytes h
  have CO := hid (curOpen (a := a) (cap := cap) w hn hc)
  clear hc h h1 h2
  go_enter Tryd.func8, Tryd.ntmps8
  go_wp2_with fail
  refine CO.out.mono ?_
  rintro e w1 ⟨rfl, hc1, hb1⟩
  have HB1 := hid hb1
  have HPB := hid (show w.heap.size < w1.heap.size from hc1.lt.2)
  have hr0 := own_none (w := w1) (Nat.le_refl _) 9
  have hga := grown_alloc (grown_refl w1 (some w.heap.size)) (.cells #[] 9)
  have hca := hc1.alloc (.cells #[] 9)
  have HR0 := hid hr0
  have HGA := hid hga
  have HCA := hid hca
  clear hr0 hga hca hc1 hb1 CO
  go_wp2_with fail
  refine (curSize 6 _ HCA.out (by omega) (by omega) (by omega)).mono ?_
  rintro e w2 ⟨r, rfl, hr, k2, hk2, hc2, hg2⟩
  have hr6 : r ≤ 6 := by omega
  have HR2 := hid (own_gj HR0.out hg2 HPB.out)
  have HC2 := hid hc2
  have HG2 := hid (grown_trans HGA.out hg2)
  clear hr hc2 hg2 HR0 HGA HCA
  go_wp2
  go_loopw [5, 6] (fun v i wr => ∃ (j k3 : Nat) (xs : List ByteArray), i = .int .i64 (j : Int) ∧ j ≤ 6 ∧ xs.length + j ≤ 6 ∧ (∀ s ∈ xs, s.size ≤ 2000) ∧ wr.ownsRow w1.heap.size 9 1 v xs.length (strCellsL xs) ∧ k3 + 10 * j ≤ 100 ∧ Cur w.heap.size wr w.heap.size k3 ∧ w1.grownBy wr (some w.heap.size)) (fun _ i _ => (intOf i).toNat)
  case atStart => exact ⟨r, k2, [], rfl, hr6, by simpa using hr6, (fun s hs => absurd hs (by simp)), HR2.out, by omega, HC2.out, HG2.out⟩
  case round =>
    obtain ⟨j, k3, xs, rfl, hj, hxj, hss, hown, hk3, hcu, hgr⟩ := hrel
    by_cases hz : (0 : Int) < (j : Int)
    · go_wp2_with fail
      refine (curWord 3 _ hcu (by omega) (by omega)).mono ?_
      rintro e w5 ⟨s, rfl, hs, k5, hk5, hc5, hg5⟩
      have hown5 := own_gj hown hg5 HPB.out
      have hg5' := grown_trans hgr hg5
      have hbase : w1.heap.size ≤ w5.heap.size := hg5'.size
      clear hown hgr hcu HR2 HC2 HG2
      obtain ⟨va, vc, rfl⟩ := own_slice hown5
      go_wp2_with ((at_builtin; refine wpList_append_lies _ rfl (.tmp 16) (.tmp 19) 26 rfl w1.heap.size 9 iS (.string ⟨#[]⟩) 1 16 Tryd.underlying26 hiS hs0 hs1 hs2 rfl (by decide) (.slice va xs.length vc) xs.length (strCellsL xs) rfl (hown5.alloc _) ⟨w5.heap.size, 0, none⟩ 1 1 [.string s] rfl rfl ?a1 ?a2 (by decide) ?a3 ?a4 ?a5 _ rfl ?_))
      try (case a1 => exact cell_oneJ _ _ _)
      case a2 => first | rfl | (intro u hu; simp at hu; subst hu; rfl)
      case a3 => unfold maxLen; omega
      case a4 => omega
      case a5 => first | exact Nat.le_trans hbase (by simp) | (simp; omega)
      intro g7 cap7 w7 hown7 hgrow7 hat7 hlt7
      have hvl := fun b (e : (Value.slice va xs.length vc).ownBlock = some b) => hown5.lt b e
      have hb7 : Below w1.heap.size w5 w7 := ((ext_alloc w5 (.cells #[.string s] 9)).mono hbase).grown hgrow7 (Nat.le_trans hbase (by simp)) (fun q hq => (hvl q hq).1)
      have HO := hid (show w7.ownsRow w1.heap.size 9 1 (.slice (some ⟨g7, 0, none⟩) (xs.length + 1) cap7) (xs ++ [s]).length (strCellsL (xs ++ [s])) by rw [List.length_append, strCellsL, List.map_append]; exact hown7)
      have HC := hid (hc5.keep (hb7.block w.heap.size HPB.out) (hb7.mono (Nat.le_of_lt HPB.out)))
      have HG := hid (over_gj hg5' hb7 (Nat.le_refl _))
      clear hown5 hown7 hgrow7 hat7 hlt7 hvl hb7
      go_wp2
      go_roundw
      case rel => exact ⟨j - 1, k5, xs ++ [s], by first | go_num | (congr 1; omega), by omega, by simp; omega, fun x hx => by
        rcases List.mem_append.1 hx with h | h
        · exact hss x h
        · rw [List.mem_singleton.1 h]; omega, HO.out, by omega, HC.out, HG.out⟩
      case measure => simp [intOf]; omega
    · have hx6 : xs.length ≤ 6 := by omega
      have hk100 : k3 ≤ 100 := by omega
      obtain ⟨va, vc, rfl⟩ := own_slice hown
      have HO := hid hown
      have HC := hid hcu
      have HG := hid hgr
      clear hown hcu hgr hxj hk3 HR2 HC2 HG2
      go_wp2_with fail
      refine (curOnce 8 _ HC.out (by omega) (by omega) (by omega)).mono ?_
      rintro e w5 ⟨b, rfl, k5, hk5, hc5, hg5⟩
      have hown5 := own_gj HO.out hg5 HPB.out
      have hg5' := grown_trans HG.out hg5
      have HO5 := hid hown5
      have HC5 := hid hc5
      have HG5 := hid hg5'
      clear HO HC HG hown5 hc5 hg5 hg5'
      go_upto_if 22 with fail
      go_cut [5] from 7 (fun v5 wx => ∃ (k6 : Nat) (xs : List ByteArray), k6 ≤ 200 ∧ xs.length ≤ 7 ∧ (∀ s ∈ xs, s.size ≤ 2000) ∧ wx.ownsRow w1.heap.size 9 1 v5 xs.length (strCellsL xs) ∧ Cur w.heap.size wx w.heap.size k6 ∧ w1.grownBy wx (some w.heap.size))
      case first =>
        cases b with
        | false =>
          go_wp2
          go_meet
          case rel => exact ⟨k5, xs, by omega, by omega, hss, HO5.out, HC5.out, HG5.out⟩
        | true =>
          go_wp2_with fail
          refine (curAny 3 _ HC5.out (by omega) (by omega)).mono ?_
          rintro e w9 ⟨s, rfl, hs, k9, hk9, hc9, hg9⟩
          obtain ⟨w5, rfl⟩ : ∃ y, y = w9 := ⟨_, rfl⟩
          have hown5 := own_gj HO5.out hg9 HPB.out
          have hg5' := grown_trans HG5.out hg9
          have hbase : w1.heap.size ≤ w5.heap.size := hg5'.size
          have hc5 := hc9
          clear HO5 HC5 HG5 hg9 hc9
          go_wp2_with ((at_builtin; refine wpList_append_lies _ rfl (.tmp 23) (.tmp 26) 26 rfl w1.heap.size 9 iS (.string ⟨#[]⟩) 1 16 Tryd.underlying26 hiS hs0 hs1 hs2 rfl (by decide) (.slice va xs.length vc) xs.length (strCellsL xs) rfl (hown5.alloc _) ⟨w5.heap.size, 0, none⟩ 1 1 [.string s] rfl rfl ?b1 ?b2 (by decide) ?b3 ?b4 ?b5 _ rfl ?_))
          try (case b1 => exact cell_oneJ _ _ _)
          case b2 => first | rfl | (intro u hu; simp at hu; subst hu; rfl)
          case b3 => unfold maxLen; omega
          case b4 => omega
          case b5 => first | exact Nat.le_trans hbase (by simp) | (simp; omega)
          intro g7 cap7 w7 hown7 hgrow7 hat7 hlt7
          have hvl := fun b (e : (Value.slice va xs.length vc).ownBlock = some b) => hown5.lt b e
          have hb7 : Below w1.heap.size w5 w7 := ((ext_alloc w5 (.cells #[.string s] 9)).mono hbase).grown hgrow7 (Nat.le_trans hbase (by simp)) (fun q hq => (hvl q hq).1)
          have HO := hid (show w7.ownsRow w1.heap.size 9 1 (.slice (some ⟨g7, 0, none⟩) (xs.length + 1) cap7) (xs ++ [s]).length (strCellsL (xs ++ [s])) by rw [List.length_append, strCellsL, List.map_append]; exact hown7)
          have HC := hid (hc5.keep (hb7.block w.heap.size HPB.out) (hb7.mono (Nat.le_of_lt HPB.out)))
          have HG := hid (over_gj hg5' hb7 (Nat.le_refl _))
          clear hown5 hown7 hgrow7 hat7 hlt7 hvl hb7
          go_wp2
          go_meet
          case rel => exact ⟨k9, xs ++ [s], by omega, by simp; omega, fun x hx => by
            rcases List.mem_append.1 hx with h | h
            · exact hss x h
            · rw [List.mem_singleton.1 h]; omega, HO.out, HC.out, HG.out⟩
      case rest =>
      clear hss hx6 HO5 HC5 HG5
      obtain ⟨k6, xs, hk6, hx7, hss, hown, hcu, hgr⟩ := hcut
      obtain ⟨va, vc, rfl⟩ := own_slice hown
      have HO7 := hid hown
      have HC7 := hid hcu
      have HG7 := hid hgr
      clear hown hcu hgr
      go_upto_region 9 with fail
      refine wp_region_held_drew (S := fun w' => True) (by kernel_rfl) ?_ (fun hHeld => ?_)
      · trivial
      refine wpAnyH_take (i := 0) (v := ?_) rfl (by kernel_rfl) (by kernel_rfl) (by kernel_rfl) (fun _ _ _ h => h) (Or.inl ⟨by rfl, ?_⟩) (by assumption) ?_
      rotate_left
      · (intro w' hSw; (try dsimp only at hSw); go_simp; try (with_reducible rfl))
      change wpAnyH _ _ _ _ _ _ _ (Act.put _ (some 28) _) _
      try simp only [Act.put, List.setIfInBounds_toArray, List.set_cons_zero, List.set_cons_succ]
      refine wpAnyH_take (i := 1) (v := ?_) rfl (by kernel_rfl) (by kernel_rfl) (by kernel_rfl) (fun _ _ _ h => h) (Or.inl ⟨by rfl, ?_⟩) (by assumption) ?_
      rotate_left
      · (intro w' hSw; (try dsimp only at hSw); go_simp; try (with_reducible rfl))
      change wpAnyH _ _ _ _ _ _ _ (Act.put _ (some 29) _) _
      try simp only [Act.put, List.setIfInBounds_toArray, List.set_cons_zero, List.set_cons_succ]
      refine wpAnyH_take (i := 4) (v := ?_) rfl (by kernel_rfl) (by kernel_rfl) (by kernel_rfl) (fun _ _ _ h => h) (Or.inl ⟨by rfl, ?_⟩) (by assumption) ?_
      rotate_left
      · (intro w' hSw; (try dsimp only at hSw); go_simp; try (with_reducible rfl))
      change wpAnyH _ _ _ _ _ _ _ (Act.put _ (some 32) _) _
      try simp only [Act.put, List.setIfInBounds_toArray, List.set_cons_zero, List.set_cons_succ]
      refine wpAnyH_ready (rs := [2]) (by kernel_rfl) (by simp) ?_
      refine AllReadyH.cons (i := 2) rfl (fun K hK => ?_) AllReadyH.nil
      simp only [List.getElem_toArray, List.getElem_cons_succ, List.getElem_cons_zero]
      rw [if_pos (by rfl)]
      go_simp
      (go_at_call 23; refine (curAny 1 _ (Cur.drew HC7.out) (by omega) (by omega)).mono ?_; rintro e w_2 ⟨sA, rfl, hsA, k_2, hk_2, hc_2, hg_2⟩; go_wp2_with fail)
      refine hK.out _ _ ?_ (fun hHeld => ?_)
      · first | trivial | ((try dsimp only); trivial)
      clear hK K
      try simp only [Act.put, List.setIfInBounds_toArray, List.set_cons_zero, List.set_cons_succ]
      refine wpAnyH_ready (rs := [3, 5]) (by kernel_rfl) (by simp) ?_
      refine AllReadyH.cons (i := 3) rfl (fun K hK => ?_) ?_
      · simp only [List.getElem_toArray, List.getElem_cons_succ, List.getElem_cons_zero]
        rw [if_pos (by rfl)]
        go_simp
        have hb_3 := (hc_2).lt.2
        refine hK.out _ _ ?_ (fun hHeld => ?_)
        · first | trivial | ((try dsimp only); trivial)
        clear hK K
        try simp only [Act.put, List.setIfInBounds_toArray, List.set_cons_zero, List.set_cons_succ]
        refine wpAnyH_rowJ (heap_alloc_new _ _) hHeld ?_
        intro hHeld
        refine wpAnyH_ready (rs := [5]) (by kernel_rfl) (by simp) ?_
        refine AllReadyH.cons (i := 5) rfl (fun K hK => ?_) AllReadyH.nil
        simp only [List.getElem_toArray, List.getElem_cons_succ, List.getElem_cons_zero]
        rw [if_pos (by rfl)]
        go_simp
        (go_at_call 24; refine (curPick 6 _ (Cur.alloc (hc_2) (.cells #[.string ⟨#[32]⟩, .string ⟨#[44]⟩, .string ⟨#[]⟩, .string ⟨#[97, 98]⟩, .string ⟨#[195, 169]⟩, .string sA] 9)) (by omega) (by omega)).mono ?_; rintro e w_5 ⟨r, rfl, hr, k_5, hk_5, hc_5, hg_5⟩; go_wp2_with fail)
        have hq_5 : (r : Int) < 6 := by omega
        have hz_5 : (0 : Int) ≤ (r : Int) := by omega
        obtain ⟨t, hT⟩ : ∃ t, (#[.string ⟨#[32]⟩, .string ⟨#[44]⟩, .string ⟨#[]⟩, .string ⟨#[97, 98]⟩, .string ⟨#[195, 169]⟩, .string sA] : Array Value)[r]? = some (.string t) := six_lit (by omega)
        refine hK.out _ _ ?_ (fun hHeld => ?_)
        · first | trivial | ((try dsimp only); exact ⟨trivial, (hg_5.block _ (Array.getElem?_eq_some_iff.1 hHeld.2).1 (fun e => absurd (Option.some.inj e) (Nat.ne_of_gt hb_3))).trans hHeld.2⟩)
        clear hK K
        try simp only [Act.put, List.setIfInBounds_toArray, List.set_cons_zero, List.set_cons_succ]
        refine wpAnyH_take (i := 6) (v := ?_) rfl (by kernel_rfl) (by kernel_rfl) (by kernel_rfl) (fun _ _ _ h => h) (Or.inl ⟨by rfl, ?_⟩) (by assumption) ?_
        rotate_left
        · (intro w' hSw; (try dsimp only at hSw); go_simp; try (with_reducible rfl))
        change wpAnyH _ _ _ _ _ _ _ (Act.put _ (some 34) _) _
        try simp only [Act.put, List.setIfInBounds_toArray, List.set_cons_zero, List.set_cons_succ]
        refine wpAnyH_take (i := 7) (v := ?_) rfl (by kernel_rfl) (by kernel_rfl) (by kernel_rfl) (fun _ _ _ h => h) (Or.inl ⟨by rfl, ?_⟩) (by assumption) ?_
        rotate_left
        · (intro w' hSw; (try dsimp only at hSw); have hcx := (cell_of_row _ _ r _ _ _ hSw.2).trans hT; (try simp only [World.size_alloc] at hcx); go_simp; try (with_reducible rfl))
        change wpAnyH _ _ _ _ _ _ _ (Act.put _ (some 35) _) _
        try simp only [Act.put, List.setIfInBounds_toArray, List.set_cons_zero, List.set_cons_succ]
        refine wpAnyH_take (i := 8) (v := ?_) rfl (by kernel_rfl) (by kernel_rfl) (by kernel_rfl) (fun _ _ _ h => h) (Or.inl ⟨by rfl, ?_⟩) (by assumption) ?_
        rotate_left
        · (intro w' hSw; (try dsimp only at hSw); go_simp; try (with_reducible rfl))
        change wpAnyH _ _ _ _ _ _ _ (Act.put _ (some 2) _) _
        try simp only [Act.put, List.setIfInBounds_toArray, List.set_cons_zero, List.set_cons_succ]
        refine wpAnyH_take (i := 9) (v := ?_) rfl (by kernel_rfl) (by kernel_rfl) (by kernel_rfl) (fun _ _ _ h => h) (Or.inl ⟨by rfl, ?_⟩) (by assumption) ?_
        rotate_left
        · (intro w' hSw; (try dsimp only at hSw); go_simp; try (with_reducible rfl))
        change wpAnyH _ _ _ _ _ _ _ (Act.put _ (some 3) _) _
        try simp only [Act.put, List.setIfInBounds_toArray, List.set_cons_zero, List.set_cons_succ]
        refine wpAnyH_done (by kernel_rfl) ?_ _
        have HF := hid (own_gj (World.ownsRow.alloc (own_gj (HO7.out.drew) hg_2 HPB.out) (.cells #[.string ⟨#[32]⟩, .string ⟨#[44]⟩, .string ⟨#[]⟩, .string ⟨#[97, 98]⟩, .string ⟨#[195, 169]⟩, .string sA] 9)) hg_5 HPB.out)
        have HG := hid (grown_trans (grown_alloc (grown_trans (grown_drew HG7.out) hg_2) (.cells #[.string ⟨#[32]⟩, .string ⟨#[44]⟩, .string ⟨#[]⟩, .string ⟨#[97, 98]⟩, .string ⟨#[195, 169]⟩, .string sA] 9)) hg_5)
        go_wp2
        go_ret2
        exact ⟨_, t, xs, rfl, Rd.mono (fun b hb => ⟨Nat.le_trans HB1.out.size hb.1, hb.2⟩) (own_strsN HF.out (fun s hs => Nat.le_trans (hss s hs) (by decide))), by omega, drawn_below HB1.out HG.out⟩
      refine AllReadyH.cons (i := 5) rfl (fun K hK => ?_) ?_
      · simp only [List.getElem_toArray, List.getElem_cons_succ, List.getElem_cons_zero]
        rw [if_pos (by rfl)]
        go_simp
        (go_at_call 24; refine (curPick 6 _ (hc_2) (by omega) (by omega)).mono ?_; rintro e w_5 ⟨r, rfl, hr, k_5, hk_5, hc_5, hg_5⟩; go_wp2_with fail)
        have hq_5 : (r : Int) < 6 := by omega
        have hz_5 : (0 : Int) ≤ (r : Int) := by omega
        obtain ⟨t, hT⟩ : ∃ t, (#[.string ⟨#[32]⟩, .string ⟨#[44]⟩, .string ⟨#[]⟩, .string ⟨#[97, 98]⟩, .string ⟨#[195, 169]⟩, .string sA] : Array Value)[r]? = some (.string t) := six_lit (by omega)
        refine hK.out _ _ ?_ (fun hHeld => ?_)
        · first | trivial | ((try dsimp only); trivial)
        clear hK K
        try simp only [Act.put, List.setIfInBounds_toArray, List.set_cons_zero, List.set_cons_succ]
        refine wpAnyH_take (i := 8) (v := ?_) rfl (by kernel_rfl) (by kernel_rfl) (by kernel_rfl) (fun _ _ _ h => h) (Or.inl ⟨by rfl, ?_⟩) (by assumption) ?_
        rotate_left
        · (intro w' hSw; (try dsimp only at hSw); go_simp; try (with_reducible rfl))
        change wpAnyH _ _ _ _ _ _ _ (Act.put _ (some 2) _) _
        try simp only [Act.put, List.setIfInBounds_toArray, List.set_cons_zero, List.set_cons_succ]
        refine wpAnyH_ready (rs := [3]) (by kernel_rfl) (by simp) ?_
        refine AllReadyH.cons (i := 3) rfl (fun K hK => ?_) AllReadyH.nil
        simp only [List.getElem_toArray, List.getElem_cons_succ, List.getElem_cons_zero]
        rw [if_pos (by rfl)]
        go_simp
        have hb_3 := (hc_5).lt.2
        refine hK.out _ _ ?_ (fun hHeld => ?_)
        · first | trivial | ((try dsimp only); trivial)
        clear hK K
        try simp only [Act.put, List.setIfInBounds_toArray, List.set_cons_zero, List.set_cons_succ]
        refine wpAnyH_rowJ (heap_alloc_new _ _) hHeld ?_
        intro hHeld
        refine wpAnyH_take (i := 6) (v := ?_) rfl (by kernel_rfl) (by kernel_rfl) (by kernel_rfl) (fun _ _ _ h => h) (Or.inl ⟨by rfl, ?_⟩) (by assumption) ?_
        rotate_left
        · (intro w' hSw; (try dsimp only at hSw); go_simp; try (with_reducible rfl))
        change wpAnyH _ _ _ _ _ _ _ (Act.put _ (some 34) _) _
        try simp only [Act.put, List.setIfInBounds_toArray, List.set_cons_zero, List.set_cons_succ]
        refine wpAnyH_take (i := 7) (v := ?_) rfl (by kernel_rfl) (by kernel_rfl) (by kernel_rfl) (fun _ _ _ h => h) (Or.inl ⟨by rfl, ?_⟩) (by assumption) ?_
        rotate_left
        · (intro w' hSw; (try dsimp only at hSw); have hcx := (cell_of_row _ _ r _ _ _ hSw.2).trans hT; (try simp only [World.size_alloc] at hcx); go_simp; try (with_reducible rfl))
        change wpAnyH _ _ _ _ _ _ _ (Act.put _ (some 35) _) _
        try simp only [Act.put, List.setIfInBounds_toArray, List.set_cons_zero, List.set_cons_succ]
        refine wpAnyH_take (i := 9) (v := ?_) rfl (by kernel_rfl) (by kernel_rfl) (by kernel_rfl) (fun _ _ _ h => h) (Or.inl ⟨by rfl, ?_⟩) (by assumption) ?_
        rotate_left
        · (intro w' hSw; (try dsimp only at hSw); go_simp; try (with_reducible rfl))
        change wpAnyH _ _ _ _ _ _ _ (Act.put _ (some 3) _) _
        try simp only [Act.put, List.setIfInBounds_toArray, List.set_cons_zero, List.set_cons_succ]
        refine wpAnyH_done (by kernel_rfl) ?_ _
        have HF := hid (World.ownsRow.alloc (own_gj (own_gj (HO7.out.drew) hg_2 HPB.out) hg_5 HPB.out) (.cells #[.string ⟨#[32]⟩, .string ⟨#[44]⟩, .string ⟨#[]⟩, .string ⟨#[97, 98]⟩, .string ⟨#[195, 169]⟩, .string sA] 9))
        have HG := hid (grown_alloc (grown_trans (grown_trans (grown_drew HG7.out) hg_2) hg_5) (.cells #[.string ⟨#[32]⟩, .string ⟨#[44]⟩, .string ⟨#[]⟩, .string ⟨#[97, 98]⟩, .string ⟨#[195, 169]⟩, .string sA] 9))
        go_wp2
        go_ret2
        exact ⟨_, t, xs, rfl, Rd.mono (fun b hb => ⟨Nat.le_trans HB1.out.size hb.1, hb.2⟩) (own_strsN HF.out (fun s hs => Nat.le_trans (hss s hs) (by decide))), by omega, drawn_below HB1.out HG.out⟩
      exact AllReadyH.nil
end Go.Proofs.YtibbkddncjohkaaDoor
