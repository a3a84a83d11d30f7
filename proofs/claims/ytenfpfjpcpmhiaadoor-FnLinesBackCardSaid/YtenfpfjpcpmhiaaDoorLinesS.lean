/-
  What is proved here: the reference's splitting at ends of lines, and its Lines where the separator is empty. No condition.
-/
import Derived.Test.YtenfpfjpcpmhiaaDoorLinesI
namespace Go.Proofs.YtenfpfjpcpmhiaaDoor
open Go.RowKit
set_option linter.unusedVariables false
set_option linter.unusedSimpArgs false

theorem split_at_nl {L : List UInt8} {o : List ByteArray} {f i : Nat} (h : lns L = (o.map fun p => p.data.toList) ++ consH ((L.take i).drop f) (lns (L.drop i))) (hfi : f ≤ i) (hi : i < L.length) (h10 : L[i] = 10) {s : ByteArray} (hs : s.data.toList = L) :
    lns L = ((o ++ [s.extract f i]).map fun p => p.data.toList) ++ consH ((L.take (i + 1)).drop (i + 1)) (lns (L.drop (i + 1))) := by
  have e0 : (L.take (i + 1)).drop (i + 1) = [] := List.drop_eq_nil_of_le (by rw [List.length_take]; omega)
  rw [h, List.drop_eq_getElem_cons hi, h10, lns_nl, List.map_append, List.append_assoc, e0, consH_nil (lns_ne (L.drop (i + 1)))]
  congr 1
  simp only [consH, List.append_nil, List.map_cons, List.map_nil, List.cons_append, List.nil_append, extract_l, hs]
theorem split_not_nl {L : List UInt8} {o : List ByteArray} {f i : Nat} (h : lns L = (o.map fun p => p.data.toList) ++ consH ((L.take i).drop f) (lns (L.drop i))) (hfi : f ≤ i) (hi : i < L.length) (h10 : L[i] ≠ 10) :
    lns L = (o.map fun p => p.data.toList) ++ consH ((L.take (i + 1)).drop f) (lns (L.drop (i + 1))) := by
  rw [h, List.drop_eq_getElem_cons hi, lns_c _ h10, consH_consH]
  congr 2
  rw [List.take_succ_eq_append_getElem hi, List.drop_append_of_le_length (by rw [List.length_take]; omega)]
theorem split_end {L : List UInt8} {o : List ByteArray} {f : Nat} (h : lns L = (o.map fun p => p.data.toList) ++ consH ((L.take L.length).drop f) (lns (L.drop L.length))) {s : ByteArray} (hs : s.data.toList = L) : lnsB s = o ++ [s.extract f s.size] := by
  unfold lnsB
  rw [hs, h, List.drop_length, List.map_append, List.map_map]
  have e1 : ((fun l : List UInt8 => (⟨l.toArray⟩ : ByteArray)) ∘ fun p : ByteArray => p.data.toList) = id := by funext p; apply ba_ext; simp
  rw [e1, List.map_id]
  congr 1
  have e2 : L.length = s.size := by rw [← hs]; rfl
  simp only [lns, consH, List.append_nil, List.map_cons, List.map_nil]
  congr 1
  apply ba_ext
  rw [extract_l, hs, e2]
theorem ext1 {s : ByteArray} {i : Nat} (hi : i < s.data.toList.length) : (s.extract i (i + 1)).data.toList = [s.data.toList[i]] := by
  rw [extract_l, List.take_succ_eq_append_getElem hi, List.drop_append_of_le_length (by rw [List.length_take]; omega), List.drop_eq_nil_of_le (by rw [List.length_take]; omega)]
  rfl
set_option maxHeartbeats 4000000 in
set_option maxRecDepth 100000 in
theorem specSplitNl (s : ByteArray) (w : World) (hs : s.size ≤ 5000) :
    Calls Tryd.prog 59 #[.string s, .string ⟨#[10]⟩] w fun e w' => ∃ u, e = .returned u ∧ w'.ownsRow w.heap.size 9 1 u (lnsB s).length (strCellsL (lnsB s)) ∧ Below w.heap.size w w' := by
  obtain ⟨ii, hi, hz0, hz1, hz2⟩ := info_parts infoS
  obtain ⟨L, hL⟩ : ∃ L, s.data.toList = L := ⟨_, rfl⟩
  have hLn : L.length = s.size := by rw [← hL]; rfl
  have hown0 : (w.alloc (.cells #[] 9)).ownsRow w.heap.size 9 1 (.slice (some ⟨w.heap.size, 0, none⟩) 0 0) 0 [] := World.ownsRow_lit (base := w.heap.size) (e := 9) (size := 1) w #[] 0 (Nat.le_refl _) (by decide) rfl
  have HOWN0 := hid hown0
  clear hown0
  go_enter Tryd.func59, Tryd.ntmps59
  go_wp2
  go_loopw [5, 6, 7] (fun out fv iv wr => ∃ (f i : Nat) (o : List ByteArray), fv = .int .i64 (f : Int) ∧ iv = .int .i64 (i : Int) ∧ f ≤ i ∧ i ≤ s.size ∧ o.length ≤ i ∧ Hid (lns L = (o.map fun p => p.data.toList) ++ consH ((L.take i).drop f) (lns (L.drop i))) ∧ Hid (wr.ownsRow w.heap.size 9 1 out o.length (strCellsL o)) ∧ Below w.heap.size w wr) (fun _ _ iv _ => s.size - (intOf iv).toNat)
  case atStart => exact ⟨0, 0, [], rfl, rfl, Nat.le_refl _, Nat.zero_le _, Nat.le_refl _, hid (by simp [consH_nil (lns_ne L)]), HOWN0, ext_alloc _ _⟩
  case round =>
    obtain ⟨f, i, o, rfl, rfl, hfi, hin, hoi, HI, HU, hb⟩ := hrel
    have hw1 : IntKind.i64.wrap ((i : Int) + 1) = ((i + 1 : Nat) : Int) := IntWalk.i64_in _ (by omega)
    by_cases hlt : i < s.size
    · have hc1 : ((i : Int) + 1) ≤ (s.size : Int) := by omega
      have hc2 : (i : Int) ≤ (i : Int) + 1 := by omega
      have hc3 : (0 : Int) ≤ (i : Int) := by omega
      have hc4 : (0 : Int) ≤ (f : Int) := by omega
      have hc5 : (f : Int) ≤ (i : Int) := by omega
      have hc6 : (i : Int) ≤ (s.size : Int) := by omega
      have hiL : i < L.length := by omega
      have he1 : (s.extract i (i + 1)).toList = [L[i]] := by rw [Lib.toList_data]; have := ext1 (s := s) (i := i) (by rw [hL]; exact hiL); simpa [hL] using this
      by_cases h10 : L[i] = 10
      · have hN := split_at_nl HI.out hfi hiL h10 hL
        have hb1 : ((s.extract i (i + 1)).toList == (⟨#[10]⟩ : ByteArray).toList) = true := by rw [he1, h10, Lib.toList_data]; rfl
        have hb2 : ((s.extract i (i + 1)).toList == [10]) = true := by rw [he1, h10]; decide
        have HN := hid hN
        have hsz : (s.extract f i).size ≤ 9223372036854775807 := by rw [ByteArray.size_extract]; omega
        clear hN h10 he1 hL
        go_wp2_with ((at_builtin; refine wpList_append_lies _ rfl (.tmp 25) (.tmp 30) 22 rfl w.heap.size 9 ii (.string ⟨#[]⟩) 1 16 Tryd.underlying22 hi hz0 hz1 hz2 rfl (by decide) _ o.length (strCellsL o) rfl (HU.out.alloc _) ⟨wr.heap.size, 0, none⟩ 1 1 [.string (s.extract f i)] rfl rfl (World.news_of_block (cs := #[.string (s.extract f i)]) (t := 9) (fr := (0, 0)) (heap_alloc_new wr _)) (by intro u hu; simp at hu; subst hu; rfl) (by decide) (by unfold maxLen; omega) (by omega) (by have := hb.size; simp; omega) _ rfl ?_))
        intro g2 cap2 w3 hown3 hgrow3 hat3 hlt3
        have hb3 : Below w.heap.size w w3 := grown_bel (Below.alloc hb hb.size _) (by have := hb.size; simp; omega) (HU.out.alloc _) hgrow3
        have HO3 := hid hown3
        clear hi hz0 hz1 hz2 hown3 hgrow3 hat3
        go_wp2
        go_roundw
        case rel => exact ⟨i + 1, i + 1, o ++ [s.extract f i], by go_num, by go_num, by omega, by omega, by rw [List.length_append]; show o.length + 1 ≤ _; omega, HN, hid (by rw [List.length_append, strCells_append]; exact HO3.out), hb3⟩
        case measure => simp [intOf]; omega
      · have hN := split_not_nl HI.out hfi hiL h10
        have hb1 : ((s.extract i (i + 1)).toList == (⟨#[10]⟩ : ByteArray).toList) = false := by rw [he1, Lib.toList_data]; simpa using h10
        have hb2 : ((s.extract i (i + 1)).toList == [10]) = false := by rw [he1]; simpa using h10
        have hb3 : ¬ (s.extract i (i + 1)).toList = [10] := by rw [he1]; simpa using h10
        have HN := hid hN
        clear hN h10 he1 hL hi hz0 hz1 hz2
        go_wp2
        go_roundw
        case rel => exact ⟨f, i + 1, o, rfl, by go_num, by omega, by omega, by omega, HN, HU, hb⟩
        case measure => simp [intOf]; omega
    · obtain rfl : i = s.size := by omega
      have hc1 : ¬ ((s.size : Int) + 1) ≤ (s.size : Int) := by omega
      have hc4 : (0 : Int) ≤ (f : Int) := by omega
      have hc5 : (f : Int) ≤ (s.size : Int) := by omega
      have hE := HI.out
      rw [← hLn] at hE
      have HE := hid (split_end hE hL)
      have hsz : (s.extract f s.size).size ≤ 9223372036854775807 := by rw [ByteArray.size_extract]; omega
      clear hE hL
      go_wp2_with ((at_builtin; refine wpList_append_lies _ rfl (.tmp 39) (.tmp 43) 22 rfl w.heap.size 9 ii (.string ⟨#[]⟩) 1 16 Tryd.underlying22 hi hz0 hz1 hz2 rfl (by decide) _ o.length (strCellsL o) rfl (HU.out.alloc _) ⟨wr.heap.size, 0, none⟩ 1 1 [.string (s.extract f s.size)] rfl rfl (World.news_of_block (cs := #[.string (s.extract f s.size)]) (t := 9) (fr := (0, 0)) (heap_alloc_new wr _)) (by intro u hu; simp at hu; subst hu; rfl) (by decide) (by unfold maxLen; omega) (by omega) (by have := hb.size; simp; omega) _ rfl ?_))
      intro g2 cap2 w3 hown3 hgrow3 hat3 hlt3
      have hb3 : Below w.heap.size w w3 := grown_bel (Below.alloc hb hb.size _) (by have := hb.size; simp; omega) (HU.out.alloc _) hgrow3
      have HO3 := hid hown3
      clear hi hz0 hz1 hz2 hown3 hgrow3 hat3
      go_wp2
      go_ret
      refine ⟨_, rfl, ?_, hb3⟩
      rw [HE.out, List.length_append, strCells_append]
      exact HO3.out
theorem pFold_nl (s : ByteArray) : (lnsB (s ++ nlB)).length = (lnsB s).length + 1 ∧ pFold (s ++ nlB) ((lnsB s).length + 1) = (parasOf s, false) := by
  have h1 := lnsB_app s
  have h2 : (lnsB (s ++ nlB)).length = (lnsB s).length + 1 := by rw [h1]; simp
  refine ⟨h2, ?_⟩
  have hk : (lnsB s).length < (lnsB (s ++ nlB)).length := by omega
  rw [pFold_succ _ _ hk]
  have e1 : (lnsB (s ++ nlB))[(lnsB s).length] = ⟨#[]⟩ := by simp only [h1]; simp
  have e2 : pFold (s ++ nlB) (lnsB s).length = pFold s (lnsB s).length := by
    unfold pFold
    rw [h1, List.take_left' rfl, List.take_length]
  rw [e1, e2, ← pFold_all s]
  exact pstep_empty _ _ rfl
set_option maxHeartbeats 20000000 in
set_option maxRecDepth 100000 in
theorem specLines0 (s : ByteArray) (w : World) (hf : fileOk s = true) :
    Calls Tryd.prog 21 #[.string s, .string ⟨#[]⟩] w fun e w' => ∃ a c, e = .returned (.slice a (parasOf s).length c) ∧ Rd.rd (New w.heap.size w') w' [.slice a (parasOf s).length c] (parasOf s) ∧ Below w.heap.size w w' := by
  obtain ⟨ii, hi, hz0, hz1, hz2⟩ := info_parts infoS
  have hsz := file_size hf
  have hown0 : (w.alloc (.cells #[] 9)).ownsRow w.heap.size 9 1 (.slice (some ⟨w.heap.size, 0, none⟩) 0 0) 0 [] := World.ownsRow_lit (base := w.heap.size) (e := 9) (size := 1) w #[] 0 (Nat.le_refl _) (by decide) rfl
  have HOWN0 := hid hown0
  clear hown0
  go_enter Tryd.func21, Tryd.ntmps21
  go_wp2_with fail
  refine (specFileOk s _).mono ?_
  rintro e w1 ⟨rfl, hb1⟩
  rw [hf]
  have hB1 : Below w.heap.size w w1 := ext_trans (ext_alloc _ _) hb1
  have HO1 := hid (own_later HOWN0.out hb1)
  clear hb1
  have hl0 : lenOf ⟨#[]⟩ = 0 := by decide
  go_wp2_with fail
  refine (specLength ⟨#[]⟩ _).mono ?_
  rintro e w2 ⟨rfl, hb2⟩
  rw [hl0]
  have HO2 := hid (own_later HO1.out hb2)
  have hB2 : Below w.heap.size w w2 := ext_trans hB1 hb2
  go_wp2_with fail
  refine (specLength ⟨#[]⟩ _).mono ?_
  rintro e w3 ⟨rfl, hb3⟩
  rw [hl0]
  have HO3 := hid (own_later HO2.out hb3)
  have hB3 : Below w.heap.size w w3 := ext_trans hB2 hb3
  have hsum : ¬ 9223372036854775807 < s.size + 1 := by omega
  have hsz1 : (s ++ (⟨#[10]⟩ : ByteArray)).size ≤ 5000 := by
    have h1 : (⟨#[10]⟩ : ByteArray).size = 1 := rfl
    rw [ByteArray.size_append, h1]
    omega
  clear hB1 hB2 hb2 hb3 HO1 HO2 HOWN0
  go_wp2_with fail
  refine (specSplitNl (s ++ (⟨#[10]⟩ : ByteArray)) _ hsz1).mono ?_
  rintro e w4 ⟨u4, rfl, hown4, hb4⟩
  rw [show (⟨#[10]⟩ : ByteArray) = nlB from rfl] at hown4
  obtain ⟨hnl, hP⟩ := pFold_nl s
  have hs1 : (s ++ nlB).size = s.size + 1 := by rw [ByteArray.size_append]; rfl
  obtain ⟨hq1, hq2⟩ := parts_size nlB (by decide) (s ++ nlB).size (s ++ nlB) (Nat.le_refl _)
  rw [parts_lnsB] at hq1 hq2
  obtain ⟨ls, hls⟩ : ∃ ls, lnsB (s ++ nlB) = ls := ⟨_, rfl⟩
  have HLS := hid hls
  rw [hls] at hown4 hnl hq1 hq2
  obtain ⟨n, hn⟩ : ∃ n, ls.length = n := ⟨_, rfl⟩
  rw [hn] at hown4 hnl hq1
  have HN := hid hn
  rw [← hnl] at hP
  have HP := hid hP
  have HO4 := hid (own_later HO3.out hb4)
  have hB4 : Below w.heap.size w w4 := ext_trans hB3 hb4
  have hn5 : n ≤ 4002 := by omega
  have HS1 := hid hs1
  obtain ⟨g4, c4, rfl, hg41, hg42⟩ := hown4.form (by omega)
  have hg43 : g4 < w4.heap.size := (hown4.lt g4 rfl).2
  have HOWN := hid hown4
  have hw3 : w.heap.size < w3.heap.size := (HO3.out.lt _ rfl).2
  clear hb4 HO3 hnl hP hown4 hls hn hs1 hq1 hg42
  have hw34 : w3.heap.size ≤ w4.heap.size := by omega
  go_wp2
  go_loopw [5, 7, 8, 9] (fun out rv mv iv wr => ∃ (i m : Nat) (o : List ByteArray) (row : ByteArray), rv = .string row ∧ mv = .int .i64 (m : Int) ∧ iv = .int .i64 (i : Int) ∧ i ≤ n ∧ m ≤ i ∧ o.length ≤ i ∧ row.size ≤ 20100000 ∧ Hid ((∀ p ∈ o, p.size ≤ 20100000) ∧ ((0 < m ∧ pFold (s ++ nlB) i = (o ++ [row], true)) ∨ (m = 0 ∧ row = ⟨#[]⟩ ∧ pFold (s ++ nlB) i = (o, false)))) ∧ Hid (wr.ownsRow w.heap.size 9 1 out o.length (strCellsL o)) ∧ Below w.heap.size w wr ∧ Hid (∀ k, k < n → wr.cell? ⟨g4, k, none⟩ = w4.cell? ⟨g4, k, none⟩) ∧ Hid (∀ q, out.ownBlock = some q → q ≠ g4) ∧ g4 < wr.heap.size) (fun _ _ _ iv _ => n - (intOf iv).toNat)
  case atStart => exact ⟨0, 0, [], ⟨#[]⟩, rfl, rfl, rfl, Nat.zero_le _, Nat.le_refl _, Nat.le_refl _, Nat.zero_le _, hid ⟨(fun p hp => by cases hp), Or.inr ⟨rfl, rfl, rfl⟩⟩, HO4, hB4, hid (fun _ _ => rfl), hid (fun q hq => by simp only [Value.ownBlock, Option.some.injEq] at hq; omega), hg43⟩
  case round =>
    obtain ⟨i, m, o, row, rfl, rfl, rfl, hin, hmi, hoi, hrow, HF, HU, hb, HC, HNE, hgl⟩ := hrel
    by_cases hlt : i < n
    · have hil : (i : Int) < (n : Int) := by omega
      have hi0 : (0 : Int) ≤ (i : Int) := by omega
      have hkk : i < ls.length := by rw [HN.out]; exact hlt
      obtain ⟨line, hline⟩ : ∃ line, ls[i] = line := ⟨_, rfl⟩
      have hlsz : line.size ≤ 4001 := by rw [← hline]; have := hq2 _ (List.getElem_mem hkk); have h := HS1.out; omega
      have hcell : wr.cell? ⟨g4, i, none⟩ = some (.string line) := by
        refine (HC.out i hlt).trans ?_
        rw [HOWN.out.cellAt i (by omega)]
        unfold strCellsL
        rw [List.getElem?_map, List.getElem?_eq_getElem hkk, hline]
        rfl
      have hS : pFold (s ++ nlB) (i + 1) = pstep (pFold (s ++ nlB) i) line := by
        rw [pFold_succ (s ++ nlB) i (by rw [HLS.out]; exact hkk)]
        congr 1
        rw [← hline]
        simp only [HLS.out]
      have hall : ∀ p ∈ (pFold (s ++ nlB) (i + 1)).1, p.size ≤ 20100000 := by
        intro p hp
        refine Nat.le_trans (pFold_size _ _ p hp) ?_
        rw [HS1.out]
        exact Nat.le_trans (Nat.mul_le_mul (show i + 1 ≤ 4002 by omega) (show s.size + 1 + 1 ≤ 4002 by omega)) (by decide)
      obtain ⟨hosz, hF⟩ := HF.out
      by_cases he : line.size = 0
      · obtain rfl : line = ⟨#[]⟩ := by apply ba_ext; exact List.eq_nil_of_length_eq_zero he
        rcases hF with ⟨hm, hF⟩ | ⟨rfl, rfl, hF⟩
        · rw [hF, pstep_empty _ _ he] at hS
          rw [hS] at hall
          have HA := hid hall
          have HS := hid hS
          have hmz : (0 : Int) < (m : Int) := by omega
          have hrz : row.size ≤ 9223372036854775807 := by omega
          clear hS hline hall hosz hF
          go_wp2_with ((at_builtin; refine wpList_append_lies _ rfl (.tmp 71) (.tmp 73) 22 rfl w.heap.size 9 ii (.string ⟨#[]⟩) 1 16 Tryd.underlying22 hi hz0 hz1 hz2 rfl (by decide) _ o.length (strCellsL o) rfl (HU.out.alloc _) ⟨wr.heap.size, 0, none⟩ 1 1 [.string row] rfl rfl (World.news_of_block (cs := #[.string row]) (t := 9) (fr := (0, 0)) (heap_alloc_new wr _)) (by intro u hu; simp at hu; subst hu; rfl) (by decide) (by unfold maxLen; omega) (by omega) (by have := hb.size; simp; omega) _ rfl ?_))
          intro g2 cap2 wn hown3 hgrow3 hat3 hlt3
          have hb3 : Below w.heap.size w wn := grown_bel (Below.alloc hb hb.size _) (by have := hb.size; simp; omega) (HU.out.alloc _) hgrow3
          have HO3 := hid hown3
          have HC3 : Hid (∀ k, k < n → wn.cell? ⟨g4, k, none⟩ = w4.cell? ⟨g4, k, none⟩) := hid (fun k hk => (World.cell?_of_block (hgrow3.block g4 (by simp; omega) (fun e => HNE.out g4 e.symm rfl))).trans (((ext_alloc wr _).cell (p := ⟨g4, k, none⟩) hgl).trans (HC.out k hk)))
          have HN3 : Hid (∀ q, (Value.slice (some ⟨g2, 0, none⟩) (o.length + 1) cap2).ownBlock = some q → q ≠ g4) := hid (fun q hq => by
            simp only [Value.ownBlock, Option.some.injEq] at hq
            subst hq
            rcases hat3 with h | h
            · exact HNE.out _ h
            · (try simp at h); omega)
          have hgl3 : g4 < wn.heap.size := by have := hgrow3.size; simp at this; omega
          clear hi hz0 hz1 hz2 hown3 hgrow3 hat3 HNE HC
          go_wp2
          go_roundw
          case rel => exact ⟨i + 1, 0, o ++ [row], ⟨#[]⟩, rfl, rfl, by go_num, by omega, by omega, by rw [List.length_append]; show o.length + 1 ≤ _; omega, Nat.zero_le _, hid ⟨HA.out, Or.inr ⟨rfl, rfl, HS.out⟩⟩, hid (by rw [List.length_append, strCells_append]; exact HO3.out), hb3, HC3, HN3, hgl3⟩
          case measure => simp [intOf]; omega
        · rw [hF, pstep_empty _ _ he] at hS
          have HA := hid hosz
          have HS := hid hS
          clear hS hline hall hosz hF hi hz0 hz1 hz2
          go_wp2
          go_roundw
          case rel => exact ⟨i + 1, 0, o, ⟨#[]⟩, rfl, rfl, by go_num, by omega, by omega, by omega, Nat.zero_le _, hid ⟨HA.out, Or.inr ⟨rfl, rfl, HS.out⟩⟩, HU, hb, HC, HNE, hgl⟩
          case measure => simp [intOf]; omega
      · have hne0 : (line.toList == (⟨#[]⟩ : ByteArray).toList) = false := ba_ne (fun e => he (by rw [e]; rfl))
        have hne : line.toList ≠ [] := by intro e; rw [e] at hne0; simp at hne0
        have hne1 : (line.toList == []) = false := by simpa using hne
        have hne2 : line.toList.isEmpty = false := by simpa using hne
        have hne3 : (line.toList != []) = true := by simpa using hne
        have HE := hid he
        rcases hF with ⟨hm, hF⟩ | ⟨rfl, rfl, hF⟩
        · rw [hF, pstep_open o row he] at hS
          rw [hS] at hall
          have hnew := hall (row ++ (nlB ++ line)) (by simp)
          have eas : row ++ nlB ++ line = row ++ (nlB ++ line) := by apply ba_ext; simp
          have HS := hid (show (∀ p ∈ o, p.size ≤ 20100000) ∧ ((0 < m + 1 ∧ pFold (s ++ nlB) (i + 1) = (o ++ [row ++ nlB ++ line], true)) ∨ (m + 1 = 0 ∧ (row ++ nlB ++ line) = ⟨#[]⟩ ∧ pFold (s ++ nlB) (i + 1) = (o, false))) from ⟨hosz, Or.inl ⟨by omega, by rw [eas]; exact hS⟩⟩)
          have hmz : (0 : Int) < (m : Int) := by omega
          have hs2 : ¬ 9223372036854775807 < row.size + 1 := by omega
          have hs3 : ¬ 9223372036854775807 < row.size + 1 + line.size := by omega
          rw [← eas] at hnew
          have HNW := hid hnew
          clear hS hline hall hosz hF hi hz0 hz1 hz2 eas hnew
          go_wp2
          go_roundw
          case rel => exact ⟨i + 1, m + 1, o, row ++ nlB ++ line, rfl, by go_num, by go_num, by omega, by omega, by omega, HNW.out, HS, HU, hb, HC, HNE, hgl⟩
          case measure => simp [intOf]; omega
        · rw [hF, pstep_new o he] at hS
          have eas : (⟨#[]⟩ : ByteArray) ++ line = line := by apply ba_ext; simp
          have HS := hid (show (∀ p ∈ o, p.size ≤ 20100000) ∧ ((0 < 0 + 1 ∧ pFold (s ++ nlB) (i + 1) = (o ++ [(⟨#[]⟩ : ByteArray) ++ line], true)) ∨ (0 + 1 = 0 ∧ ((⟨#[]⟩ : ByteArray) ++ line) = (⟨#[]⟩ : ByteArray) ∧ pFold (s ++ nlB) (i + 1) = (o, false))) from ⟨hosz, Or.inl ⟨by omega, by rw [eas]; exact hS⟩⟩)
          have hs3 : ¬ 9223372036854775807 < 0 + line.size := by omega
          have hs4 : ¬ 9223372036854775807 < line.size := by omega
          have HEAS := hid eas
          clear hS hline hall hosz hF hi hz0 hz1 hz2 eas
          go_wp2
          go_roundw
          case rel => exact ⟨i + 1, 0 + 1, o, (⟨#[]⟩ : ByteArray) ++ line, by first | rfl | (rw [HEAS.out]), by go_num, by go_num, by omega, by omega, by omega, by rw [HEAS.out]; omega, HS, HU, hb, HC, HNE, hgl⟩
          case measure => simp [intOf]; omega
    · obtain rfl : i = n := by omega
      obtain ⟨hosz, hF⟩ := HF.out
      have hp := HP.out
      have HR : Hid (o = parasOf s) := by
        rcases hF with ⟨hm, hF⟩ | ⟨rfl, rfl, hF⟩
        · rw [hp] at hF; simp at hF
        · rw [hp] at hF; simp only [Prod.mk.injEq, and_true] at hF; exact hid hF.symm
      obtain ⟨a, c, rfl, hrd⟩ := own_strs_rd HU.out (fun x hx => Nat.le_trans (hosz x hx) (by decide))
      have HRD := hid hrd
      clear hosz hF hp hrd hi hz0 hz1 hz2
      go_wp2
      go_ret
      refine ⟨a, c, by rw [← HR.out]; rfl, ?_, hb⟩
      rw [← HR.out]
      exact HRD.out
end Go.Proofs.YtenfpfjpcpmhiaaDoor
