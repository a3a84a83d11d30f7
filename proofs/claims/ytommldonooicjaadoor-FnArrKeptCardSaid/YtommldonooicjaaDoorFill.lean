/-
  What is proved here: the copy of an array with as many values as keys, on both sides. No condition but the size.
-/
import Derived.Test.YtommldonooicjaaDoorRowLaw
import Derived.Test.YtommldonooicjaaDoorShelfA
import Derived.Test.YtommldonooicjaaDoorDel
namespace Go.Proofs.YtommldonooicjaaDoor
open Go.RowKit
set_option linter.unusedVariables false
set_option linter.unusedSimpArgs false


theorem ownsRow_mono {w : World} {B B' : Nat} {e : TypeId} {size : Nat} {v : Value} {n : Nat} {xs : List Value} (h : w.ownsRow B e size v n xs) (hb : B' ≤ B) : w.ownsRow B' e size v n xs :=
  ⟨h.1, h.2.imp id fun ⟨g, cap, cur, e, hg, r⟩ => ⟨g, cap, cur, e, Nat.le_trans hb hg, r⟩⟩
set_option maxHeartbeats 8000000 in
set_option maxRecDepth 100000 in
theorem specCopy_own {cs : Array Value} {x : Arr} (w : World) (h : Rd.rd (Old w) w cs.toList x) (hn : x.keys.length ≤ 1048576) :
    Calls Tryd.prog 33 #[.agg cs] w fun e w' => ∃ (g ck : Nat) (v : Value), e = .returned (.agg #[.slice (some ⟨g, 0, none⟩) x.keys.length ck, v]) ∧ Below w.heap.size w w' ∧ ∃ C, w.heap.size ≤ C ∧
      w'.ownsRow w.heap.size 9 1 (.slice (some ⟨g, 0, none⟩) x.keys.length ck) x.keys.length (strCellsL x.keys) ∧ g < C ∧ w'.ownsRow C 31 5 v x.keys.length (valsCells (fillK x.vals x.keys.length)) := by
  obtain ⟨a0, c0, a1, c1, hcs, f0, f1⟩ := rdArr h
  obtain rfl := arr_of_list hcs
  obtain ⟨ii, hi, hz0, hz1, hz2⟩ := info_parts infoS
  obtain ⟨jj, ki, kz0, kz1, kz2⟩ := info_parts infoV
  have hvk := vals_ok f1
  have hsk := strs_ok f0
  clear hcs h
  have hK0 : ∀ (w' : World), Below w.heap.size w w' → 0 < x.keys.length → ∃ ad, a0 = some ad ∧ ∀ j u, (strCellsL x.keys)[j]? = some u → w'.cell? (ad.add j) = some u := by
    intro w' hb h0
    obtain ⟨b, off, rfl, hB, hc⟩ := strs_cells f0 h0
    exact ⟨_, rfl, fun j u hu => (hb.cell (by unfold Addr.add; split <;> exact hB)).trans (hc j u hu)⟩
  have hKK := hid hK0
  have F1 := hid f1
  have HVK := hid hvk
  have HSK := hid hsk
  have HI := hid hi
  have HZ0 := hid hz0
  clear hK0 f0 f1 hvk hsk
  have hown0 : (((w.alloc (.cells #[.slice a0 x.keys.length c0, .slice a1 x.vals.length c1] 27)).alloc (.cells #[.slice none 0 0, .slice none 0 0] 27)).alloc (.cells #[] 9)).ownsRow (w.heap.size + 1 + 1) 9 1 (.slice (some ⟨w.heap.size + 1 + 1, 0, none⟩) 0 0) 0 [] := by
    have := World.ownsRow_lit (base := w.heap.size + 1 + 1) (e := 9) (size := 1) ((w.alloc (.cells #[.slice a0 x.keys.length c0, .slice a1 x.vals.length c1] 27)).alloc (.cells #[.slice none 0 0, .slice none 0 0] 27)) #[] 0 (by simp) (by decide) rfl
    simpa using this
  have hB0 : Below w.heap.size w (((w.alloc (.cells #[.slice a0 x.keys.length c0, .slice a1 x.vals.length c1] 27)).alloc (.cells #[.slice none 0 0, .slice none 0 0] 27)).alloc (.cells #[] 9)) := ext_trans (ext_trans (ext_trans (Below.refl _ _) (ext_alloc _ _)) (ext_alloc _ _)) (ext_alloc _ _)
  go_enter Tryd.func33, Tryd.ntmps33
  go_wp2_with ((at_builtin; refine wpList_append_any rfl (.tmp 6) (.tmp 8) 24 rfl (w.heap.size + 1 + 1) 9 ii (.string ⟨#[]⟩) 1 16 Tryd.underlying24 hi hz0 hz1 hz2 rfl (by decide) _ 0 0 [] rfl hown0 a0 x.keys.length c0 (strCellsL x.keys) rfl ?c1 ?c2 ?c3 ?c4 ?c5 ?c6 ?_))
  case c1 => simp [strCellsL]
  case c2 => exact fun h0 => hKK.out _ hB0 h0
  case c3 => intro u hu; simp only [strCellsL, List.mem_map] at hu; obtain ⟨y, _, rfl⟩ := hu; rfl
  case c4 => unfold maxLen; omega
  case c5 => omega
  case c6 => simp
  intro gk ck w1 hownK hgrow hgk hlk
  have hB1 : Below (w.heap.size + 1 + 1) ((w.alloc (.cells #[.slice a0 x.keys.length c0, .slice a1 x.vals.length c1] 27)).alloc (.cells #[.slice none 0 0, .slice none 0 0] 27)) w1 := Below.grown (Below.alloc (Below.refl _ _) (by simp) _) hgrow (by simp) (fun q hq => by simp only [Option.some.injEq] at hq; omega)
  have hW1 : Below w.heap.size w w1 := ⟨hB1.os, hB1.tape, hB1.output, by have := hB1.size; simp at this; omega, fun c hc => (hB1.block c (by omega)).trans (by first | exact (ext_trans (ext_alloc w _) (ext_alloc _ _)).block c hc | rfl)⟩
  have s10 : w1.cell? ⟨w.heap.size, 0, none⟩ = some (.slice a0 x.keys.length c0) := (hB1.cell (p := ⟨w.heap.size, 0, none⟩) (by show w.heap.size < _; omega)).trans (by simp)
  have s11 : w1.cell? ⟨w.heap.size, 1, none⟩ = some (.slice a1 x.vals.length c1) := (hB1.cell (p := ⟨w.heap.size, 1, none⟩) (by show w.heap.size < _; omega)).trans (by simp)
  have s20 : w1.cell? ⟨w.heap.size + 1, 0, none⟩ = some (.slice none 0 0) := (hB1.cell (p := ⟨w.heap.size + 1, 0, none⟩) (by show w.heap.size + 1 < _; omega)).trans (by simp)
  have s21 : w1.cell? ⟨w.heap.size + 1, 1, none⟩ = some (.slice none 0 0) := (hB1.cell (p := ⟨w.heap.size + 1, 1, none⟩) (by show w.heap.size + 1 < _; omega)).trans (by simp)
  have z20 : w1.frozen? ⟨w.heap.size + 1, 0, none⟩ = false := (hB1.frozen (p := ⟨w.heap.size + 1, 0, none⟩) (by show w.heap.size + 1 < _; omega)).trans (by simp)
  have z21 : w1.frozen? ⟨w.heap.size + 1, 1, none⟩ = false := (hB1.frozen (p := ⟨w.heap.size + 1, 1, none⟩) (by show w.heap.size + 1 < _; omega)).trans (by simp)
  have hl1 : w.heap.size + 1 + 1 < w1.heap.size := by have := hownK.lt gk rfl; omega
  have hl1' : w.heap.size + 1 < w1.heap.size := by omega
  have hl1'' : w.heap.size < w1.heap.size := by omega
  have HK := hid (show w1.ownsRow (w.heap.size + 1 + 1) 9 1 (.slice (some ⟨gk, 0, none⟩) x.keys.length ck) x.keys.length (strCellsL x.keys) by simpa using hownK)
  have hgk1 : gk < w1.heap.size := hlk
  clear hgrow hgk hown0 hownK hB1 hB0
  obtain ⟨nk, hnk⟩ : ∃ nk, x.keys.length = nk := ⟨_, rfl⟩
  have HNK := hid hnk
  rw [hnk] at s10 hn ⊢
  (try simp only [Nat.zero_add] at hnk ⊢)
  (try rw [hnk])
  clear hnk
  go_wp2
  go_loopw [4, 5] (fun iv vv wr => ∃ (k : Nat) (v : Value), k ≤ nk ∧ iv = .int .i64 (k : Int) ∧ wr.cell? ⟨w1.heap.size, 0, none⟩ = some (.slice (some ⟨gk, 0, none⟩) nk ck) ∧ wr.cell? ⟨w1.heap.size, 1, none⟩ = some v ∧ wr.frozen? ⟨w1.heap.size, 0, none⟩ = false ∧ wr.frozen? ⟨w1.heap.size, 1, none⟩ = false ∧
      Hid (wr.ownsRow (w1.heap.size + 1) 31 5 v k (valsCells (fillK x.vals k))) ∧ Below w1.heap.size w1 wr ∧ w1.heap.size < wr.heap.size) (fun iv _ _ => nk - (intOf iv).toNat)
  case atStart => exact ⟨0, .slice none 0 0, Nat.zero_le _, rfl, by simp, by simp, by simp, by simp, hid ⟨rfl, Or.inl ⟨rfl, rfl⟩⟩, by repeat' (first | (with_reducible exact Below.refl _ _) | (with_reducible refine Below.setCell ?_ ?_ _) | (with_reducible refine Below.alloc ?_ ?_ _) | (simp; done) | (simp; omega) | omega), by simp⟩
  case round =>
    obtain ⟨k, v, hk, rfl, q0, q1, zq0, zq1, hown, hb, hlw⟩ := hrel
    have hbc := bcell hb
    have p10 := (hbc.1 w.heap.size 0 hl1'').trans s10
    have p11 := (hbc.1 w.heap.size 1 hl1'').trans s11
    have hlr : w.heap.size + 1 < wr.heap.size := by omega
    have hlr' : w.heap.size < wr.heap.size := by omega
    by_cases hlt : k < nk
    · skip
      have hil : (k : Int) < (nk : Int) := by omega
      by_cases hin : k < x.vals.length
      · skip
        have HA := hid (show fillAt x.vals k = x.vals[k] by unfold fillAt; rw [dif_pos hin])
        obtain ⟨_, b, off, rfl, hB, t0, t1, t2, t3, t4, hx⟩ := rdVals_at F1.out hin
        have hB2 : b < w1.heap.size := by have : b < w.heap.size := hB; omega
        have hBw : b < w.heap.size := hB
        have hBr : b < wr.heap.size := by omega
        have u0 := (hbc.1 b (off + k * 5) hB2).trans ((hW1.cell (p := ⟨b, off + k * 5, none⟩) hBw).trans t0)
        have u1 := (hbc.1 b (off + k * 5 + 1) hB2).trans ((hW1.cell (p := ⟨b, off + k * 5 + 1, none⟩) hBw).trans t1)
        have u2 := (hbc.1 b (off + k * 5 + 2) hB2).trans ((hW1.cell (p := ⟨b, off + k * 5 + 2, none⟩) hBw).trans t2)
        have u3 := (hbc.1 b (off + k * 5 + 3) hB2).trans ((hW1.cell (p := ⟨b, off + k * 5 + 3, none⟩) hBw).trans t3)
        have u4 := (hbc.1 b (off + k * 5 + 4) hB2).trans ((hW1.cell (p := ⟨b, off + k * 5 + 4, none⟩) hBw).trans t4)
        have hik : (k : Int) < (x.vals.length : Int) := by omega
        clear t0 t1 t2 t3 t4 hx
        have hE := hown.out
        clear hbc
        obtain ⟨hnv, hnv2⟩ : k ≤ 1048576 ∧ 0 ≤ k := by omega
        go_wp2_with ((at_builtin;  refine wpList_append_lies _ rfl (.tmp 30) (.tmp 32) 25 rfl (w1.heap.size + 1) 31 jj (.agg #[.int .i64 0, .bool false, .string ⟨#[]⟩, .int .i64 0, .string ⟨#[]⟩]) 5 56 Tryd.underlying25 ki kz0 kz1 kz2 rfl (by decide) v k (valsCells (fillK x.vals k)) rfl ?c1 ⟨wr.heap.size + 1, 0, none⟩ 1 1 [.int .i64 x.vals[k].kind, .bool x.vals[k].num.neg, .string x.vals[k].num.dig, .int .i64 x.vals[k].num.exp, .string x.vals[k].text] rfl rfl ?c2 ?c3 (by decide) ?c4 ?c5 ?c6 _ rfl ?_ ))
        try (case c1 => exact own_later hE (by repeat' (first | (with_reducible exact Below.refl _ _) | (with_reducible refine Below.setCell ?_ ?_ _) | (with_reducible refine Below.alloc ?_ ?_ _) | (simp; done) | (simp; omega) | omega)))
        try (case c2 => exact World.news_of_block (cs := [.int .i64 x.vals[k].kind, .bool x.vals[k].num.neg, .string x.vals[k].num.dig, .int .i64 x.vals[k].num.exp, .string x.vals[k].text].toArray) (t := 31) (fr := (0, 0)) (by simp))
        try (case c3 => first | exact one_valCells x.vals[k] | exact ⟨rfl, rfl, rfl, rfl, rfl⟩)
        try (case c4 => unfold maxLen; omega)
        try (case c5 => omega)
        try (case c6 => first | omega | (simp; omega))
        intro g2 cap2 w2 hown2 hgrow hat hlt2
        have hB2w : Below (w1.heap.size + 1) wr w2 := Below.grown (by repeat' (first | (with_reducible exact Below.refl _ _) | (with_reducible refine Below.alloc ?_ ?_ _) | (simp; done) | (simp; omega) | omega)) hgrow (by first | (simp; done) | (simp; omega)) (fun q hq => (hE.lt q hq).1)
        have r0 : w2.cell? ⟨w1.heap.size, 0, none⟩ = some (.slice (some ⟨gk, 0, none⟩) nk ck) := (hB2w.cell (p := ⟨w1.heap.size, 0, none⟩) (by show w1.heap.size < _; omega)).trans q0
        have r1 : w2.cell? ⟨w1.heap.size, 1, none⟩ = some v := (hB2w.cell (p := ⟨w1.heap.size, 1, none⟩) (by show w1.heap.size < _; omega)).trans q1
        have zr0 : w2.frozen? ⟨w1.heap.size, 0, none⟩ = false := (hB2w.frozen (p := ⟨w1.heap.size, 0, none⟩) (by show w1.heap.size < _; omega)).trans zq0
        have zr1 : w2.frozen? ⟨w1.heap.size, 1, none⟩ = false := (hB2w.frozen (p := ⟨w1.heap.size, 1, none⟩) (by show w1.heap.size < _; omega)).trans zq1
        have hl2 : w1.heap.size < w2.heap.size := by have := hB2w.size; omega
        have hbW : Below w1.heap.size w1 w2 := ⟨hB2w.os.trans hb.os, hB2w.tape.trans hb.tape, hB2w.output.trans hb.output, by omega, fun c hc => (hB2w.block c (by omega)).trans (hb.block c hc)⟩
        have HO2 := hid hown2
        clear hi hz0 hz1 hz2 ki kz0 kz1 kz2 hgrow hat hB2w hb hown hE hown2
        go_wp2
        go_roundw
        case rel =>
          refine ⟨k + 1, .slice (some ⟨g2, 0, none⟩) (k + 1) cap2, by omega, by go_num, (World.cell?_setCell_other _ _ _ _ (by simp)).trans r0, World.cell?_setCell_same _ _ _ r1, by simp [zr0, zr1], by simp [zr0, zr1], hid ?_, Below.setCell hbW (Nat.le_refl _) _, by simpa [World.setCell] using hl2⟩
          refine ownsRow_setCell_below ?_ (by show w1.heap.size < _; omega) _
          rw [fillK_succ, valsCells_append, HA.out]
          simpa [valsCells, valCells, val0] using HO2.out
        case measure => simp [intOf]; omega
      · skip
        have HA := hid (show fillAt x.vals k = val0 by unfold fillAt; rw [dif_neg hin])
        have hik : ¬ (k : Int) < (x.vals.length : Int) := by omega
        have hE := hown.out
        clear hbc
        obtain ⟨hnv, hnv2⟩ : k ≤ 1048576 ∧ 0 ≤ k := by omega
        go_wp2_with ((at_builtin;  refine wpList_append_lies _ rfl (.tmp 30) (.tmp 32) 25 rfl (w1.heap.size + 1) 31 jj (.agg #[.int .i64 0, .bool false, .string ⟨#[]⟩, .int .i64 0, .string ⟨#[]⟩]) 5 56 Tryd.underlying25 ki kz0 kz1 kz2 rfl (by decide) v k (valsCells (fillK x.vals k)) rfl ?d1 ⟨wr.heap.size + 1, 0, none⟩ 1 1 [.int .i64 0, .bool false, .string ⟨#[]⟩, .int .i64 0, .string ⟨#[]⟩] rfl rfl ?d2 ?d3 (by decide) ?d4 ?d5 ?d6 _ rfl ?_ ))
        try (case d1 => exact own_later hE (by repeat' (first | (with_reducible exact Below.refl _ _) | (with_reducible refine Below.setCell ?_ ?_ _) | (with_reducible refine Below.alloc ?_ ?_ _) | (simp; done) | (simp; omega) | omega)))
        try (case d2 => exact World.news_of_block (cs := [.int .i64 0, .bool false, .string ⟨#[]⟩, .int .i64 0, .string ⟨#[]⟩].toArray) (t := 31) (fr := (0, 0)) (by simp))
        try (case d3 => first | exact one_valCells val0 | exact ⟨rfl, rfl, rfl, rfl, rfl⟩)
        try (case d4 => unfold maxLen; omega)
        try (case d5 => omega)
        try (case d6 => first | omega | (simp; omega))
        intro g2 cap2 w2 hown2 hgrow hat hlt2
        have hB2w : Below (w1.heap.size + 1) wr w2 := Below.grown (by repeat' (first | (with_reducible exact Below.refl _ _) | (with_reducible refine Below.alloc ?_ ?_ _) | (simp; done) | (simp; omega) | omega)) hgrow (by first | (simp; done) | (simp; omega)) (fun q hq => (hE.lt q hq).1)
        have r0 : w2.cell? ⟨w1.heap.size, 0, none⟩ = some (.slice (some ⟨gk, 0, none⟩) nk ck) := (hB2w.cell (p := ⟨w1.heap.size, 0, none⟩) (by show w1.heap.size < _; omega)).trans q0
        have r1 : w2.cell? ⟨w1.heap.size, 1, none⟩ = some v := (hB2w.cell (p := ⟨w1.heap.size, 1, none⟩) (by show w1.heap.size < _; omega)).trans q1
        have zr0 : w2.frozen? ⟨w1.heap.size, 0, none⟩ = false := (hB2w.frozen (p := ⟨w1.heap.size, 0, none⟩) (by show w1.heap.size < _; omega)).trans zq0
        have zr1 : w2.frozen? ⟨w1.heap.size, 1, none⟩ = false := (hB2w.frozen (p := ⟨w1.heap.size, 1, none⟩) (by show w1.heap.size < _; omega)).trans zq1
        have hl2 : w1.heap.size < w2.heap.size := by have := hB2w.size; omega
        have hbW : Below w1.heap.size w1 w2 := ⟨hB2w.os.trans hb.os, hB2w.tape.trans hb.tape, hB2w.output.trans hb.output, by omega, fun c hc => (hB2w.block c (by omega)).trans (hb.block c hc)⟩
        have HO2 := hid hown2
        clear hi hz0 hz1 hz2 ki kz0 kz1 kz2 hgrow hat hB2w hb hown hE hown2
        go_wp2
        go_roundw
        case rel =>
          refine ⟨k + 1, .slice (some ⟨g2, 0, none⟩) (k + 1) cap2, by omega, by go_num, (World.cell?_setCell_other _ _ _ _ (by simp)).trans r0, World.cell?_setCell_same _ _ _ r1, by simp [zr0, zr1], by simp [zr0, zr1], hid ?_, Below.setCell hbW (Nat.le_refl _) _, by simpa [World.setCell] using hl2⟩
          refine ownsRow_setCell_below ?_ (by show w1.heap.size < _; omega) _
          rw [fillK_succ, valsCells_append, HA.out]
          simpa [valsCells, valCells, val0] using HO2.out
        case measure => simp [intOf]; omega
    · obtain rfl : k = nk := by omega
      have p20 : wr.cell? ⟨w.heap.size + 1, 0, none⟩ = some (.slice none 0 0) := (hbc.1 _ 0 hl1').trans s20
      have p21 : wr.cell? ⟨w.heap.size + 1, 1, none⟩ = some (.slice none 0 0) := (hbc.1 _ 1 hl1').trans s21
      have y20 : wr.frozen? ⟨w.heap.size + 1, 0, none⟩ = false := (hbc.2 _ 0 hl1').trans z20
      have y21 : wr.frozen? ⟨w.heap.size + 1, 1, none⟩ = false := (hbc.2 _ 1 hl1').trans z21
      obtain ⟨av, cv, rfl⟩ := own_sl hown.out
      clear hi hz0 hz1 hz2 ki kz0 kz1 kz2 hbc
      go_wp2
      refine bodyPost_ret (v := .agg #[.slice (some ⟨gk, 0, none⟩) k ck, .slice av k cv]) (by simp [results, Tryd.results33, go_sem, p20, p21, y20, y21]) rfl ⟨gk, ck, .slice av k cv, ?_, ?_, w1.heap.size + 1, by omega, ?_, by omega, ?_⟩
      · rw [HNK.out]
      · have hW2 : Below w.heap.size w wr := ext_trans hW1 hb
        repeat' (first | (with_reducible exact hW2) | (with_reducible refine Below.setCell ?_ ?_ _) | (simp; done) | (simp; omega) | omega)
      · exact ownsRow_mono (ownsRow_setCell_below (ownsRow_setCell_below (own_later HK.out hb) (by show w.heap.size + 1 < _; omega) _) (by show w.heap.size + 1 < _; omega) _) (by omega)
      · rw [HNK.out]
        exact ownsRow_setCell_below (ownsRow_setCell_below hown.out (by show w.heap.size + 1 < _; omega) _) (by show w.heap.size + 1 < _; omega) _
theorem specCopy {cs : Array Value} {x : Arr} (w : World) (h : Rd.rd (Old w) w cs.toList x) (hn : x.keys.length ≤ 1048576) :
    Calls Tryd.prog 33 #[.agg cs] w fun e w' => ∃ cs' : Array Value, e = .returned (.agg cs') ∧ Rd.rd (New w.heap.size w') w' cs'.toList (arrFill x) ∧ Below w.heap.size w w' := by
  have hsk : ∀ s ∈ x.keys, s.size ≤ 9223372036854775807 := by obtain ⟨_, _, _, _, _, f0, _⟩ := rdArr h; exact strs_ok f0
  have hvk : ∀ y ∈ fillK x.vals x.keys.length, vOk y := by obtain ⟨_, _, _, _, _, _, f1⟩ := rdArr h; exact fillK_ok (vals_ok f1) _
  refine (specCopy_own w h hn).mono ?_
  rintro e w' ⟨g, ck, v, rfl, hb, C, hC, h1, _, h2⟩
  obtain ⟨av, cv, rfl⟩ := own_sl h2
  have hA := rdArr_mk (x := arrFill x) (own_strsN h1 hsk) (by show Rd.rd _ _ [.slice _ (fillK x.vals x.keys.length).length _] _; rw [fillK_len]; exact Rd.mono (fun b hb => ⟨Nat.le_trans hC hb.1, hb.2⟩) (own_valsN (xs := fillK x.vals x.keys.length) (by rw [fillK_len]; exact h2) hvk))
  have e1 : (arrFill x).vals.length = x.keys.length := fillK_len _ _
  rw [e1] at hA
  exact ⟨_, rfl, hA, hb⟩

theorem make_vals {P : Program} {t e : TypeId} (ht : P.underlying t = some (.slice e)) (hinfo : (P.info? e).map (fun i => (i.zero, i.size, i.bytes)) = some (some (.agg #[.int .i64 0, .bool false, .string ⟨#[]⟩, .int .i64 0, .string ⟨#[]⟩]), 5, 56)) (c : Nat) (hc : c ≤ 1048576) :
    ∀ w, (Instr.makeSlice t (.int .i64 (c : Int)) (.int .i64 (c : Int))).run P w = .ok (.slice (some ⟨w.heap.size, 0, none⟩) c c) (w.alloc (.cells (valsCells (List.replicate c val0)).toArray e)) := by
  intro w
  obtain ⟨i, hi, h1, h2, h3⟩ := info_parts hinfo
  have hb' : (i.bytes : Int) * (c : Int) ≤ 281474976710656 := by rw [h3]; omega
  have hr := run_make (P := P) w t e i _ ht hi h1 .i64 .i64 c c (by omega) (Int.le_refl _) hb' (by omega)
  have e1 : madeCells (Value.agg #[.int .i64 0, .bool false, .string ⟨#[]⟩, .int .i64 0, .string ⟨#[]⟩]).cells (c * 5) = (valsCells (List.replicate c val0)).toArray := by
    apply Array.ext'
    apply List.ext_getElem?
    intro j
    have hl := valsCells_len (List.replicate c val0)
    rw [List.length_replicate] at hl
    by_cases hj : j < c * 5
    · have hq : j / 5 < (List.replicate c val0).length := by rw [List.length_replicate]; omega
      have hr : j % 5 < 5 := by omega
      have hjq : j / 5 * 5 + j % 5 = j := by omega
      have hg := valsCells_get (List.replicate c val0) (j / 5) (j % 5) hq hr
      rw [hjq] at hg
      show _ = (valsCells (List.replicate c val0))[j]?
      rw [hg, List.getElem_replicate]
      simp only [madeCells, Array.toList_map, List.getElem?_map, Array.toList_range, Value.cells]
      rw [List.getElem?_range hj]
      show some _ = _
      have hs : (#[Value.int .i64 0, .bool false, .string ⟨#[]⟩, .int .i64 0, .string ⟨#[]⟩] : Array Value).size = 5 := rfl
      rw [hs]
      have h5 : j % 5 = 0 ∨ j % 5 = 1 ∨ j % 5 = 2 ∨ j % 5 = 3 ∨ j % 5 = 4 := by omega
      show some ((#[Value.int .i64 0, .bool false, .string ⟨#[]⟩, .int .i64 0, .string ⟨#[]⟩] : Array Value)[j % 5]!) = _
      rcases h5 with h | h | h | h | h <;> rw [h] <;> rfl
    · rw [List.getElem?_eq_none (by simp [madeCells]; omega), List.getElem?_eq_none (by show (valsCells _).length ≤ j; omega)]
  rw [h2] at hr
  simp only [Int.toNat_natCast] at hr
  rw [e1] at hr
  exact hr
theorem fillK_eq (vs : List Val) (n : Nat) : fillK vs n = vs.take n ++ (List.replicate n val0).drop (Nat.min vs.length n) := by
  apply List.ext_getElem?
  intro j
  by_cases hj : j < n
  · rw [List.getElem?_eq_getElem (by rw [fillK_len]; exact hj), fillK_get]
    by_cases hv : j < vs.length
    · rw [List.getElem?_append_left (by rw [List.length_take]; omega), List.getElem?_take, if_pos hj, List.getElem?_eq_getElem hv]
      unfold fillAt
      rw [dif_pos hv]
    · have hmin : Nat.min vs.length n = vs.length := Nat.min_eq_left (by omega)
      rw [List.getElem?_append_right (by rw [List.length_take]; omega), List.getElem?_drop, List.length_take, hmin, Nat.min_eq_right (by omega), List.getElem?_replicate, if_pos (by omega)]
      unfold fillAt
      rw [dif_neg hv]
  · rw [List.getElem?_eq_none (by rw [fillK_len]; omega), List.getElem?_eq_none]
    rw [List.length_append, List.length_take, List.length_drop, List.length_replicate]
    show min n vs.length + (n - min vs.length n) ≤ j
    omega
theorem vals_drop (xs : List Val) (k : Nat) (hk : k ≤ xs.length) : (valsCells xs).drop (k * 5) = valsCells (xs.drop k) := by
  have e1 : valsCells xs = valsCells (xs.take k) ++ valsCells (xs.drop k) := by rw [← valsCells_append, List.take_append_drop]
  rw [e1, List.drop_left' (by rw [valsCells_len, List.length_take, Nat.min_eq_left hk])]
theorem run_copy_any {P : Program} (w : World) (dT sT ty elem : TypeId) (k : Nat) (g dLen dCap : Nat) (sp : Option Addr) (sLen sCap : Nat) (cur : List Value) (t : TypeId) (cs : List Value)
    (hu : P.underlying dT = some (.slice elem)) (hs : (P.info? elem).map (·.size) = some k) (hk : 0 < k)
    (hg : w.heap[g]? = some (.cells cur.toArray t (0, 0))) (hn : cs.length = Nat.min sLen dLen * k)
    (hpos : 0 < cs.length → ∃ ad, sp = some ad ∧ ∀ j v, cs[j]? = some v → w.cell? (ad.add j) = some v) (hfit : cs.length ≤ cur.length) (h1 : ∀ v ∈ cs, v.oneCell' = true) :
    ∃ w', (Builtin.copy_ #[dT, sT] ty #[.slice (some ⟨g, 0, none⟩) dLen dCap, .slice sp sLen sCap]).run P w = .ok (goInt (Nat.min sLen dLen)) w' ∧ w'.heap[g]? = some (.cells (cs ++ cur.drop cs.length).toArray t (0, 0)) ∧ Off g w w' ∧ w'.heap.size = w.heap.size := by
  by_cases h0 : cs.length = 0
  · obtain rfl : cs = [] := List.eq_nil_of_length_eq_zero h0
    have hz : Nat.min sLen dLen = 0 := by
      simp only [List.length_nil] at hn
      rcases Nat.mul_eq_zero.1 hn.symm with h | h
      · exact h
      · omega
    rw [hz]
    exact ⟨w, run_copy_zerok (P := P) w dT sT ty elem k _ sp dLen dCap sLen sCap hu hs hz, by simpa using hg, Off.refl _ _, rfl⟩
  · obtain ⟨ad, rfl, hsrc⟩ := hpos (by omega)
    refine ⟨_, run_copy_rowk (P := P) w dT sT ty elem k g 0 dLen dCap ad sLen sCap cur.toArray t cs hu hs hg hn hsrc (by simpa using hfit) h1, by simpa using setRow_heap w g _ _ t _ hg, ⟨rfl, rfl, rfl, by simp [World.setRow], fun c hc hne => setRow_other w g c _ (fun e => hne e)⟩, by simp [World.setRow]⟩
theorem sCloneStr {v : Value} {xs : List ByteArray} (w : World) (h : Rd.rd (Old w) w [v] xs) (hn : xs.length ≤ 1048576) :
    Calls Tryd.prog 67 #[v] w fun e w' => ∃ u, e = .returned u ∧ w'.ownsRow w.heap.size 9 1 u xs.length (strCellsL xs) ∧ Below w.heap.size w w' := by
  obtain ⟨a, c, e0⟩ := rdSlc h
  obtain rfl : v = .slice a xs.length c := by simpa using e0
  obtain ⟨ii, hi, hz0, hz1, hz2⟩ := info_parts infoS
  by_cases h0 : 0 < xs.length
  · obtain ⟨b, off, rfl, hB, hc⟩ := strs_cells h h0
    have hcs : ∀ j, j < xs.length → w.cell? ⟨b, off + j, none⟩ = some (.string (xs.getD j ByteArray.empty)) := by
      intro j hj
      have := hc j (.string xs[j]) (by simp [strCellsL, List.getElem?_eq_getElem hj])
      rw [Addr.add_lit] at this
      rw [this, List.getD_eq_getElem?_getD, List.getElem?_eq_getElem hj]
      rfl
    refine (Tryd.slices_Clone_string b off xs.length c xs w (Nat.le_refl _) (by omega) hcs).mono ?_
    rintro e w' ⟨u, rfl, ho, _, hb⟩
    rw [List.take_length] at ho
    exact ⟨u, rfl, ho, hb⟩
  · obtain rfl : xs = [] := List.eq_nil_of_length_eq_zero (by omega)
    cases a with
    | none =>
      refine (Tryd.slices_Clone_string_nil _ c w).mono ?_
      rintro e w' ⟨rfl, rfl⟩
      exact ⟨_, rfl, ⟨rfl, Or.inl ⟨rfl, rfl⟩⟩, Below.refl _ _⟩
    | some a =>
      refine (Tryd.slices_Clone_string_zero a c w).mono ?_
      rintro e w' ⟨u, rfl, ho, _, hb⟩
      exact ⟨u, rfl, ho, hb⟩
set_option maxHeartbeats 8000000 in
set_option maxRecDepth 100000 in
theorem implFilled {cs : Array Value} {x : Arr} (w : World) (h : Rd.rd (Old w) w cs.toList x) (hn : x.keys.length ≤ 1048576) :
    Calls Tryd.prog 32 #[.agg cs] w fun e w' => ∃ (cs' : Array Value) (u v : Value), e = .returned (.agg cs') ∧ cs' = #[u, v] ∧ Below w.heap.size w w' ∧ ∃ C, w.heap.size ≤ C ∧
      w'.ownsRow C 9 1 u x.keys.length (strCellsL x.keys) ∧ (∃ g, v = .slice (some ⟨g, 0, none⟩) x.keys.length x.keys.length ∧ g < C) ∧ w'.ownsRow w.heap.size 31 5 v x.keys.length (valsCells (fillK x.vals x.keys.length)) := by
  obtain ⟨a0, c0, a1, c1, hcs, f0, f1⟩ := rdArr h
  obtain rfl := arr_of_list hcs
  have hmk := make_vals (P := Tryd.prog) (t := 25) (e := 31) Tryd.underlying25 infoV x.keys.length hn
  have hvk := vals_ok f1
  have F0 := hid f0
  have F1 := hid f1
  clear hcs h f0 f1
  have hV0 : ∀ (w' : World), Below w.heap.size w w' → 0 < (valsCells (x.vals.take x.keys.length)).length → some (⟨w.heap.size + 1 + 1, 0, none⟩ : Addr) = some ⟨w.heap.size + 1 + 1, 0, none⟩ ∧ ∃ ad, a1 = some ad ∧ ∀ j u, (valsCells (x.vals.take x.keys.length))[j]? = some u → w'.cell? (ad.add j) = some u := by
    intro w' hb h0
    rw [valsCells_len, List.length_take] at h0
    obtain ⟨b, off, rfl, hB, hc⟩ := vals_cells F1.out (by omega)
    refine ⟨rfl, _, rfl, fun j u hu => ?_⟩
    refine (hb.cell (by unfold Addr.add; split <;> exact hB)).trans (hc j u ?_)
    have hj := (List.getElem?_eq_some_iff.1 hu).1
    have e1 : valsCells x.vals = valsCells (x.vals.take x.keys.length) ++ valsCells (x.vals.drop x.keys.length) := by rw [← valsCells_append, List.take_append_drop]
    rw [e1, List.getElem?_append_left hj]
    exact hu
  have HV := hid hV0
  have HVK := hid hvk
  clear hV0 hvk
  have hB0 : Below w.heap.size w (((w.alloc (.cells #[.slice a0 x.keys.length c0, .slice a1 x.vals.length c1] 27)).alloc (.cells #[.slice none 0 0, .slice none 0 0] 27)).alloc (.cells (valsCells (List.replicate x.keys.length val0)).toArray 31)) := ext_trans (ext_trans (ext_trans (Below.refl _ _) (ext_alloc _ _)) (ext_alloc _ _)) (ext_alloc _ _)
  have hcl : (valsCells (x.vals.take x.keys.length)).length = Nat.min x.vals.length x.keys.length * 5 := by rw [valsCells_len, List.length_take, Nat.min_comm]
  have hgN : (((w.alloc (.cells #[.slice a0 x.keys.length c0, .slice a1 x.vals.length c1] 27)).alloc (.cells #[.slice none 0 0, .slice none 0 0] 27)).alloc (.cells (valsCells (List.replicate x.keys.length val0)).toArray 31)).heap[w.heap.size + 1 + 1]? = some (.cells (valsCells (List.replicate x.keys.length val0)).toArray 31 (0, 0)) := by
    have := heap_alloc_new ((w.alloc (.cells #[.slice a0 x.keys.length c0, .slice a1 x.vals.length c1] 27)).alloc (.cells #[.slice none 0 0, .slice none 0 0] 27)) (.cells (valsCells (List.replicate x.keys.length val0)).toArray 31)
    rw [show ((w.alloc (.cells #[.slice a0 x.keys.length c0, .slice a1 x.vals.length c1] 27)).alloc (.cells #[.slice none 0 0, .slice none 0 0] 27)).heap.size = w.heap.size + 1 + 1 by simp] at this
    exact this
  obtain ⟨w1, hcp, hg1, ho1, hsz1⟩ := run_copy_any (P := Tryd.prog) (((w.alloc (.cells #[.slice a0 x.keys.length c0, .slice a1 x.vals.length c1] 27)).alloc (.cells #[.slice none 0 0, .slice none 0 0] 27)).alloc (.cells (valsCells (List.replicate x.keys.length val0)).toArray 31)) 25 25 3 31 5 (w.heap.size + 1 + 1) x.keys.length x.keys.length a1 x.vals.length c1 (valsCells (List.replicate x.keys.length val0)) 31 (valsCells (x.vals.take x.keys.length)) Tryd.underlying25 (by kernel_rfl) (by decide) hgN hcl (fun h0 => (HV.out _ hB0 h0).2) (by rw [valsCells_len, valsCells_len, List.length_take, List.length_replicate]; omega) (one_valsCells _)
  rw [hcl, vals_drop _ _ (by rw [List.length_replicate]; exact Nat.min_le_right _ _), ← valsCells_append, ← fillK_eq] at hg1
  have hlv : (valsCells (fillK x.vals x.keys.length)).length = x.keys.length * 5 := by rw [valsCells_len, fillK_len]
  have hOV : w1.ownsRow w.heap.size 31 5 (.slice (some ⟨w.heap.size + 1 + 1, 0, none⟩) x.keys.length x.keys.length) x.keys.length (valsCells (fillK x.vals x.keys.length)) :=
    ⟨hlv, Or.inr ⟨_, _, _, rfl, by omega, hg1, Nat.le_refl _, by unfold maxLen; omega, by simpa using hlv, List.take_of_length_le (by show (valsCells _).length ≤ _; omega)⟩⟩
  simp at hsz1
  have hB1 : Below w.heap.size w w1 := ⟨ho1.os.trans hB0.os, ho1.tape.trans hB0.tape, ho1.output.trans hB0.output, by omega, fun c hc => (ho1.block c (by simp; omega) (by omega)).trans (hB0.block c hc)⟩
  have hcell : ∀ b o, b < w.heap.size + 1 + 1 → w1.cell? ⟨b, o, none⟩ = ((w.alloc (.cells #[.slice a0 x.keys.length c0, .slice a1 x.vals.length c1] 27)).alloc (.cells #[.slice none 0 0, .slice none 0 0] 27)).cell? ⟨b, o, none⟩ := fun b o hb => (World.cell?_of_block (ho1.block b (by simp; omega) (by omega))).trans ((ext_alloc _ _).cell (p := ⟨b, o, none⟩) (by simp; omega))
  have hfro : ∀ b o, b < w.heap.size + 1 + 1 → w1.frozen? ⟨b, o, none⟩ = ((w.alloc (.cells #[.slice a0 x.keys.length c0, .slice a1 x.vals.length c1] 27)).alloc (.cells #[.slice none 0 0, .slice none 0 0] 27)).frozen? ⟨b, o, none⟩ := fun b o hb => (World.frozen?_of_block (ho1.block b (by simp; omega) (by omega))).trans ((ext_alloc _ _).frozen (p := ⟨b, o, none⟩) (by simp; omega))
  have s10 : w1.cell? ⟨w.heap.size, 0, none⟩ = some (.slice a0 x.keys.length c0) := (hcell w.heap.size 0 (by omega)).trans (by simp)
  have s20 : w1.cell? ⟨w.heap.size + 1, 0, none⟩ = some (.slice none 0 0) := (hcell (w.heap.size + 1) 0 (by omega)).trans (by simp)
  have s21 : w1.cell? ⟨w.heap.size + 1, 1, none⟩ = some (.slice none 0 0) := (hcell (w.heap.size + 1) 1 (by omega)).trans (by simp)
  have z20 : w1.frozen? ⟨w.heap.size + 1, 0, none⟩ = false := (hfro (w.heap.size + 1) 0 (by omega)).trans (by simp)
  have z21 : w1.frozen? ⟨w.heap.size + 1, 1, none⟩ = false := (hfro (w.heap.size + 1) 1 (by omega)).trans (by simp)
  have HOV := hid hOV
  clear hOV hg1 ho1 hcell hfro hB0 hlv hcl
  go_enter Tryd.func32, Tryd.ntmps32
  go_wp2_with fail
  refine (sCloneStr _ (by exact Rd.later hB1 F0.out) hn).mono ?_
  rintro e w2 ⟨u, rfl, hown, hb2⟩
  obtain ⟨hc2, hf2⟩ := bcell hb2
  have hl2 : w.heap.size + 1 < w1.heap.size := by omega
  have r20 : w2.cell? ⟨w.heap.size + 1, 0, none⟩ = some (.slice none 0 0) := (hc2 _ 0 hl2).trans s20
  have r21 : w2.cell? ⟨w.heap.size + 1, 1, none⟩ = some (.slice none 0 0) := (hc2 _ 1 hl2).trans s21
  have y20 : w2.frozen? ⟨w.heap.size + 1, 0, none⟩ = false := (hf2 _ 0 hl2).trans z20
  have y21 : w2.frozen? ⟨w.heap.size + 1, 1, none⟩ = false := (hf2 _ 1 hl2).trans z21
  obtain ⟨au, cu, rfl⟩ := own_sl hown
  have HO := hid hown
  clear hmk hcp hown hc2 hf2
  go_wp2
  refine bodyPost_ret (v := .agg #[.slice au x.keys.length cu, .slice (some ⟨w.heap.size + 1 + 1, 0, none⟩) x.keys.length x.keys.length]) (by simp [results, Tryd.results32, go_sem, r20, r21, y20, y21]) rfl ⟨_, _, _, rfl, rfl, ?_, w1.heap.size, by omega, ?_, ⟨_, rfl, by omega⟩, ?_⟩
  · have hB2 : Below w.heap.size w w2 := ext_trans hB1 hb2
    repeat' (first | (with_reducible exact hB2) | (with_reducible refine Below.setCell ?_ ?_ _) | (simp; done) | (simp; omega) | omega)
  · exact ownsRow_setCell_below (ownsRow_setCell_below HO.out (by show w.heap.size + 1 < _; omega) _) (by show w.heap.size + 1 < _; omega) _
  · refine ownsRow_setCell_other (ownsRow_setCell_other (own_later HOV.out hb2) ?_ _) ?_ _ <;> simp [Value.ownBlock]
end Go.Proofs.YtommldonooicjaaDoor
