/-
  What is proved here: CsvRead in impl. The condition 'Tabs' says that the library's tables for UTF-8 lie in the world.
-/
import Derived.Test.YtommldonooicjaaDoorCsvI4
import Derived.Deep.AppendLies
namespace Go.Proofs.YtommldonooicjaaDoor
open Go.RowKit
set_option linter.unusedVariables false
set_option linter.unusedSimpArgs false

structure CsvRow where
  cells : List ByteArray
@[reducible] instance : Rd CsvRow := Rd.via fun x => x.cells
def toRow (cs : List (List UInt8)) : CsvRow := ⟨cs.map mkB⟩
/-- the rows that a reader has made -/
def RowsNs (g : Nat) (nv : Value) (w : World) (rs : List CsvRow) : Prop := ∃ css : List (List Value), w.ownsRow (g + 1) 69 1 nv rs.length css.flatten ∧ Each (Beside (fun _ => False) g nv.ownBlock w) w css rs
theorem KpweakC {g : Nat} {w w' : World} (h : Kp g none w w') (r : Option Nat) : Kp g r w w' := ⟨h.os, h.tape, h.output, h.size, fun b hb hg _ => h.block b hb hg (by simp)⟩
theorem RowsNs.kp {g : Nat} {nv : Value} {w w' : World} {rs : List CsvRow} (h : RowsNs g nv w rs) (k : Kp g none w w') : RowsNs g nv w' rs := by
  obtain ⟨css, h1, h2⟩ := h
  exact ⟨css, k.row h1 (fun b _ => by simp), (KpweakC k nv.ownBlock).each (RowOn.refl _ _) h2⟩
theorem info_row : (Tryd.prog.info? 69).map (fun i => (i.zero, i.size, i.bytes)) = some (some (.agg #[.slice none 0 0]), 1, 24) := by kernel_rfl
theorem rd_cells {w : World} {B : Nat} {e : TypeId} {v : Value} {cs : List (List UInt8)} (h : w.ownsRow B e 1 v cs.length (cellV cs)) (hs : ∀ t ∈ cs, t.length ≤ 1000000) : Rd.rd (New B w) w [v] (cs.map mkB) := by
  rcases h.2 with ⟨hv, h1⟩ | ⟨g, cap', cur, hv, hB, hg, hle, hm, _⟩
  · subst hv
    exact ⟨none, 0, by rw [List.length_map, h1], by rw [List.length_map]; omega, by omega, fun h0 => by rw [List.length_map] at h0; omega⟩
  · subst hv
    refine ⟨some ⟨g, 0, none⟩, cap', by rw [List.length_map], by rw [List.length_map]; exact hle, by unfold maxLen at hm; omega, fun h0 => ⟨g, 0, rfl, ⟨hB, (Array.getElem?_eq_some_iff.1 hg).1⟩, fun i hi => ?_⟩⟩
    have hi' : i < cs.length := by rw [List.length_map] at hi; exact hi
    refine ⟨[.string (mkB cs[i])], fun j hj => ?_, by rw [List.getElem_map] <;> rfl, ?_⟩
    · have hj0 : j = 0 := by
        have : Rd.n ByteArray = 1 := rfl
        omega
      subst hj0
      have hx := h.cells (g := g) rfl i (.string (mkB cs[i])) (by unfold cellV; rw [List.getElem?_map, List.getElem?_eq_getElem hi'] <;> rfl)
      have hn : Rd.n ByteArray = 1 := rfl
      rw [hn, Nat.mul_one, Nat.zero_add, Nat.add_zero]
      simpa [Addr.add_lit] using hx
    · rw [List.getElem_map, mkB_size]
      have := hs _ (List.getElem_mem hi')
      omega
theorem rowP_cells (L : List UInt8) : ∀ (k p : Nat) (cs : List (List UInt8)), (rowP L k p cs).1 = 0 → ∀ t ∈ (rowP L k p cs).2.2, t ∈ cs ∨ t.length ≤ 1000
  | 0, p, cs, h => by rw [rowP_zero] at h; cases h
  | k + 1, p, cs, h => by
    obtain ⟨⟨c, n, t⟩, hc⟩ : ∃ x, cellP (L.drop p) = x := ⟨_, rfl⟩
    rw [rowP_succ L k p cs hc] at h ⊢
    by_cases h0 : c ≠ 0
    · rw [if_pos h0] at h; exact absurd h h0
    · rw [if_neg h0] at h ⊢
      by_cases h1 : 1000 < t.length
      · rw [if_pos h1] at h; cases h
      · rw [if_neg h1] at h ⊢
        cases hE : endR (L.drop (p + n)) with
        | some e =>
          intro x hx
          have hx' : x ∈ cs ++ [t] := hx
          rcases List.mem_append.1 hx' with h | h
          · exact Or.inl h
          · rw [List.mem_singleton.1 h]; exact Or.inr (by omega)
        | none =>
          rw [hE] at h
          intro x hx
          have hx' : x ∈ (rowP L k (p + n + 1) (cs ++ [t])).2.2 := hx
          rcases rowP_cells L k (p + n + 1) (cs ++ [t]) h x hx' with h2 | h2
          · rcases List.mem_append.1 h2 with h | h
            · exact Or.inl h
            · rw [List.mem_singleton.1 h]; exact Or.inr (by omega)
          · exact Or.inr h2
theorem rowP_mono (L : List UInt8) : ∀ (k p : Nat) (cs : List (List UInt8)), p ≤ (rowP L k p cs).2.1
  | 0, p, cs => by rw [rowP_zero]; exact Nat.le_refl _
  | k + 1, p, cs => by
    obtain ⟨⟨c, n, t⟩, hc⟩ : ∃ x, cellP (L.drop p) = x := ⟨_, rfl⟩
    rw [rowP_succ L k p cs hc]
    split
    · show p ≤ p + n; omega
    · split
      · exact Nat.le_refl _
      · cases hE : endR (L.drop (p + n)) with
        | some e => show p ≤ p + n + e; omega
        | none =>
          have := rowP_mono L k (p + n + 1) (cs ++ [t])
          show p ≤ (rowP L k (p + n + 1) (cs ++ [t])).2.1
          omega
theorem rowP_more (L : List UInt8) {k p : Nat} {cs : List (List UInt8)} (hp : p < L.length) (h : (rowP L (k + 1) p cs).1 = 0) : p < (rowP L (k + 1) p cs).2.1 := by
  obtain ⟨⟨c, n, t⟩, hc⟩ : ∃ x, cellP (L.drop p) = x := ⟨_, rfl⟩
  rw [rowP_succ L k p cs hc] at h ⊢
  by_cases h0 : c ≠ 0
  · rw [if_pos h0] at h; exact absurd h h0
  · rw [if_neg h0] at h ⊢
    by_cases h1 : 1000 < t.length
    · rw [if_pos h1] at h; cases h
    · rw [if_neg h1]
      cases hE : endR (L.drop (p + n)) with
      | some e =>
        show p < p + n + e
        rcases Nat.eq_zero_or_pos (n + e) with hz | hz
        · exfalso
          have hn : n = 0 := by omega
          have he : e = 0 := by omega
          subst hn; subst he
          rw [Nat.add_zero, List.drop_eq_getElem_cons hp] at hE
          unfold endR at hE
          simp only at hE
          repeat' split at hE
          all_goals cases hE
        · omega
      | none =>
        have := rowP_mono L k (p + n + 1) (cs ++ [t])
        show p < (rowP L k (p + n + 1) (cs ++ [t])).2.1
        omega
/-- a reading of rows -/
def ReadRes (w w' : World) (R : List (List (List UInt8)) × Nat × Nat) (e : Ending) : Prop :=
  ∃ nv : Value, e = .returned (.tuple #[nv, .int .i64 (R.2.1 : Int), .int .i64 (R.2.2 : Int)]) ∧ Rd.rd (New w.heap.size w') w' [nv] (R.1.map toRow) ∧ Below w.heap.size w w'
theorem rd_own_at {α : Type} [Rd α] {S : Nat → Prop} {w : World} {base : Nat} {e : TypeId} {v : Value} {css : List (List Value)} {xs : List α} (h : w.ownsRow base e (Rd.n α) v xs.length css.flatten) (he : Each S w css xs) (hS : ∀ b, v.ownBlock = some b → base ≤ b → b < w.heap.size → S b) : Rd.rd S w [v] xs := by
  rcases h.2 with ⟨rfl, hn⟩ | ⟨g, cap, cur, rfl, hb, hg, hnc, hcm, hcs, htake⟩
  · rw [show xs = [] from List.eq_nil_of_length_eq_zero hn]
    exact ⟨none, 0, rfl, Nat.le_refl _, by omega, fun h => absurd h (by simp)⟩
  · have hlt : g < w.heap.size := (Array.getElem?_eq_some_iff.1 hg).1
    have hcur : cur = (css.flatten ++ cur.toList.drop (xs.length * Rd.n α)).toArray := by
      rw [← htake, List.take_append_drop]
    rw [hcur] at hg
    exact rd_of_block hg he (hS g rfl hb hlt) hnc (by unfold maxLen at hcm; omega)
theorem RowOn.up {w w1 : World} {r r' : Option Nat} (h : RowOn w1 r r') (hs : w.heap.size ≤ w1.heap.size) : RowOn w r r' := by
  rcases h with h | ⟨b, h1, h2⟩
  · exact Or.inl h
  · exact Or.inr ⟨b, h1, Nat.le_trans hs h2⟩
theorem rows_new {g : Nat} {nv : Value} {w : World} {rs : List CsvRow} (h : RowsNs g nv w rs) : Rd.rd (New (g + 1) w) w [nv] rs := by
  obtain ⟨css, ho, he⟩ := h
  exact rd_own_at ho (he.mono (fun b hb => ⟨hb.1, hb.2.1⟩)) (fun b _ h1 h2 => ⟨h1, h2⟩)
theorem rows_base {B B' : Nat} {w : World} {nv : Value} {rs : List CsvRow} (h : Rd.rd (New B w) w [nv] rs) (hB : B' ≤ B) : Rd.rd (New B' w) w [nv] rs := Rd.mono (fun b hb => ⟨Nat.le_trans hB hb.1, hb.2⟩) h
theorem readC_end (L : List UInt8) {f p : Nat} (rs : List (List (List UInt8))) (h : L.length ≤ p) : readC L f p rs = (rs, 0, 0) := by
  cases f with
  | zero => rw [readC]
  | succ f => rw [readC, if_pos h]
theorem readC_step (L : List UInt8) {f p : Nat} (rs : List (List (List UInt8))) (h : ¬ L.length ≤ p) : readC L (f + 1) p rs = if (rowP L 100 p []).1 ≠ 0 then (rs, (rowP L 100 p []).2.1, (rowP L 100 p []).1) else readC L f (rowP L 100 p []).2.1 (rs ++ [(rowP L 100 p []).2.2]) := by rw [readC, if_neg h]
theorem readBel {w w1 w2 : World} (h : Below w.heap.size w w1) (k : Below w1.heap.size w1 w2) : Below w.heap.size w w2 := ext_trans h k
set_option maxHeartbeats 16000000 in
set_option maxRecDepth 100000 in
theorem implCsvRead (s : ByteArray) (w : World) (hT : Tabs w) :
    Calls Tryd.prog 21 #[.string s] w fun e w' => ReadRes w w' (csvR s) e := by
  obtain ⟨i0, hi, hz0, hz1, hz2⟩ := info_parts info_row
  have CF := hid (implIsFile s w hT)
  obtain ⟨b, hb⟩ : ∃ b, fileOk s = b := ⟨_, rfl⟩
  rw [hb] at CF
  cases b with
  | false =>
    have HR := hid (show csvR s = ([], 0, 1) by unfold csvR; rw [hb]; rfl)
    clear hb hT hi hz0 hz1 hz2
    go_enter Tryd.func21, Tryd.ntmps21
    go_wp2_with fail
    refine CF.out.mono ?_
    rintro e w1 ⟨rfl, hb1⟩
    go_wp2
    refine bodyPost_ret (v := .tuple #[.slice none 0 0, .int .i64 0, .int .i64 1]) (by simp [results, Tryd.results21, go_sem, *]) rfl ⟨.slice none 0 0, by rw [HR.out] <;> rfl, ?_, ?_⟩
    · rw [HR.out]
      exact ⟨none, 0, rfl, Nat.le_refl _, by omega, fun h => absurd h (by simp)⟩
    · exact hb1
  | true =>
    have hs := file_size hb
    have HR := hid (show csvR s = readC s.data.toList s.size 0 [] by unfold csvR; rw [hb]; rfl)
    obtain ⟨R, hR⟩ : ∃ R, csvR s = R := ⟨_, rfl⟩
    rw [hR] at HR ⊢
    clear hb hT hR
    go_enter Tryd.func21, Tryd.ntmps21
    go_wp2_with fail
    refine CF.out.mono ?_
    rintro e w1 ⟨rfl, hb1⟩
    have hal := ext_alloc w1 (.cells #[.string s, .int .i64 0] 72)
    obtain ⟨w2, hw2⟩ : ∃ x, w1.alloc (.cells #[.string s, .int .i64 0] 72) = x := ⟨_, rfl⟩
    have HC2 := hid (show CRd w2 w1.heap.size s 0 by rw [← hw2]; exact heap_alloc_new w1 _)
    have HB2 := hid (show Below w1.heap.size w1 w2 by rw [← hw2]; exact hal)
    have HB1 := hid hb1
    clear hb1 hal CF
    go_wp2
    try rw [hw2]
    clear hw2
    go_loopw [6, 7, 8] (fun v6 v7 v8 wr => ∃ (q f : Nat) (rs : List (List (List UInt8))), q ≤ s.size ∧ rs.length ≤ q ∧ s.size ≤ f + q ∧ CRd wr w1.heap.size s q ∧ RowsNs w1.heap.size v6 wr (rs.map toRow) ∧ Below w1.heap.size w1 wr ∧ Hid (R = readC s.data.toList f q rs)) (fun _ _ _ wr => s.size - atOf wr w1.heap.size)
    case atStart => exact ⟨0, s.size, [], Nat.zero_le _, Nat.zero_le _, Nat.le_refl _, HC2.out, ⟨[], ⟨rfl, Or.inl ⟨rfl, rfl⟩⟩, Each.nil⟩, HB2.out, HR⟩
    case round =>
      obtain ⟨q, f, rs, hq, hrl, hf, hc, hrows, hbel, HQ⟩ := hrel
      obtain ⟨css, hown, heach⟩ := hrows
      rw [List.length_map] at hown
      obtain ⟨va, vc, rfl⟩ := row_shapeC hown
      obtain ⟨c0, c1, z0, z1, hg'⟩ := hc.cells
      have HSW := hid (show w.heap.size ≤ w1.heap.size from HB1.out.size)
      have HAT := hid hc.atOf
      have HC := hid hc
      have HO := hid hown
      have HE := hid heach
      have HBL := hid hbel
      clear hc hown heach hbel
      by_cases hend : s.size ≤ q
      · have hg1 : ¬ (q : Int) < (s.size : Int) := by omega
        have HRR := hid (show R = (rs, 0, 0) by rw [HQ.out, readC_end _ _ (by rw [← Lib.size_eq]; exact hend)])
        clear HQ hend
        go_wp2
        refine bodyPost_ret (v := .tuple #[.slice va rs.length vc, .int .i64 0, .int .i64 0]) (by simp [results, Tryd.results21, go_sem, *]) rfl ⟨.slice va rs.length vc, by rw [HRR.out] <;> rfl, ?_, ?_⟩
        · rw [HRR.out]
          exact rows_base (rows_new ⟨css, by rw [List.length_map]; exact HO.out, HE.out⟩) (by have := HSW.out; omega)
        · exact readBel HB1.out HBL.out
      have hg1 : (q : Int) < (s.size : Int) := by omega
      obtain ⟨f', rfl⟩ : ∃ f', f = f' + 1 := ⟨f - 1, by omega⟩
      obtain ⟨L, hL⟩ : ∃ L, s.data.toList = L := ⟨_, rfl⟩
      have hLs : L.length = s.size := by rw [← hL, Lib.size_eq]
      have HRS := hid (show R = if (rowP L 100 q []).1 ≠ 0 then (rs, (rowP L 100 q []).2.1, (rowP L 100 q []).1) else readC L f' (rowP L 100 q []).2.1 (rs ++ [(rowP L 100 q []).2.2]) by rw [HQ.out, hL, readC_step _ _ (by omega)])
      have CC := hid (fun (w' : World) (hq' : Qt wr w') => implCsvRow w' (HC.out.qt hq') hq hs)
      rw [hL] at CC
      have HCL := hid (rowP_cells L 100 q [])
      have HMORE := hid (rowP_more L (k := 99) (p := q) (cs := []) (by omega))
      obtain ⟨⟨pc, pe, pcs⟩, hP⟩ : ∃ x, rowP L 100 q [] = x := ⟨_, rfl⟩
      rw [show 99 + 1 = 100 from rfl] at HMORE
      rw [hP] at HRS CC HCL HMORE
      have HL := hid hL
      clear HQ hend hP hLs hL
      go_wp2_with fail
      refine (CC.out _ (Qt.refl _)).mono ?_
      rintro e w3 ⟨ra, rn, rc, rfl, hc3, hk3, hown3, hpe⟩
      dsimp only at hc3 hown3 hpe
      have hsz3 := hk3.size
      obtain ⟨w5, hw5⟩ : ∃ x, (w3.alloc (.cells #[.slice none 0 0] 69)).setCell ⟨w3.heap.size, 0, none⟩ (.slice ra rn rc) = x := ⟨_, rfl⟩
      have HK5 := hid (show Kp w1.heap.size none wr w5 by rw [← hw5]; exact (hk3.alloc _).new hsz3 _)
      have HC5 := hid (show CRd w5 w1.heap.size s pe by
        rw [← hw5]
        exact CRd.other (((ext_alloc w3 _).block w1.heap.size (by omega)).trans hc3) (by omega) _)
      have HV5 := hid (show w5.heap[w3.heap.size]? = some (.cells #[.slice ra rn rc] 69 (0, 0)) by
        rw [← hw5]
        exact set_one (heap_alloc_new w3 _))
      have HOW := hid hown3
      have HB5 := hid (show Below w3.heap.size w3 w5 by
        rw [← hw5]
        exact (ext_alloc w3 _).setCell (Nat.le_refl _) _)
      have hsz5 : w5.heap.size = w3.heap.size + 1 := by rw [← hw5]; simp [World.setCell]
      have HS5 := hid hsz5
      have HS3 := hid hsz3
      clear c0 c1 z0 z1 hg' hc3 hk3 CC hsz3 hown3 hsz5
      go_upto_region 7 with fail
      try rw [hw5]
      clear hw5
      have v0 : w5.cell? ⟨w3.heap.size, 0, none⟩ = some (.slice ra rn rc) := cell_of_row _ _ 0 _ _ _ HV5.out
      have vy : w5.frozen? ⟨w3.heap.size, 0, none⟩ = false := frozen_of_row _ _ 0 _ _ HV5.out
      obtain ⟨c0, c1, z0, z1, hg'⟩ := HC5.out.cells
      by_cases hpc : pc = 0
      rotate_left
      · have hz1 : ((pc : Int) != 0) = true := by rw [bne_iff_ne]; omega
        have hz2 : ((pc : Int) == 0) = false := by rw [beq_eq_false_iff_ne]; omega
        have HRR := hid (show R = (rs, pe, pc) by rw [HRS.out, if_pos hpc])
        clear HRS HMORE HCL HOW
        go_wp2_with fail
        go_quiet (fail)
        go_wp2
        refine bodyPost_ret (v := .tuple #[.slice va rs.length vc, .int .i64 (pe : Int), .int .i64 (pc : Int)]) (by simp [results, Tryd.results21, go_sem, *]) rfl ⟨.slice va rs.length vc, by rw [HRR.out] <;> rfl, ?_, ?_⟩
        · rw [HRR.out]
          refine rows_base (B := w1.heap.size + 1) ?_ (by have := HSW.out; omega)
          exact (rows_new (RowsNs.kp ⟨css, by rw [List.length_map]; exact HO.out, HE.out⟩ (HK5.out.drewN _)))
        · exact readBel HB1.out (HBL.out.trans ((HK5.out.drewN _).below (by have := HC.out.cells.2.2.2.2; omega) (fun b h => by cases h)))
      subst hpc
      have HRR := hid (show R = readC L f' pe (rs ++ [pcs]) by rw [HRS.out, if_neg (by simp)])
      have hmore := HMORE.out rfl
      have hcl := HCL.out rfl
      clear HRS HMORE HCL
      go_upto_region 9 with fail
      have hown5 : w5.ownsRow (w1.heap.size + 1) 69 1 (.slice va rs.length vc) rs.length css.flatten := HK5.out.row HO.out (fun b _ => by simp)
      go_wp2_with ((at_builtin; refine wpList_append_lies _ rfl (.tmp 35) (.tmp 37) 43 rfl (w1.heap.size + 1) 69 i0 (.agg #[.slice none 0 0]) 1 24 Tryd.underlying43 hi hz0 hz1 hz2 rfl (by decide) _ _ _ rfl (hown5.alloc _) ⟨w5.heap.size, 0, none⟩ 1 1 [.slice ra rn rc] rfl rfl ?c1 ?c2 (by decide) ?c3 ?c4 ?c5 _ rfl ?_))
      try (case c1 => exact cell_one_new _ _ _)
      case c2 => rfl
      case c3 => unfold maxLen; omega
      case c4 => omega
      case c5 => (have hs5 := HS5.out; have hs3 := HS3.out; have := HC.out.cells.2.2.2.2; simp; omega)
      have hs5 := HS5.out
      have hs3 := HS3.out
      have hgr := HC.out.cells.2.2.2.2
      intro g7 cap7 w7 hown7 hgrow7 hat7 hlt7
      have hnl := fun b (e : (Value.slice va rs.length vc).ownBlock = some b) => HO.out.lt b e
      have hk7 : Kp w1.heap.size (Value.slice va rs.length vc).ownBlock wr w7 := Kp.grown ((KpweakC HK5.out _).alloc _) hgrow7
      have hk3 : Kp w1.heap.size (Value.slice va rs.length vc).ownBlock w3 w7 := Kp.grown ((Kp.of_below (g := w1.heap.size) (row := (Value.slice va rs.length vc).ownBlock) HB5.out).alloc _) hgrow7
      have hro3 : RowOn w3 (Value.slice va rs.length vc).ownBlock (some g7) := by
        rcases hat7 with h | h
        · exact Or.inl h.symm
        · exact Or.inr ⟨g7, rfl, by (try simp at h); omega⟩
      have hro : RowOn wr (Value.slice va rs.length vc).ownBlock (some g7) := hro3.up hs3
      have hE7 := hk7.each (r' := some g7) hro HE.out
      have hv7 : Rd.rd (Beside (fun _ => False) w1.heap.size (some g7) w7) w7 [.slice ra rn rc] (toRow pcs) := by
        refine hk3.rd hro3 (Rd.mono (fun b hb => ⟨by have := hb.1; omega, hb.2, fun e => by have := (hnl b e).2; have := hb.1; omega, fun h => h⟩) (rd_cells (HOW.out trivial) (fun t ht => ?_)))
        rcases hcl t ht with h | h
        · cases h
        · omega
      have HR7 := hid (show RowsNs w1.heap.size (.slice (some ⟨g7, 0, none⟩) (rs.length + 1) cap7) w7 ((rs ++ [pcs]).map toRow) by
        rw [List.map_append]
        refine ⟨css ++ [[.slice ra rn rc]], ?_, hE7.snoc hv7⟩
        rw [List.length_append, List.flatten_append, List.length_map]
        simpa using hown7)
      have HC7 := hid (show CRd w7 w1.heap.size s pe from (hgrow7.block w1.heap.size (by simp; omega) (fun e => by have := (hnl _ e.symm).1; omega)).trans (((ext_alloc w5 _).block w1.heap.size (by omega)).trans HC5.out))
      have HB7 := hid (show Below w1.heap.size w1 w7 from HBL.out.trans (hk7.below (by omega) (fun b e => by have := (hnl b e).1; omega)))
      clear hown5 hown7 hgrow7 hat7 hlt7 hnl hk7 hk3 hro3 hro hE7 hv7 hcl HE HO HOW HB5 HV5 v0 vy hs5 hs3 hgr c0 c1 z0 z1 hg'
      go_wp2
      go_roundw
      case rel => exact ⟨pe, f', rs ++ [pcs], hpe, by simp; omega, by omega, HC7.out, HR7.out, HB7.out, hid (by rw [HRR.out, HL.out])⟩
      case measure =>
        have e1 := HC7.out.atOf
        have e2 := HAT.out
        rw [e1, e2]
        omega
end Go.Proofs.YtommldonooicjaaDoor
