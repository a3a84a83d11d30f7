/-
  What is proved here: CsvRead in spec: its place and its code. No condition.
-/
import Derived.Test.YtommldonooicjaaDoorCsvS3
import Derived.Deep.AppendLies
import Derived.Deep.Cut
namespace Go.Proofs.YtommldonooicjaaDoor
open Go.RowKit
set_option linter.unusedVariables false
set_option linter.unusedSimpArgs false

theorem own_keepB {w w' : World} {B : Nat} {e : TypeId} {size n : Nat} {v : Value} {xs : List Value} (h : w.ownsRow B e size v n xs) (hb : Below w.heap.size w w') : w'.ownsRow B e size v n xs := by
  refine ⟨h.1, ?_⟩
  rcases h.2 with h1 | ⟨b, cap, cur, rfl, h1, h2, h3⟩
  · exact Or.inl h1
  · exact Or.inr ⟨b, cap, cur, rfl, h1, (hb.block b (Array.getElem?_eq_some_iff.1 h2).1).trans h2, h3⟩
theorem own_qt {w w' : World} {B : Nat} {e : TypeId} {size n : Nat} {v : Value} {xs : List Value} (h : w.ownsRow B e size v n xs) (hq : Qt w w') : w'.ownsRow B e size v n xs := own_keepB h (hq.below _)
/-- a row in its cell, as it is read -/
structure RowIn (wo wr : World) (R : Nat) (va : Option Addr) (n vc : Nat) (xs : List Value) : Prop where
  at' : wr.heap[R]? = some (.cells #[.slice va n vc] 69 (0, 0))
  own : wr.ownsRow (R + 1) 9 1 (.slice va n vc) n xs
  bel : Below wo.heap.size wo wr
  eq : wo.heap.size = R
theorem RowIn.qt {wo wr w' : World} {R : Nat} {va : Option Addr} {n vc : Nat} {xs : List Value} (h : RowIn wo wr R va n vc xs) (hq : Qt wr w') : RowIn wo w' R va n vc xs :=
  ⟨hq.at h.at', own_qt h.own hq, (h.bel).trans (hq.below _), h.eq⟩
theorem RowIn.qtB {wo wr w' : World} {R : Nat} {va : Option Addr} {n vc : Nat} {xs : List Value} (h : RowIn wo wr R va n vc xs) (hq : Qt wr w') : Below wo.heap.size wo w' := h.bel.trans (hq.below _)
theorem RowIn.cells {wo wr : World} {R : Nat} {va : Option Addr} {n vc : Nat} {xs : List Value} (h : RowIn wo wr R va n vc xs) : wr.cell? ⟨R, 0, none⟩ = some (.slice va n vc) ∧ wr.frozen? ⟨R, 0, none⟩ = false ∧ R < wr.heap.size :=
  ⟨cell_of_row _ _ 0 _ _ _ h.at', frozen_of_row _ _ 0 _ _ h.at', (Array.getElem?_eq_some_iff.1 h.at').1⟩
theorem endS_pos {l : List UInt8} : (endS l = 0 ↔ endR l = none) := by
  unfold endS
  cases h : endR l with
  | none => simp
  | some e =>
    cases e with
    | zero => simp
    | succ e => simp
theorem endS_some {l : List UInt8} {e : Nat} (h : endR l = some e) : (e = 0 ∧ endS l = 9 ∧ l = []) ∨ (0 < e ∧ endS l = e) := by
  cases e with
  | zero =>
    left
    refine ⟨rfl, by unfold endS; rw [h]; rfl, ?_⟩
    cases l with
    | nil => rfl
    | cons c r =>
      rw [endR_cons] at h
      split at h
      · cases h
      · split at h <;> cases h
  | succ e => exact Or.inr ⟨by omega, by unfold endS; rw [h]; rfl⟩
theorem unqN_stop {l : List UInt8} (h : (endR l).isSome = true ∨ l.head? = some 44) : unqN l = (0, 0) := by
  cases l with
  | nil => rfl
  | cons c r => rw [unqN_cons, if_pos (by rcases h with h | h; exact Or.inl h; exact Or.inr (by simpa using h))]
/-- what is returned: a place and a code -/
def CodeRes (w w' : World) (R : List (List (List UInt8)) × Nat × Nat) (e : Ending) : Prop :=
  ∃ nv : Value, e = .returned (.tuple #[nv, .int .i64 (R.2.1 : Int), .int .i64 (R.2.2 : Int)]) ∧ Below w.heap.size w w'
set_option maxHeartbeats 32000000 in
set_option maxRecDepth 100000 in
theorem specCsvRead (s : ByteArray) (w : World) :
    Calls Tryd.prog 24 #[.string s] w fun e w' => CodeRes w w' (csvR s) e := by
  obtain ⟨iS, hiS, hs0, hs1, hs2⟩ := info_parts info_strC
  obtain ⟨iR, hiR, hr0, hr1, hr2⟩ := info_parts info_row
  have hal := ext_alloc w (.cells #[] 69)
  have hown0 := own_none (w := w) (Nat.le_refl _) 69
  obtain ⟨w1, hw1⟩ : ∃ x, w.alloc (.cells #[] 69) = x := ⟨_, rfl⟩
  rw [hw1] at hal hown0
  have CF := hid (specFileOk s w1)
  obtain ⟨b, hb⟩ : ∃ b, fileOk s = b := ⟨_, rfl⟩
  rw [hb] at CF
  have HAL := hid hal
  have HOWN := hid hown0
  clear hal hown0
  cases b with
  | false =>
    have HR := hid (show csvR s = ([], 0, 1) by unfold csvR; rw [hb]; rfl)
    clear hb hiS hs0 hs1 hs2 hiR hr0 hr1 hr2
    go_enter Tryd.func24, Tryd.ntmps24
    go_wp2_with fail
    try rw [hw1]
    refine CF.out.mono ?_
    rintro e w2 ⟨rfl, hb2⟩
    go_wp2
    refine bodyPost_ret (v := .tuple #[.slice (some ⟨w.heap.size, 0, none⟩) 0 0, .int .i64 0, .int .i64 1]) (by simp [results, Tryd.results24, go_sem, *]) rfl ⟨_, by rw [HR.out] <;> rfl, ext_trans HAL.out hb2⟩
  | true =>
    have hs := file_size hb
    have HR := hid (show csvR s = readC s.data.toList s.size 0 [] by unfold csvR; rw [hb]; rfl)
    obtain ⟨R, hR⟩ : ∃ R, csvR s = R := ⟨_, rfl⟩
    rw [hR] at HR ⊢
    clear hb hR
    go_enter Tryd.func24, Tryd.ntmps24
    go_wp2_with fail
    try rw [hw1]
    refine CF.out.mono ?_
    rintro e w2 ⟨rfl, hb2⟩
    have HB2 := hid (ext_trans HAL.out hb2)
    have HO2 := hid (own_keepB HOWN.out hb2)
    clear hb2 CF HAL HOWN hw1
    go_wp2
    go_loopw [5, 6, 7, 8, 9, 10] (fun v5 v6 _ _ _ _ wr => ∃ (q f : Nat) (rs : List (List (List UInt8))) (xs : List Value), v6 = .int .i64 (q : Int) ∧ q ≤ s.size ∧ rs.length ≤ q ∧ s.size ≤ f + q ∧ wr.ownsRow w.heap.size 69 1 v5 rs.length xs ∧ Below w.heap.size w wr ∧ Hid (R = readC s.data.toList f q rs)) (fun _ v6 _ _ _ _ _ => s.size - (intOf v6).toNat)
    case atStart => exact ⟨0, s.size, [], [], rfl, Nat.zero_le _, Nat.zero_le _, Nat.le_refl _, HO2.out, HB2.out, HR⟩
    case round =>
      obtain ⟨q, f, rs, rxs, rfl, hq, hrl, hf, hown, hbel, HQ⟩ := hrel
      obtain ⟨wo, rfl⟩ : ∃ x, x = wr := ⟨_, rfl⟩
      obtain ⟨ra, rc, rfl⟩ := row_shapeC hown
      have HRO := hid hown
      have HBL := hid hbel
      clear hown hbel HR HO2 HB2
      by_cases hend : s.size ≤ q
      · have hg1 : ¬ (q : Int) < (s.size : Int) := by omega
        have HRR := hid (show R = (rs, 0, 0) by rw [HQ.out, readC_end _ _ (by rw [← Lib.size_eq]; exact hend)])
        clear HQ hend
        go_wp2
        refine bodyPost_ret (v := .tuple #[.slice ra rs.length rc, .int .i64 0, .int .i64 0]) (by simp [results, Tryd.results24, go_sem, *]) rfl ⟨_, by rw [HRR.out] <;> rfl, HBL.out⟩
      have hg1 : (q : Int) < (s.size : Int) := by omega
      obtain ⟨f', rfl⟩ : ∃ f', f = f' + 1 := ⟨f - 1, by omega⟩
      obtain ⟨L, hL⟩ : ∃ L, s.data.toList = L := ⟨_, rfl⟩
      have hLs : L.length = s.size := by rw [← hL, Lib.size_eq]
      obtain ⟨P, hP⟩ : ∃ P, rowP L 100 q [] = P := ⟨_, rfl⟩
      have HRS := hid (show R = if P.1 ≠ 0 then (rs, P.2.1, P.1) else readC L f' P.2.1 (rs ++ [P.2.2]) by rw [HQ.out, hL, readC_step _ _ (by omega), hP])
      have HMORE := hid (show P.1 = 0 → q < P.2.1 by rw [← hP]; exact rowP_more L (k := 99) (p := q) (cs := []) (by omega))
      have HP := hid hP
      have HL := hid hL
      have HLS := hid hLs
      have hal := ext_alloc wo (.cells #[.slice none 0 0] 69)
      obtain ⟨Rr, hRr⟩ : ∃ x, wo.heap.size = x := ⟨_, rfl⟩
      obtain ⟨w3, hw3⟩ : ∃ w3, (wo.alloc (.cells #[.slice none 0 0] 69)).setCell ⟨Rr, 0, none⟩ (.slice none 0 0) = w3 := ⟨_, rfl⟩
      have HI3 := hid (show RowIn wo w3 Rr none 0 0 [] from ⟨by rw [← hw3, ← hRr]; exact set_one (heap_alloc_new wo _), ⟨rfl, Or.inl ⟨rfl, rfl⟩⟩, by rw [← hw3]; exact hal.setCell (by rw [hRr]; exact Nat.le_refl _) _, hRr⟩)
      have HRR0 := hid hRr
      clear HQ hend hP hL hLs hal
      go_upto_region 7 with fail
      try rw [hRr]
      try rw [hw3]
      clear hw3 hRr
      go_loopw [6, 8, 9, 10] (fun v6 _ _ _ wr => ∃ (p : Nat) (cs : List (List UInt8)) (va : Option Addr) (vc : Nat) (xs : List Value), v6 = .int .i64 (p : Int) ∧ q ≤ p ∧ p ≤ s.size ∧ cs.length ≤ 100 ∧ RowIn wo wr Rr va cs.length vc xs ∧ Hid (P = rowP L (100 - cs.length) p cs)) (fun v6 _ _ _ _ => s.size - (intOf v6).toNat)
      case atStart => exact ⟨q, [], none, 0, [], rfl, Nat.le_refl _, hq, Nat.zero_le _, HI3.out, hid HP.out.symm⟩
      case round =>
        obtain ⟨p, cs, va, vc, xs, rfl, hqp, hp, hcl, hin, HPR⟩ := hrel
        obtain ⟨c0, cy, hRlt⟩ := hin.cells
        have HIN := hid hin
        clear hin HI3
        by_cases hfull : cs.length = 100
        · have hf1 : ((cs.length : Int) == 100) = true := by rw [hfull]; rfl
          have HRR := hid (show R = (rs, p, 5) by
            have e : P = (5, p, []) := by rw [HPR.out, hfull, rowP_zero]
            rw [HRS.out, e]; rfl)
          clear hfull HPR
          go_wp2
          refine bodyPost_ret (v := .tuple #[.slice ra rs.length rc, .int .i64 (p : Int), .int .i64 5]) (by simp [results, Tryd.results24, go_sem, *]) rfl ⟨_, by rw [HRR.out] <;> rfl, ext_trans HBL.out HIN.out.bel⟩
        have hf1 : ((cs.length : Int) == 100) = false := by rw [beq_eq_false_iff_ne]; omega
        obtain ⟨k, hk1⟩ : ∃ k, 100 - cs.length = k + 1 := ⟨99 - cs.length, by omega⟩
        have hcl2 := cellP_le (L.drop p)
        rw [List.length_drop, HLS.out] at hcl2
        have hp0 : (0 : Int) ≤ (p : Int) := by omega
        obtain ⟨wi, rfl⟩ : ∃ x, x = wr := ⟨_, rfl⟩
        by_cases h34 : (L.drop p).head? = some 34
        · obtain ⟨r, hD⟩ : ∃ r, L.drop p = 34 :: r := by
            cases hD : L.drop p with
            | nil => rw [hD] at h34; cases h34
            | cons c r => rw [hD] at h34; injection h34 with h; exact ⟨r, by rw [h]⟩
          obtain ⟨hlt, hby⟩ := byte_at (show s.data.toList.drop p = 34 :: r by rw [HL.out, hD])
          have hlt1 : (p : Int) < (s.size : Int) := by omega
          have hix : ((s[p]'hlt : UInt8).toNat : Int) = 34 := by rw [hby]; rfl
          have hixb : (((s[p]'hlt : UInt8).toNat : Int) == 34) = true := by rw [hix]; rfl
          obtain ⟨p1, hp1⟩ : ∃ x, p + 1 = x := ⟨_, rfl⟩
          have hw1' : (p : Int) + 1 = (p1 : Int) := by omega
          have hw1 : IntKind.i64.wrap (p1 : Int) = (p1 : Int) := IntWalk.i64_in _ (by omega)
          have hD1 : s.data.toList.drop p1 = r := by rw [← hp1, ← List.drop_drop, HL.out, hD]; rfl
          have CQ := hid (fun w' => specQuoted (s := s) (p := p1) w' (by omega) (by omega))
          rw [hD1] at CQ
          cases hqp' : qP r with
          | none =>
            have hcell : cellP (L.drop p) = (3, (L.drop p).length, []) := cellP_open (by rw [hD]; exact hqp') h34
            have HRR := hid (show R = (rs, s.size, 3) by
              have e : P = (3, p + (L.drop p).length, []) := by rw [HPR.out, hk1, rowP_succ L k p cs hcell]; rfl
              rw [HRS.out, e, List.length_drop, HLS.out, show p + (s.size - p) = s.size by omega]; rfl)
            rw [hqp', show quoV p1 s.size none = .tuple #[.string ⟨#[]⟩, .int .i64 (s.size : Int), .bool false] from rfl] at CQ
            clear hD hby h34 hD1 hp1 hqp' hcell HPR hcl2
            go_wp2_with fail
            refine (CQ.out _).mono ?_
            rintro e wi ⟨rfl, rfl⟩
            go_wp2
            refine bodyPost_ret (v := .tuple #[.slice ra rs.length rc, .int .i64 (s.size : Int), .int .i64 3]) (by simp [results, Tryd.results24, go_sem, *]) rfl ⟨_, by rw [HRR.out] <;> rfl, ext_trans HBL.out HIN.out.bel⟩
          | some tn =>
            obtain ⟨ct, n⟩ := tn
            have hql := qP_le hqp'
            have hrl' : r.length + 1 = (L.drop p).length := by rw [hD]; rfl
            rw [List.length_drop, HLS.out] at hrl'
            obtain ⟨p5, hp5e⟩ : ∃ x, p1 + n = x := ⟨_, rfl⟩
            have hp5 : p5 ≤ s.size := by omega
            have hctl : ct.length ≤ 4000 := by omega
            have hcell := cellP_quoted (l := L.drop p) (t := ct) (n := n) (by rw [hD]; exact hqp') h34
            rw [List.drop_drop, show p + (n + 1) = p5 by omega] at hcell
            rw [hqp', show quoV p1 s.size (some (ct, n)) = .tuple #[.string (mkB ct), .int .i64 ((p1 + n : Nat) : Int), .bool true] from rfl, hp5e] at CQ
            have CE := hid (fun w' => specEnd (s := s) (p := p5) w' hp5 (by omega))
            rw [HL.out] at CE
            have hp50 : (0 : Int) ≤ (p5 : Int) := by omega
            by_cases hce : cellEnd (L.drop p5) = true
            · have HRW := hid (show P = if 1000 < ct.length then (6, p, []) else match endR (L.drop p5) with | some e => (0, p5 + e, cs ++ [ct]) | none => rowP L k (p5 + 1) (cs ++ [ct]) by
                rw [if_pos hce] at hcell
                rw [HPR.out, hk1, rowP_succ L k p cs hcell, if_neg (by simp), show p + (n + 1) = p5 by omega] <;> rfl)
              have hpp5 : p ≤ p5 := by omega
              cases hE : endR (L.drop p5) with
              | none =>
                have hez := endS_pos.2 hE
                rw [hez] at CE
                obtain ⟨Z, hD5⟩ : ∃ Z, L.drop p5 = 44 :: Z := by
                  unfold cellEnd at hce
                  rw [hE] at hce
                  cases hh : L.drop p5 with
                  | nil => rw [hh] at hE; cases hE
                  | cons d Z => rw [hh] at hce; exact ⟨Z, by simp at hce; rw [hce]⟩
                obtain ⟨hlt5, hby5⟩ := byte_at (show s.data.toList.drop p5 = 44 :: Z by rw [HL.out, hD5])
                have hlt5i : (p5 : Int) < (s.size : Int) := by omega
                have hjx : ((s[p5]'hlt5 : UInt8).toNat : Int) = 44 := by rw [hby5]; rfl
                have hjxb : (((s[p5]'hlt5 : UInt8).toNat : Int) == 44) = true := by rw [hjx]; rfl
                have hjxc : (((s[p5]'hlt5 : UInt8).toNat : Int) != 44) = false := by rw [hjx]; rfl
                have hd : True := trivial
                obtain ⟨p6, hp6e⟩ : ∃ x, p5 + 1 = x := ⟨_, rfl⟩
                have hw6' : (p5 : Int) + 1 = (p6 : Int) := by omega
                have hw6 : IntKind.i64.wrap (p6 : Int) = (p6 : Int) := IntWalk.i64_in _ (by omega)
                have hp66 : p5 < p6 ∧ p6 ≤ s.size := by omega
                have HRE := hid (show ¬ 1000 < ct.length → P = rowP L k p6 (cs ++ [ct]) from fun h => by rw [HRW.out, if_neg h, hE, ← hp6e])
                clear hp6e
                clear hD hby h34 hD1 hqp' hcell HPR hcl2 hce hE hez hD5 hby5 hd hql hrl' hp1 hp5e
                go_wp2_with fail
                refine (CQ.out _).mono ?_
                rintro e wi ⟨rfl, rfl⟩
                go_wp2_with fail
                refine (CE.out _).mono ?_
                rintro e wi ⟨rfl, rfl⟩
                by_cases hlong : 1000 < ct.length
                · have hl1 : (1000 : Int) < ((mkB ct).size : Int) := by rw [mkB_size]; omega
                  have HRR := hid (show R = (rs, p, 6) by
                    have e : P = (6, p, []) := by rw [HRW.out, if_pos hlong]
                    rw [HRS.out, e]; rfl)
                  clear HRW HRE hlong
                  go_wp2
                  refine bodyPost_ret (v := .tuple #[.slice ra rs.length rc, .int .i64 (p : Int), .int .i64 6]) (by simp [results, Tryd.results24, go_sem, *]) rfl ⟨_, by rw [HRR.out] <;> rfl, ext_trans HBL.out HIN.out.bel⟩
                have hl1 : ¬ (1000 : Int) < ((mkB ct).size : Int) := by rw [mkB_size]; omega
                have HREL := hid (HRE.out hlong)
                have hownT := HIN.out.own
                have hRw := HIN.out.eq
                clear HRW HRE hlong hRw
                go_wp2_with ((at_builtin; refine wpList_append_lies _ rfl (.tmp 96) (.tmp 98) 24 rfl (Rr + 1) 9 iS (.string ⟨#[]⟩) 1 16 Tryd.underlying24 hiS hs0 hs1 hs2 rfl (by decide) (.slice va cs.length vc) cs.length xs rfl (hownT.alloc _) ⟨wi.heap.size, 0, none⟩ 1 1 [.string (mkB ct)] rfl rfl ?a1 ?a2 (by decide) ?a3 ?a4 ?a5 _ rfl ?_))
                try (case a1 => exact cell_one_new _ _ _)
                case a2 => first | rfl | (intro u hu; simp at hu; subst hu; rfl)
                case a3 => unfold maxLen; omega
                case a4 => omega
                case a5 => first | (simp; omega) | omega
                intro g8 cap8 w8 hown8 hgrow8 hat8 hlt8
                have hownA := hownT.alloc (.cells #[.string (mkB ct)] 9)
                have hnR : some Rr ≠ (Value.slice va cs.length vc).ownBlock := fun e => by have := (hownA.lt Rr e.symm).1; omega
                have c8 : w8.cell? ⟨Rr, 0, none⟩ = some (.slice va cs.length vc) := hgrow8.cell (keeps_cells (ext_alloc _ _) _ _ c0) hnR
                have cy8 : w8.frozen? ⟨Rr, 0, none⟩ = false := (World.frozen?_of_block (hgrow8.block Rr (by simp; omega) hnR)).trans ((World.frozen?_of_block ((ext_alloc _ _).block Rr hRlt)).trans cy)
                obtain ⟨W7, hW7⟩ : ∃ x, w8.setCell ⟨Rr, 0, none⟩ (.slice (some ⟨g8, 0, none⟩) (cs.length + 1) cap8) = x := ⟨_, rfl⟩
                have hbl : Below Rr wi W7 := by rw [← hW7]; exact (((ext_alloc wi _).mono (Nat.le_of_lt hRlt)).grown hgrow8 (by simp; omega) (fun q hq => by have := (hownA.lt q hq).1; omega)).setCell (Nat.le_refl _) _
                have HI7 := hid (show RowIn wo W7 Rr (some ⟨g8, 0, none⟩) (cs.length + 1) cap8 (xs ++ [.string (mkB ct)]) from ⟨by rw [← hW7]; exact set_one ((hgrow8.block Rr (by simp; omega) hnR).trans (((ext_alloc wi _).block Rr hRlt).trans HIN.out.at')), by rw [← hW7]; exact ownsRow_other hown8 (fun b hb => by have := (hown8.lt b hb).1; omega) _, HIN.out.bel.trans (by rw [HIN.out.eq]; exact hbl), HIN.out.eq⟩)
                clear hown8 hgrow8 hat8 hlt8 hnR hownA hownT hbl c0 cy hRlt
                go_upto_region 28 with fail
                try rw [hW7]
                clear hW7 c8 cy8
                obtain ⟨c0, cy, hRlt⟩ := HI7.out.cells

                go_wp2_with fail
                refine (CE.out _).mono ?_
                rintro e W7 ⟨rfl, rfl⟩
                go_wp2
                go_roundw
                case rel => exact ⟨p6, cs ++ [ct], some ⟨g8, 0, none⟩, cap8, _, rfl, by omega, by omega, by simp; omega, by rw [List.length_append]; exact HI7.out, hid (by rw [show 100 - (cs ++ [ct]).length = k by simp; omega]; exact HREL.out)⟩
                case measure => simp [intOf]; omega
              | some ee =>
                have hez := endS_some hE
                have hle := endR_le hE
                rw [List.length_drop, HLS.out] at hle
                obtain ⟨E, hEv⟩ : ∃ E, endS (L.drop p5) = E := ⟨_, rfl⟩
                rw [hEv] at CE hez
                have hE0 : 0 < E ∧ E ≤ 4000 := by rcases hez with h | h <;> omega
                have hEi : ¬ (E : Int) = 0 := by omega
                have hEb : ((E : Int) == 0) = false := by rw [beq_eq_false_iff_ne]; exact hEi
                have hEc : ((E : Int) != 0) = true := bne_iff_ne.2 hEi
                obtain ⟨pE, hpE⟩ : ∃ x, p5 + E = x := ⟨_, rfl⟩
                have hwE' : (p5 : Int) + (E : Int) = (pE : Int) := by omega
                have hwE : IntKind.i64.wrap (pE : Int) = (pE : Int) := IntWalk.i64_in _ (by omega)
                obtain ⟨q9, hq9⟩ : ∃ x, p5 + ee = x := ⟨_, rfl⟩
                have hmin : q9 ≤ s.size ∧ ((s.size < pE ∧ q9 = s.size) ∨ (pE < s.size ∧ q9 = pE) ∨ (pE = s.size ∧ q9 = pE)) := by
                  rcases hez with h | h
                  · have h5 := (drop_nil_iff hp5).1 (show s.data.toList.drop p5 = [] by rw [HL.out]; exact h.2.2)
                    omega
                  · omega
                have HRE := hid (show ¬ 1000 < ct.length → q < q9 ∧ R = readC L f' q9 (rs ++ [cs ++ [ct]]) from fun h => by
                  have e : P = (0, q9, cs ++ [ct]) := by rw [HRW.out, if_neg h, hE, ← hq9]
                  refine ⟨?_, ?_⟩
                  · have := HMORE.out (by rw [e])
                    rw [e] at this
                    exact this
                  · rw [HRS.out, e]; rfl)
                clear hpE hq9 hEv hle
                clear hD hby h34 hD1 hqp' hcell HPR hcl2 hce hE hql hrl' hp1 hp5e hez
                go_wp2_with fail
                refine (CQ.out _).mono ?_
                rintro e wi ⟨rfl, rfl⟩
                go_wp2_with fail
                refine (CE.out _).mono ?_
                rintro e wi ⟨rfl, rfl⟩
                by_cases hlong : 1000 < ct.length
                · have hl1 : (1000 : Int) < ((mkB ct).size : Int) := by rw [mkB_size]; omega
                  have HRR := hid (show R = (rs, p, 6) by
                    have e : P = (6, p, []) := by rw [HRW.out, if_pos hlong]
                    rw [HRS.out, e]; rfl)
                  clear HRW HRE hlong
                  go_wp2
                  refine bodyPost_ret (v := .tuple #[.slice ra rs.length rc, .int .i64 (p : Int), .int .i64 6]) (by simp [results, Tryd.results24, go_sem, *]) rfl ⟨_, by rw [HRR.out] <;> rfl, ext_trans HBL.out HIN.out.bel⟩
                have hl1 : ¬ (1000 : Int) < ((mkB ct).size : Int) := by rw [mkB_size]; omega
                have HREL := hid (HRE.out hlong)
                have hownT := HIN.out.own
                have hRw := HIN.out.eq
                clear HRW HRE hlong hRw
                go_wp2_with ((at_builtin; refine wpList_append_lies _ rfl (.tmp 96) (.tmp 98) 24 rfl (Rr + 1) 9 iS (.string ⟨#[]⟩) 1 16 Tryd.underlying24 hiS hs0 hs1 hs2 rfl (by decide) (.slice va cs.length vc) cs.length xs rfl (hownT.alloc _) ⟨wi.heap.size, 0, none⟩ 1 1 [.string (mkB ct)] rfl rfl ?b1 ?b2 (by decide) ?b3 ?b4 ?b5 _ rfl ?_))
                try (case b1 => exact cell_one_new _ _ _)
                case b2 => first | rfl | (intro u hu; simp at hu; subst hu; rfl)
                case b3 => unfold maxLen; omega
                case b4 => omega
                case b5 => first | (simp; omega) | omega
                intro g8 cap8 w8 hown8 hgrow8 hat8 hlt8
                have hownA := hownT.alloc (.cells #[.string (mkB ct)] 9)
                have hnR : some Rr ≠ (Value.slice va cs.length vc).ownBlock := fun e => by have := (hownA.lt Rr e.symm).1; omega
                have c8 : w8.cell? ⟨Rr, 0, none⟩ = some (.slice va cs.length vc) := hgrow8.cell (keeps_cells (ext_alloc _ _) _ _ c0) hnR
                have cy8 : w8.frozen? ⟨Rr, 0, none⟩ = false := (World.frozen?_of_block (hgrow8.block Rr (by simp; omega) hnR)).trans ((World.frozen?_of_block ((ext_alloc _ _).block Rr hRlt)).trans cy)
                obtain ⟨W7, hW7⟩ : ∃ x, w8.setCell ⟨Rr, 0, none⟩ (.slice (some ⟨g8, 0, none⟩) (cs.length + 1) cap8) = x := ⟨_, rfl⟩
                have hbl : Below Rr wi W7 := by rw [← hW7]; exact (((ext_alloc wi _).mono (Nat.le_of_lt hRlt)).grown hgrow8 (by simp; omega) (fun q hq => by have := (hownA.lt q hq).1; omega)).setCell (Nat.le_refl _) _
                have HI7 := hid (show RowIn wo W7 Rr (some ⟨g8, 0, none⟩) (cs.length + 1) cap8 (xs ++ [.string (mkB ct)]) from ⟨by rw [← hW7]; exact set_one ((hgrow8.block Rr (by simp; omega) hnR).trans (((ext_alloc wi _).block Rr hRlt).trans HIN.out.at')), by rw [← hW7]; exact ownsRow_other hown8 (fun b hb => by have := (hown8.lt b hb).1; omega) _, HIN.out.bel.trans (by rw [HIN.out.eq]; exact hbl), HIN.out.eq⟩)
                clear hown8 hgrow8 hat8 hlt8 hnR hownA hownT hbl c0 cy hRlt
                go_upto_region 28 with fail
                try rw [hW7]
                clear hW7 c8 cy8
                obtain ⟨c0, cy, hRlt⟩ := HI7.out.cells

                go_wp2_with fail
                refine (CE.out _).mono ?_
                rintro e W7 ⟨rfl, rfl⟩
                have hownR := own_keepB HRO.out HI7.out.bel
                have hbase : w.heap.size ≤ W7.heap.size := (ext_trans HBL.out HI7.out.bel).size
                have hq9 := HREL.out.1
                go_wp2_with ((at_builtin; refine wpList_append_lies _ rfl (.tmp 107) (.tmp 109) 43 rfl w.heap.size 69 iR (.agg #[.slice none 0 0]) 1 24 Tryd.underlying43 hiR hr0 hr1 hr2 rfl (by decide) (.slice ra rs.length rc) rs.length rxs rfl (hownR.alloc _) ⟨W7.heap.size, 0, none⟩ 1 1 [.slice (some ⟨g8, 0, none⟩) (cs.length + 1) cap8] rfl rfl ?b6 ?b7 (by decide) ?b8 ?b9 ?b10 _ rfl ?_))
                try (case b6 => exact cell_one_new _ _ _)
                case b7 => first | rfl | (intro u hu; simp at hu; subst hu; rfl)
                case b8 => unfold maxLen; omega
                case b9 => omega
                case b10 => first | exact Nat.le_trans hbase (by simp) | omega
                intro g9 cap9 w9 hown9 hgrow9 hat9 hlt9
                have HO9 := hid hown9
                have HB9 := hid (show Below w.heap.size w w9 from (ext_trans HBL.out HI7.out.bel).trans (((ext_alloc W7 _).mono hbase).grown hgrow9 (Nat.le_trans hbase (by simp)) (fun q hq => (hownR.lt q hq).1)))
                clear hown9 hgrow9 hat9 hlt9 hownR c0 cy hRlt hiS hs0 hs1 hs2 hiR hr0 hr1 hr2
                go_upto_region 31 with fail
                rcases hmin.2 with ⟨hm1, hm2⟩ | ⟨hm1, hm2⟩ | ⟨hm1, hm2⟩
                · have hmi : (s.size : Int) < (pE : Int) := by omega
                  have hmj : ¬ (pE : Int) < (s.size : Int) := by omega
                  go_wp2_with fail
                  refine (CE.out _).mono ?_
                  rintro e w9 ⟨rfl, rfl⟩
                  go_wp2
                  go_roundw
                  case rel => exact ⟨q9, f', rs ++ [cs ++ [ct]], _, by first | rfl | (congr 1; omega), hmin.1, by simp; omega, by omega, by rw [List.length_append]; exact HO9.out, HB9.out, hid (by rw [HL.out]; exact HREL.out.2)⟩
                  case measure => simp [intOf]; omega
                · have hmi : (pE : Int) < (s.size : Int) := by omega
                  have hmj : ¬ (s.size : Int) < (pE : Int) := by omega
                  go_wp2_with fail
                  refine (CE.out _).mono ?_
                  rintro e w9 ⟨rfl, rfl⟩
                  go_wp2
                  go_roundw
                  case rel => exact ⟨q9, f', rs ++ [cs ++ [ct]], _, by first | rfl | (congr 1; omega), hmin.1, by simp; omega, by omega, by rw [List.length_append]; exact HO9.out, HB9.out, hid (by rw [HL.out]; exact HREL.out.2)⟩
                  case measure => simp [intOf]; omega
                · have hmi : ¬ (pE : Int) < (s.size : Int) := by omega
                  have hmj : ¬ (s.size : Int) < (pE : Int) := by omega
                  go_wp2_with fail
                  refine (CE.out _).mono ?_
                  rintro e w9 ⟨rfl, rfl⟩
                  go_wp2
                  go_roundw
                  case rel => exact ⟨q9, f', rs ++ [cs ++ [ct]], _, by first | rfl | (congr 1; omega), hmin.1, by simp; omega, by omega, by rw [List.length_append]; exact HO9.out, HB9.out, hid (by rw [HL.out]; exact HREL.out.2)⟩
                  case measure => simp [intOf]; omega
            · have HRR := hid (show R = (rs, p5, 2) by
                rw [if_neg hce] at hcell
                have e : P = (2, p5, []) := by rw [HPR.out, hk1, rowP_succ L k p cs hcell, show p + (n + 1) = p5 by omega]; rfl
                rw [HRS.out, e]; rfl)
              have hen : endR (L.drop p5) = none := by
                unfold cellEnd at hce
                cases hh : endR (L.drop p5) with
                | none => rfl
                | some e => rw [hh] at hce; simp at hce
              have hez := endS_pos.2 hen
              rw [hez] at CE
              cases hD5 : L.drop p5 with
              | nil => rw [hD5] at hen; cases hen
              | cons d Z =>
                obtain ⟨hlt5, hby5⟩ := byte_at (show s.data.toList.drop p5 = d :: Z by rw [HL.out, hD5])
                have hd : ¬ d = 44 := fun e => hce (by unfold cellEnd; rw [hD5, e]; simp)
                have hlt5i : (p5 : Int) < (s.size : Int) := by omega
                have hjx : ¬ ((s[p5]'hlt5 : UInt8).toNat : Int) = 44 := by rw [hby5]; exact u8_ne (by decide) hd
                have hjxb : (((s[p5]'hlt5 : UInt8).toNat : Int) == 44) = false := by rw [beq_eq_false_iff_ne]; exact hjx
                have hjxc : (((s[p5]'hlt5 : UInt8).toNat : Int) != 44) = true := bne_iff_ne.2 hjx
                clear hD hby h34 hD1 hqp' hcell HPR hcl2 hce hen hez hD5 hby5 hd hql hrl' hp1 hp5e
                go_wp2_with fail
                refine (CQ.out _).mono ?_
                rintro e wi ⟨rfl, rfl⟩
                go_wp2_with fail
                refine (CE.out _).mono ?_
                rintro e wi ⟨rfl, rfl⟩
                go_wp2
                refine bodyPost_ret (v := .tuple #[.slice ra rs.length rc, .int .i64 (p5 : Int), .int .i64 2]) (by simp [results, Tryd.results24, go_sem, *]) rfl ⟨_, by rw [HRR.out] <;> rfl, ext_trans HBL.out HIN.out.bel⟩
        · have HCP := hid (cellP_unq h34)
          have hix : p < s.size → ∃ hlt : p < s.size, ¬ ((s[p]'hlt : UInt8).toNat : Int) = 34 := fun hlt => by
            refine ⟨hlt, u8_ne (n := 34) (by decide) (fun e => h34 ?_)⟩
            rw [← HL.out, List.drop_eq_getElem_cons (by rw [← Lib.size_eq]; exact hlt)]
            show some (s.data.toList[p]'(by rw [← Lib.size_eq]; exact hlt)) = some 34
            have e' : (s.data.toList[p]'(by rw [← Lib.size_eq]; exact hlt)) = s[p]'hlt := rfl
            rw [e', e]; rfl
          have hpre : (p < s.size ∧ ∃ hlt : p < s.size, ¬ ((s[p]'hlt : UInt8).toNat : Int) = 34 ∧ (((s[p]'hlt : UInt8).toNat : Int) == 34) = false) ∨ ¬ p < s.size := by
            by_cases hlt : p < s.size
            · obtain ⟨h1, h2⟩ := hix hlt
              exact Or.inl ⟨hlt, h1, h2, by rw [beq_eq_false_iff_ne]; exact h2⟩
            · exact Or.inr hlt
          clear hix h34
          rcases hpre with ⟨hlt0, hlt0', hn1, hn2⟩ | hlt0
          · have hlt1 : (p : Int) < (s.size : Int) := by omega
            go_wp2
            go_loopw [6] (fun v6 wr => ∃ z : Nat, v6 = .int .i64 (z : Int) ∧ p ≤ z ∧ z ≤ s.size ∧ wi = wr ∧ Hid (unqN (L.drop p) = ((unqN (L.drop z)).1 + (z - p), (unqN (L.drop z)).2))) (fun v6 _ => s.size - (intOf v6).toNat)
            case atStart => exact ⟨p, rfl, Nat.le_refl _, hp, by first | rfl | trivial, hid (by simp)⟩
            case round =>
              obtain ⟨p5, rfl, hpp5, hp5, rfl, HU⟩ := hrel
              have hp50 : (0 : Int) ≤ (p5 : Int) := by omega
              have hpi : (p : Int) ≤ (p5 : Int) := by omega
              have hpj : (p5 : Int) ≤ (s.size : Int) := by omega
              have CE := hid (fun w' => specEnd (s := s) (p := p5) w' hp5 (by omega))
              rw [HL.out] at CE
              have hstop : unqN (L.drop p5) = (0, 0) → ∃ ct : List UInt8, s.extract p p5 = mkB ct ∧ ct.length ≤ 4000 ∧ P = if 1000 < ct.length then (6, p, []) else match endR (L.drop p5) with | some e => (0, p5 + e, cs ++ [ct]) | none => rowP L k (p5 + 1) (cs ++ [ct]) := fun h => by
                refine ⟨(L.drop p).take (p5 - p), ?_, by rw [List.length_take, List.length_drop, HLS.out]; omega, ?_⟩
                · apply ba_toL
                  rw [mkB_data, ByteArray.data_extract, Array.toList_extract, List.extract_eq_take_drop, HL.out]
                · have hcell : cellP (L.drop p) = (0, p5 - p, (L.drop p).take (p5 - p)) := by
                    rw [HCP.out, HU.out, h]
                    simp
                  rw [HPR.out, hk1, rowP_succ L k p cs hcell, if_neg (by simp), show p + (p5 - p) = p5 by omega] <;> rfl
              have hbad : ∀ c : Nat, c ≠ 0 → unqN (L.drop p5) = (0, c) → R = (rs, p5, c) := fun c hc h => by
                have hcell : cellP (L.drop p) = (c, p5 - p, []) := by
                  rw [HCP.out, HU.out, h]
                  simp [hc]
                have e : P = (c, p5, []) := by rw [HPR.out, hk1, rowP_succ L k p cs hcell, if_pos hc, show p + (p5 - p) = p5 by omega]
                rw [HRS.out, e, if_pos hc]
              cases hE : endR (L.drop p5) with
              | some ee =>
                obtain ⟨ct, hx, hctl, hRW⟩ := hstop (unqN_stop (Or.inl (by rw [hE]; rfl)))
                have HRW := hid hRW
                have hez := endS_some hE
                have hle := endR_le hE
                rw [List.length_drop, HLS.out] at hle
                obtain ⟨E, hEv⟩ : ∃ E, endS (L.drop p5) = E := ⟨_, rfl⟩
                rw [hEv] at CE hez
                have hE0 : 0 < E ∧ E ≤ 4000 := by rcases hez with h | h <;> omega
                have hEi : ¬ (E : Int) = 0 := by omega
                have hEb : ((E : Int) == 0) = false := by rw [beq_eq_false_iff_ne]; exact hEi
                have hEc : ((E : Int) != 0) = true := bne_iff_ne.2 hEi
                obtain ⟨pE, hpE⟩ : ∃ x, p5 + E = x := ⟨_, rfl⟩
                have hwE' : (p5 : Int) + (E : Int) = (pE : Int) := by omega
                have hwE : IntKind.i64.wrap (pE : Int) = (pE : Int) := IntWalk.i64_in _ (by omega)
                obtain ⟨q9, hq9⟩ : ∃ x, p5 + ee = x := ⟨_, rfl⟩
                have hmin : q9 ≤ s.size ∧ ((s.size < pE ∧ q9 = s.size) ∨ (pE < s.size ∧ q9 = pE) ∨ (pE = s.size ∧ q9 = pE)) := by
                  rcases hez with h | h
                  · have h5 := (drop_nil_iff hp5).1 (show s.data.toList.drop p5 = [] by rw [HL.out]; exact h.2.2)
                    omega
                  · omega
                have HRE := hid (show ¬ 1000 < ct.length → q < q9 ∧ R = readC L f' q9 (rs ++ [cs ++ [ct]]) from fun h => by
                  have e : P = (0, q9, cs ++ [ct]) := by rw [HRW.out, if_neg h, hE, ← hq9]
                  refine ⟨?_, ?_⟩
                  · have := HMORE.out (by rw [e])
                    rw [e] at this
                    exact this
                  · rw [HRS.out, e]; rfl)
                clear hpE hq9 hEv hle
                clear hE hez hstop hbad HU hRW hcl2
                go_wp2_with fail
                refine (CE.out _).mono ?_
                rintro e wi ⟨rfl, rfl⟩
                by_cases hlong : 1000 < ct.length
                · have hl1 : (1000 : Int) < ((mkB ct).size : Int) := by rw [mkB_size]; omega
                  have HRR := hid (show R = (rs, p, 6) by
                    have e : P = (6, p, []) := by rw [HRW.out, if_pos hlong]
                    rw [HRS.out, e]; rfl)
                  clear HRW HRE hlong
                  go_wp2
                  refine bodyPost_ret (v := .tuple #[.slice ra rs.length rc, .int .i64 (p : Int), .int .i64 6]) (by simp [results, Tryd.results24, go_sem, *]) rfl ⟨_, by rw [HRR.out] <;> rfl, ext_trans HBL.out HIN.out.bel⟩
                have hl1 : ¬ (1000 : Int) < ((mkB ct).size : Int) := by rw [mkB_size]; omega
                have HREL := hid (HRE.out hlong)
                have hownT := HIN.out.own
                have hRw := HIN.out.eq
                clear HRW HRE hlong hRw
                go_wp2_with ((at_builtin; refine wpList_append_lies _ rfl (.tmp 96) (.tmp 98) 24 rfl (Rr + 1) 9 iS (.string ⟨#[]⟩) 1 16 Tryd.underlying24 hiS hs0 hs1 hs2 rfl (by decide) (.slice va cs.length vc) cs.length xs rfl (hownT.alloc _) ⟨wi.heap.size, 0, none⟩ 1 1 [.string (mkB ct)] rfl rfl ?e1 ?e2 (by decide) ?e3 ?e4 ?e5 _ rfl ?_))
                try (case e1 => exact cell_one_new _ _ _)
                case e2 => first | rfl | (intro u hu; simp at hu; subst hu; rfl)
                case e3 => unfold maxLen; omega
                case e4 => omega
                case e5 => first | (simp; omega) | omega
                intro g8 cap8 w8 hown8 hgrow8 hat8 hlt8
                have hownA := hownT.alloc (.cells #[.string (mkB ct)] 9)
                have hnR : some Rr ≠ (Value.slice va cs.length vc).ownBlock := fun e => by have := (hownA.lt Rr e.symm).1; omega
                have c8 : w8.cell? ⟨Rr, 0, none⟩ = some (.slice va cs.length vc) := hgrow8.cell (keeps_cells (ext_alloc _ _) _ _ c0) hnR
                have cy8 : w8.frozen? ⟨Rr, 0, none⟩ = false := (World.frozen?_of_block (hgrow8.block Rr (by simp; omega) hnR)).trans ((World.frozen?_of_block ((ext_alloc _ _).block Rr hRlt)).trans cy)
                obtain ⟨W7, hW7⟩ : ∃ x, w8.setCell ⟨Rr, 0, none⟩ (.slice (some ⟨g8, 0, none⟩) (cs.length + 1) cap8) = x := ⟨_, rfl⟩
                have hbl : Below Rr wi W7 := by rw [← hW7]; exact (((ext_alloc wi _).mono (Nat.le_of_lt hRlt)).grown hgrow8 (by simp; omega) (fun q hq => by have := (hownA.lt q hq).1; omega)).setCell (Nat.le_refl _) _
                have HI7 := hid (show RowIn wo W7 Rr (some ⟨g8, 0, none⟩) (cs.length + 1) cap8 (xs ++ [.string (mkB ct)]) from ⟨by rw [← hW7]; exact set_one ((hgrow8.block Rr (by simp; omega) hnR).trans (((ext_alloc wi _).block Rr hRlt).trans HIN.out.at')), by rw [← hW7]; exact ownsRow_other hown8 (fun b hb => by have := (hown8.lt b hb).1; omega) _, HIN.out.bel.trans (by rw [HIN.out.eq]; exact hbl), HIN.out.eq⟩)
                clear hown8 hgrow8 hat8 hlt8 hnR hownA hownT hbl c0 cy hRlt
                go_upto_region 28 with fail
                try rw [hW7]
                clear hW7 c8 cy8
                obtain ⟨c0, cy, hRlt⟩ := HI7.out.cells

                go_wp2_with fail
                refine (CE.out _).mono ?_
                rintro e W7 ⟨rfl, rfl⟩
                have hownR := own_keepB HRO.out HI7.out.bel
                have hbase : w.heap.size ≤ W7.heap.size := (ext_trans HBL.out HI7.out.bel).size
                have hq9 := HREL.out.1
                go_wp2_with ((at_builtin; refine wpList_append_lies _ rfl (.tmp 107) (.tmp 109) 43 rfl w.heap.size 69 iR (.agg #[.slice none 0 0]) 1 24 Tryd.underlying43 hiR hr0 hr1 hr2 rfl (by decide) (.slice ra rs.length rc) rs.length rxs rfl (hownR.alloc _) ⟨W7.heap.size, 0, none⟩ 1 1 [.slice (some ⟨g8, 0, none⟩) (cs.length + 1) cap8] rfl rfl ?e6 ?e7 (by decide) ?e8 ?e9 ?e10 _ rfl ?_))
                try (case e6 => exact cell_one_new _ _ _)
                case e7 => first | rfl | (intro u hu; simp at hu; subst hu; rfl)
                case e8 => unfold maxLen; omega
                case e9 => omega
                case e10 => first | exact Nat.le_trans hbase (by simp) | omega
                intro g9 cap9 w9 hown9 hgrow9 hat9 hlt9
                have HO9 := hid hown9
                have HB9 := hid (show Below w.heap.size w w9 from (ext_trans HBL.out HI7.out.bel).trans (((ext_alloc W7 _).mono hbase).grown hgrow9 (Nat.le_trans hbase (by simp)) (fun q hq => (hownR.lt q hq).1)))
                clear hown9 hgrow9 hat9 hlt9 hownR c0 cy hRlt hiS hs0 hs1 hs2 hiR hr0 hr1 hr2
                go_upto_region 31 with fail
                rcases hmin.2 with ⟨hm1, hm2⟩ | ⟨hm1, hm2⟩ | ⟨hm1, hm2⟩
                · have hmi : (s.size : Int) < (pE : Int) := by omega
                  have hmj : ¬ (pE : Int) < (s.size : Int) := by omega
                  go_wp2_with fail
                  refine (CE.out _).mono ?_
                  rintro e w9 ⟨rfl, rfl⟩
                  go_wp2
                  go_roundw
                  case rel => exact ⟨q9, f', rs ++ [cs ++ [ct]], _, by first | rfl | (congr 1; omega), hmin.1, by simp; omega, by omega, by rw [List.length_append]; exact HO9.out, HB9.out, hid (by rw [HL.out]; exact HREL.out.2)⟩
                  case measure => simp [intOf]; omega
                · have hmi : (pE : Int) < (s.size : Int) := by omega
                  have hmj : ¬ (s.size : Int) < (pE : Int) := by omega
                  go_wp2_with fail
                  refine (CE.out _).mono ?_
                  rintro e w9 ⟨rfl, rfl⟩
                  go_wp2
                  go_roundw
                  case rel => exact ⟨q9, f', rs ++ [cs ++ [ct]], _, by first | rfl | (congr 1; omega), hmin.1, by simp; omega, by omega, by rw [List.length_append]; exact HO9.out, HB9.out, hid (by rw [HL.out]; exact HREL.out.2)⟩
                  case measure => simp [intOf]; omega
                · have hmi : ¬ (pE : Int) < (s.size : Int) := by omega
                  have hmj : ¬ (s.size : Int) < (pE : Int) := by omega
                  go_wp2_with fail
                  refine (CE.out _).mono ?_
                  rintro e w9 ⟨rfl, rfl⟩
                  go_wp2
                  go_roundw
                  case rel => exact ⟨q9, f', rs ++ [cs ++ [ct]], _, by first | rfl | (congr 1; omega), hmin.1, by simp; omega, by omega, by rw [List.length_append]; exact HO9.out, HB9.out, hid (by rw [HL.out]; exact HREL.out.2)⟩
                  case measure => simp [intOf]; omega
              | none =>
                cases hDD : L.drop p5 with
                | nil => rw [hDD] at hE; cases hE
                | cons d Z =>
                  by_cases h44 : d = 44
                  · obtain ⟨ct, hx, hctl, hRW⟩ := hstop (unqN_stop (Or.inr (by rw [hDD, h44]; rfl)))
                    have HRW := hid hRW
                    have hce : cellEnd (L.drop p5) = true := by unfold cellEnd; rw [hDD, h44]; simp
                    have hez := endS_pos.2 hE
                    rw [hez] at CE
                    obtain ⟨Z, hD5⟩ : ∃ Z, L.drop p5 = 44 :: Z := by
                      unfold cellEnd at hce
                      rw [hE] at hce
                      cases hh : L.drop p5 with
                      | nil => rw [hh] at hE; cases hE
                      | cons d Z => rw [hh] at hce; exact ⟨Z, by simp at hce; rw [hce]⟩
                    obtain ⟨hlt5, hby5⟩ := byte_at (show s.data.toList.drop p5 = 44 :: Z by rw [HL.out, hD5])
                    have hlt5i : (p5 : Int) < (s.size : Int) := by omega
                    have hjx : ((s[p5]'hlt5 : UInt8).toNat : Int) = 44 := by rw [hby5]; rfl
                    have hjxb : (((s[p5]'hlt5 : UInt8).toNat : Int) == 44) = true := by rw [hjx]; rfl
                    have hjxc : (((s[p5]'hlt5 : UInt8).toNat : Int) != 44) = false := by rw [hjx]; rfl
                    have hd : True := trivial
                    obtain ⟨p6, hp6e⟩ : ∃ x, p5 + 1 = x := ⟨_, rfl⟩
                    have hw6' : (p5 : Int) + 1 = (p6 : Int) := by omega
                    have hw6 : IntKind.i64.wrap (p6 : Int) = (p6 : Int) := IntWalk.i64_in _ (by omega)
                    have hp66 : p5 < p6 ∧ p6 ≤ s.size := by omega
                    have HRE := hid (show ¬ 1000 < ct.length → P = rowP L k p6 (cs ++ [ct]) from fun h => by rw [HRW.out, if_neg h, hE, ← hp6e])
                    clear hp6e
                    clear hE hez hstop hbad HU hRW hcl2 hce hDD h44 hD5 hby5 hd
                    go_wp2_with fail
                    refine (CE.out _).mono ?_
                    rintro e wi ⟨rfl, rfl⟩
                    by_cases hlong : 1000 < ct.length
                    · have hl1 : (1000 : Int) < ((mkB ct).size : Int) := by rw [mkB_size]; omega
                      have HRR := hid (show R = (rs, p, 6) by
                        have e : P = (6, p, []) := by rw [HRW.out, if_pos hlong]
                        rw [HRS.out, e]; rfl)
                      clear HRW HRE hlong
                      go_wp2
                      refine bodyPost_ret (v := .tuple #[.slice ra rs.length rc, .int .i64 (p : Int), .int .i64 6]) (by simp [results, Tryd.results24, go_sem, *]) rfl ⟨_, by rw [HRR.out] <;> rfl, ext_trans HBL.out HIN.out.bel⟩
                    have hl1 : ¬ (1000 : Int) < ((mkB ct).size : Int) := by rw [mkB_size]; omega
                    have HREL := hid (HRE.out hlong)
                    have hownT := HIN.out.own
                    have hRw := HIN.out.eq
                    clear HRW HRE hlong hRw
                    go_wp2_with ((at_builtin; refine wpList_append_lies _ rfl (.tmp 96) (.tmp 98) 24 rfl (Rr + 1) 9 iS (.string ⟨#[]⟩) 1 16 Tryd.underlying24 hiS hs0 hs1 hs2 rfl (by decide) (.slice va cs.length vc) cs.length xs rfl (hownT.alloc _) ⟨wi.heap.size, 0, none⟩ 1 1 [.string (mkB ct)] rfl rfl ?f1 ?f2 (by decide) ?f3 ?f4 ?f5 _ rfl ?_))
                    try (case f1 => exact cell_one_new _ _ _)
                    case f2 => first | rfl | (intro u hu; simp at hu; subst hu; rfl)
                    case f3 => unfold maxLen; omega
                    case f4 => omega
                    case f5 => first | (simp; omega) | omega
                    intro g8 cap8 w8 hown8 hgrow8 hat8 hlt8
                    have hownA := hownT.alloc (.cells #[.string (mkB ct)] 9)
                    have hnR : some Rr ≠ (Value.slice va cs.length vc).ownBlock := fun e => by have := (hownA.lt Rr e.symm).1; omega
                    have c8 : w8.cell? ⟨Rr, 0, none⟩ = some (.slice va cs.length vc) := hgrow8.cell (keeps_cells (ext_alloc _ _) _ _ c0) hnR
                    have cy8 : w8.frozen? ⟨Rr, 0, none⟩ = false := (World.frozen?_of_block (hgrow8.block Rr (by simp; omega) hnR)).trans ((World.frozen?_of_block ((ext_alloc _ _).block Rr hRlt)).trans cy)
                    obtain ⟨W7, hW7⟩ : ∃ x, w8.setCell ⟨Rr, 0, none⟩ (.slice (some ⟨g8, 0, none⟩) (cs.length + 1) cap8) = x := ⟨_, rfl⟩
                    have hbl : Below Rr wi W7 := by rw [← hW7]; exact (((ext_alloc wi _).mono (Nat.le_of_lt hRlt)).grown hgrow8 (by simp; omega) (fun q hq => by have := (hownA.lt q hq).1; omega)).setCell (Nat.le_refl _) _
                    have HI7 := hid (show RowIn wo W7 Rr (some ⟨g8, 0, none⟩) (cs.length + 1) cap8 (xs ++ [.string (mkB ct)]) from ⟨by rw [← hW7]; exact set_one ((hgrow8.block Rr (by simp; omega) hnR).trans (((ext_alloc wi _).block Rr hRlt).trans HIN.out.at')), by rw [← hW7]; exact ownsRow_other hown8 (fun b hb => by have := (hown8.lt b hb).1; omega) _, HIN.out.bel.trans (by rw [HIN.out.eq]; exact hbl), HIN.out.eq⟩)
                    clear hown8 hgrow8 hat8 hlt8 hnR hownA hownT hbl c0 cy hRlt
                    go_upto_region 28 with fail
                    try rw [hW7]
                    clear hW7 c8 cy8
                    obtain ⟨c0, cy, hRlt⟩ := HI7.out.cells

                    go_wp2_with fail
                    refine (CE.out _).mono ?_
                    rintro e W7 ⟨rfl, rfl⟩
                    go_wp2
                    go_roundw
                    case rel => exact ⟨p6, cs ++ [ct], some ⟨g8, 0, none⟩, cap8, _, rfl, by omega, by omega, by simp; omega, by rw [List.length_append]; exact HI7.out, hid (by rw [show 100 - (cs ++ [ct]).length = k by simp; omega]; exact HREL.out)⟩
                    case measure => simp [intOf]; omega
                  obtain ⟨hlt5, hby5⟩ := byte_at (show s.data.toList.drop p5 = d :: Z by rw [HL.out, hDD])
                  have hlt5i : (p5 : Int) < (s.size : Int) := by omega
                  have hez := endS_pos.2 hE
                  rw [hez] at CE
                  have hj44 : ¬ ((s[p5]'hlt5 : UInt8).toNat : Int) = 44 := by rw [hby5]; exact u8_ne (by decide) h44
                  have hj44b : (((s[p5]'hlt5 : UInt8).toNat : Int) == 44) = false := by rw [beq_eq_false_iff_ne]; exact hj44
                  have hj44c : (((s[p5]'hlt5 : UInt8).toNat : Int) != 44) = true := bne_iff_ne.2 hj44
                  have hne : ¬ ((endR (d :: Z)).isSome = true ∨ d = 44) := by rw [← hDD, hE]; simp [h44]
                  by_cases h34 : d = 34
                  · have HRR := hid (hbad 2 (by decide) (by rw [hDD, unqN_cons, if_neg hne, if_pos h34]))
                    have hjx : ((s[p5]'hlt5 : UInt8).toNat : Int) = 34 := by rw [hby5, h34]; rfl
                    have hjxb : (((s[p5]'hlt5 : UInt8).toNat : Int) == 34) = true := by rw [hjx]; rfl
                    clear hE hez hstop hbad HU hcl2 hDD h44 hby5 hne h34 hj44 hj44b hj44c
                    have hj44c : (((s[p5]'hlt5 : UInt8).toNat : Int) != 44) = true := by rw [hjx]; rfl
                    go_wp2_with fail
                    refine (CE.out _).mono ?_
                    rintro e wi ⟨rfl, rfl⟩
                    go_wp2
                    refine bodyPost_ret (v := .tuple #[.slice ra rs.length rc, .int .i64 (p5 : Int), .int .i64 2]) (by simp [results, Tryd.results24, go_sem, *]) rfl ⟨_, by rw [HRR.out] <;> rfl, ext_trans HBL.out HIN.out.bel⟩
                  have hj34 : ¬ ((s[p5]'hlt5 : UInt8).toNat : Int) = 34 := by rw [hby5]; exact u8_ne (by decide) h34
                  have hj34b : (((s[p5]'hlt5 : UInt8).toNat : Int) == 34) = false := by rw [beq_eq_false_iff_ne]; exact hj34
                  by_cases h13 : d = 13
                  · have HRR := hid (hbad 4 (by decide) (by rw [hDD, unqN_cons, if_neg hne, if_neg h34, if_pos h13]))
                    have hjx : ((s[p5]'hlt5 : UInt8).toNat : Int) = 13 := by rw [hby5, h13]; rfl
                    have hjxb : (((s[p5]'hlt5 : UInt8).toNat : Int) == 13) = true := by rw [hjx]; rfl
                    clear hE hez hstop hbad HU hcl2 hDD h44 hby5 hne h34 h13 hj44 hj44b hj44c hj34 hj34b
                    have hj44c : (((s[p5]'hlt5 : UInt8).toNat : Int) != 44) = true := by rw [hjx]; rfl
                    have hj34b : (((s[p5]'hlt5 : UInt8).toNat : Int) == 34) = false := by rw [hjx]; rfl
                    go_wp2_with fail
                    refine (CE.out _).mono ?_
                    rintro e wi ⟨rfl, rfl⟩
                    go_wp2
                    refine bodyPost_ret (v := .tuple #[.slice ra rs.length rc, .int .i64 (p5 : Int), .int .i64 4]) (by simp [results, Tryd.results24, go_sem, *]) rfl ⟨_, by rw [HRR.out] <;> rfl, ext_trans HBL.out HIN.out.bel⟩
                  have hj13 : ¬ ((s[p5]'hlt5 : UInt8).toNat : Int) = 13 := by rw [hby5]; exact u8_ne (by decide) h13
                  have hj13b : (((s[p5]'hlt5 : UInt8).toNat : Int) == 13) = false := by rw [beq_eq_false_iff_ne]; exact hj13
                  obtain ⟨p6, hp6e⟩ : ∃ x, p5 + 1 = x := ⟨_, rfl⟩
                  have hw6' : (p5 : Int) + 1 = (p6 : Int) := by omega
                  have hw6 : IntKind.i64.wrap (p6 : Int) = (p6 : Int) := IntWalk.i64_in _ (by omega)
                  have HP6 := hid (show p5 < p6 ∧ p6 ≤ s.size by omega)
                  have HU6 := hid (show unqN (L.drop p) = ((unqN (L.drop p6)).1 + (p6 - p), (unqN (L.drop p6)).2) by
                    have h6 : L.drop p6 = Z := by rw [← hp6e, ← List.drop_drop, hDD]; rfl
                    rw [HU.out, hDD, unqN_cons, if_neg hne, if_neg h34, if_neg h13, h6]
                    simp only [Prod.mk.injEq, and_true]
                    omega)
                  clear hE hez hstop hbad HU hcl2 hDD h44 hby5 hne h34 h13 hp6e
                  go_wp2_with fail
                  refine (CE.out _).mono ?_
                  rintro e wi ⟨rfl, rfl⟩
                  go_wp2
                  go_roundw
                  case rel => exact ⟨p6, by first | rfl | (congr 1; omega), by have := HP6.out; omega, HP6.out.2, by first | rfl | trivial, HU6⟩
                  case measure => have := HP6.out; simp [intOf]; omega
          · have hlt1 : ¬ (p : Int) < (s.size : Int) := by omega
            go_wp2
            go_loopw [6] (fun v6 wr => ∃ z : Nat, v6 = .int .i64 (z : Int) ∧ p ≤ z ∧ z ≤ s.size ∧ wi = wr ∧ Hid (unqN (L.drop p) = ((unqN (L.drop z)).1 + (z - p), (unqN (L.drop z)).2))) (fun v6 _ => s.size - (intOf v6).toNat)
            case atStart => exact ⟨p, rfl, Nat.le_refl _, hp, by first | rfl | trivial, hid (by simp)⟩
            case round =>
              obtain ⟨p5, rfl, hpp5, hp5, rfl, HU⟩ := hrel
              have hp50 : (0 : Int) ≤ (p5 : Int) := by omega
              have hpi : (p : Int) ≤ (p5 : Int) := by omega
              have hpj : (p5 : Int) ≤ (s.size : Int) := by omega
              have CE := hid (fun w' => specEnd (s := s) (p := p5) w' hp5 (by omega))
              rw [HL.out] at CE
              have hstop : unqN (L.drop p5) = (0, 0) → ∃ ct : List UInt8, s.extract p p5 = mkB ct ∧ ct.length ≤ 4000 ∧ P = if 1000 < ct.length then (6, p, []) else match endR (L.drop p5) with | some e => (0, p5 + e, cs ++ [ct]) | none => rowP L k (p5 + 1) (cs ++ [ct]) := fun h => by
                refine ⟨(L.drop p).take (p5 - p), ?_, by rw [List.length_take, List.length_drop, HLS.out]; omega, ?_⟩
                · apply ba_toL
                  rw [mkB_data, ByteArray.data_extract, Array.toList_extract, List.extract_eq_take_drop, HL.out]
                · have hcell : cellP (L.drop p) = (0, p5 - p, (L.drop p).take (p5 - p)) := by
                    rw [HCP.out, HU.out, h]
                    simp
                  rw [HPR.out, hk1, rowP_succ L k p cs hcell, if_neg (by simp), show p + (p5 - p) = p5 by omega] <;> rfl
              have hbad : ∀ c : Nat, c ≠ 0 → unqN (L.drop p5) = (0, c) → R = (rs, p5, c) := fun c hc h => by
                have hcell : cellP (L.drop p) = (c, p5 - p, []) := by
                  rw [HCP.out, HU.out, h]
                  simp [hc]
                have e : P = (c, p5, []) := by rw [HPR.out, hk1, rowP_succ L k p cs hcell, if_pos hc, show p + (p5 - p) = p5 by omega]
                rw [HRS.out, e, if_pos hc]
              cases hE : endR (L.drop p5) with
              | some ee =>
                obtain ⟨ct, hx, hctl, hRW⟩ := hstop (unqN_stop (Or.inl (by rw [hE]; rfl)))
                have HRW := hid hRW
                have hez := endS_some hE
                have hle := endR_le hE
                rw [List.length_drop, HLS.out] at hle
                obtain ⟨E, hEv⟩ : ∃ E, endS (L.drop p5) = E := ⟨_, rfl⟩
                rw [hEv] at CE hez
                have hE0 : 0 < E ∧ E ≤ 4000 := by rcases hez with h | h <;> omega
                have hEi : ¬ (E : Int) = 0 := by omega
                have hEb : ((E : Int) == 0) = false := by rw [beq_eq_false_iff_ne]; exact hEi
                have hEc : ((E : Int) != 0) = true := bne_iff_ne.2 hEi
                obtain ⟨pE, hpE⟩ : ∃ x, p5 + E = x := ⟨_, rfl⟩
                have hwE' : (p5 : Int) + (E : Int) = (pE : Int) := by omega
                have hwE : IntKind.i64.wrap (pE : Int) = (pE : Int) := IntWalk.i64_in _ (by omega)
                obtain ⟨q9, hq9⟩ : ∃ x, p5 + ee = x := ⟨_, rfl⟩
                have hmin : q9 ≤ s.size ∧ ((s.size < pE ∧ q9 = s.size) ∨ (pE < s.size ∧ q9 = pE) ∨ (pE = s.size ∧ q9 = pE)) := by
                  rcases hez with h | h
                  · have h5 := (drop_nil_iff hp5).1 (show s.data.toList.drop p5 = [] by rw [HL.out]; exact h.2.2)
                    omega
                  · omega
                have HRE := hid (show ¬ 1000 < ct.length → q < q9 ∧ R = readC L f' q9 (rs ++ [cs ++ [ct]]) from fun h => by
                  have e : P = (0, q9, cs ++ [ct]) := by rw [HRW.out, if_neg h, hE, ← hq9]
                  refine ⟨?_, ?_⟩
                  · have := HMORE.out (by rw [e])
                    rw [e] at this
                    exact this
                  · rw [HRS.out, e]; rfl)
                clear hpE hq9 hEv hle
                clear hE hez hstop hbad HU hRW hcl2
                go_wp2_with fail
                refine (CE.out _).mono ?_
                rintro e wi ⟨rfl, rfl⟩
                by_cases hlong : 1000 < ct.length
                · have hl1 : (1000 : Int) < ((mkB ct).size : Int) := by rw [mkB_size]; omega
                  have HRR := hid (show R = (rs, p, 6) by
                    have e : P = (6, p, []) := by rw [HRW.out, if_pos hlong]
                    rw [HRS.out, e]; rfl)
                  clear HRW HRE hlong
                  go_wp2
                  refine bodyPost_ret (v := .tuple #[.slice ra rs.length rc, .int .i64 (p : Int), .int .i64 6]) (by simp [results, Tryd.results24, go_sem, *]) rfl ⟨_, by rw [HRR.out] <;> rfl, ext_trans HBL.out HIN.out.bel⟩
                have hl1 : ¬ (1000 : Int) < ((mkB ct).size : Int) := by rw [mkB_size]; omega
                have HREL := hid (HRE.out hlong)
                have hownT := HIN.out.own
                have hRw := HIN.out.eq
                clear HRW HRE hlong hRw
                go_wp2_with ((at_builtin; refine wpList_append_lies _ rfl (.tmp 96) (.tmp 98) 24 rfl (Rr + 1) 9 iS (.string ⟨#[]⟩) 1 16 Tryd.underlying24 hiS hs0 hs1 hs2 rfl (by decide) (.slice va cs.length vc) cs.length xs rfl (hownT.alloc _) ⟨wi.heap.size, 0, none⟩ 1 1 [.string (mkB ct)] rfl rfl ?g1 ?g2 (by decide) ?g3 ?g4 ?g5 _ rfl ?_))
                try (case g1 => exact cell_one_new _ _ _)
                case g2 => first | rfl | (intro u hu; simp at hu; subst hu; rfl)
                case g3 => unfold maxLen; omega
                case g4 => omega
                case g5 => first | (simp; omega) | omega
                intro g8 cap8 w8 hown8 hgrow8 hat8 hlt8
                have hownA := hownT.alloc (.cells #[.string (mkB ct)] 9)
                have hnR : some Rr ≠ (Value.slice va cs.length vc).ownBlock := fun e => by have := (hownA.lt Rr e.symm).1; omega
                have c8 : w8.cell? ⟨Rr, 0, none⟩ = some (.slice va cs.length vc) := hgrow8.cell (keeps_cells (ext_alloc _ _) _ _ c0) hnR
                have cy8 : w8.frozen? ⟨Rr, 0, none⟩ = false := (World.frozen?_of_block (hgrow8.block Rr (by simp; omega) hnR)).trans ((World.frozen?_of_block ((ext_alloc _ _).block Rr hRlt)).trans cy)
                obtain ⟨W7, hW7⟩ : ∃ x, w8.setCell ⟨Rr, 0, none⟩ (.slice (some ⟨g8, 0, none⟩) (cs.length + 1) cap8) = x := ⟨_, rfl⟩
                have hbl : Below Rr wi W7 := by rw [← hW7]; exact (((ext_alloc wi _).mono (Nat.le_of_lt hRlt)).grown hgrow8 (by simp; omega) (fun q hq => by have := (hownA.lt q hq).1; omega)).setCell (Nat.le_refl _) _
                have HI7 := hid (show RowIn wo W7 Rr (some ⟨g8, 0, none⟩) (cs.length + 1) cap8 (xs ++ [.string (mkB ct)]) from ⟨by rw [← hW7]; exact set_one ((hgrow8.block Rr (by simp; omega) hnR).trans (((ext_alloc wi _).block Rr hRlt).trans HIN.out.at')), by rw [← hW7]; exact ownsRow_other hown8 (fun b hb => by have := (hown8.lt b hb).1; omega) _, HIN.out.bel.trans (by rw [HIN.out.eq]; exact hbl), HIN.out.eq⟩)
                clear hown8 hgrow8 hat8 hlt8 hnR hownA hownT hbl c0 cy hRlt
                go_upto_region 28 with fail
                try rw [hW7]
                clear hW7 c8 cy8
                obtain ⟨c0, cy, hRlt⟩ := HI7.out.cells

                go_wp2_with fail
                refine (CE.out _).mono ?_
                rintro e W7 ⟨rfl, rfl⟩
                have hownR := own_keepB HRO.out HI7.out.bel
                have hbase : w.heap.size ≤ W7.heap.size := (ext_trans HBL.out HI7.out.bel).size
                have hq9 := HREL.out.1
                go_wp2_with ((at_builtin; refine wpList_append_lies _ rfl (.tmp 107) (.tmp 109) 43 rfl w.heap.size 69 iR (.agg #[.slice none 0 0]) 1 24 Tryd.underlying43 hiR hr0 hr1 hr2 rfl (by decide) (.slice ra rs.length rc) rs.length rxs rfl (hownR.alloc _) ⟨W7.heap.size, 0, none⟩ 1 1 [.slice (some ⟨g8, 0, none⟩) (cs.length + 1) cap8] rfl rfl ?g6 ?g7 (by decide) ?g8 ?g9 ?g10 _ rfl ?_))
                try (case g6 => exact cell_one_new _ _ _)
                case g7 => first | rfl | (intro u hu; simp at hu; subst hu; rfl)
                case g8 => unfold maxLen; omega
                case g9 => omega
                case g10 => first | exact Nat.le_trans hbase (by simp) | omega
                intro g9 cap9 w9 hown9 hgrow9 hat9 hlt9
                have HO9 := hid hown9
                have HB9 := hid (show Below w.heap.size w w9 from (ext_trans HBL.out HI7.out.bel).trans (((ext_alloc W7 _).mono hbase).grown hgrow9 (Nat.le_trans hbase (by simp)) (fun q hq => (hownR.lt q hq).1)))
                clear hown9 hgrow9 hat9 hlt9 hownR c0 cy hRlt hiS hs0 hs1 hs2 hiR hr0 hr1 hr2
                go_upto_region 31 with fail
                rcases hmin.2 with ⟨hm1, hm2⟩ | ⟨hm1, hm2⟩ | ⟨hm1, hm2⟩
                · have hmi : (s.size : Int) < (pE : Int) := by omega
                  have hmj : ¬ (pE : Int) < (s.size : Int) := by omega
                  go_wp2_with fail
                  refine (CE.out _).mono ?_
                  rintro e w9 ⟨rfl, rfl⟩
                  go_wp2
                  go_roundw
                  case rel => exact ⟨q9, f', rs ++ [cs ++ [ct]], _, by first | rfl | (congr 1; omega), hmin.1, by simp; omega, by omega, by rw [List.length_append]; exact HO9.out, HB9.out, hid (by rw [HL.out]; exact HREL.out.2)⟩
                  case measure => simp [intOf]; omega
                · have hmi : (pE : Int) < (s.size : Int) := by omega
                  have hmj : ¬ (s.size : Int) < (pE : Int) := by omega
                  go_wp2_with fail
                  refine (CE.out _).mono ?_
                  rintro e w9 ⟨rfl, rfl⟩
                  go_wp2
                  go_roundw
                  case rel => exact ⟨q9, f', rs ++ [cs ++ [ct]], _, by first | rfl | (congr 1; omega), hmin.1, by simp; omega, by omega, by rw [List.length_append]; exact HO9.out, HB9.out, hid (by rw [HL.out]; exact HREL.out.2)⟩
                  case measure => simp [intOf]; omega
                · have hmi : ¬ (pE : Int) < (s.size : Int) := by omega
                  have hmj : ¬ (s.size : Int) < (pE : Int) := by omega
                  go_wp2_with fail
                  refine (CE.out _).mono ?_
                  rintro e w9 ⟨rfl, rfl⟩
                  go_wp2
                  go_roundw
                  case rel => exact ⟨q9, f', rs ++ [cs ++ [ct]], _, by first | rfl | (congr 1; omega), hmin.1, by simp; omega, by omega, by rw [List.length_append]; exact HO9.out, HB9.out, hid (by rw [HL.out]; exact HREL.out.2)⟩
                  case measure => simp [intOf]; omega
              | none =>
                cases hDD : L.drop p5 with
                | nil => rw [hDD] at hE; cases hE
                | cons d Z =>
                  exfalso
                  have h9 := congrArg List.length hDD
                  rw [List.length_drop, HLS.out] at h9
                  simp at h9
                  omega
end Go.Proofs.YtommldonooicjaaDoor
