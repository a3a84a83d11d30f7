/-
  What is proved here: impl's JSON reader: words and strings. No condition but that the reader lies in memory, and sizes.
-/
import Derived.Test.YtlfkfofeenakhaaDoorJsI3
import Derived.Test.YtlfkfofeenakhaaDoorJsS5
import Derived.Test.YtlfkfofeenakhaaDoorShelfB
import Derived.Lib.OthersKept
namespace Go.Proofs.YtlfkfofeenakhaaDoor
open Go.RowKit
set_option linter.unusedVariables false
set_option linter.unusedSimpArgs false

theorem rdLeafO {S : Nat → Prop} {w : World} (k : Int) (t : ByteArray) (hk : 0 ≤ k ∧ k ≤ 100) (ht : t.size ≤ 1000000) : Rd.rd S w [.int .i64 k, .string t, .slice none 0 0, .slice none 0 0] (⟨⟨k, t, [], []⟩, none, none⟩ : JOwn) :=
  ⟨rdJN_mk (n := ⟨k, t, [], []⟩) (by dsimp only; omega) (by dsimp only; omega) rd_noStr rd_noInt, ⟨_, _, rfl, ow_nil, ow_nil⟩, fun b hb => by cases hb⟩
theorem leafI {X : Nat → Prop} {g : Nat} {s : ByteArray} {p b : Nat} {nv : Value} {ns : List JNode} (k : Int) (t : ByteArray) (hk : 0 ≤ k ∧ k ≤ 100) (ht : t.size ≤ 1000000) (w : World) (hb : JI w g s p b nv) (hn : JNo X g nv w ns) (hlen : ns.length ≤ 100000) :
    Calls Tryd.prog 76 #[.pointer (some ⟨g, 0, none⟩), .agg #[.int .i64 k, .string t, .slice none 0 0, .slice none 0 0]] w fun e w' => PutI X g s p b nv w w' ns ⟨k, t, [], []⟩ e :=
  implJAdd (x := ⟨⟨k, t, [], []⟩, none, none⟩) w hb (hn.less (fun b hb => hb.elim id (fun h => by cases h))) (rdLeafO k t hk ht) List.nodup_nil hlen
/-- what a value leaves -/
def ValI (X : Nat → Prop) (w w' : World) (g : Nat) (s : ByteArray) (nv : Value) (r : JR) (e : Ending) : Prop :=
  (∃ kid j b' ns' nv', r = .ok kid j b' ns' ∧ e = .returned (.tuple #[.int .i64 ((kid : Nat) : Int), .int .i64 0]) ∧ JI w' g s j b' nv' ∧ JNo X g nv' w' ns' ∧ RowOn w nv.ownBlock nv'.ownBlock)
  ∨ (∃ (c q b' : Nat) (nv' : Value), r = .er c q ∧ c ≠ 0 ∧ e = .returned (.tuple #[.int .i64 0, .int .i64 (c : Int)]) ∧ JI w' g s q b' nv' ∧ RowOn w nv.ownBlock nv'.ownBlock)
set_option maxHeartbeats 16000000 in
set_option maxRecDepth 100000 in
theorem implJWord {X : Nat → Prop} {g : Nat} {s : ByteArray} {p b : Nat} {nv : Value} {ns : List JNode} (c : Nat) (W : ByteArray) (k : Int) (hc : (c = 110 ∧ W = ⟨#[110, 117, 108, 108]⟩ ∧ k = 1) ∨ (c = 116 ∧ W = ⟨#[116, 114, 117, 101]⟩ ∧ k = 2) ∨ (c = 102 ∧ W = ⟨#[102, 97, 108, 115, 101]⟩ ∧ k = 3)) (w : World) (h : JI w g s p b nv) (hp : p ≤ s.size) (hs : s.size ≤ 5000) (hlen : ns.length ≤ 100000) (hn : JNo X g nv w ns) :
    Calls Tryd.prog 77 #[.pointer (some ⟨g, 0, none⟩), .int .i64 (c : Int)] w fun e w' => ValI X w w' g s nv (wordR s.data.toList p (W.data.toList.map UInt8.toNat) k b ns) e ∧ Kp g nv.ownBlock w w' := by
  obtain ⟨L, hL⟩ : ∃ L, s.data.toList = L := ⟨_, rfl⟩
  have hsl : s.size = L.length := by rw [← hL, Lib.size_eq]
  have CT := hid (fun (c q : Nat) (w : World) (h : JI w g s q b nv) (hq : q ≤ s.size) (hc : c ≠ 0) => implJTake c w h hq hs hc)
  rw [hL] at CT ⊢
  have HWS := hid (show W.size ≤ 5 ∧ (∀ (i : Nat) (hi : i < W.size), (W[i]).toNat ≠ 0) ∧ 0 ≤ k ∧ k ≤ 100 by rcases hc with ⟨_, rfl, rfl⟩ | ⟨_, rfl, rfl⟩ | ⟨_, rfl, rfl⟩ <;> exact ⟨by decide, by decide, by decide, by decide⟩)
  have hwd : ∀ (i : Nat) (hi : i < W.size), (W.data.toList.map UInt8.toNat).drop i = (W[i]).toNat :: (W.data.toList.map UInt8.toNat).drop (i + 1) := by
    intro i hi
    have hl : i < (W.data.toList.map UInt8.toNat).length := by rw [List.length_map]; rw [← Lib.size_eq]; exact hi
    rw [List.drop_eq_getElem_cons hl, List.getElem_map]
    rfl
  have HWD := hid hwd
  have HWE := hid (show (W.data.toList.map UInt8.toNat).drop W.size = [] by rw [List.drop_eq_nil_of_le]; rw [List.length_map, Lib.size_eq]; exact Nat.le_refl _)
  obtain ⟨wd, hwde⟩ : ∃ wd, W.data.toList.map UInt8.toNat = wd := ⟨_, rfl⟩
  rw [hwde] at HWD HWE ⊢
  obtain ⟨R, hR⟩ : ∃ R, wordE L wd p = R := ⟨_, rfl⟩
  have HR := hid hR
  have HV := hid (show wordR L p wd k b ns = if R.1 = true then putN ⟨k, ⟨#[]⟩, [], []⟩ R.2 b ns else .er 2 R.2 by rw [← hR]; rfl)
  obtain ⟨V, hV⟩ : ∃ V, wordR L p wd k b ns = V := ⟨_, rfl⟩
  rw [hV] at HV ⊢
  have HH := hid h
  have HN := hid hn
  have HSL := hid hsl
  clear hL hsl hwd hwde hR hV h hn
  go_enter Tryd.func77, Tryd.ntmps77
  go_upto_block 0 with fail
  go_cut [6, 7] from 9 (fun v6 v7 wx => v6 = .string W ∧ v7 = .int .i64 k ∧ wx = w)
  case first =>
    rcases hc with ⟨h0, rfl, rfl⟩ | ⟨h0, rfl, rfl⟩ | ⟨h0, rfl, rfl⟩
    · have HC := hid h0
      have f1 : ((c : Int) == 116) = false := by rw [h0]; rfl
      have f2 : ((c : Int) == 102) = false := by rw [h0]; rfl
      clear h0
      go_wp2
      go_meet
      case rel => exact ⟨rfl, rfl, rfl⟩
    · have HC := hid h0
      have f1 : ((c : Int) == 116) = true := by rw [h0]; rfl
      have f2 : ((c : Int) == 102) = false := by rw [h0]; rfl
      clear h0
      go_wp2
      go_meet
      case rel => exact ⟨rfl, rfl, rfl⟩
    · have HC := hid h0
      have f1 : ((c : Int) == 116) = false := by rw [h0]; rfl
      have f2 : ((c : Int) == 102) = true := by rw [h0]; rfl
      clear h0
      go_wp2
      go_meet
      case rel => exact ⟨rfl, rfl, rfl⟩
  case rest =>
  obtain ⟨rfl, rfl, rfl⟩ := hcut
  clear hc
  have hW5 : W.size ≤ 5 := HWS.out.1
  go_wp2
  go_loopw [16] (fun v wr => ∃ i q : Nat, i ≤ W.size ∧ v = .int .i64 (i : Int) ∧ q ≤ s.size ∧ JI wr g s q b nv ∧ Kp g none wc wr ∧ Hid (wordE L (wd.drop i) q = R)) (fun v _ => W.size - (intOf v).toNat)
  case atStart => exact ⟨0, p, Nat.zero_le _, rfl, hp, HH.out, Kp.refl _ _ _, HR⟩
  case round =>
    obtain ⟨i, q, hi, rfl, hq, hj, hk, HQ⟩ := hrel
    have HJ := hid hj
    have HK := hid hk
    clear hj hk
    by_cases hlt : i < W.size
    · have hilt : (i : Int) < (W.size : Int) := by omega
      have hi0 : (0 : Int) ≤ (i : Int) := by omega
      have hiw : IntKind.i64.wrap ((i : Int) + 1) = (i : Int) + 1 := IntWalk.i64_in _ (by omega)
      obtain ⟨C, hC⟩ : ∃ C, (W[i] : UInt8).toNat = C := ⟨_, rfl⟩
      have hC0 : C ≠ 0 := by rw [← hC]; exact HWS.out.2.1 i hlt
      have hC255 : C ≤ 255 := by rw [← hC]; have := (W[i] : UInt8).toNat_lt; omega
      have HST := hid (show wordE L (C :: wd.drop (i + 1)) q = R by rw [← hC, ← HWD.out i hlt]; exact HQ.out)
      have hCw : IntKind.i64.wrap (C : Int) = (C : Int) := IntWalk.i64_in _ (by omega)
      have hCw2 : wrap64 (C : Int) = (C : Int) := IntWalk.wrap64_in _ (by omega)
      have hix : (((W[i] : UInt8).toNat : Nat) : Int) = (C : Int) := congrArg Nat.cast hC
      have CTQ := hid (CT.out C q wr HJ.out hq hC0)
      by_cases hg : gB L q = C
      · rw [decide_eq_true hg, if_pos hg] at CTQ
        have HST2 := hid (show wordE L (wd.drop (i + 1)) (q + 1) = R by rw [← HST.out, wordE, if_pos hg])
        have HLQ := hid (show q + 1 ≤ s.size by have := gB_lt (L := L) (i := q) (by rw [hg]; exact hC0); have := HSL.out; omega)
        clear hg hC
        go_wp2_with fail
        refine CTQ.out.mono ?_
        rintro e w3 ⟨rfl, hj3, hk3⟩
        have HJ3 := hid hj3
        have HK3 := hid (HK.out.trans hk3 (RowOn.refl _ _))
        clear hj3 hk3
        go_wp2
        go_roundw
        case rel => exact ⟨i + 1, q + 1, by omega, by go_num, HLQ.out, HJ3.out, HK3.out, HST2⟩
        case measure => simp [intOf]; omega
      · rw [decide_eq_false hg, if_neg hg] at CTQ
        have HRE := hid (show R = (false, q) by rw [← HST.out, wordE, if_neg hg])
        have HVE := hid (show V = .er 2 q by rw [HV.out, HRE.out]; rfl)
        clear hg hC
        go_wp2_with fail
        refine CTQ.out.mono ?_
        rintro e w3 ⟨rfl, hj3, hk3⟩
        have HJ3 := hid hj3
        have HK3 := hid (HK.out.trans hk3 (RowOn.refl _ _))
        clear hj3 hk3
        go_wp2
        go_ret2
        rw [HVE.out]
        exact ⟨Or.inr ⟨2, q, b, nv, rfl, by decide, rfl, HJ3.out, RowOn.refl _ _⟩, KpweakO HK3.out _⟩
    · have hie : i = W.size := by omega
      have hilt : ¬ (i : Int) < (W.size : Int) := by omega
      have HRE := hid (show R = (true, q) by rw [← HQ.out, hie, HWE.out]; rfl)
      have HVE := hid (show V = putN ⟨k, ⟨#[]⟩, [], []⟩ q b ns by rw [HV.out, HRE.out]; rfl)
      have CA := hid (leafI (X := X) (ns := ns) k ⟨#[]⟩ HWS.out.2.2 (by decide) wr HJ.out (HN.out.kp HK.out) hlen)
      clear hie
      go_wp2_with fail
      refine CA.out.mono ?_
      rintro e w3 ⟨nv3, rfl, hj3, hn3, hro3, hk3⟩
      have HJ3 := hid hj3
      have HN3 := hid hn3
      have HRO := hid (hro3.upJ HK.out.size)
      have HK3 := hid ((KpweakO HK.out nv.ownBlock).trans hk3 (RowOn.refl _ _))
      clear hj3 hk3 hn3 hro3
      go_wp2
      go_ret2
      rw [HVE.out]
      exact ⟨Or.inl ⟨_, _, _, _, nv3, rfl, rfl, HJ3.out, HN3.out, HRO.out⟩, HK3.out⟩
theorem bf_kp {T e : TypeId} {B b g : Nat} {bs : List Value} {w w' : World} (h : Lib.IsBuilderF T e B b bs w) (k : Kp g none w w') (hg : g < B) : Lib.IsBuilderF T e B b bs w' := by
  have one : ∀ {p : Value}, Lib.BuilderAtF T e B b p bs w → Lib.BuilderAtF T e B b p bs w' := by
    intro p h
    obtain ⟨hB, v, hb, hown, hne⟩ := h
    refine ⟨hB, v, (k.block b (Array.getElem?_eq_some_iff.1 hb).1 (by omega) (by simp)).trans hb, ⟨hown.1, ?_⟩, hne⟩
    rcases hown.2 with hn | ⟨r, cap, cur, fz, hv, hbg, hg2, rest⟩
    · exact Or.inl hn
    · exact Or.inr ⟨r, cap, cur, fz, hv, hbg, (k.block r (Array.getElem?_eq_some_iff.1 hg2).1 (by omega) (by simp)).trans hg2, rest⟩
  exact h.elim (fun x => Or.inl (one x)) (fun x => Or.inr (one x))
theorem byteCells1J (l : List UInt8) (b : UInt8) : Lib.byteCells l ++ [Value.int .u8 (b.toNat : Int)] = Lib.byteCells (l ++ [b]) := by simp [Lib.byteCells]
set_option maxHeartbeats 32000000 in
set_option maxRecDepth 100000 in
theorem implJText {g : Nat} {s : ByteArray} {p b : Nat} {nv : Value} (w : World) (h : JI w g s p b nv) (hp : p < s.size) (hs : s.size ≤ 5000) :
    Calls Tryd.prog 75 #[.pointer (some ⟨g, 0, none⟩)] w fun e w' => e = .returned (.tuple #[.string (mkB (strP s.data.toList p).2.2), .int .i64 ((cdI (strP s.data.toList p).1 : Nat) : Int)]) ∧ JI w' g s (strP s.data.toList p).2.1 b nv ∧ Kp g none w w' := by
  obtain ⟨L, hL⟩ : ∃ L, s.data.toList = L := ⟨_, rfl⟩
  have hsl : s.size = L.length := by rw [← hL, Lib.size_eq]
  have CP := hid (fun (q : Nat) (w : World) (h : JI w g s q b nv) (hq : q ≤ s.size) => implJNext w h hq)
  have CE := hid (fun (q : Nat) (w : World) (h : JI w g s q b nv) (hq : q + 1 ≤ s.size) => implJEscape w h hq hs)
  rw [hL] at CP CE ⊢
  obtain ⟨R, hR⟩ : ∃ R, strP L p = R := ⟨_, rfl⟩
  rw [hR]
  obtain ⟨p1, hp1⟩ : ∃ x, p + 1 = x := ⟨_, rfl⟩
  have HR := hid (show strG L (L.length + 1) p1 [] = R by rw [← hp1]; exact hR)
  have HSL := hid hsl
  have hw' : (p : Int) + 1 = (p1 : Int) := by omega
  have hw : IntKind.i64.wrap (p1 : Int) = (p1 : Int) := IntWalk.i64_in _ (by omega)
  have hl : g < w.heap.size := h.cells.2.2.2.2.2.2.2
  have HG := hid hl
  obtain ⟨c0, c1, c2, c3, y1, y2, y3, hla⟩ := h.cells
  have HP1 := hid (show p1 ≤ s.size ∧ 1 ≤ p1 by omega)
  have hgn : ¬ w.heap.size = g := by omega
  have hng : ¬ g = w.heap.size := by omega
  have hs0 : (w.setCell ⟨g, 1, none⟩ (.int .i64 (p1 : Int))).heap.size = w.heap.size := by simp [World.setCell]
  have hI0 := Lib.IsBuilderF.of (Lib.fresh_isBuilder 119 5 (w.setCell ⟨g, 1, none⟩ (.int .i64 (p1 : Int))))
  rw [hs0] at hI0
  obtain ⟨wS, hwS⟩ : ∃ x, (w.setCell ⟨g, 1, none⟩ (.int .i64 (p1 : Int))).alloc (.cells #[.pointer none, .slice none 0 0] 119) = x := ⟨_, rfl⟩
  rw [hwS] at hI0
  have HJ1 := hid (show JI wS g s p1 b nv by rw [← hwS]; exact ((ext_alloc _ _).block g (by rw [hs0]; exact hl)).trans (h.setP p1))
  have HK1 := hid (show Kp g none w wS by rw [← hwS]; exact ((Kp.refl g none w).set 1 (.int .i64 (p1 : Int))).alloc _)
  have HI1 := hid (show Lib.IsBuilderF 119 5 w.heap.size w.heap.size (Lib.byteCells []) wS from hI0)
  clear hI0 hs0
  have HWS := hid hwS
  clear hL hsl hR h hp1 hp c2 c3 y2 y3 hwS
  go_enter Tryd.func75, Tryd.ntmps75
  go_wp2_with fail
  try rw [HWS.out]
  clear c0 c1 y1 hla hw hw' hl hgn hng
  go_loopw [] (fun wr => ∃ (q f : Nat) (out : List UInt8), q ≤ s.size ∧ s.size + 1 ≤ f + q ∧ out.length ≤ 4 * q ∧ Lib.IsBuilderF 119 5 w.heap.size w.heap.size (Lib.byteCells out) wr ∧ JI wr g s q b nv ∧ Kp g none w wr ∧ Hid (strG L f q out = R)) (fun wr => s.size + 1 - atI wr g)
  case atStart => exact ⟨p1, L.length + 1, [], HP1.out.1, by have := HSL.out; omega, Nat.zero_le _, HI1.out, HJ1.out, HK1.out, HR⟩
  case round =>
    obtain ⟨q, f, out, hq, hf, hol, hI, hj, hk, HQ⟩ := hrel
    obtain ⟨f2, rfl⟩ : ∃ f2, f = f2 + 1 := ⟨f - 1, by omega⟩
    have HI := hid hI
    have HJ := hid hj
    have HK := hid hk
    have hat := hid hj.atI
    have HSZ := hid hk.size
    clear hI hj hk
    have CPQ := hid (CP.out q wr HJ.out hq)
    have HQ2 := hid (show R = if L.length ≤ q ∨ gB L q < 32 then (false, q, []) else if gB L q = 34 then (true, q + 1, out) else if gB L q = 92 then (if (escS L (q + 1) q).1 = false then (false, (escS L (q + 1) q).2.2, []) else strG L f2 (escS L (q + 1) q).2.2 (out ++ enc (escS L (q + 1) q).2.1)) else strG L f2 (q + 1) (out ++ [L.getD q 0]) by rw [← HQ.out, strG])
    by_cases hend : q = L.length
    · have e : nxI L q = -1 := if_pos hend
      have HRE := hid (show R = (false, q, []) by rw [HQ2.out, if_pos (Or.inl (by omega))])
      rw [e] at CPQ
      clear hend e
      go_wp2_with fail
      refine CPQ.out.mono ?_
      rintro e w3 ⟨rfl, hqt⟩
      have HJ3 := hid (HJ.out.qt hqt)
      have HK3 := hid (HK.out.trans hqt.kp (RowOn.refl _ _))
      clear hqt
      go_wp2
      go_ret2
      rw [HRE.out]
      exact ⟨rfl, HJ3.out, HK3.out⟩
    have e : nxI L q = ((gB L q : Nat) : Int) := if_neg hend
    have hle := gB_le L q
    have HLT := hid (show q < L.length by have := HSL.out; omega)
    have HGD := hid (show L.getD q 0 = UInt8.ofNat (gB L q) by unfold gB; simp)
    obtain ⟨G, hG⟩ : ∃ G, gB L q = G := ⟨_, rfl⟩
    rw [e, hG] at CPQ
    rw [hG] at HQ2 HGD hle
    have hg0 : (0 : Int) ≤ (G : Int) := by omega
    by_cases h32 : G < 32
    · have e1 : (G : Int) < 32 := by omega
      have HRE := hid (show R = (false, q, []) by rw [HQ2.out, if_pos (Or.inr h32)])
      clear hend e hG h32
      go_wp2_with fail
      refine CPQ.out.mono ?_
      rintro e w3 ⟨rfl, hqt⟩
      have HJ3 := hid (HJ.out.qt hqt)
      have HK3 := hid (HK.out.trans hqt.kp (RowOn.refl _ _))
      clear hqt
      go_wp2
      go_ret2
      rw [HRE.out]
      exact ⟨rfl, HJ3.out, HK3.out⟩
    have e1 : ¬ (G : Int) < 32 := by omega
    have HQ3 := hid (show R = if G = 34 then (true, q + 1, out) else if G = 92 then (if (escS L (q + 1) q).1 = false then (false, (escS L (q + 1) q).2.2, []) else strG L f2 (escS L (q + 1) q).2.2 (out ++ enc (escS L (q + 1) q).2.1)) else strG L f2 (q + 1) (out ++ [UInt8.ofNat G]) by rw [HQ2.out, if_neg (by have := HLT.out; omega), HGD.out])
    clear HQ2 HGD hend e hG
    by_cases h34 : G = 34
    · have e2 : (G : Int) = 34 := by omega
      obtain ⟨q1, hq1⟩ : ∃ x, q + 1 = x := ⟨_, rfl⟩
      have HRE := hid (show R = (true, q1, out) by rw [HQ3.out, if_pos h34, hq1])
      have hqw' : (q : Int) + 1 = (q1 : Int) := by omega
      have hqw : IntKind.i64.wrap (q1 : Int) = (q1 : Int) := IntWalk.i64_in _ (by omega)
      clear h34 h32 hq1
      go_wp2_with fail
      refine CPQ.out.mono ?_
      rintro e w3 ⟨rfl, hqt⟩
      have HJ3 := hid (HJ.out.qt hqt)
      have HK3 := hid (HK.out.trans hqt.kp (RowOn.refl _ _))
      have HI3 := hid (bf_kp HI.out hqt.kp HG.out)
      clear hqt
      obtain ⟨c0, c1, c2, c3, y1, y2, y3, hla⟩ := HJ3.out.cells
      obtain ⟨w4, hw4⟩ : ∃ x, w3.setCell ⟨g, 1, none⟩ (.int .i64 (q1 : Int)) = x := ⟨_, rfl⟩
      have HJ4 := hid (show JI w4 g s q1 b nv by rw [← hw4]; exact HJ3.out.setP q1)
      have HK4 := hid (show Kp g none w w4 by rw [← hw4]; exact HK3.out.set 1 _)
      have HI4 := hid (show Lib.IsBuilderF 119 5 w.heap.size w.heap.size (Lib.byteCells out) w4 by rw [← hw4]; exact bf_kp HI3.out ((Kp.refl g none _).set 1 _) HG.out)
      have HW4 := hid hw4
      clear c0 c2 c3 y2 y3 hw4
      go_wp2_with fail
      try rw [HW4.out]
      refine (Tryd.Builder_String_any_k w.heap.size w.heap.size _ _ HI4.out HK4.out.size).mono ?_
      rintro e w5 ⟨rfl, _, b5, _⟩
      have HJ5 := hid (show JI w5 g s q1 b nv from (b5.block g HG.out).trans HJ4.out)
      have HK5 := hid (HK4.out.onB b5 (Nat.le_refl _))
      clear b5
      go_wp2
      go_ret2
      rw [HRE.out]
      exact ⟨rfl, HJ5.out, HK5.out⟩
    have e2 : ((G : Int) == 34) = false := by rw [beq_eq_false_iff_ne]; omega
    have e3 : ¬ (G : Int) = 34 := by omega
    by_cases h92 : G = 92
    · have e4 : (G : Int) = 92 := by omega
      have HES := hid (escS_in L (p := q + 1) (a := q) HLT.out (Nat.le_of_lt HLT.out))
      have CEQ := hid (fun w (h : JI w g s q b nv) => CE.out q w h (by have := HLT.out; have := HSL.out; omega))
      obtain ⟨E, hE⟩ : ∃ E, escS L (q + 1) q = E := ⟨_, rfl⟩
      have HRE := hid (show R = if E.1 = false then (false, E.2.2, []) else strG L f2 E.2.2 (out ++ enc E.2.1) by rw [HQ3.out, if_neg h34, if_pos h92, hE])
      rw [hE] at HES CEQ
      obtain ⟨x1, x2, x3⟩ := E
      dsimp only at HES CEQ HRE
      clear h34 h32 h92 hE HQ3
      go_wp2_with fail
      refine CPQ.out.mono ?_
      rintro e w3 ⟨rfl, hqt⟩
      have HJ3 := hid (HJ.out.qt hqt)
      have HK3 := hid (HK.out.trans hqt.kp (RowOn.refl _ _))
      have HI3 := hid (bf_kp HI.out hqt.kp HG.out)
      clear hqt
      go_wp2_with fail
      refine (CEQ.out _ HJ3.out).mono ?_
      rintro e w4 ⟨rfl, hj4, hk4⟩
      have HJ4 := hid hj4
      have HK4 := hid (HK3.out.trans hk4 (RowOn.refl _ _))
      have HI4 := hid (bf_kp HI3.out hk4 HG.out)
      clear hj4 hk4
      cases x1 with
      | false =>
        have HRF := hid (show R = (false, x3, []) by rw [HRE.out, if_pos rfl])
        go_wp2
        go_ret2
        rw [HRF.out]
        exact ⟨rfl, HJ4.out, HK4.out⟩
      | true =>
        have HRF := hid (show R = strG L f2 x3 (out ++ enc x2) by rw [HRE.out, if_neg (by decide)])
        obtain ⟨hx3, hx4⟩ := HES.out
        obtain ⟨hx5, hx6⟩ := hx4 rfl
        have hpt1 := hx6.1
        have hpt2 := hx6.2.1
        have HPT := hid hx6
        have hxw : IntKind.i32.wrap (x2 : Int) = (x2 : Int) := by rw [IntKind.wrap_i32]; omega
        have hx3s : x3 ≤ s.size := by have := HSL.out; omega
        have hel := enc_len x2
        clear hx4 hx6 hx3
        go_wp2_with fail
        refine (Tryd.Builder_WriteRune_k w.heap.size w.heap.size _ _ (by omega) (by omega) _ HI4.out (by rw [Lib.byteCells_length]; omega) HK4.out.size).mono ?_
        rintro e w5 ⟨rfl, h5, b5, _⟩
        have HI5 := hid (show Lib.IsBuilderF 119 5 w.heap.size w.heap.size (Lib.byteCells (out ++ enc x2)) w5 by rw [Lib.byteCells_append]; rw [runeCells_enc HPT.out] at h5; exact Or.inr h5)
        have HJ5 := hid (show JI w5 g s x3 b nv from (b5.block g HG.out).trans HJ4.out)
        have HK5 := hid (HK4.out.onB b5 (Nat.le_refl _))
        have HAT5 := hid HJ5.out.atI
        clear b5 h5
        go_wp2
        go_roundw
        case rel => exact ⟨x3, f2, out ++ enc x2, hx3s, by omega, by rw [List.length_append]; omega, HI5.out, HJ5.out, HK5.out, hid HRF.out.symm⟩
        case measure => rw [HAT5.out, hat.out]; omega
    have e4 : ((G : Int) == 92) = false := by rw [beq_eq_false_iff_ne]; omega
    have e5 : ¬ (G : Int) = 92 := by omega
    obtain ⟨q1, hq1⟩ : ∃ x, q + 1 = x := ⟨_, rfl⟩
    have HRE := hid (show R = strG L f2 q1 (out ++ [UInt8.ofNat G]) by rw [HQ3.out, if_neg h34, if_neg h92, hq1])
    have hqw' : (q : Int) + 1 = (q1 : Int) := by omega
    have hqw : IntKind.i64.wrap (q1 : Int) = (q1 : Int) := IntWalk.i64_in _ (by omega)
    have hwb : IntKind.u8.wrap (G : Int) = (G : Int) := by rw [IntKind.wrap_u8]; omega
    have HBB := hid (show ((UInt8.ofNat G).toNat : Int) = (G : Int) by rw [UInt8.toNat_ofNat']; omega)
    have HQ1 := hid (show q1 = q + 1 by omega)
    have HQS := hid (show q1 ≤ s.size by have := HLT.out; have := HSL.out; omega)
    clear h34 h92 h32 hq1
    go_wp2_with fail
    refine CPQ.out.mono ?_
    rintro e w3 ⟨rfl, hqt⟩
    have HJ3 := hid (HJ.out.qt hqt)
    have HK3 := hid (HK.out.trans hqt.kp (RowOn.refl _ _))
    have HI3 := hid (bf_kp HI.out hqt.kp HG.out)
    clear hqt
    go_wp2_with fail
    refine (Tryd.Builder_WriteByte_k w.heap.size w.heap.size _ _ _ HI3.out (by rw [Lib.byteCells_length]; omega) HK3.out.size).mono ?_
    rintro e w4 ⟨rfl, h4, b4, _⟩
    have HI4 := hid (show Lib.IsBuilderF 119 5 w.heap.size w.heap.size (Lib.byteCells (out ++ [UInt8.ofNat G])) w4 by rw [← byteCells1J, HBB.out]; exact Or.inr h4)
    have HJ4 := hid (show JI w4 g s q b nv from (b4.block g HG.out).trans HJ3.out)
    have HK4 := hid (HK3.out.onB b4 (Nat.le_refl _))
    clear b4 h4
    obtain ⟨c0, c1, c2, c3, y1, y2, y3, hla⟩ := HJ4.out.cells
    clear c0 c2 c3 y2 y3
    have HJ5 := hid (HJ4.out.setP q1)
    have HK5 := hid (HK4.out.set 1 (.int .i64 (q1 : Int)))
    have HI5 := hid (bf_kp HI4.out ((Kp.refl g none _).set 1 (.int .i64 (q1 : Int))) HG.out)
    have HAT5 := hid HJ5.out.atI
    go_wp2
    go_roundw
    case rel => exact ⟨q1, f2, out ++ [UInt8.ofNat G], HQS.out, by have := HQ1.out; omega, by rw [List.length_append, List.length_singleton]; have := HQ1.out; omega, HI5.out, HJ5.out, HK5.out, hid HRE.out.symm⟩
    case measure => rw [HAT5.out, hat.out]; have := HQ1.out; omega
end Go.Proofs.YtlfkfofeenakhaaDoor
