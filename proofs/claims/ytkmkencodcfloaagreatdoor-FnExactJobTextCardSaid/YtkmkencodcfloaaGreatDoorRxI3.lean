/-
  What is proved here: the pattern reader's classes and items in impl. No condition but that the reader and its list lie in memory.
-/
import Derived.Test.YtkmkencodcfloaaGreatDoorRxCls
namespace Go.Proofs.YtkmkencodcfloaaGreatDoor
open Go.RowKit
set_option linter.unusedVariables false
set_option linter.unusedSimpArgs false

theorem nameB_is' (acc t : List Nat) (s : List UInt8) (hs : s = t.map UInt8.ofNat) (ht : ∀ c ∈ t, c < 128) : ((mkB (nameB acc)).toList == s) = decide (acc = t) := by
  rw [Lib.toList_data, hs, mkB_data, Bool.eq_iff_iff]
  simp only [beq_iff_eq, decide_eq_true_eq]
  exact nameB_lit acc t ht
def ints' (s : List Int) : List Value := s.map (Value.int .i64)
/-- an answer of a row of ints and a code; where the reader then stands -/
def ItemE (w w' : World) (g cap d : Nat) (a : Option Addr) (l : List Nat) (nv : Value) (r : IR) (e : Ending) : Prop :=
  (∃ s j b, r = .ok s j ∧ e = .returned (.tuple #[.slice (some ⟨b, 0, none⟩) s.length s.length, .int .i64 0]) ∧ w.heap.size ≤ b ∧ w'.heap[b]? = some (.cells (ints' s).toArray 3 (0, 0)) ∧ w'.heap[g]? = some (.cells #[.slice a l.length cap, .int .i64 ((j : Nat) : Int), .int .i64 (d : Int), nv] 108 (0, 0)))
  ∨ (∃ c p x j, r = .er c p ∧ e = .returned (.tuple #[x, .int .i64 ((c : Nat) : Int)]) ∧ (c = 6 ∨ c = 4) ∧ (c = 6 → j = p) ∧ w'.heap[g]? = some (.cells #[.slice a l.length cap, .int .i64 ((j : Nat) : Int), .int .i64 (d : Int), nv] 108 (0, 0)))
theorem take_step {l : List Nat} {p j : Nat} (h : p ≤ j) (hl : j < l.length) : (l.drop p).take (j + 1 - p) = (l.drop p).take (j - p) ++ [gN l j] := by
  rw [show j + 1 - p = (j - p) + 1 by omega, List.take_succ_eq_append_getElem (by rw [List.length_drop]; omega), List.getElem_drop, ← gN_at]
  simp only [show p + (j - p) = j by omega]
theorem clsAt_skip {l : List Nat} {j : Nat} : ∀ (f p : Nat), p ≤ j → j ≤ l.length → l.length + 1 ≤ f + p → (∀ m, p ≤ m → m < j → clsEnd l m = false) → clsAt l f p = clsAt l (f - (j - p)) j
  | 0, p, h1, h2, h3, h => by rw [show j = p by omega]; simp
  | f + 1, p, h1, h2, h3, h => by
    by_cases e : p = j
    · subst e; simp
    · have hp := h p (Nat.le_refl _) (by omega)
      rw [show clsAt l (f + 1) p = (if clsEnd l p = true then some p else if l.length ≤ p then none else clsAt l f (p + 1)) from rfl, hp, if_neg (by simp), if_neg (by omega), clsAt_skip f (p + 1) (by omega) h2 (by omega) (fun m a b => h m (by omega) b)]
      congr 1; omega
theorem clsAt_here {l : List Nat} {j f : Nat} (hf : 0 < f) (h : clsEnd l j = true) : clsAt l f j = some j := by
  cases f with
  | zero => omega
  | succ f => simp [clsAt, h]
theorem clsAt_over {l : List Nat} {f : Nat} (h : clsEnd l l.length = false) : clsAt l f l.length = none := by
  cases f with
  | zero => rfl
  | succ f => simp [clsAt, h]
def strSz (v : Value) : Nat := match v with | .string s => s.size | _ => 0
theorem Kp.base {g : Nat} {w w' : World} (h : Kp g none w w') (hg : g < w.heap.size) : Below g w w' := h.below (Nat.le_of_lt hg) (fun b e => by cases e)
set_option maxHeartbeats 16000000 in
theorem implClass {g cap i d : Nat} {a : Option Addr} {l : List Nat} {nv : Value} (w : World) (hb : w.heap[g]? = some (.cells #[.slice a l.length cap, .int .i64 (i : Int), .int .i64 (d : Int), nv] 108 (0, 0)))
    (hL : RxL w g a l) (hi : i + 2 ≤ l.length) :
    Calls Tryz.prog 169 #[.pointer (some ⟨g, 0, none⟩)] w fun e w' => ItemE w w' g cap d a l nv (clsR l (i + 2)) e ∧ Kp g none w w' := by
  have hlen := hL.len
  have hg : g < w.heap.size := (Array.getElem?_eq_some_iff.1 hb).1
  have CX := hid (fun (w' : World) (j : Nat) (hk : Kp g none w w') (hb' : w'.heap[g]? = some (.cells #[.slice a l.length cap, .int .i64 ((j : Nat) : Int), .int .i64 (d : Int), nv] 108 (0, 0))) (hj : j ≤ 1000) => implNext w' hb' (hL.below (hk.base hg)) (by omega))
  have CA := hid (fun (w' : World) (j : Nat) (hk : Kp g none w w') (hb' : w'.heap[g]? = some (.cells #[.slice a l.length cap, .int .i64 ((j : Nat) : Int), .int .i64 (d : Int), nv] 108 (0, 0))) (hj : j ≤ 1000) => implAhead (k := 1) w' hb' (hL.below (hk.base hg)) (by omega) (by decide))
  have HPT := hid (fun m => gN_le hL.pts m)
  obtain ⟨c0, c1, c2, c3, y0, y1, y2, y3, hl⟩ := blk4 hb
  have HN := hid (blk4_set (o := 1) (.int .i64 ((i + 2 : Nat) : Int)) hb)
  rw [show ((i + 2 : Nat) : Int) = (i : Int) + 2 by omega] at HN
  have hw : IntKind.i64.wrap ((i : Int) + 2) = (i : Int) + 2 := IntWalk.i64_in _ (by omega)
  obtain ⟨R, hR⟩ : ∃ r, clsR l (i + 2) = r := ⟨_, rfl⟩
  rw [hR]
  have HR := hid hR
  clear hb hR hL
  obtain ⟨p, hp⟩ : ∃ p, i + 2 = p := ⟨_, rfl⟩
  rw [hp] at hi HR
  have hip : (i : Int) + 2 = (p : Int) := by omega
  rw [hip] at HN hw
  have HP := hid hp
  clear hp
  unfold ItemE
  go_enter Tryz.func169, Tryz.ntmps169
  go_wp2
  go_loopw [4] (fun sv wr => ∃ j : Nat, p ≤ j ∧ j ≤ l.length ∧ sv = .string (mkB (nameB ((l.drop p).take (j - p)))) ∧ (∀ m, p ≤ m → m < j → clsEnd l m = false) ∧ wr.heap[g]? = some (.cells #[.slice a l.length cap, .int .i64 ((j : Nat) : Int), .int .i64 (d : Int), nv] 108 (0, 0)) ∧ Kp g none w wr) (fun sv _ => 4000 - strSz sv)
  case atStart => exact ⟨p, Nat.le_refl _, hi, by simp [nameB, mkB], fun m _ _ => by omega, HN.out, (Kp.refl g none w).set 1 _⟩
  case round =>
    obtain ⟨j, hpj, hjl, rfl, hno, hbr, hkr⟩ := hrel
    have hj1 : j ≤ 1000 := by omega
    have CXJ := hid (fun (w' : World) (hq : Qt wr w') => CX.out w' j (hkr.trans hq.kp (RowOn.refl _ _)) (hq.at hbr) hj1)
    have CAJ := hid (fun (w' : World) (hq : Qt wr w') => CA.out w' j (hkr.trans hq.kp (RowOn.refl _ _)) (hq.at hbr) hj1)
    have HBR := hid hbr
    have HNO := hid hno
    have HKR := hid hkr
    obtain ⟨c0, c1, c2, c3, y0, y1, y2, y3, hlr⟩ := blk4 hbr
    have hcle := HPT.out j
    obtain ⟨c, hc⟩ : ∃ c, gN l j = c := ⟨_, rfl⟩
    obtain ⟨k, hk⟩ : ∃ c, gN l (j + 1) = c := ⟨_, rfl⟩
    rw [hc] at CXJ hcle
    rw [hk] at CAJ
    have HC := hid hc
    have HK := hid hk
    clear hbr hno hkr hc hk
    have g1 : ((c : Int) == 58) = decide (c = 58) := by by_cases h : c = 58 <;> simp [h]; omega
    have g2 : ((k : Int) == 93) = decide (k = 93) := by by_cases h : k = 93 <;> simp [h]; omega
    by_cases hend : c = 58 ∧ k = 93
    · obtain ⟨rfl, rfl⟩ := hend
      have hlt : j < l.length := gN_lt (by have := HC.out; omega)
      have HF := hid (show R = if classOf ((l.drop p).take (j - p)) = [] then .er 4 0 else .ok (classOf ((l.drop p).take (j - p))) (j + 2) by
        rw [← HR.out]
        unfold clsR
        rw [clsAt_skip (j := j) _ _ hpj hjl (by omega) HNO.out, clsAt_here (by omega) (by unfold clsEnd; rw [HC.out, HK.out]; simp)])
      obtain ⟨acc, hacc⟩ : ∃ x, (l.drop p).take (j - p) = x := ⟨_, rfl⟩
      rw [hacc] at HF ⊢
      clear hacc g1 g2
      have hw3 : IntKind.i64.wrap ((j : Int) + 2) = (j : Int) + 2 := IntWalk.i64_in _ (by omega)
      have b0 : ((mkB (nameB acc)).toList == ([97, 108, 112, 104, 97] : List UInt8)) = decide (acc = [97, 108, 112, 104, 97]) := nameB_is' acc [97, 108, 112, 104, 97] _ rfl (by decide)
      have b1 : ((mkB (nameB acc)).toList == ([100, 105, 103, 105, 116] : List UInt8)) = decide (acc = [100, 105, 103, 105, 116]) := nameB_is' acc [100, 105, 103, 105, 116] _ rfl (by decide)
      have b2 : ((mkB (nameB acc)).toList == ([97, 108, 110, 117, 109] : List UInt8)) = decide (acc = [97, 108, 110, 117, 109]) := nameB_is' acc [97, 108, 110, 117, 109] _ rfl (by decide)
      have b3 : ((mkB (nameB acc)).toList == ([117, 112, 112, 101, 114] : List UInt8)) = decide (acc = [117, 112, 112, 101, 114]) := nameB_is' acc [117, 112, 112, 101, 114] _ rfl (by decide)
      have b4 : ((mkB (nameB acc)).toList == ([108, 111, 119, 101, 114] : List UInt8)) = decide (acc = [108, 111, 119, 101, 114]) := nameB_is' acc [108, 111, 119, 101, 114] _ rfl (by decide)
      have b5 : ((mkB (nameB acc)).toList == ([115, 112, 97, 99, 101] : List UInt8)) = decide (acc = [115, 112, 97, 99, 101]) := nameB_is' acc [115, 112, 97, 99, 101] _ rfl (by decide)
      have b6 : ((mkB (nameB acc)).toList == ([98, 108, 97, 110, 107] : List UInt8)) = decide (acc = [98, 108, 97, 110, 107]) := nameB_is' acc [98, 108, 97, 110, 107] _ rfl (by decide)
      have b7 : ((mkB (nameB acc)).toList == ([112, 117, 110, 99, 116] : List UInt8)) = decide (acc = [112, 117, 110, 99, 116]) := nameB_is' acc [112, 117, 110, 99, 116] _ rfl (by decide)
      have b8 : ((mkB (nameB acc)).toList == ([120, 100, 105, 103, 105, 116] : List UInt8)) = decide (acc = [120, 100, 105, 103, 105, 116]) := nameB_is' acc [120, 100, 105, 103, 105, 116] _ rfl (by decide)
      by_cases h0 : acc = [97, 108, 112, 104, 97]
      · rw [decide_eq_true h0] at b0
        have HO := hid (show R = .ok [65, 90, 97, 122] (j + 2) by rw [HF.out, h0]; rfl)
        clear h0 b1 b2 b3 b4 b5 b6 b7 b8
        go_wp2_with fail
        refine (CXJ.out _ (Qt.refl _)).mono ?_
        rintro e w1 ⟨rfl, hq1⟩
        go_wp2_with fail
        refine (CAJ.out _ hq1).mono ?_
        rintro e w2 ⟨rfl, hq2⟩
        have hq := hq1.trans hq2
        clear hq1 hq2
        have hb2 := hq.at HBR.out
        obtain ⟨d0, d1, d2, d3, z0, z1, z2, z3, hl2⟩ := blk4 hb2
        have HN2 := hid (blk4_set (o := 1) (.int .i64 ((j + 2 : Nat) : Int)) hb2)
        rw [show ((j + 2 : Nat) : Int) = (j : Int) + 2 by omega] at HN2
        clear hb2
        go_wp2_with fail
        go_ret2
        refine ⟨Or.inl ⟨[65, 90, 97, 122], j + 2, _, HO.out, rfl, (HKR.out.trans hq.kp (RowOn.refl _ _)).size, ?_, ?_⟩, (((HKR.out.trans hq.kp (RowOn.refl _ _)).set 1 _).alloc _)⟩
        · rw [← show (w2.setCell ⟨g, 1, none⟩ (.int .i64 ((j : Int) + 2))).heap.size = w2.heap.size by simp]; exact heap_alloc_new _ _
        · rw [show ((j + 2 : Nat) : Int) = (j : Int) + 2 by omega]; exact ((ext_alloc _ _).block g (by simp; exact hl2)).trans HN2.out
      rw [decide_eq_false h0] at b0
      by_cases h1 : acc = [100, 105, 103, 105, 116]
      · rw [decide_eq_true h1] at b1
        have HO := hid (show R = .ok [48, 57] (j + 2) by rw [HF.out, h1]; rfl)
        clear h1 b2 b3 b4 b5 b6 b7 b8
        go_wp2_with fail
        refine (CXJ.out _ (Qt.refl _)).mono ?_
        rintro e w1 ⟨rfl, hq1⟩
        go_wp2_with fail
        refine (CAJ.out _ hq1).mono ?_
        rintro e w2 ⟨rfl, hq2⟩
        have hq := hq1.trans hq2
        clear hq1 hq2
        have hb2 := hq.at HBR.out
        obtain ⟨d0, d1, d2, d3, z0, z1, z2, z3, hl2⟩ := blk4 hb2
        have HN2 := hid (blk4_set (o := 1) (.int .i64 ((j + 2 : Nat) : Int)) hb2)
        rw [show ((j + 2 : Nat) : Int) = (j : Int) + 2 by omega] at HN2
        clear hb2
        go_wp2_with fail
        go_ret2
        refine ⟨Or.inl ⟨[48, 57], j + 2, _, HO.out, rfl, (HKR.out.trans hq.kp (RowOn.refl _ _)).size, ?_, ?_⟩, (((HKR.out.trans hq.kp (RowOn.refl _ _)).set 1 _).alloc _)⟩
        · rw [← show (w2.setCell ⟨g, 1, none⟩ (.int .i64 ((j : Int) + 2))).heap.size = w2.heap.size by simp]; exact heap_alloc_new _ _
        · rw [show ((j + 2 : Nat) : Int) = (j : Int) + 2 by omega]; exact ((ext_alloc _ _).block g (by simp; exact hl2)).trans HN2.out
      rw [decide_eq_false h1] at b1
      by_cases h2 : acc = [97, 108, 110, 117, 109]
      · rw [decide_eq_true h2] at b2
        have HO := hid (show R = .ok [48, 57, 65, 90, 97, 122] (j + 2) by rw [HF.out, h2]; rfl)
        clear h2 b3 b4 b5 b6 b7 b8
        go_wp2_with fail
        refine (CXJ.out _ (Qt.refl _)).mono ?_
        rintro e w1 ⟨rfl, hq1⟩
        go_wp2_with fail
        refine (CAJ.out _ hq1).mono ?_
        rintro e w2 ⟨rfl, hq2⟩
        have hq := hq1.trans hq2
        clear hq1 hq2
        have hb2 := hq.at HBR.out
        obtain ⟨d0, d1, d2, d3, z0, z1, z2, z3, hl2⟩ := blk4 hb2
        have HN2 := hid (blk4_set (o := 1) (.int .i64 ((j + 2 : Nat) : Int)) hb2)
        rw [show ((j + 2 : Nat) : Int) = (j : Int) + 2 by omega] at HN2
        clear hb2
        go_wp2_with fail
        go_ret2
        refine ⟨Or.inl ⟨[48, 57, 65, 90, 97, 122], j + 2, _, HO.out, rfl, (HKR.out.trans hq.kp (RowOn.refl _ _)).size, ?_, ?_⟩, (((HKR.out.trans hq.kp (RowOn.refl _ _)).set 1 _).alloc _)⟩
        · rw [← show (w2.setCell ⟨g, 1, none⟩ (.int .i64 ((j : Int) + 2))).heap.size = w2.heap.size by simp]; exact heap_alloc_new _ _
        · rw [show ((j + 2 : Nat) : Int) = (j : Int) + 2 by omega]; exact ((ext_alloc _ _).block g (by simp; exact hl2)).trans HN2.out
      rw [decide_eq_false h2] at b2
      by_cases h3 : acc = [117, 112, 112, 101, 114]
      · rw [decide_eq_true h3] at b3
        have HO := hid (show R = .ok [65, 90] (j + 2) by rw [HF.out, h3]; rfl)
        clear h3 b4 b5 b6 b7 b8
        go_wp2_with fail
        refine (CXJ.out _ (Qt.refl _)).mono ?_
        rintro e w1 ⟨rfl, hq1⟩
        go_wp2_with fail
        refine (CAJ.out _ hq1).mono ?_
        rintro e w2 ⟨rfl, hq2⟩
        have hq := hq1.trans hq2
        clear hq1 hq2
        have hb2 := hq.at HBR.out
        obtain ⟨d0, d1, d2, d3, z0, z1, z2, z3, hl2⟩ := blk4 hb2
        have HN2 := hid (blk4_set (o := 1) (.int .i64 ((j + 2 : Nat) : Int)) hb2)
        rw [show ((j + 2 : Nat) : Int) = (j : Int) + 2 by omega] at HN2
        clear hb2
        go_wp2_with fail
        go_ret2
        refine ⟨Or.inl ⟨[65, 90], j + 2, _, HO.out, rfl, (HKR.out.trans hq.kp (RowOn.refl _ _)).size, ?_, ?_⟩, (((HKR.out.trans hq.kp (RowOn.refl _ _)).set 1 _).alloc _)⟩
        · rw [← show (w2.setCell ⟨g, 1, none⟩ (.int .i64 ((j : Int) + 2))).heap.size = w2.heap.size by simp]; exact heap_alloc_new _ _
        · rw [show ((j + 2 : Nat) : Int) = (j : Int) + 2 by omega]; exact ((ext_alloc _ _).block g (by simp; exact hl2)).trans HN2.out
      rw [decide_eq_false h3] at b3
      by_cases h4 : acc = [108, 111, 119, 101, 114]
      · rw [decide_eq_true h4] at b4
        have HO := hid (show R = .ok [97, 122] (j + 2) by rw [HF.out, h4]; rfl)
        clear h4 b5 b6 b7 b8
        go_wp2_with fail
        refine (CXJ.out _ (Qt.refl _)).mono ?_
        rintro e w1 ⟨rfl, hq1⟩
        go_wp2_with fail
        refine (CAJ.out _ hq1).mono ?_
        rintro e w2 ⟨rfl, hq2⟩
        have hq := hq1.trans hq2
        clear hq1 hq2
        have hb2 := hq.at HBR.out
        obtain ⟨d0, d1, d2, d3, z0, z1, z2, z3, hl2⟩ := blk4 hb2
        have HN2 := hid (blk4_set (o := 1) (.int .i64 ((j + 2 : Nat) : Int)) hb2)
        rw [show ((j + 2 : Nat) : Int) = (j : Int) + 2 by omega] at HN2
        clear hb2
        go_wp2_with fail
        go_ret2
        refine ⟨Or.inl ⟨[97, 122], j + 2, _, HO.out, rfl, (HKR.out.trans hq.kp (RowOn.refl _ _)).size, ?_, ?_⟩, (((HKR.out.trans hq.kp (RowOn.refl _ _)).set 1 _).alloc _)⟩
        · rw [← show (w2.setCell ⟨g, 1, none⟩ (.int .i64 ((j : Int) + 2))).heap.size = w2.heap.size by simp]; exact heap_alloc_new _ _
        · rw [show ((j + 2 : Nat) : Int) = (j : Int) + 2 by omega]; exact ((ext_alloc _ _).block g (by simp; exact hl2)).trans HN2.out
      rw [decide_eq_false h4] at b4
      by_cases h5 : acc = [115, 112, 97, 99, 101]
      · rw [decide_eq_true h5] at b5
        have HO := hid (show R = .ok [9, 13, 32, 32] (j + 2) by rw [HF.out, h5]; rfl)
        clear h5 b6 b7 b8
        go_wp2_with fail
        refine (CXJ.out _ (Qt.refl _)).mono ?_
        rintro e w1 ⟨rfl, hq1⟩
        go_wp2_with fail
        refine (CAJ.out _ hq1).mono ?_
        rintro e w2 ⟨rfl, hq2⟩
        have hq := hq1.trans hq2
        clear hq1 hq2
        have hb2 := hq.at HBR.out
        obtain ⟨d0, d1, d2, d3, z0, z1, z2, z3, hl2⟩ := blk4 hb2
        have HN2 := hid (blk4_set (o := 1) (.int .i64 ((j + 2 : Nat) : Int)) hb2)
        rw [show ((j + 2 : Nat) : Int) = (j : Int) + 2 by omega] at HN2
        clear hb2
        go_wp2_with fail
        go_ret2
        refine ⟨Or.inl ⟨[9, 13, 32, 32], j + 2, _, HO.out, rfl, (HKR.out.trans hq.kp (RowOn.refl _ _)).size, ?_, ?_⟩, (((HKR.out.trans hq.kp (RowOn.refl _ _)).set 1 _).alloc _)⟩
        · rw [← show (w2.setCell ⟨g, 1, none⟩ (.int .i64 ((j : Int) + 2))).heap.size = w2.heap.size by simp]; exact heap_alloc_new _ _
        · rw [show ((j + 2 : Nat) : Int) = (j : Int) + 2 by omega]; exact ((ext_alloc _ _).block g (by simp; exact hl2)).trans HN2.out
      rw [decide_eq_false h5] at b5
      by_cases h6 : acc = [98, 108, 97, 110, 107]
      · rw [decide_eq_true h6] at b6
        have HO := hid (show R = .ok [9, 9, 32, 32] (j + 2) by rw [HF.out, h6]; rfl)
        clear h6 b7 b8
        go_wp2_with fail
        refine (CXJ.out _ (Qt.refl _)).mono ?_
        rintro e w1 ⟨rfl, hq1⟩
        go_wp2_with fail
        refine (CAJ.out _ hq1).mono ?_
        rintro e w2 ⟨rfl, hq2⟩
        have hq := hq1.trans hq2
        clear hq1 hq2
        have hb2 := hq.at HBR.out
        obtain ⟨d0, d1, d2, d3, z0, z1, z2, z3, hl2⟩ := blk4 hb2
        have HN2 := hid (blk4_set (o := 1) (.int .i64 ((j + 2 : Nat) : Int)) hb2)
        rw [show ((j + 2 : Nat) : Int) = (j : Int) + 2 by omega] at HN2
        clear hb2
        go_wp2_with fail
        go_ret2
        refine ⟨Or.inl ⟨[9, 9, 32, 32], j + 2, _, HO.out, rfl, (HKR.out.trans hq.kp (RowOn.refl _ _)).size, ?_, ?_⟩, (((HKR.out.trans hq.kp (RowOn.refl _ _)).set 1 _).alloc _)⟩
        · rw [← show (w2.setCell ⟨g, 1, none⟩ (.int .i64 ((j : Int) + 2))).heap.size = w2.heap.size by simp]; exact heap_alloc_new _ _
        · rw [show ((j + 2 : Nat) : Int) = (j : Int) + 2 by omega]; exact ((ext_alloc _ _).block g (by simp; exact hl2)).trans HN2.out
      rw [decide_eq_false h6] at b6
      by_cases h7 : acc = [112, 117, 110, 99, 116]
      · rw [decide_eq_true h7] at b7
        have HO := hid (show R = .ok [33, 47, 58, 64, 91, 96, 123, 126] (j + 2) by rw [HF.out, h7]; rfl)
        clear h7 b8
        go_wp2_with fail
        refine (CXJ.out _ (Qt.refl _)).mono ?_
        rintro e w1 ⟨rfl, hq1⟩
        go_wp2_with fail
        refine (CAJ.out _ hq1).mono ?_
        rintro e w2 ⟨rfl, hq2⟩
        have hq := hq1.trans hq2
        clear hq1 hq2
        have hb2 := hq.at HBR.out
        obtain ⟨d0, d1, d2, d3, z0, z1, z2, z3, hl2⟩ := blk4 hb2
        have HN2 := hid (blk4_set (o := 1) (.int .i64 ((j + 2 : Nat) : Int)) hb2)
        rw [show ((j + 2 : Nat) : Int) = (j : Int) + 2 by omega] at HN2
        clear hb2
        go_wp2_with fail
        go_ret2
        refine ⟨Or.inl ⟨[33, 47, 58, 64, 91, 96, 123, 126], j + 2, _, HO.out, rfl, (HKR.out.trans hq.kp (RowOn.refl _ _)).size, ?_, ?_⟩, (((HKR.out.trans hq.kp (RowOn.refl _ _)).set 1 _).alloc _)⟩
        · rw [← show (w2.setCell ⟨g, 1, none⟩ (.int .i64 ((j : Int) + 2))).heap.size = w2.heap.size by simp]; exact heap_alloc_new _ _
        · rw [show ((j + 2 : Nat) : Int) = (j : Int) + 2 by omega]; exact ((ext_alloc _ _).block g (by simp; exact hl2)).trans HN2.out
      rw [decide_eq_false h7] at b7
      by_cases h8 : acc = [120, 100, 105, 103, 105, 116]
      · rw [decide_eq_true h8] at b8
        have HO := hid (show R = .ok [48, 57, 65, 70, 97, 102] (j + 2) by rw [HF.out, h8]; rfl)
        clear h8
        go_wp2_with fail
        refine (CXJ.out _ (Qt.refl _)).mono ?_
        rintro e w1 ⟨rfl, hq1⟩
        go_wp2_with fail
        refine (CAJ.out _ hq1).mono ?_
        rintro e w2 ⟨rfl, hq2⟩
        have hq := hq1.trans hq2
        clear hq1 hq2
        have hb2 := hq.at HBR.out
        obtain ⟨d0, d1, d2, d3, z0, z1, z2, z3, hl2⟩ := blk4 hb2
        have HN2 := hid (blk4_set (o := 1) (.int .i64 ((j + 2 : Nat) : Int)) hb2)
        rw [show ((j + 2 : Nat) : Int) = (j : Int) + 2 by omega] at HN2
        clear hb2
        go_wp2_with fail
        go_ret2
        refine ⟨Or.inl ⟨[48, 57, 65, 70, 97, 102], j + 2, _, HO.out, rfl, (HKR.out.trans hq.kp (RowOn.refl _ _)).size, ?_, ?_⟩, (((HKR.out.trans hq.kp (RowOn.refl _ _)).set 1 _).alloc _)⟩
        · rw [← show (w2.setCell ⟨g, 1, none⟩ (.int .i64 ((j : Int) + 2))).heap.size = w2.heap.size by simp]; exact heap_alloc_new _ _
        · rw [show ((j + 2 : Nat) : Int) = (j : Int) + 2 by omega]; exact ((ext_alloc _ _).block g (by simp; exact hl2)).trans HN2.out
      rw [decide_eq_false h8] at b8
      have HO := hid (show R = .er 4 0 by rw [HF.out, show classOf acc = [] by unfold classOf; rw [if_neg h0, if_neg h1, if_neg h2, if_neg h3, if_neg h4, if_neg h5, if_neg h6, if_neg h7, if_neg h8]]; rfl)
      clear h0 h1 h2 h3 h4 h5 h6 h7 h8
      go_wp2_with fail
      refine (CXJ.out _ (Qt.refl _)).mono ?_
      rintro e w1 ⟨rfl, hq1⟩
      go_wp2_with fail
      refine (CAJ.out _ hq1).mono ?_
      rintro e w2 ⟨rfl, hq2⟩
      have hq := hq1.trans hq2
      clear hq1 hq2
      have hb2 := hq.at HBR.out
      obtain ⟨d0, d1, d2, d3, z0, z1, z2, z3, hl2⟩ := blk4 hb2
      have HN2 := hid (blk4_set (o := 1) (.int .i64 ((j + 2 : Nat) : Int)) hb2)
      rw [show ((j + 2 : Nat) : Int) = (j : Int) + 2 by omega] at HN2
      clear hb2
      go_wp2_with fail
      go_ret2
      refine ⟨Or.inr ⟨4, 0, _, j + 2, HO.out, rfl, Or.inr rfl, fun h => absurd h (by decide), ?_⟩, ((HKR.out.trans hq.kp (RowOn.refl _ _)).set 1 _)⟩
      rw [show ((j + 2 : Nat) : Int) = (j : Int) + 2 by omega]; exact HN2.out
    · by_cases h58 : c = 58
      · have h93 : ¬ k = 93 := fun h => hend ⟨h58, h⟩
        have hlt : j < l.length := gN_lt (by have := HC.out; omega)
        subst h58
        clear hend
        go_wp2_with fail
        refine (CXJ.out _ (Qt.refl _)).mono ?_
        rintro e w1 ⟨rfl, hq1⟩
        go_wp2_with fail
        refine (CAJ.out _ hq1).mono ?_
        rintro e w2 ⟨rfl, hq2⟩
        have hq := hq1.trans hq2
        clear hq1 hq2
        have hcc : (58 : Nat) < 128 := by decide
        have hb2 := hq.at HBR.out
        obtain ⟨d0, d1, d2, d3, z0, z1, z2, z3, hl2⟩ := blk4 hb2
        have hneq : ((j : Int) == (l.length : Int)) = false := by rw [beq_eq_false_iff_ne]; omega
        clear hb2
        go_wp2_with fail
        go_quiet (fail)
        go_wp2_with fail
        refine (CXJ.out _ (hq.trans (Qt.one _ _))).mono ?_
        rintro e w3 ⟨rfl, hq3⟩
        have hq3' := (hq.trans (Qt.one _ _)).trans hq3
        have hb3 := hq3'.at HBR.out
        obtain ⟨f0, f1, f2, f3, t0, t1, t2, t3, hl3⟩ := blk4 hb3
        have HN3 := hid (blk4_set (o := 1) (.int .i64 ((j + 1 : Nat) : Int)) hb3)
        rw [show ((j + 1 : Nat) : Int) = (j : Int) + 1 by omega] at HN3
        clear hb3
        have hi32 : IntKind.i32.wrap (58 : Int) = 58 := IntWalk.i32_in _ (by omega)
        have hE : Utf8.encode (58 : Int) = mkB (encU 58) := encU_mk _
        have hw3 : IntKind.i64.wrap ((j : Int) + 1) = (j : Int) + 1 := IntWalk.i64_in _ (by omega)
        have hX := nameB_len ((l.drop p).take (j - p))
        rw [List.length_take, List.length_drop] at hX
        have hX2 := encU_len 58
        have HNX := hid (nameB_app ((l.drop p).take (j - p)) 58)
        obtain ⟨X, hXX⟩ : ∃ x, nameB ((l.drop p).take (j - p)) = x := ⟨_, rfl⟩
        have HXX := hid hXX
        rw [hXX] at hX HNX ⊢
        have s1 := mkB_size X
        have s2 := mkB_size (encU 58)
        have s3 : ¬ 9223372036854775807 < X.length + (encU 58).length := by omega
        have HX := hid (And.intro hX hX2)
        clear hX hX2 hXX
        go_wp2
        go_roundw
        case rel =>
          refine ⟨j + 1, by omega, by omega, ?_, ?_, HN3.out, ((HKR.out.trans hq3'.kp (RowOn.refl _ _)).set 1 _)⟩
          · rw [mkB_append, ← HNX.out, take_step hpj hlt, HC.out]
          · intro m h1 h2
            by_cases hm : m = j
            · subst hm
              unfold clsEnd
              rw [HC.out, HK.out]
              simp [h93]
            · exact HNO.out m h1 (by omega)
        case measure =>
          have h1 := HX.out
          rw [HXX.out]
          show 4000 - (mkB X ++ mkB (encU 58)).size < 4000 - (mkB X).size
          rw [mkB_append, mkB_size, mkB_size, List.length_append]
          omega
      · clear hend
        have hb58 : ((c : Int) == 58) = false := by rw [g1]; simp [h58]
        clear g1 g2
        by_cases hje : j = l.length
        · subst hje
          have HF := hid (show R = .er 4 0 by
            rw [← HR.out]
            unfold clsR
            rw [clsAt_skip (j := l.length) _ _ hpj (Nat.le_refl _) (by omega) HNO.out, clsAt_over (by unfold clsEnd; rw [HC.out]; simp [h58])])
          go_wp2_with fail
          refine (CXJ.out _ (Qt.refl _)).mono ?_
          rintro e w2 ⟨rfl, hq⟩
          have hb2 := hq.at HBR.out
          obtain ⟨d0, d1, d2, d3, z0, z1, z2, z3, hl2⟩ := blk4 hb2
          have heq : ((l.length : Int) == (l.length : Int)) = true := by simp
          go_wp2_with fail
          go_quiet (fail)
          go_wp2
          go_ret2
          exact ⟨Or.inr ⟨4, 0, _, _, HF.out, rfl, Or.inr rfl, fun h => absurd h (by decide), hb2⟩, (HKR.out.trans hq.kp (RowOn.refl _ _)).drewN _⟩
        · have hlt : j < l.length := by omega
          go_wp2_with fail
          refine (CXJ.out _ (Qt.refl _)).mono ?_
          rintro e w2 ⟨rfl, hq⟩
          have hb2 := hq.at HBR.out
          obtain ⟨d0, d1, d2, d3, z0, z1, z2, z3, hl2⟩ := blk4 hb2
          have hneq : ((j : Int) == (l.length : Int)) = false := by rw [beq_eq_false_iff_ne]; omega
          clear hb2
          go_wp2_with fail
          go_quiet (fail)
          go_wp2_with fail
          refine (CXJ.out _ (hq.trans (Qt.one _ _))).mono ?_
          rintro e w3 ⟨rfl, hq3⟩
          have hq3' := (hq.trans (Qt.one _ _)).trans hq3
          have hb3 := hq3'.at HBR.out
          obtain ⟨f0, f1, f2, f3, t0, t1, t2, t3, hl3⟩ := blk4 hb3
          have HN3 := hid (blk4_set (o := 1) (.int .i64 ((j + 1 : Nat) : Int)) hb3)
          rw [show ((j + 1 : Nat) : Int) = (j : Int) + 1 by omega] at HN3
          clear hb3
          have hi32 : IntKind.i32.wrap (c : Int) = c := IntWalk.i32_in _ (by omega)
          have hE : Utf8.encode (c : Int) = mkB (encU c) := encU_mk _
          have hw3 : IntKind.i64.wrap ((j : Int) + 1) = (j : Int) + 1 := IntWalk.i64_in _ (by omega)
          have hX := nameB_len ((l.drop p).take (j - p))
          rw [List.length_take, List.length_drop] at hX
          have hX2 := encU_len c
          have HNX := hid (nameB_app ((l.drop p).take (j - p)) c)
          obtain ⟨X, hXX⟩ : ∃ x, nameB ((l.drop p).take (j - p)) = x := ⟨_, rfl⟩
          have HXX := hid hXX
          rw [hXX] at hX HNX ⊢
          have s1 := mkB_size X
          have s2 := mkB_size (encU c)
          have s3 : ¬ 9223372036854775807 < X.length + (encU c).length := by omega
          have HX := hid (And.intro hX hX2)
          clear hX hX2 hXX
          go_wp2
          go_roundw
          case rel =>
            refine ⟨j + 1, by omega, by omega, ?_, ?_, HN3.out, ((HKR.out.trans hq3'.kp (RowOn.refl _ _)).set 1 _)⟩
            · rw [mkB_append, ← HNX.out, take_step hpj hlt, HC.out]
            · intro m h1 h2
              by_cases hm : m = j
              · subst hm
                unfold clsEnd
                rw [HC.out, HK.out]
                simp [h58]
              · exact HNO.out m h1 (by omega)
          case measure =>
            have h1 := HX.out
            rw [HXX.out]
            show 4000 - (mkB X ++ mkB (encU c)).size < 4000 - (mkB X).size
            rw [mkB_append, mkB_size, mkB_size, List.length_append]
            omega
end Go.Proofs.YtkmkencodcfloaaGreatDoor
