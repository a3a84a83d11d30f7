/-
  What is proved here: the drawing of a number (DecOf, dec): the number that is returned has a bounded size; nothing but the cursor's own block changes. No condition.
-/
import Derived.Test.YtommldonooicjaaDoorDrw
import Derived.Test.YtommldonooicjaaDoorForm
import Derived.Deep.AppendLies
import Derived.Deep.CutBlock
namespace Go.Proofs.YtommldonooicjaaDoor
open Go.RowKit
set_option linter.unusedVariables false
set_option linter.unusedSimpArgs false

def strDig (m : Nat) : Value → Bool
  | .string s => decide (s.size ≤ m) && s.data.toList.all isDig
  | _ => false
theorem lit_dig {w w' : World} {cs : Array Value} {e : TypeId} {r m p : Nat} (hg : (w.alloc (.cells cs e)).grownBy w' (some p)) (hp : p < w.heap.size) (ha : cs.toList.all (strDig m) = true) (hr : r < cs.size) : ∃ t : ByteArray, t.size ≤ m ∧ digits t.data.toList ∧ w'.cell? ⟨w.heap.size, r, none⟩ = some (.string t) := by
  have h1 : (w.alloc (.cells cs e)).cell? ⟨w.heap.size, r, none⟩ = cs[r]? := cell_of_row _ _ r cs e _ (heap_alloc_new w _)
  have h2 : cs[r]? = some cs[r] := Array.getElem?_eq_getElem hr
  have h3 := List.all_eq_true.1 ha cs[r] (by simp)
  cases hv : cs[r] with
  | string s =>
    rw [hv] at h2 h3
    simp only [strDig, Bool.and_eq_true, decide_eq_true_eq, List.all_eq_true] at h3
    exact ⟨s, h3.1, fun c hc => isDig_iff.1 (h3.2 c hc), hg.cell (h1.trans h2) (fun e => absurd (Option.some.inj e) (Nat.ne_of_gt hp))⟩
  | _ => rw [hv] at h3; cases h3
theorem digits_app {a b : ByteArray} (ha : digits a.data.toList) (hb : digits b.data.toList) : digits (a ++ b).data.toList := by
  rw [ByteArray.data_append, Array.toList_append]; exact digits_append ha hb
theorem digits_ext {a : ByteArray} (ha : digits a.data.toList) (i j : Nat) : digits (a.extract i j).data.toList := by
  rw [extL]; exact fun c hc => ha c (List.mem_of_mem_drop (List.mem_of_mem_take hc))
theorem grown_new {a b : World} {r : Option Nat} (h : a.grownBy b r) {q o : Nat} (hq : a.heap.size ≤ q) (v : Value) : a.grownBy (b.setCell ⟨q, o, none⟩ v) r :=
  ⟨h.os, h.tape, h.output, by have := h.size; simpa [World.setCell] using this, fun k hk hr => (heap_setCell_other b ⟨q, o, none⟩ k v (fun e => by have e' : k = q := e; omega)).trans (h.block k hk hr)⟩
theorem Cur.far {B : Nat} {w : World} {p k : Nat} (h : Cur B w p k) {q o : Nat} (hq : p < q) (v : Value) : Cur B (w.setCell ⟨q, o, none⟩ v) p k :=
  have h1 := h.lt
  h.keep (heap_setCell_other w ⟨q, o, none⟩ p v (fun e => by have e' : p = q := e; omega)) ((Below.refl B w).setCell (p := ⟨q, o, none⟩) (by show B ≤ q; omega) v)
/-- a block of three cells that hold a number -/
def DBox (w : World) (g : Nat) (neg : Bool) (dig : ByteArray) (exp : Int) : Prop :=
  (w.cell? ⟨g, 0, none⟩ = some (.bool neg) ∧ w.cell? ⟨g, 1, none⟩ = some (.string dig) ∧ w.cell? ⟨g, 2, none⟩ = some (.int .i64 exp)) ∧ (w.frozen? ⟨g, 0, none⟩ = false ∧ w.frozen? ⟨g, 1, none⟩ = false ∧ w.frozen? ⟨g, 2, none⟩ = false) ∧ g < w.heap.size
theorem dbox_new (w : World) (neg : Bool) (dig : ByteArray) (exp : Int) : DBox (w.alloc (.cells #[.bool neg, .string dig, .int .i64 exp] 29)) w.heap.size neg dig exp := by
  have h := heap_alloc_new w (.cells #[.bool neg, .string dig, .int .i64 exp] 29)
  exact ⟨⟨cell_of_row _ _ 0 _ _ _ h, cell_of_row _ _ 1 _ _ _ h, cell_of_row _ _ 2 _ _ _ h⟩, ⟨frozen_of_row _ _ 0 _ _ h, frozen_of_row _ _ 1 _ _ h, frozen_of_row _ _ 2 _ _ h⟩, (Array.getElem?_eq_some_iff.1 h).1⟩
theorem DBox.grown {w w' : World} {g p : Nat} {neg : Bool} {dig : ByteArray} {exp : Int} (h : DBox w g neg dig exp) (hg : w.grownBy w' (some p)) (hp : p ≠ g) : DBox w' g neg dig exp := by
  obtain ⟨⟨a0, a1, a2⟩, ⟨b0, b1, b2⟩, hl⟩ := h
  have hne : ∀ o, some (⟨g, o, none⟩ : Addr).block ≠ some p := fun o e => hp (Option.some.inj e).symm
  exact ⟨⟨hg.cell a0 (hne 0), hg.cell a1 (hne 1), hg.cell a2 (hne 2)⟩, ⟨(hg.frozen_far ⟨g, 0, none⟩ hl (hne 0)).trans b0, (hg.frozen_far ⟨g, 1, none⟩ hl (hne 1)).trans b1, (hg.frozen_far ⟨g, 2, none⟩ hl (hne 2)).trans b2⟩, Nat.lt_of_lt_of_le hl hg.size⟩
theorem DBox.later {w w' : World} {g : Nat} {neg : Bool} {dig : ByteArray} {exp : Int} (h : DBox w g neg dig exp) (hb : Below w.heap.size w w') : DBox w' g neg dig exp :=
  h.grown (p := g + 1) (below_grown hb) (by omega)
/-- what is known of a drawn number -/
def DecE (e : Ending) : Prop := ∃ (neg : Bool) (dig : ByteArray) (exp : Int), e = .returned (.agg #[.bool neg, .string dig, .int .i64 exp]) ∧ dig.size ≤ 100 ∧ -9223372036854775808 ≤ exp ∧ exp ≤ 9223372036854775807
theorem formD_bound {neg : Bool} {D : List UInt8} {exp : Int} (h : D.length ≤ 60) (he : -1000 ≤ exp ∧ exp ≤ 1000) : (formD neg D exp).1.dig.size ≤ 90 ∧ -2000 ≤ (formD neg D exp).1.exp ∧ (formD neg D exp).1.exp ≤ 2000 := by
  have h1 := trimL_len D
  have h2 := cutL_size (trimL D)
  have h3 := stripL_len (cutL (trimL D))
  unfold formD
  split
  · exact ⟨Nat.zero_le _, by show (-2000 : Int) ≤ 0; decide, by show (0 : Int) ≤ 2000; decide⟩
  · simp only
    split
    · exact ⟨Nat.zero_le _, by show (-2000 : Int) ≤ 0; decide, by show (0 : Int) ≤ 2000; decide⟩
    · split
      · exact ⟨Nat.zero_le _, by show (-2000 : Int) ≤ 0; decide, by show (0 : Int) ≤ 2000; decide⟩
      · refine ⟨by show (mkB _).size ≤ 90; rw [mkB_size]; omega, by show (-2000 : Int) ≤ _; dsimp only; omega, by show _ ≤ (2000 : Int); dsimp only; omega⟩
theorem decDigits_digits (v : Nat) : digits (Lib.decDigits v) := by
  intro c hc
  rw [Lib.decDigits_eq] at hc
  obtain ⟨t, _, rfl⟩ := List.mem_map.1 hc
  unfold Lib.dg
  have := Nat.mod_lt (v / 10 ^ (Lib.nDigits v - 1 - t)) (show 0 < 10 by decide)
  rw [ofNat_toNat (by omega)]
  omega
set_option maxHeartbeats 4000000 in
theorem curDecOf (n : Int) (w : World) (hn : -1000000000 ≤ n ∧ n ≤ 1000000000) :
    Calls Tryd.prog 63 #[.int .i64 n] w fun e w' => DecE e ∧ Below w.heap.size w w' := by
  have CN := hid (fun (w : World) => specNumText n w (by omega))
  have hNS := numB_size (n := n) (by omega)
  obtain ⟨NB, hNB⟩ : ∃ b, numB n = b := ⟨_, rfl⟩
  have hNL : NB.data.toList = Lib.itoa n := by rw [← hNB]; rfl
  rw [hNB] at CN hNS
  clear hNB
  have hD0 := dbox_new w false ⟨#[]⟩ 0
  have e0 := ext_alloc w (.cells #[.bool false, .string ⟨#[]⟩, .int .i64 0] 29)
  have CF := hid (fun (neg : Bool) (s : ByteArray) (w : World) (hd : digits s.data.toList) (hs : s.size ≤ 30) => specForm neg s 0 w hd (by omega) (by decide))
  have HFB := hid (fun (neg : Bool) (s : ByteArray) (hs : s.size ≤ 30) => formD_bound (neg := neg) (D := s.data.toList) (exp := 0) (by rw [← Lib.size_eq]; omega) (by decide))
  by_cases hneg : n < 0
  · have hd : digits (NB.extract 1 NB.size).data.toList := by
      rw [extL, hNL]
      unfold Lib.itoa
      rw [if_pos hneg]
      intro c hc
      exact decDigits_digits _ c (List.mem_of_mem_take hc)
    have hs : (NB.extract 1 NB.size).size ≤ 30 := by rw [ByteArray.size_extract]; omega
    have h1 : 1 ≤ NB.size := by
      rw [Lib.size_eq, hNL]; unfold Lib.itoa; rw [if_pos hneg]; simp
    obtain ⟨T, hT⟩ : ∃ t, NB.extract 1 NB.size = t := ⟨_, rfl⟩
    have HT := hid hT
    rw [hT] at hd hs
    have CF2 := CF.out true T
    replace CF2 := hid (fun (w : World) => CF2 w hd hs)
    have HB2 := HFB.out true T hs
    obtain ⟨R, hR⟩ : ∃ r, formD true T.data.toList 0 = r := ⟨_, rfl⟩
    rw [hR] at CF2 HB2
    have h1' : (1 : Int) ≤ (NB.size : Int) := by omega
    obtain ⟨⟨rn, rg, re⟩, rc⟩ := R
    have CF3 : Hid (∀ w, Calls Tryd.prog 83 #[.bool true, .string T, .int .i64 0, .bool false] w fun e w' => e = .returned (.tuple #[.agg #[.bool rn, .string rg, .int .i64 re], .int .i64 rc]) ∧ Below w.heap.size w w') := CF2
    have HB3 : Hid (rg.size ≤ 90 ∧ -2000 ≤ re ∧ re ≤ 2000) := hid HB2
    clear hd hs hT hR hNL CF HFB HB2 CF2
    go_enter Tryd.func63, Tryd.ntmps63
    go_wp2_with fail
    refine (CN.out _).mono ?_
    rintro e w1 ⟨rfl, hb1⟩
    have D1 := hD0.later hb1
    have B1 := ext_trans e0 hb1
    clear hb1 hD0 e0
    go_wp2_with fail
    rw [HT.out]
    refine (CF3.out _).mono ?_
    rintro e w2 ⟨rfl, hb2⟩
    have B2 := ext_trans B1 hb2
    obtain ⟨⟨m0, m1, m2⟩, ⟨z0, z1, z2⟩, hl⟩ := D1.later hb2
    clear D1 hb2 B1
    go_wp2
    refine bodyPost_ret (v := .agg #[.bool rn, .string rg, .int .i64 re]) (by simp [results, Tryd.results63, go_sem, m0, m1, m2, z0, z1, z2, hl]) rfl ⟨⟨rn, rg, re, rfl, by have := HB3.out; omega, by have := HB3.out; omega, by have := HB3.out; omega⟩, ?_⟩
    repeat' (first | (with_reducible exact B2) | (with_reducible refine Below.setCell ?_ ?_ _) | (with_reducible refine Below.alloc ?_ ?_ _) | (simp; done) | (simp; omega) | omega)
  · have hneg2 : decide (n < 0) = false := decide_eq_false hneg
    have hd : digits NB.data.toList := by
      rw [hNL]
      unfold Lib.itoa
      rw [if_neg hneg]
      exact decDigits_digits _
    obtain ⟨T, hT⟩ : ∃ t, NB = t := ⟨_, rfl⟩
    have hs : T.size ≤ 30 := by rw [← hT]; omega
    subst hT
    have CF2 := CF.out false NB
    replace CF2 := hid (fun (w : World) => CF2 w hd hs)
    have HB2 := HFB.out false NB hs
    obtain ⟨R, hR⟩ : ∃ r, formD false NB.data.toList 0 = r := ⟨_, rfl⟩
    rw [hR] at CF2 HB2
    obtain ⟨⟨rn, rg, re⟩, rc⟩ := R
    have CF3 : Hid (∀ w, Calls Tryd.prog 83 #[.bool false, .string NB, .int .i64 0, .bool false] w fun e w' => e = .returned (.tuple #[.agg #[.bool rn, .string rg, .int .i64 re], .int .i64 rc]) ∧ Below w.heap.size w w') := CF2
    have HB3 : Hid (rg.size ≤ 90 ∧ -2000 ≤ re ∧ re ≤ 2000) := hid HB2
    clear hd hs hR hNL CF HFB HB2 CF2
    go_enter Tryd.func63, Tryd.ntmps63
    go_wp2_with fail
    refine (CN.out _).mono ?_
    rintro e w1 ⟨rfl, hb1⟩
    have D1 := hD0.later hb1
    have B1 := ext_trans e0 hb1
    clear hb1 hD0 e0
    go_wp2_with fail
    refine (CF3.out _).mono ?_
    rintro e w2 ⟨rfl, hb2⟩
    have B2 := ext_trans B1 hb2
    obtain ⟨⟨m0, m1, m2⟩, ⟨z0, z1, z2⟩, hl⟩ := D1.later hb2
    clear D1 hb2 B1
    go_wp2
    refine bodyPost_ret (v := .agg #[.bool rn, .string rg, .int .i64 re]) (by simp [results, Tryd.results63, go_sem, m0, m1, m2, z0, z1, z2, hl]) rfl ⟨⟨rn, rg, re, rfl, by have := HB3.out; omega, by have := HB3.out; omega, by have := HB3.out; omega⟩, ?_⟩
    repeat' (first | (with_reducible exact B2) | (with_reducible refine Below.setCell ?_ ?_ _) | (with_reducible refine Below.alloc ?_ ?_ _) | (simp; done) | (simp; omega) | omega)
set_option maxHeartbeats 8000000 in
set_option maxRecDepth 100000 in
theorem curDec {B p k : Nat} (w : World) (hc : Cur B w p k) (hk : k ≤ 800000000000) :
    Calls Tryd.prog 59 #[.pointer (some ⟨p, 0, none⟩)] w fun e w' => DecE e ∧ ∃ k', k' ≤ k + 40 ∧ Cur B w' p k' ∧ w.grownBy w' (some p) := by
  have hlt := hc.lt
  have hD0 := dbox_new w false ⟨#[]⟩ 0
  have hc0 := hc.alloc (.cells #[.bool false, .string ⟨#[]⟩, .int .i64 0] 29)
  have hg0 : w.grownBy (w.alloc (.cells #[.bool false, .string ⟨#[]⟩, .int .i64 0] 29)) (some p) := grown_alloc (grown_refl w _) _
  have hpD : p ≠ w.heap.size := by omega
  go_enter Tryd.func59, Tryd.ntmps59
  go_wp2_with fail
  refine (curSize 10 _ hc0 (by omega) (by omega) (by omega)).mono ?_
  rintro e w1 ⟨r, rfl, hr, k1, hk1, hc1, hg1⟩
  have hrn : r ≤ 10 := by omega
  have D1 := hD0.grown hg1 hpD
  have G1 := grown_trans hg0 hg1
  have h1r : (1 : Int) + (r : Int) = ((r + 1 : Nat) : Int) := by omega
  have h2r : IntKind.i64.wrap ((1 : Int) + (r : Int)) = ((r + 1 : Nat) : Int) := by rw [h1r]; exact IntWalk.i64_in _ (by omega)
  clear hr hc0 hg0 hg1 hD0 hc
  go_wp2
  go_loopw [3, 4] (fun out kk wr => ∃ (j : Nat) (o : ByteArray) (k2 : Nat), out = .string o ∧ kk = .int .i64 (j : Int) ∧ j ≤ r + 1 ∧ o.size ≤ 2 * (r + 1 - j) ∧ digits o.data.toList ∧ k2 ≤ k1 + (r + 1 - j) ∧ Cur B wr p k2 ∧ w.grownBy wr (some p) ∧ DBox wr w.heap.size false ⟨#[]⟩ 0) (fun _ kk _ => (intOf kk).toNat)
  case atStart => exact ⟨r + 1, ⟨#[]⟩, k1, rfl, by first | rfl | (congr 1; omega), Nat.le_refl _, Nat.zero_le _, fun c h => absurd h (by simp), by omega, hc1, G1, D1⟩
  case round =>
    obtain ⟨j, o, k2, rfl, rfl, hj, ho, hod, hk2, hc2, hg2, hD2⟩ := hrel
    by_cases hz : (0 : Int) < (j : Int)
    · go_wp2_with fail
      refine (curPick 10 _ (hc2.alloc _) (by omega) (by omega)).mono ?_
      rintro e w3 ⟨q, rfl, hq, k3, hk3, hc3, hg3⟩
      have hq1 : (q : Int) < 10 := by omega
      have hq0 : (0 : Int) ≤ (q : Int) := by omega
      have hlt2 := hc2.lt
      obtain ⟨t, ht, htd, htc⟩ := lit_dig (m := 2) (r := q) hg3 hlt2.2 (by decide) (by show q < 10; omega)
      have hsum : ¬ 9223372036854775807 < o.size + t.size := by omega
      have hD3 := (hD2.later (ext_alloc _ _)).grown hg3 hpD
      go_wp2
      go_roundw
      case rel => exact ⟨j - 1, o ++ t, k3, rfl, by first | go_num | (congr 1; omega), by omega, by rw [ByteArray.size_append]; omega, digits_app hod htd, by omega, hc3, grown_trans (grown_alloc hg2 _) hg3, hD3⟩
      case measure => simp [intOf]; omega
    · have hos : o.size ≤ 22 := by omega
      clear D1 G1 hc1 h1r h2r
      go_upto_if 24 with fail
      go_cut [3] from 8 (fun v wx => ∃ o' : ByteArray, v = .string o' ∧ o'.size ≤ 22 ∧ digits o'.data.toList ∧ wr = wx)
      case first =>
        by_cases h20 : (20 : Int) < (o.size : Int)
        · go_wp2
          go_meet
          case rel => exact ⟨_, rfl, by rw [ByteArray.size_extract]; omega, digits_ext hod _ _, rfl⟩
        · go_wp2
          go_meet
          case rel => exact ⟨_, rfl, hos, hod, rfl⟩
      case rest =>
      obtain ⟨o', rfl, hos', hod', rfl⟩ := hcut
      clear hod hos ho
      go_wp2_with fail
      refine (curPick 13 _ hc2 (by omega) (by omega)).mono ?_
      rintro e w3 ⟨q, rfl, hq, k3, hk3, hc3, hg3⟩
      have hq1 : (q : Int) ≤ 12 := by omega
      have D3 := hD2.grown hg3 hpD
      have G3 := grown_trans hg2 hg3
      have hw1 : IntKind.i64.wrap ((q : Int) - 6) = (q : Int) - 6 := IntWalk.i64_in _ (by omega)
      clear hq hg3 hc2 hD2 hg2
      go_wp2_with fail
      refine (curPick 10 _ hc3 (by omega) (by omega)).mono ?_
      rintro e w4 ⟨m, rfl, hm, k4, hk4, hc4, hg4⟩
      have D4 := D3.grown hg4 hpD
      have G4 := grown_trans G3 hg4
      clear hm hg4 hc3 D3 G3
      go_upto_block 2 with fail
      go_cut [3, 5] from 8 (fun v3 v5 wx => ∃ (o2 : ByteArray) (x2 : Int) (k5 : Nat), v3 = .string o2 ∧ v5 = .int .i64 x2 ∧ o2.size ≤ 22 ∧ digits o2.data.toList ∧ (-200 ≤ x2 ∧ x2 ≤ 200) ∧ k5 ≤ k + 20 ∧ Cur B wx p k5 ∧ w.grownBy wx (some p) ∧ DBox wx w.heap.size false ⟨#[]⟩ 0)
      case first =>
        by_cases m0 : m = 0
        · have f0 : ((m : Int) == 0) = true := by simp [m0]
          clear m0
          go_wp2_with fail
          refine (curPick 198 _ hc4 (by omega) (by omega)).mono ?_
          rintro e w5 ⟨x, rfl, hx, k5, hk5, hc5, hg5⟩
          have hx1 : (x : Int) ≤ 197 := by omega
          have hw2 : IntKind.i64.wrap ((x : Int) - 99) = (x : Int) - 99 := IntWalk.i64_in _ (by omega)
          clear hx
          go_wp2
          go_meet
          case rel => exact ⟨_, _, k5, rfl, rfl, hos', hod', by omega, by omega, hc5, grown_trans G4 hg5, D4.grown hg5 hpD⟩
        · have f0 : ((m : Int) == 0) = false := by rw [beq_eq_false_iff_ne]; omega
          by_cases m1 : m = 1
          · have f1 : ((m : Int) == 1) = true := by simp [m1]
            clear m1 m0
            go_wp2_with fail
            refine (curPick 6 _ (hc4.alloc _) (by omega) (by omega)).mono ?_
            rintro e w5 ⟨x, rfl, hx, k5, hk5, hc5, hg5⟩
            have hx1 : (x : Int) < 6 := by omega
            have hx0 : (0 : Int) ≤ (x : Int) := by omega
            have hlt2 := hc4.lt
            obtain ⟨t, ht, htd, htc⟩ := lit_dig (m := 20) (r := x) hg5 hlt2.2 (by decide) (by show x < 6; omega)
            have D5 := (D4.later (ext_alloc _ _)).grown hg5 hpD
            clear hx
            go_wp2
            go_meet
            case rel => exact ⟨t, _, k5, rfl, rfl, by omega, htd, by omega, by omega, hc5, grown_trans (grown_alloc G4 _) hg5, D5⟩
          · have f1 : ((m : Int) == 1) = false := by rw [beq_eq_false_iff_ne]; omega
            by_cases m2 : m = 2
            · have f2 : ((m : Int) == 2) = true := by simp [m2]
              clear m0 m1 m2
              go_wp2_with fail
              refine (curPick 12 _ hc4 (by omega) (by omega)).mono ?_
              rintro e w5 ⟨x, rfl, hx, k5, hk5, hc5, hg5⟩
              have hx1 : (x : Int) ≤ 11 := by omega
              have hw2 : IntKind.i64.wrap ((x : Int) - 3) = (x : Int) - 3 := IntWalk.i64_in _ (by omega)
              have D5 := D4.grown hg5 hpD
              clear hx
              go_wp2_with fail
              refine (curDecOf ((x : Int) - 3) _ (by omega)).mono ?_
              rintro e w6 ⟨⟨rn, rg, re, rfl, hr1, hr2, hr3⟩, hb6⟩
              have hc6 := hc5.later hb6
              have G6 := grown_trans (grown_trans G4 hg5) (below_grown (r := some p) hb6)
              obtain ⟨⟨y0, y1, y2⟩, ⟨z0, z1, z2⟩, hl⟩ := D5.later hb6
              clear D5 D4 hc4 hc5 hb6 hg5 G4
              go_wp2
              refine bodyPost_ret (v := .agg #[.bool rn, .string rg, .int .i64 re]) (by simp [results, Tryd.results59, go_sem, y0, y1, y2, z0, z1, z2, hl]) rfl ⟨⟨rn, rg, re, rfl, hr1, hr2, hr3⟩, k5, by omega, ?_, ?_⟩
              · repeat' (first | (with_reducible exact hc6) | (with_reducible refine Cur.far ?_ ?_ _) | (with_reducible refine Cur.alloc ?_ _) | (with_reducible refine Cur.drew ?_) | omega)
              · repeat' (first | (with_reducible exact G6) | (with_reducible refine grown_new ?_ ?_ _) | (with_reducible refine grown_alloc ?_ _) | (with_reducible refine grown_drew ?_) | omega)
            · have f2 : ((m : Int) == 2) = false := by rw [beq_eq_false_iff_ne]; omega
              clear m0 m1 m2
              go_wp2
              go_meet
              case rel => exact ⟨_, _, k4, rfl, rfl, hos', hod', by omega, by omega, hc4, G4, D4⟩
      case rest =>
      obtain ⟨o2, x2, k5, rfl, rfl, ho2, hd2, hx2, hk5, hc5, G5, D5⟩ := hcut
      clear D4 G4 hc4 hod' hos' hw1 hq1
      go_wp2_with fail
      refine (curPick 3 _ hc5 (by omega) (by omega)).mono ?_
      rintro e w6 ⟨x, rfl, hx, k6, hk6, hc6, hg6⟩
      have D6 := D5.grown hg6 hpD
      have G6 := grown_trans G5 hg6
      obtain ⟨ng, hng⟩ : ∃ b, ((x : Int) == 0) = b := ⟨_, rfl⟩
      have CF := specForm ng o2 x2 w6 hd2 (by omega) (by omega)
      have HFB := formD_bound (neg := ng) (D := o2.data.toList) (exp := x2) (by rw [← Lib.size_eq]; omega) (by omega)
      obtain ⟨R, hR⟩ : ∃ r, formD ng o2.data.toList x2 = r := ⟨_, rfl⟩
      rw [hR] at CF HFB
      obtain ⟨⟨rn, rg, re⟩, rc⟩ := R
      have CF3 : Hid (Calls Tryd.prog 83 #[.bool ng, .string o2, .int .i64 x2, .bool false] w6 fun e w' => e = .returned (.tuple #[.agg #[.bool rn, .string rg, .int .i64 re], .int .i64 rc]) ∧ Below w6.heap.size w6 w') := CF
      have HF3 : rg.size ≤ 90 ∧ -2000 ≤ re ∧ re ≤ 2000 := HFB
      clear CF HFB hR hx hg6 hc5 D5 G5 hd2
      go_wp2_with fail
      try rw [hng]
      refine CF3.out.mono ?_
      rintro e w7 ⟨rfl, hb7⟩
      have D7 := D6.later hb7
      have G7 := grown_trans G6 (below_grown (r := some p) hb7)
      have hc7 := hc6.later hb7
      clear CF3 D6 G6 hc6 hb7 hng
      have hl7 := D7.2.2
      have A8 := dbox_new w7 rn rg re
      have hgA := grown_alloc (grown_refl w7 (some p)) (.cells #[.bool rn, .string rg, .int .i64 re] 29)
      have D8 := D7.grown hgA hpD
      have hc8 := hc7.alloc (.cells #[.bool rn, .string rg, .int .i64 re] 29)
      have G8 := grown_trans G7 hgA
      have hlt7 := hc7.lt
      have hpA : p ≠ w7.heap.size := by omega
      clear D7 G7 hgA
      go_wp2_with fail
      refine (curOnce 18 _ hc8 (by omega) (by omega) (by omega)).mono ?_
      rintro e w9 ⟨b, rfl, k9, hk9, hc9, hg9⟩
      have D9 := D8.grown hg9 hpD
      have A9 := A8.grown hg9 hpA
      have G9 := grown_trans G8 hg9
      clear D8 A8 G8 hc8 hg9 hc7
      cases b with
      | false =>
        obtain ⟨⟨y0, y1, y2⟩, ⟨z0, z1, z2⟩, hl⟩ := D9
        obtain ⟨⟨a0, a1, a2⟩, ⟨b0, b1, b2⟩, hla⟩ := A9
        go_wp2
        refine bodyPost_ret (v := .agg #[.bool rn, .string rg, .int .i64 re]) (by simp [results, Tryd.results59, go_sem, y0, y1, y2, z0, z1, z2, hl, a0, a1, a2, b0, b1, b2, hla]) rfl ⟨⟨_, _, _, rfl, by omega, by omega, by omega⟩, k9, by omega, ?_, ?_⟩
        · repeat' (first | (with_reducible exact hc9) | (with_reducible refine Cur.far ?_ ?_ _) | (with_reducible refine Cur.alloc ?_ _) | (with_reducible refine Cur.drew ?_) | omega)
        · repeat' (first | (with_reducible exact G9) | (with_reducible refine grown_new ?_ ?_ _) | (with_reducible refine grown_alloc ?_ _) | (with_reducible refine grown_drew ?_) | omega)
      | true =>
        go_wp2_with fail
        refine (curPick 5 _ hc9 (by omega) (by omega)).mono ?_
        rintro e w10 ⟨m, rfl, hm, k10, hk10, hc10, hg10⟩
        have G10 := grown_trans G9 hg10
        have D10 := D9.grown hg10 hpD
        have A10 := A9.grown hg10 hpA
        have hlt10 := hc10.lt
        clear D9 A9 G9 hc9 hg10
        by_cases m0 : m = 0
        · have f0 : ((m : Int) == 0) = true := by simp [m0]
          obtain ⟨⟨y0, y1, y2⟩, ⟨z0, z1, z2⟩, hl⟩ := D10
          obtain ⟨⟨a0, a1, a2⟩, ⟨b0, b1, b2⟩, hla⟩ := A10
          have hs1 : ¬ 9223372036854775807 < rg.size + 1 := by omega
          clear m0 hm
          go_wp2
          refine bodyPost_ret (v := .agg #[.bool rn, .string (rg ++ ⟨#[48]⟩), .int .i64 re]) (by simp [results, Tryd.results59, go_sem, y0, y1, y2, z0, z1, z2, hl, a0, a1, a2, b0, b1, b2, hla]) rfl ⟨⟨_, _, _, rfl, by rw [ByteArray.size_append]; show rg.size + 1 ≤ 100; omega, by omega, by omega⟩, k10, by omega, ?_, ?_⟩
          · repeat' (first | (with_reducible exact hc10) | (with_reducible refine Cur.far ?_ ?_ _) | (with_reducible refine Cur.alloc ?_ _) | (with_reducible refine Cur.drew ?_) | omega)
          · repeat' (first | (with_reducible exact G10) | (with_reducible refine grown_new ?_ ?_ _) | (with_reducible refine grown_alloc ?_ _) | (with_reducible refine grown_drew ?_) | omega)
        have f0 : ((m : Int) == 0) = false := by rw [beq_eq_false_iff_ne]; omega
        by_cases m1 : m = 1
        · have f1 : ((m : Int) == 1) = true := by simp [m1]
          clear m1 m0 hm
          go_wp2_with fail
          refine (curPick 4 _ (hc10.alloc _) (by omega) (by omega)).mono ?_
          rintro e w11 ⟨x, rfl, hx, k11, hk11, hc11, hg11⟩
          have hx1 : (x : Int) < 4 := by omega
          have hx0 : (0 : Int) ≤ (x : Int) := by omega
          have G11 := grown_trans (grown_alloc G10 _) hg11
          obtain ⟨⟨y0, y1, y2⟩, ⟨z0, z1, z2⟩, hl⟩ := (D10.later (ext_alloc _ _)).grown hg11 hpD
          obtain ⟨⟨a0, a1, a2⟩, ⟨b0, b1, b2⟩, hla⟩ := (A10.later (ext_alloc _ _)).grown hg11 hpA
          obtain ⟨t, ht, htc⟩ := lit_int' (r := x) hg11 hlt10.2 (by decide) (by show x < 4; omega)
          clear hx D10 A10 G10 hg11
          go_wp2
          refine bodyPost_ret (v := .agg #[.bool rn, .string rg, .int .i64 t]) (by simp [results, Tryd.results59, go_sem, y0, y1, y2, z0, z1, z2, hl, a0, a1, a2, b0, b1, b2, hla]) rfl ⟨⟨_, _, _, rfl, by omega, by omega, by omega⟩, k11, by omega, ?_, ?_⟩
          · repeat' (first | (with_reducible exact hc11) | (with_reducible refine Cur.far ?_ ?_ _) | (with_reducible refine Cur.alloc ?_ _) | (with_reducible refine Cur.drew ?_) | omega)
          · repeat' (first | (with_reducible exact G11) | (with_reducible refine grown_new ?_ ?_ _) | (with_reducible refine grown_alloc ?_ _) | (with_reducible refine grown_drew ?_) | omega)
        have f1 : ((m : Int) == 1) = false := by rw [beq_eq_false_iff_ne]; omega
        by_cases m2 : m = 2
        · have f2 : ((m : Int) == 2) = true := by simp [m2]
          obtain ⟨⟨y0, y1, y2⟩, ⟨z0, z1, z2⟩, hl⟩ := D10
          obtain ⟨⟨a0, a1, a2⟩, ⟨b0, b1, b2⟩, hla⟩ := A10
          have hs1 : ¬ 9223372036854775807 < 1 + rg.size := by omega
          clear m0 m1 m2 hm
          go_wp2
          refine bodyPost_ret (v := .agg #[.bool rn, .string (⟨#[48]⟩ ++ rg), .int .i64 re]) (by simp [results, Tryd.results59, go_sem, y0, y1, y2, z0, z1, z2, hl, a0, a1, a2, b0, b1, b2, hla]) rfl ⟨⟨_, _, _, rfl, by rw [ByteArray.size_append]; show 1 + rg.size ≤ 100; omega, by omega, by omega⟩, k10, by omega, ?_, ?_⟩
          · repeat' (first | (with_reducible exact hc10) | (with_reducible refine Cur.far ?_ ?_ _) | (with_reducible refine Cur.alloc ?_ _) | (with_reducible refine Cur.drew ?_) | omega)
          · repeat' (first | (with_reducible exact G10) | (with_reducible refine grown_new ?_ ?_ _) | (with_reducible refine grown_alloc ?_ _) | (with_reducible refine grown_drew ?_) | omega)
        have f2 : ((m : Int) == 2) = false := by rw [beq_eq_false_iff_ne]; omega
        by_cases m3 : m = 3
        · have f3 : ((m : Int) == 3) = true := by simp [m3]
          obtain ⟨⟨y0, y1, y2⟩, ⟨z0, z1, z2⟩, hl⟩ := D10
          obtain ⟨⟨a0, a1, a2⟩, ⟨b0, b1, b2⟩, hla⟩ := A10
          clear m0 m1 m2 m3 hm
          go_wp2
          refine bodyPost_ret (v := .agg #[.bool rn, .string ⟨#[49, 120, 51]⟩, .int .i64 re]) (by simp [results, Tryd.results59, go_sem, y0, y1, y2, z0, z1, z2, hl, a0, a1, a2, b0, b1, b2, hla]) rfl ⟨⟨_, _, _, rfl, by show 3 ≤ 100; omega, by omega, by omega⟩, k10, by omega, ?_, ?_⟩
          · repeat' (first | (with_reducible exact hc10) | (with_reducible refine Cur.far ?_ ?_ _) | (with_reducible refine Cur.alloc ?_ _) | (with_reducible refine Cur.drew ?_) | omega)
          · repeat' (first | (with_reducible exact G10) | (with_reducible refine grown_new ?_ ?_ _) | (with_reducible refine grown_alloc ?_ _) | (with_reducible refine grown_drew ?_) | omega)
        have f3 : ((m : Int) == 3) = false := by rw [beq_eq_false_iff_ne]; omega
        obtain ⟨⟨y0, y1, y2⟩, ⟨z0, z1, z2⟩, hl⟩ := D10
        obtain ⟨⟨a0, a1, a2⟩, ⟨b0, b1, b2⟩, hla⟩ := A10
        clear m0 m1 m2 m3 hm
        go_wp2
        refine bodyPost_ret (v := .agg #[.bool true, .string ⟨#[]⟩, .int .i64 0]) (by simp [results, Tryd.results59, go_sem, y0, y1, y2, z0, z1, z2, hl, a0, a1, a2, b0, b1, b2, hla]) rfl ⟨⟨_, _, _, rfl, by show 0 ≤ 100; omega, by omega, by omega⟩, k10, by omega, ?_, ?_⟩
        · repeat' (first | (with_reducible exact hc10) | (with_reducible refine Cur.far ?_ ?_ _) | (with_reducible refine Cur.alloc ?_ _) | (with_reducible refine Cur.drew ?_) | omega)
        · repeat' (first | (with_reducible exact G10) | (with_reducible refine grown_new ?_ ?_ _) | (with_reducible refine grown_alloc ?_ _) | (with_reducible refine grown_drew ?_) | omega)
end Go.Proofs.YtommldonooicjaaDoor
