/-
  What is proved here: DrawCsvText; the walk of FnCsvBack: the law returns true at every code. The conditions 'Tabs' and 'Mx' speak of the library's tables and of its MaxLen.
-/
import Derived.Test.YtommldonooicjaaDoorCsvDraw
import Derived.Test.YtommldonooicjaaDoorCsvS2
namespace Go.Proofs.YtommldonooicjaaDoor
open Go.RowKit
set_option linter.unusedVariables false
set_option linter.unusedSimpArgs false

set_option maxHeartbeats 1000000 in
theorem drawCsvText {v : Value} {c : List UInt8} (w : World) (h : Rd.rd (Old w) w [v] c) (hn : c.length ≤ 1048576) :
    Calls Tryd.prog 18 #[v] w fun e w' => ∃ (u : Value) (xs : List CsvRow), e = .returned u ∧ Rd.rd (New w.heap.size w') w' [u] xs ∧ xs.length ≤ 5 ∧ Below w.heap.size w w' := by
  obtain ⟨a, cap, rfl, h1, h2, hc⟩ := rdBytes h
  have CO := fun w' (e : w = w') => curOpen (a := a) (cap := cap) w hn hc
  clear hc h h1 h2
  go_enter Tryd.func18, Tryd.ntmps18
  go_wp2_with fail
  refine (CO _ rfl).mono ?_
  rintro e w1 ⟨rfl, hc1, hb1⟩
  go_wp2_with fail
  refine (curRows _ hc1 (by omega)).mono ?_
  rintro e w2 ⟨u, xs, rfl, hr, hx, k, hk, hc2, hg2⟩
  have HR := hid (rows_base hr hb1.size)
  have HB := hid (drawn_below hb1 hg2)
  clear hr hc1 hb1 hc2 hg2
  go_wp2
  go_ret
  exact ⟨u, xs, rfl, HR.out, hx, HB.out⟩
theorem toRow_rowL (x : CsvRow) : toRow (rowL x) = x := by
  unfold toRow rowL
  cases x with
  | mk cs =>
    simp only [List.map_map]
    congr 1
    refine (List.map_congr_left (fun s _ => ?_)).trans (List.map_id cs)
    exact mkB_of s
theorem rows_same (xs : List CsvRow) : (xs.map rowL).map toRow = xs := by
  rw [List.map_map]
  refine (List.map_congr_left (fun x _ => ?_)).trans (List.map_id xs)
  exact toRow_rowL x
set_option maxHeartbeats 8000000 in
set_option maxRecDepth 100000 in
theorem fnCsvBack_walk (W : World) (hT : Tabs W) (hM : Mx W) {v0 : Value} {x0 : List UInt8} (h0 : Rd.rd (Old W) W [v0] x0) :
    Calls Tryd.prog 4 #[v0] W fun e W' => e = .returned (.bool true) ∧ Below W.heap.size W W' := by
  by_cases hb : 1048576 < (x0.length : Int)
  · go_enter Tryd.func4, Tryd.ntmps4
    go_wp2_with fail
    refine (lawBig _ h0).mono ?_
    rintro e w1 ⟨rfl, rfl⟩
    rw [decide_eq_true hb]
    go_wp2
    go_ret
    exact ⟨rfl, Below.refl _ _⟩
  · have HBF := hid (decide_eq_false hb)
    have hn : x0.length ≤ 1048576 := by omega
    clear hb
    go_enter Tryd.func4, Tryd.ntmps4
    go_wp2_with fail
    refine (lawBig _ h0).mono ?_
    rintro e w1 ⟨rfl, rfl⟩
    rw [HBF.out]
    go_wp2_with fail
    refine (drawCsvText _ h0 hn).mono ?_
    rintro e w2 ⟨u, xs, rfl, hr, hx, hb2⟩
    have hr2 : Rd.rd (Old w2) w2 [u] xs := Rd.mono (fun b hb => hb.2) hr
    have HR2 := hid hr2
    have HB2 := hid hb2
    have HT2 := hid (tabs_below hT hb2)
    have HM2 := hid (mx_below hM hb2)
    clear hr hr2 hb2 hT hM h0
    go_wp2_with fail
    refine (implCsvText w2 HT2.out HM2.out HR2.out (by omega)).mono ?_
    rintro e w3 ⟨he, hb3⟩
    obtain rfl : e = _ := he
    have HR3 := hid (Rd.later hb3 HR2.out)
    have HB3 := hid hb3
    clear hb3
    have HCB := hid (fun t (h : csvT (xs.map rowL) = some t) => csv_back h)
    obtain ⟨o, ho⟩ : ∃ o, csvT (xs.map rowL) = o := ⟨_, rfl⟩
    rw [ho] at HCB ⊢
    have HO := hid ho
    clear ho
    cases o with
    | none =>
      go_wp2_with fail
      refine (specCsvText w3 HR3.out (by omega)).mono ?_
      rintro e w4 ⟨he, hb4⟩
      rw [HO.out] at he
      obtain rfl : e = _ := he
      have HB4 := hid hb4
      have hE : (mkB []).toList.isEmpty = true := by rw [Lib.toList_data]; rfl
      clear hb4
      go_wp2
      go_ret
      exact ⟨by first | rfl | simp [hE], ext_trans HB2.out (ext_trans HB3.out HB4.out)⟩
    | some t =>
      go_wp2_with fail
      refine (specCsvText w3 HR3.out (by omega)).mono ?_
      rintro e w4 ⟨he, hb4⟩
      rw [HO.out] at he
      obtain rfl : e = _ := he
      have HB4 := hid hb4
      have HR4 := hid (Rd.later hb4 HR3.out)
      have HT4 := hid (tabs_below (tabs_below HT2.out HB3.out) hb4)
      clear hb4
      go_wp2_with fail
      refine (implCsvRead (mkB t) w4 HT4.out).mono ?_
      rintro e w5 ⟨nv, he, hrd, hb5⟩
      rw [HCB.out t rfl] at he hrd
      obtain rfl : e = _ := he
      rw [show ((xs.map rowL, 0, 0) : List (List (List UInt8)) × Nat × Nat).1.map toRow = xs from rows_same xs] at hrd
      have HRD := hid (show Rd.rd (Old w5) w5 [nv] xs from Rd.mono (fun b hb => hb.2) hrd)
      have HR5 := hid (Rd.later hb5 HR4.out)
      have HB5 := hid hb5
      clear hrd hb5
      go_wp2_with fail
      refine (sameRows_qt w5 HRD.out HR5.out).mono ?_
      rintro e w6 ⟨rfl, hq⟩
      have HB6 := hid (hq.below w5.heap.size)
      clear hq
      go_wp2
      go_ret
      exact ⟨rfl, ext_trans HB2.out (ext_trans HB3.out (ext_trans HB4.out (ext_trans HB5.out HB6.out)))⟩
end Go.Proofs.YtommldonooicjaaDoor
