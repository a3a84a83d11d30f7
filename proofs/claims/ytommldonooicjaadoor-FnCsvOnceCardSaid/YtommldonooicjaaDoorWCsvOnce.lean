/-
  What is proved here: the walk of FnCsvOnce: the law returns true at every code. The conditions 'Tabs' and 'Mx' speak of the library's tables and of its MaxLen.
-/
import Derived.Test.YtommldonooicjaaDoorCommas
import Derived.Test.YtommldonooicjaaDoorCsvS4
import Derived.Test.YtommldonooicjaaDoorWCsvBack
namespace Go.Proofs.YtommldonooicjaaDoor
open Go.RowKit
set_option linter.unusedVariables false
set_option linter.unusedSimpArgs false

theorem readC_len (L : List UInt8) : ∀ (f p : Nat) (rs : List (List (List UInt8))), (readC L f p rs).1.length ≤ rs.length + f
  | 0, p, rs => by rw [readC]; exact Nat.le_refl _
  | f + 1, p, rs => by
    rw [readC]
    split
    · show rs.length ≤ _; omega
    · split
      · show rs.length ≤ _; omega
      · have := readC_len L f (rowP L 100 p []).2.1 (rs ++ [(rowP L 100 p []).2.2])
        rw [List.length_append, List.length_singleton] at this
        omega
theorem csvR_len (s : ByteArray) : (csvR s).1.length ≤ 1000000 := by
  unfold csvR
  split
  · rename_i h
    have h1 := file_size h
    have := readC_len s.data.toList s.size 0 []
    simp only [List.length_nil] at this
    omega
  · exact Nat.zero_le _
theorem rowL_toRow (cs : List (List UInt8)) : rowL (toRow cs) = cs := by
  unfold rowL toRow
  simp only [List.map_map]
  refine (List.map_congr_left (fun s _ => ?_)).trans (List.map_id cs)
  rfl
theorem rows_back (rs : List (List (List UInt8))) : (rs.map toRow).map rowL = rs := by
  rw [List.map_map]
  refine (List.map_congr_left (fun x _ => ?_)).trans (List.map_id rs)
  exact rowL_toRow x
set_option maxHeartbeats 8000000 in
set_option maxRecDepth 100000 in
theorem fnCsvOnce_walk (W : World) (hT : Tabs W) (hM : Mx W) {v0 : Value} {x0 : List UInt8} (h0 : Rd.rd (Old W) W [v0] x0) :
    Calls Tryd.prog 5 #[v0] W fun e W' => e = .returned (.bool true) ∧ Below W.heap.size W W' := by
  by_cases hb : 1048576 < (x0.length : Int)
  · go_enter Tryd.func5, Tryd.ntmps5
    go_wp2_with fail
    refine (lawBig _ h0).mono ?_
    rintro e w1 ⟨rfl, rfl⟩
    rw [decide_eq_true hb]
    go_wp2
    go_ret
    exact ⟨rfl, Below.refl _ _⟩
  · have HBF := hid (decide_eq_false hb)
    have hn : x0.length ≤ 1048576 := by omega
    clear hb
    go_enter Tryd.func5, Tryd.ntmps5
    go_wp2_with fail
    refine (lawBig _ h0).mono ?_
    rintro e w1 ⟨rfl, rfl⟩
    rw [HBF.out]
    go_wp2_with fail
    refine (drawCsvRead _ h0 hn).mono ?_
    rintro e w2 ⟨s, rfl, hb2⟩
    have HB2 := hid hb2
    have HT2 := hid (tabs_below hT hb2)
    have HM2 := hid (mx_below hM hb2)
    clear hb2 hT hM h0
    have HCL := hid (csvR_len s)
    go_wp2_with fail
    refine (implCsvRead s w2 HT2.out).mono ?_
    rintro e w3 ⟨nv, he, hrd, hb3⟩
    have HSR := hid (specCsvRead s w3)
    obtain ⟨⟨rs, pl, cd⟩, hR⟩ : ∃ R, csvR s = R := ⟨_, rfl⟩
    rw [hR] at he hrd HSR HCL
    obtain rfl : e = _ := he
    have hlen : (rs.map toRow).length ≤ 1000000 := by rw [List.length_map]; exact HCL.out
    have HRB := hid (rows_back rs)
    obtain ⟨xs, hxs⟩ : ∃ xs, rs.map toRow = xs := ⟨_, rfl⟩
    have HXS := hid hxs
    rw [hxs] at hrd hlen HRB
    have HRD := hid (show Rd.rd (Old w3) w3 [nv] xs from Rd.mono (fun b hb => hb.2) hrd)
    have HB3 := hid hb3
    clear hrd hb3 hR hxs HCL
    go_wp2_with fail
    refine HSR.out.mono ?_
    rintro e w4 ⟨nv2, he, hb4⟩
    obtain rfl : e = _ := he
    have HT4 := hid (tabs_below (tabs_below HT2.out HB3.out) hb4)
    have HM4 := hid (mx_below (mx_below HM2.out HB3.out) hb4)
    have HR4 := hid (Rd.later hb4 HRD.out)
    have HB4 := hid (ext_trans HB2.out (ext_trans HB3.out hb4))
    clear hb4 HSR HT2 HM2 HB2 HB3
    have hz1 : ((cd : Int) != (cd : Int)) = false := by simp
    have hz2 : ((pl : Int) != (pl : Int)) = false := by simp
    go_wp2_with fail
    refine (implCsvText w4 HT4.out HM4.out HR4.out hlen).mono ?_
    rintro e w5 ⟨he, hb5⟩
    obtain rfl : e = _ := he
    have HT5 := hid (tabs_below HT4.out hb5)
    have HM5 := hid (mx_below HM4.out hb5)
    have HR5 := hid (Rd.later hb5 HR4.out)
    have HB5 := hid (ext_trans HB4.out hb5)
    clear hb5 HT4 HM4 HR4 HB4
    rw [HRB.out]
    have HCB := hid (fun t (h : csvT rs = some t) => csv_back h)
    obtain ⟨o, ho⟩ : ∃ o, csvT rs = o := ⟨_, rfl⟩
    rw [ho] at HCB ⊢
    have HO := hid ho
    clear ho
    cases o with
    | none =>
      go_wp2_with fail
      refine (specCsvText w5 HR5.out hlen).mono ?_
      rintro e w6 ⟨he, hb6⟩
      rw [HRB.out, HO.out] at he
      obtain rfl : e = _ := he
      have HB6 := hid (ext_trans HB5.out hb6)
      clear hb6
      go_wp2
      go_ret
      exact ⟨rfl, HB6.out⟩
    | some t =>
      go_wp2_with fail
      refine (implCsvRead (mkB t) w5 HT5.out).mono ?_
      rintro e w6 ⟨nv3, he, hrd, hb6⟩
      rw [HCB.out t rfl] at he hrd
      obtain rfl : e = _ := he
      rw [show ((rs, 0, 0) : List (List (List UInt8)) × Nat × Nat).1.map toRow = xs from HXS.out] at hrd
      have HRD6 := hid (show Rd.rd (Old w6) w6 [nv3] xs from Rd.mono (fun b hb => hb.2) hrd)
      have HR6 := hid (Rd.later hb6 HR5.out)
      have HT6 := hid (tabs_below HT5.out hb6)
      have HM6 := hid (mx_below HM5.out hb6)
      have HB6 := hid (ext_trans HB5.out hb6)
      clear hrd hb6 HT5 HM5 HR5 HB5
      go_wp2_with fail
      refine (implCsvText w6 HT6.out HM6.out HRD6.out hlen).mono ?_
      rintro e w7 ⟨he, hb7⟩
      rw [HRB.out, HO.out] at he
      obtain rfl : e = _ := he
      have HRD7 := hid (Rd.later hb7 HRD6.out)
      have HR7 := hid (Rd.later hb7 HR6.out)
      have HB7 := hid (ext_trans HB6.out hb7)
      clear hb7 HT6 HM6 HR6 HB6 HRD6
      go_wp2_with fail
      refine (sameRows_qt w7 HRD7.out HR7.out).mono ?_
      rintro e w8 ⟨rfl, hq⟩
      have HB8 := hid (ext_trans HB7.out (hq.below w7.heap.size))
      clear hq
      go_wp2
      go_ret
      exact ⟨by first | rfl | simp, HB8.out⟩
end Go.Proofs.YtommldonooicjaaDoor
