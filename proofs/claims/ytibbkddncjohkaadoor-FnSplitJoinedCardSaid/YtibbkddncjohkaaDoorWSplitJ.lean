/-
  What is proved here: the walk of FnSplitJoined: the law returns true at all codes. The conditions 'Tabs' and 'Mx' speak of the library's tables and of its MaxLen.
-/
import Derived.Test.YtibbkddncjohkaaDoorDrawJ
import Derived.Test.YtibbkddncjohkaaDoorFindS
import Derived.Test.YtibbkddncjohkaaDoorJoinI
import Derived.Deep.Cut
namespace Go.Proofs.YtibbkddncjohkaaDoor
open Go.RowKit
set_option linter.unusedVariables false
set_option linter.unusedSimpArgs false

structure SepC (sep : ByteArray) (c : Nat) : Prop where
  one : Sep1 sep
  runes : runesN sep.data.toList = [c]
  eq : sep = mkB (texts [c])
  pt : isPt c
theorem sep_of {c : Nat} {L : List UInt8} (hL : texts [c] = L) (hc : isPt c) (hn : L.length ≤ 4) (h0 : L ≠ []) (hb : L ≠ [32]) : SepC (mkB L) c := by
  have hr : runesAll L = some [c] := by
    rw [← hL]
    exact runes_texts [c] (by intro p hp; rw [List.mem_singleton.1 hp]; exact hc)
  have hr2 : runes? L = some [c] := by unfold runes?; rw [if_pos (by omega)]; exact hr
  have hok : okText (mkB L) = true := by unfold okText textOk; rw [mkB_data, hr2]; rfl
  have hrn : runesN (mkB L).data.toList = [c] := by unfold runesN; rw [mkB_data, hr2]; rfl
  refine ⟨⟨hok, ?_, ?_, ?_, ?_, ?_⟩, hrn, by rw [hL], hc⟩
  · rw [lenOf_ok hok, hrn]; rfl
  · rw [mkB_size]
    cases L with
    | nil => exact absurd rfl h0
    | cons a r => simp
  · rw [Lib.toList_data, mkB_data, beq_eq_false_iff_ne]; exact h0
  · rw [Lib.toList_data, mkB_data]
    cases L with
    | nil => exact absurd rfl h0
    | cons a r => rfl
  · rw [Lib.toList_data, mkB_data, beq_eq_false_iff_ne]; exact hb
theorem five_lit {r : Nat} (h : r < 5) : ∃ (sep : ByteArray) (c : Nat), (#[.string ⟨#[44]⟩, .string ⟨#[59]⟩, .string ⟨#[195, 169]⟩, .string ⟨#[1]⟩, .string ⟨#[124]⟩] : Array Value)[r]? = some (.string sep) ∧ SepC sep c := by
  rcases (show r = 0 ∨ r = 1 ∨ r = 2 ∨ r = 3 ∨ r = 4 by omega) with rfl | rfl | rfl | rfl | rfl
  · exact ⟨_, 44, rfl, sep_of (L := [44]) rfl ⟨by omega, by omega, by omega⟩ (by decide) (by decide) (by decide)⟩
  · exact ⟨_, 59, rfl, sep_of (L := [59]) rfl ⟨by omega, by omega, by omega⟩ (by decide) (by decide) (by decide)⟩
  · exact ⟨_, 233, rfl, sep_of (L := [195, 169]) (by decide) ⟨by omega, by omega, by omega⟩ (by decide) (by decide) (by decide)⟩
  · exact ⟨_, 1, rfl, sep_of (L := [1]) rfl ⟨by omega, by omega, by omega⟩ (by decide) (by decide) (by decide)⟩
  · exact ⟨_, 124, rfl, sep_of (L := [124]) rfl ⟨by omega, by omega, by omega⟩ (by decide) (by decide) (by decide)⟩
set_option maxHeartbeats 16000000 in
set_option maxRecDepth 100000 in
theorem fnSplitJoined_walk (W : World) (hT : Tabs W) (hM : Mx W) {v0 v1 : Value} {x0 x1 : List UInt8} (h0 : Rd.rd (Old W) W [v0] x0) (h1 : Rd.rd (Old W) W [v1] x1) :
    Calls Tryd.prog 4 #[v0, v1] W fun e W' => e = .returned (.bool true) ∧ Below W.heap.size W W' := by
  by_cases hb : 1048576 < (x0.length : Int)
  · go_enter Tryd.func4, Tryd.ntmps4
    go_wp2_with fail
    refine (lawBig _ h0).mono ?_
    rintro e w1 ⟨rfl, rfl⟩
    rw [decide_eq_true hb]
    go_wp2
    go_ret
    exact ⟨rfl, Below.refl _ _⟩
  have HBF := hid (decide_eq_false hb)
  by_cases hb1 : 1048576 < (x1.length : Int)
  · have HBT := hid (decide_eq_true hb1)
    clear hb hb1
    go_enter Tryd.func4, Tryd.ntmps4
    go_wp2_with fail
    refine (lawBig _ h0).mono ?_
    rintro e w1 ⟨rfl, rfl⟩
    rw [HBF.out]
    go_wp2_with fail
    refine (lawBig _ h1).mono ?_
    rintro e w1 ⟨rfl, rfl⟩
    rw [HBT.out]
    go_wp2
    go_ret
    exact ⟨rfl, Below.refl _ _⟩
  have HBG := hid (decide_eq_false hb1)
  have hn0 : x0.length ≤ 1048576 := by omega
  have hn1 : x1.length ≤ 1048576 := by omega
  clear hb hb1
  go_enter Tryd.func4, Tryd.ntmps4
  go_wp2_with fail
  refine (lawBig _ h0).mono ?_
  rintro e w1 ⟨rfl, rfl⟩
  rw [HBF.out]
  go_wp2_with fail
  refine (lawBig _ h1).mono ?_
  rintro e w1 ⟨rfl, rfl⟩
  rw [HBG.out]
  go_wp2_with fail
  refine (drawJoined _ h0 hn0).mono ?_
  rintro e w2 ⟨u, t, xs, rfl, hr, hx, hb2⟩
  obtain ⟨a, cap, hv, g1, g2, g3⟩ := hr
  obtain rfl : u = .slice a xs.length cap := by simpa using hv
  have hr : Rd.rd (New _ w2) w2 [.slice a xs.length cap] xs := ⟨a, cap, hv, g1, g2, g3⟩
  have HR2 := hid (Rd.old hr)
  have HB2 := hid hb2
  have HT2 := hid (tabs_below hT hb2)
  have HM2 := hid (mx_below hM hb2)
  have H12 := hid (Rd.later hb2 h1)
  clear hv g1 g2 g3 hr hb2 hT hM h0 h1 HBF HBG
  have hal := ext_alloc w2 (.cells #[.string ⟨#[44]⟩, .string ⟨#[59]⟩, .string ⟨#[195, 169]⟩, .string ⟨#[1]⟩, .string ⟨#[124]⟩] 9)
  have hnw := heap_alloc_new w2 (.cells #[.string ⟨#[44]⟩, .string ⟨#[59]⟩, .string ⟨#[195, 169]⟩, .string ⟨#[1]⟩, .string ⟨#[124]⟩] 9)
  obtain ⟨w3, hw3⟩ : ∃ y, w2.alloc (.cells #[.string ⟨#[44]⟩, .string ⟨#[59]⟩, .string ⟨#[195, 169]⟩, .string ⟨#[1]⟩, .string ⟨#[124]⟩] 9) = y := ⟨_, rfl⟩
  rw [hw3] at hal hnw
  have HR3 := hid (Rd.later hal HR2.out)
  have HT3 := hid (tabs_below HT2.out hal)
  have HM3 := hid (mx_below HM2.out hal)
  have HB3 := hid (ext_trans HB2.out hal)
  have H13 := hid (Rd.later hal H12.out)
  have HNW := hid hnw
  have HQX := hid hw3
  clear hal hnw hw3 HR2 HT2 HM2 HB2 H12
  go_wp2_with fail
  try rw [HQX.out]
  refine (lawPick 1 5 w3 H13.out (by omega) (by omega)).mono ?_
  rintro e w4 ⟨r, rfl, hr5, hww⟩
  subst hww
  obtain ⟨sep, c, hlit, HSC'⟩ := five_lit (r := r) (by omega)
  have hcell : w3.cell? ⟨w2.heap.size, r, none⟩ = some (.string sep) := (cell_of_row _ _ r _ _ _ HNW.out).trans hlit
  have HSC := hid HSC'
  have hrz : (0 : Int) ≤ (r : Int) := by omega
  clear hlit HSC' HQX HNW H13
  go_wp2_with fail
  refine (specJoined w3 HR3.out (by omega)).mono ?_
  rintro e w5 ⟨⟨s, ok, rfl, hok⟩, hb5⟩
  have HR5 := hid (Rd.later hb5 HR3.out)
  have HT5 := hid (tabs_below HT3.out hb5)
  have HM5 := hid (mx_below HM3.out hb5)
  have HB5 := hid (ext_trans HB3.out hb5)
  have HOK := hid hok
  clear hok hb5 hcell HR3 HT3 HM3 HB3 hr5 hrz
  cases ok with
  | false =>
    go_wp2
    go_ret
    exact ⟨rfl, HB5.out⟩
  | true =>
  by_cases hx0 : xs.length = 0
  · have hxz : ((xs.length : Int) == 0) = true := by rw [hx0]; rfl
    clear hx0
    go_wp2
    go_ret
    exact ⟨rfl, HB5.out⟩
  have hxz : ((xs.length : Int) == 0) = false := by rw [beq_eq_false_iff_ne]; omega
  have hxn : ¬ (xs.length : Int) = 0 := by omega
  by_cases hs0 : s.toList = []
  · have hsz : (s.toList == []) = true := by rw [hs0]; rfl
    have hsy : s.toList.isEmpty = true := by rw [hs0]; rfl
    clear hs0
    go_wp2
    go_ret
    exact ⟨rfl, HB5.out⟩
  have hsz : (s.toList == []) = false := by rw [beq_eq_false_iff_ne]; exact hs0
  have hsy : s.toList.isEmpty = false := by
    cases hh : s.toList with
    | nil => exact absurd hh hs0
    | cons a r => rfl
  obtain ⟨hse, hso, hall, hsl⟩ := HOK.out rfl
  have HSE := hid hse
  have HALL := hid hall
  clear hse hso hall HOK hs0
  go_wp2
  go_loopw [10] (fun i wr => ∃ k : Nat, k ≤ xs.length ∧ i = .int .i64 (k : Int) ∧ Below w5.heap.size w5 wr ∧ Hid (∀ j (hj : j < xs.length), j < k → c ∉ runesN xs[j].data.toList)) (fun i _ => xs.length - (intOf i).toNat)
  case atStart => exact ⟨0, Nat.zero_le _, rfl, Below.refl _ _, hid (fun j _ hj => absurd hj (Nat.not_lt_zero _))⟩
  case round =>
    obtain ⟨k, hk, rfl, hb, HA⟩ := hrel
    have HRr := hid (Rd.later hb HR5.out)
    have HBr := hid hb
    clear hb
    by_cases hlt : k < xs.length
    · obtain ⟨a', cap', hv, g1, g2, hc⟩ := rdStrs HRr.out
      obtain ⟨rfl, rfl⟩ : a = a' ∧ cap = cap' := by simpa using hv
      obtain ⟨b, off, rfl, hB, hcell⟩ := hc (by omega)
      have hce : wr.cell? ⟨b, off + k, none⟩ = some (.string xs[k]) := (hcell k hlt).1
      have hokx := HALL.out xs[k] (List.getElem_mem hlt)
      obtain ⟨x, hxe⟩ : ∃ x, xs[k] = x := ⟨_, rfl⟩
      rw [hxe] at hce hokx
      have HXE := hid hxe
      have HOX := hid hokx
      have hki : (k : Int) < (xs.length : Int) := by omega
      have hk0 : (0 : Int) ≤ (k : Int) := by omega
      clear hv g1 g2 hc hcell hxe hokx hB
      go_wp2_with fail
      refine (specFind1 wr HOX.out HSC.out.one.ok HSC.out.runes).mono ?_
      rintro e w6 ⟨⟨z, rfl, hz⟩, hb6⟩
      by_cases hz0 : 0 < z
      · go_wp2
        go_ret
        exact ⟨rfl, ext_trans HB5.out (ext_trans HBr.out hb6)⟩
      · have HZ := hid (hz hz0)
        have HB6 := hid (ext_trans HBr.out hb6)
        clear hz hce hb6
        go_wp2
        go_roundw
        case rel => exact ⟨k + 1, by omega, by go_num, HB6.out, hid (fun j hj hjk => by
          by_cases e : j = k
          · subst e; rw [HXE.out]; exact HZ.out
          · exact HA.out j hj (by omega))⟩
        case measure => simp [intOf]; omega
    · have hki : ¬ (k : Int) < (xs.length : Int) := by omega
      have hno : ∀ x ∈ xs, c ∉ runesN x.data.toList := fun x hm => by
        obtain ⟨j, hj, rfl⟩ := List.getElem_of_mem hm
        exact HA.out j hj (by omega)
      have hjs := joined_split HSC.out.eq HSC.out.pt (fun h => by rw [h] at hx0; exact hx0 rfl) HALL.out hno
      have hps : partsB s sep = xs := by rw [HSE.out]; exact hjs.1
      have hos : okText s = true := by
        rw [HSE.out]
        refine hjs.2 ?_
        have := hsl
        rw [HSE.out] at this
        unfold joinS at this
        rw [mkB_size] at this
        exact this
      have HPS := hid hps
      have HOS := hid hos
      have HTr := hid (tabs_below HT5.out HBr.out)
      have HMr := hid (mx_below HM5.out HBr.out)
      have HWr := hid (ext_trans HB5.out HBr.out)
      clear hno hjs hps hos HA
      go_wp2_with fail
      refine (implJoinedS wr HRr.out HTr.out HALL.out (by rw [← HSE.out]; exact HOS.out) HSC.out.one.ok (by omega)).mono ?_
      rintro e w6 ⟨rfl, hb6⟩
      rw [← HSE.out]
      have HT6 := hid (tabs_below HTr.out hb6)
      have HM6 := hid (mx_below HMr.out hb6)
      have HR6 := hid (Rd.later hb6 HRr.out)
      have HW6 := hid (ext_trans HWr.out hb6)
      clear hb6
      go_wp2_with fail
      refine (implFields w6 HT6.out HM6.out HOS.out HSC.out.one hsz hsy (by rw [HPS.out]; omega)).mono ?_
      rintro e w7 ⟨pv, rfl, hpv, hb7⟩
      unfold PartsE at hpv
      rw [HPS.out] at hpv
      have HP7 := hid hpv
      have HT7 := hid (tabs_below HT6.out hb7)
      have HM7 := hid (mx_below HM6.out hb7)
      have HR7 := hid (Rd.later hb7 HR6.out)
      have HW7 := hid (ext_trans HW6.out hb7)
      clear hpv hb7
      have hss : (s.toList == s.toList) = true := by simp
      go_wp2_with fail
      refine (implSplitText w7 HT7.out HM7.out HOS.out HSC.out.one hsz hsy).mono ?_
      rintro e w8 ⟨qv, rfl, hqv, hb8⟩
      unfold PartsE at hqv
      rw [HPS.out] at hqv
      have HP8 := hid (Rd.later hb8 HP7.out)
      have HR8 := hid (Rd.later hb8 HR7.out)
      have HQ8 := hid hqv
      have HW8 := hid (ext_trans HW7.out hb8)
      clear hqv hb8
      go_wp2_with fail
      refine (sameTexts_qt w8 HQ8.out HR8.out).mono ?_
      rintro e w9 ⟨rfl, hq9⟩
      have hb9 := hq9.below w8.heap.size
      have HP9 := hid (Rd.later hb9 HP8.out)
      have HR9 := hid (Rd.later hb9 HR8.out)
      have HW9 := hid (ext_trans HW8.out hb9)
      clear hq9 hb9
      go_wp2_with fail
      refine (sameTexts_qt w9 HP9.out HR9.out).mono ?_
      rintro e w10 ⟨rfl, hq10⟩
      have HW10 := hid (ext_trans HW9.out (hq10.below w9.heap.size))
      clear hq10
      go_wp2
      go_ret
      exact ⟨rfl, HW10.out⟩
end Go.Proofs.YtibbkddncjohkaaDoor
