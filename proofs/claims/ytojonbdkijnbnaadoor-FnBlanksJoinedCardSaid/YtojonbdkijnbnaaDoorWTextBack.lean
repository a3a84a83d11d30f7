/-
  What is proved here: the walk of FnTextBack: the law returns true at every code. The condition 'Tabs' says that the library's tables for UTF-8 lie in the world.
-/
import Derived.Test.YtojonbdkijnbnaaDoorDraw
import Derived.Test.YtojonbdkijnbnaaDoorTextOf
namespace Go.Proofs.YtojonbdkijnbnaaDoor
open Go.RowKit
set_option linter.unusedVariables false
set_option linter.unusedSimpArgs false

theorem lawBig {S : Nat → Prop} {v : Value} {c : List UInt8} (w : World) (h : Rd.rd S w [v] c) :
    Calls Tryd.prog 25 #[v] w fun e w' => e = .returned (.bool (decide (1048576 < (c.length : Int)))) ∧ w = w' := by
  obtain ⟨a, cap, rfl, h1, h2, hc⟩ := rdBytes h
  clear hc h
  by_cases hb : 1048576 < (c.length : Int)
  · have HB := hid (decide_eq_true hb)
    go_enter Tryd.func25, Tryd.ntmps25
    go_wp2
    go_ret
    exact ⟨end_bool HB.out.symm, rfl⟩
  · have HB := hid (decide_eq_false hb)
    go_enter Tryd.func25, Tryd.ntmps25
    go_wp2
    go_ret
    exact ⟨end_bool HB.out.symm, rfl⟩
theorem texts_of_ok {s : ByteArray} (h : okText s = true) : mkB (texts (runesN s.data.toList)) = s ∧ (∀ c ∈ runesN s.data.toList, isPt c) ∧ (texts (runesN s.data.toList)).length ≤ 1000 ∧ (runesN s.data.toList).length ≤ 1000 := by
  obtain ⟨h1, h2, h3⟩ := ok_runes h
  have ht := texts_runes _ _ _ rfl h1
  refine ⟨by rw [ht, mkB_of], (runesAll_len _ _ _ rfl h1).2.1, ?_, by omega⟩
  rw [ht, ← Lib.size_eq]; exact h2
theorem runesN_no {s : ByteArray} (h : okText s = false) : runesN s.data.toList = [] := by
  unfold okText textOk at h
  unfold runesN
  cases hr : runes? s.data.toList with
  | none => rfl
  | some x => rw [hr] at h; exact absurd h (by simp)
set_option maxHeartbeats 4000000 in
set_option maxRecDepth 100000 in
theorem fnTextBack_walk (W : World) (hT : Tabs W) {v0 : Value} {x0 : List UInt8} (h0 : Rd.rd (Old W) W [v0] x0) :
    Calls Tryd.prog 7 #[v0] W fun e W' => e = .returned (.bool true) ∧ Below W.heap.size W W' := by
  by_cases hb : 1048576 < (x0.length : Int)
  · go_enter Tryd.func7, Tryd.ntmps7
    go_wp2_with fail
    refine (lawBig _ h0).mono ?_
    rintro e w1 ⟨rfl, rfl⟩
    rw [decide_eq_true hb]
    go_wp2
    go_ret
    exact ⟨rfl, Below.refl _ _⟩
  have HB := hid (decide_eq_false hb)
  have hn : x0.length ≤ 1048576 := by omega
  clear hb
  go_enter Tryd.func7, Tryd.ntmps7
  go_wp2_with fail
  refine (lawBig _ h0).mono ?_
  rintro e w1 ⟨rfl, rfl⟩
  rw [HB.out]
  go_wp2_with fail
  refine (drawRunes _ h0 hn).mono ?_
  rintro e w1 ⟨s, rfl, hs, hb1⟩
  go_wp2_with fail
  refine (implRunes s _ (tabs_below hT hb1)).mono ?_
  rintro e w2 ⟨u, rfl, hown, hb2⟩
  have hB2 := ext_trans hb1 hb2
  go_wp2_with fail
  refine (specRunes s _).mono ?_
  rintro e w3 ⟨u', rfl, _, hb3⟩
  have hB3 := ext_trans hB2 hb3
  have hown3 := own_later hown hb3
  clear hown
  obtain ⟨ua, uc, hu⟩ := own_slice hown3
  subst hu
  obtain ⟨ok, hok⟩ : ∃ ok, textOk s.data.toList = ok := ⟨_, rfl⟩
  have hok' : okText s = ok := hok
  rw [hok]
  cases ok with
  | false =>
    have hr := runesN_no hok'
    have hl := lenOf_no hok'
    have HL := hid hl
    have HO := hid hok'
    rw [hr] at hown3
    rw [hr]
    clear hr hl hok hok' hown3
    go_wp2_with (first | (go_at_call 29; refine (implTextOk s _ (tabs_below hT hB3)).mono ?_; rintro e w4 ⟨rfl, hb4⟩; rw [HO.out]) | (go_at_call 30; refine (implLength s _ (tabs_below hT (ext_trans hB3 hb4))).mono ?_; rintro e w5 ⟨rfl, hb5⟩; rw [HL.out]))
    go_ret
    exact ⟨rfl, ext_trans (ext_trans hB3 hb4) hb5⟩
  | true =>
    obtain ⟨ht, hpt, htl, hrl⟩ := texts_of_ok hok'
    have hl := lenOf_ok hok'
    obtain ⟨rs, hrs⟩ : ∃ rs, runesN s.data.toList = rs := ⟨_, rfl⟩
    rw [hrs] at hown3 ht hpt htl hrl hl
    rw [hrs]
    have HL := hid hl
    have HO := hid hok'
    have HT := hid ht
    have HP := hid hpt
    clear ht hpt hl hok hok' hrs
    go_wp2_with fail
    refine (implTextOk s _ (tabs_below hT hB3)).mono ?_
    rintro e w4 ⟨rfl, hb4⟩
    rw [HO.out]
    go_wp2_with fail
    refine (implTextOf _ (own_later hown3 hb4) HP.out (by omega) htl).mono ?_
    rintro e w5 ⟨rfl, hb5⟩
    rw [HT.out]
    go_wp2_with fail
    refine (implLength s _ (tabs_below hT (ext_trans (ext_trans hB3 hb4) hb5))).mono ?_
    rintro e w6 ⟨rfl, hb6⟩
    rw [HL.out]
    go_wp2
    go_ret
    exact ⟨rfl, ext_trans (ext_trans (ext_trans hB3 hb4) hb5) hb6⟩
end Go.Proofs.YtojonbdkijnbnaaDoor
