/-
  What is proved here: the walk of FnBlanksJoined: the law returns true at every code. The condition 'Tabs' says that the library's tables for UTF-8 lie in the world.
-/
import Derived.Test.YtojonbdkijnbnaaDoorWTextBack
import Derived.Test.YtojonbdkijnbnaaDoorBlanks
namespace Go.Proofs.YtojonbdkijnbnaaDoor
open Go.RowKit
set_option linter.unusedVariables false
set_option linter.unusedSimpArgs false

def joinT (xs : List ByteArray) : ByteArray := mkB (Lib.join (xs.map (·.data.toList)) [32])
theorem ok_blank : okText ⟨#[32]⟩ = true := by
  have h : runesAll [32] = some [32] := runes_texts [32] (by intro c hc; simp at hc; subst hc; exact ⟨by omega, by omega, by omega⟩)
  exact textOk_of (l := [32]) (by decide) (by rw [h]; rfl)
theorem blanks_join (s : ByteArray) : okText (joinT (blanksT s)) = true ∧ blanksT (joinT (blanksT s)) = blanksT s ∧ (joinT (blanksT s)).size ≤ s.size ∧ (∀ x ∈ blanksT s, x.size ≤ 1000 ∧ okText x = true ∧ ¬ x.size = 0) ∧ (blanksT s).length ≤ 1001 := by
  obtain ⟨ok, hok⟩ : ∃ ok, okText s = ok := ⟨_, rfl⟩
  cases ok with
  | false =>
    have hb : blanksT s = [] := by unfold blanksT; rw [hok]; rfl
    have hj : joinT [] = mkB [] := rfl
    have ho : okText (mkB []) = true := textOk_of (l := []) (by decide) (by rw [runesAll_nil]; rfl)
    rw [hb, hj]
    refine ⟨ho, ?_, ?_, by simp, by simp⟩
    · unfold blanksT
      rw [ho, mkB_data]
      simp [words, wordsG]
    · rw [mkB_size]; exact Nat.zero_le _
  | true =>
    have hb : blanksT s = (words s.data.toList).map mkB := by unfold blanksT; rw [hok]; rfl
    obtain ⟨h1, h2, h3, h4⟩ := words_ok (l := s.data.toList) hok
    have hm : (blanksT s).map (·.data.toList) = words s.data.toList := by
      rw [hb, List.map_map]
      conv => rhs; rw [← List.map_id (words s.data.toList)]
      apply List.map_congr_left
      intro x _
      rfl
    have hj : joinT (blanksT s) = mkB (Lib.join (words s.data.toList) [32]) := by unfold joinT; rw [hm]
    obtain ⟨h5, h6⟩ := blanks_all hok
    rw [hj]
    refine ⟨h2, ?_, ?_, h5, h6⟩
    · have ho : okText (mkB (Lib.join (words s.data.toList) [32])) = true := h2
      conv => lhs; unfold blanksT
      rw [ho, mkB_data, h4, hb]
      rfl
    · rw [mkB_size, Lib.size_eq]; exact h3
set_option maxHeartbeats 4000000 in
set_option maxRecDepth 100000 in
theorem implJoined {v : Value} {xs : List ByteArray} (w : World) (h : Rd.rd (Old w) w [v] xs) (hT : Tabs w) (hall : ∀ x ∈ xs, okText x = true) (hj : okText (joinT xs) = true) (hn : xs.length ≤ 1001) :
    Calls Tryd.prog 43 #[v, .string ⟨#[32]⟩] w fun e w' => e = .returned (.tuple #[.string (joinT xs), .bool true]) ∧ Below w.heap.size w w' := by
  obtain ⟨a, cap, rfl, h1, h2, hc⟩ := rdStrs h
  have HA := hid hall
  have HJ := hid hj
  have HSP := hid ok_blank
  have hjs := ok_size hj
  have CJ : ∀ w', Below w.heap.size w w' → Calls Tryd.prog 75 #[.slice a xs.length cap, .string ⟨#[32]⟩] w' fun e w'' => e = .returned (.string (joinT xs)) ∧ Below w'.heap.size w' w'' := by
    intro w' hb
    by_cases h0 : 0 < xs.length
    · obtain ⟨b, off, rfl, hB, hcell⟩ := hc h0
      refine Tryd.strings_Join b off cap xs ⟨#[32]⟩ w' (fun j x hx => ?_) (Nat.lt_of_lt_of_le hB hb.size) (by omega) h1 ?_
      · obtain ⟨hj1, hj2⟩ := List.getElem?_eq_some_iff.1 hx
        rw [← hj2]
        exact (hb.cell (p := ⟨b, off + j, none⟩) hB).trans (hcell j hj1).1
      · have : (joinT xs).size = (Lib.join (xs.map (·.data.toList)) [32]).length := mkB_size _
        show (Lib.join (xs.map (·.data.toList)) [32]).length ≤ _
        omega
    · have hx : xs = [] := List.eq_nil_of_length_eq_zero (by omega)
      subst hx
      refine (Tryd.strings_Join_none a cap ⟨#[32]⟩ w').mono fun e w'' ⟨he, hw⟩ => ⟨?_, ?_⟩
      · rw [he]; rfl
      · rw [hw]; exact Below.refl _ _
  clear h hall hj
  go_enter Tryd.func43, Tryd.ntmps43
  go_wp2
  go_loopw [11] (fun i wr => ∃ k : Nat, k ≤ xs.length ∧ i = .int .i64 k ∧ Below w.heap.size w wr) (fun i _ => xs.length - (intOf i).toNat)
  case atStart => exact ⟨0, Nat.zero_le _, rfl, Below.refl _ _⟩
  case round =>
    obtain ⟨k, hk, rfl, hb⟩ := hrel
    by_cases hlt : k < xs.length
    · obtain ⟨b, off, rfl, hB, hcell⟩ := hc (by omega)
      have hce : wr.cell? ⟨b, off + k, none⟩ = some (.string xs[k]) := (hb.cell (p := ⟨b, off + k, none⟩) hB).trans (hcell k hlt).1
      have hok := HA.out xs[k] (List.getElem_mem hlt)
      obtain ⟨x, hx⟩ : ∃ x, xs[k] = x := ⟨_, rfl⟩
      rw [hx] at hce hok
      have HO := hid hok
      clear hcell hc hx hok
      go_wp2_with fail
      refine (implTextOk x _ (tabs_below hT hb)).mono ?_
      rintro e w1 ⟨rfl, hb1⟩
      rw [HO.out]
      go_wp2
      go_roundw
      case rel => exact ⟨k + 1, by omega, by go_num, ext_trans hb hb1⟩
      case measure => simp [intOf]; omega
    · have hkk : k = xs.length := by omega
      subst hkk
      clear hc
      go_wp2_with fail
      refine (CJ _ hb).mono ?_
      rintro e w1 ⟨rfl, hb1⟩
      have hB1 := ext_trans hb hb1
      go_wp2_with fail
      refine (implTextOk _ _ (tabs_below hT hB1)).mono ?_
      rintro e w2 ⟨rfl, hb2⟩
      rw [HSP.out]
      go_wp2_with fail
      refine (implTextOk _ _ (tabs_below hT (ext_trans hB1 hb2))).mono ?_
      rintro e w3 ⟨rfl, hb3⟩
      rw [HJ.out]
      go_wp2
      go_ret2
      exact ⟨rfl, ext_trans (ext_trans hB1 hb2) hb3⟩
set_option maxHeartbeats 4000000 in
set_option maxRecDepth 100000 in
theorem fnBlanksJoined_walk (W : World) (hT : Tabs W) {v0 : Value} {x0 : List UInt8} (h0 : Rd.rd (Old W) W [v0] x0) :
    Calls Tryd.prog 10 #[v0] W fun e W' => e = .returned (.bool true) ∧ Below W.heap.size W W' := by
  by_cases hb : 1048576 < (x0.length : Int)
  · go_enter Tryd.func10, Tryd.ntmps10
    go_wp2_with fail
    refine (lawBig _ h0).mono ?_
    rintro e w1 ⟨rfl, rfl⟩
    rw [decide_eq_true hb]
    go_wp2
    go_ret
    exact ⟨rfl, Below.refl _ _⟩
  have HB := hid (decide_eq_false hb)
  have hn : x0.length ≤ 1048576 := by omega
  clear hb
  go_enter Tryd.func10, Tryd.ntmps10
  go_wp2_with fail
  refine (lawBig _ h0).mono ?_
  rintro e w1 ⟨rfl, rfl⟩
  rw [HB.out]
  go_wp2_with fail
  refine (drawBlanks _ h0 hn).mono ?_
  rintro e w1 ⟨s, rfl, hs, hb1⟩
  obtain ⟨hj1, hj2, hj3, hj4, hj5⟩ := blanks_join s
  obtain ⟨xs, hxs⟩ : ∃ xs, blanksT s = xs := ⟨_, rfl⟩
  rw [hxs] at hj1 hj2 hj3 hj4 hj5
  have HXS := hid hxs
  have H1 := hid hj1
  have H2 := hid hj2
  have H4 := hid hj4
  have hsmall : ∀ x ∈ xs, x.size ≤ 9223372036854775807 := fun x hx => by have := (H4.out x hx).1; omega
  have HSM := hid hsmall
  clear hxs hj1 hj2 hj4 hsmall
  go_wp2_with fail
  refine (implBlanks s _ (tabs_below hT hb1)).mono ?_
  rintro e w2 ⟨u, rfl, hown, hb2⟩
  rw [HXS.out] at hown
  have hB2 := ext_trans hb1 hb2
  have hrd := own_strs hown HSM.out
  obtain ⟨ua, uc, rfl⟩ := own_slice hown
  clear hown
  go_wp2_with fail
  refine (specBlanks s _).mono ?_
  rintro e w3 ⟨u', rfl, hown', hb3⟩
  rw [HXS.out] at hown'
  have hB3 := ext_trans hB2 hb3
  have hrd' := own_strs hown' HSM.out
  have hrd3 := Rd.later hb3 hrd
  clear hown' hrd
  go_wp2_with fail
  refine (sameTexts_same _ hrd3 hrd').mono ?_
  rintro e w4 ⟨rfl, hb4⟩
  have hB4 := ext_trans hB3 hb4
  have hrd4 := Rd.later hb4 hrd3
  clear hrd3 hrd'
  go_wp2_with fail
  refine (implJoined _ hrd4 (tabs_below hT hB4) (fun x hx => (H4.out x hx).2.1) H1.out hj5).mono ?_
  rintro e w5 ⟨rfl, hb5⟩
  have hB5 := ext_trans hB4 hb5
  have hrd5 := Rd.later hb5 hrd4
  clear hrd4
  have HRD := hid hrd5
  obtain ⟨a, cap, hv, _, _, hc⟩ := rdStrs hrd5
  simp only [Value.slice.injEq, true_and] at hv
  obtain ⟨rfl, rfl⟩ := hv
  clear hrd5
  go_wp2
  go_loopw [7] (fun i wr => ∃ k : Nat, k ≤ xs.length ∧ i = .int .i64 k ∧ Below w5.heap.size w5 wr) (fun i _ => xs.length - (intOf i).toNat)
  case atStart => exact ⟨0, Nat.zero_le _, rfl, Below.refl _ _⟩
  case round =>
    obtain ⟨k, hk, rfl, hb⟩ := hrel
    by_cases hlt : k < xs.length
    · obtain ⟨b, off, rfl, hB, hcell⟩ := hc (by omega)
      have hce : wr.cell? ⟨b, off + k, none⟩ = some (.string xs[k]) := (hb.cell (p := ⟨b, off + k, none⟩) hB).trans (hcell k hlt).1
      have hne := ba_nil_beq (H4.out xs[k] (List.getElem_mem hlt)).2.2
      obtain ⟨x, hx⟩ : ∃ x, xs[k] = x := ⟨_, rfl⟩
      rw [hx] at hce hne
      clear hcell hc hx
      go_wp2
      go_roundw
      case rel => exact ⟨k + 1, by omega, by go_num, hb⟩
      case measure => simp [intOf]; omega
    · have hkk : k = xs.length := by omega
      subst hkk
      clear hc
      have hB6 := ext_trans hB5 hb
      have hle : ((joinT xs).size : Int) ≤ (s.size : Int) := by omega
      go_wp2_with fail
      refine (implBlanks (joinT xs) _ (tabs_below hT hB6)).mono ?_
      rintro e w6 ⟨u6, rfl, hown6, hb6⟩
      rw [H2.out] at hown6
      have hrd6 := own_strs hown6 HSM.out
      have hrd7 := Rd.later hb6 (Rd.later hb HRD.out)
      clear hown6
      go_wp2_with fail
      refine (sameTexts_same _ hrd6 hrd7).mono ?_
      rintro e w7 ⟨rfl, hb7⟩
      clear hrd6 hrd7
      go_wp2
      go_ret
      exact ⟨rfl, ext_trans (ext_trans hB6 hb6) hb7⟩
end Go.Proofs.YtojonbdkijnbnaaDoor
