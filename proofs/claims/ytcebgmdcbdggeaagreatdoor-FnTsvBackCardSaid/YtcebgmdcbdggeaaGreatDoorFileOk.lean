/-
  What is proved here: spec.FileOk, impl.isFile, spec.l24Quote. The condition 'Tabs' says that the library's tables for UTF-8 lie in the world.
-/
import Derived.Test.YtcebgmdcbdggeaaGreatDoorLen
namespace Go.Proofs.YtcebgmdcbdggeaaGreatDoor
open Go.RowKit
set_option linter.unusedVariables false
set_option linter.unusedSimpArgs false

def fileOk (s : ByteArray) : Bool := decide (s.size ≤ 4000) && (runesAll s.data.toList).isSome
theorem file_size {s : ByteArray} (h : fileOk s = true) : s.size ≤ 4000 := by
  unfold fileOk at h
  simp only [Bool.and_eq_true, decide_eq_true_eq] at h
  exact h.1
set_option maxHeartbeats 2000000 in
theorem specFileOk (s : ByteArray) (w : World) :
    Calls Tryz.prog 19 #[.string s] w fun e w' => e = .returned (.bool (fileOk s)) ∧ Below w.heap.size w w' := by
  obtain ⟨l, hl⟩ : ∃ l, s.data.toList = l := ⟨_, rfl⟩
  have hsl : s.size = l.length := by rw [Lib.size_eq, hl]
  by_cases hbig : (4000 : Int) < s.size
  · have HF := hid (show fileOk s = false by unfold fileOk; rw [decide_eq_false (by omega)]; rfl)
    clear hl hsl
    go_enter Tryz.func19, Tryz.ntmps19
    go_wp2
    go_ret
    rw [HF.out]
    exact ⟨rfl, Below.refl _ _⟩
  · have HF := hid (show fileOk s = (runesAll l).isSome by unfold fileOk; rw [decide_eq_true (by omega), hl]; rfl)
    have HL := hid hl
    have HSL := hid hsl
    clear hl hsl
    have hlen : l.length ≤ 4000 := by have := HSL.out; omega
    have hsz : s.size ≤ 4000 := by omega
    go_enter Tryz.func19, Tryz.ntmps19
    go_wp2
    go_loopw [3] (fun at' wr => ∃ k : Nat, k ≤ s.size ∧ at' = .int .i64 k ∧ Hid ((runesAll l).isSome = (runesAll (l.drop k)).isSome) ∧ Below w.heap.size w wr) (fun at' _ => s.size - (intOf at').toNat)
    case atStart => exact ⟨0, Nat.zero_le _, rfl, by show (runesAll l).isSome = _; simp, Below.refl _ _⟩
    case round =>
      obtain ⟨k, hk, rfl, HR, hb⟩ := hrel
      by_cases hlt : k < s.size
      · obtain ⟨c, hc⟩ : ∃ c, (next (l.drop k)).1 = c := ⟨_, rfl⟩
        obtain ⟨n, hn⟩ : ∃ n, (next (l.drop k)).2 = n := ⟨_, rfl⟩
        have hne : l.drop k ≠ [] := by
          intro h
          have := congrArg List.length h
          rw [List.length_drop] at this
          have := HSL.out
          simp at *
          omega
        have hnl : n ≤ s.size - k := by
          have := next_le (l.drop k)
          rw [hn, List.length_drop] at this
          have := HSL.out
          omega
        have HC := hid hc
        have HN := hid hn
        have HNE := hid hne
        clear hc hn hne
        go_wp2_with fail
        refine (specNext s k _ hlt (by omega)).mono ?_
        rintro e w1 ⟨rfl, hb1⟩
        rw [HL.out, HC.out, HN.out]
        have hB1 := ext_trans hb hb1
        by_cases hz : n = 0
        · subst hz
          have e1 : (runesAll l).isSome = false := by rw [HR.out, runesAll_bad HNE.out HN.out]; rfl
          have E1 := hid e1
          clear e1
          go_wp2
          go_ret
          rw [HF.out, E1.out]
          exact ⟨rfl, hB1⟩
        · have hz' : ((n : Int) == 0) = false := by rw [beq_eq_false_iff_ne]; omega
          have HR' := hid (show (runesAll l).isSome = (runesAll (l.drop (k + n))).isSome by
            rw [HR.out, runesAll_step HNE.out (by rw [HN.out]; exact hz), HC.out, HN.out, List.drop_drop]
            cases runesAll (List.drop (k + n) l) <;> simp)
          clear HR
          go_wp2
          go_roundw
          case rel => exact ⟨k + n, by omega, by go_num, HR'.out, hB1⟩
          case measure => simp [intOf]; omega
      · have : k = s.size := by omega
        subst this
        have hd : l.drop s.size = [] := List.drop_eq_nil_of_le (by rw [HSL.out]; exact Nat.le_refl _)
        have e1 : (runesAll l).isSome = true := by rw [HR.out, hd, runesAll_nil]; rfl
        have E1 := hid e1
        clear e1 hd
        go_wp2
        go_ret
        rw [HF.out, E1.out]
        exact ⟨rfl, hb⟩
set_option maxHeartbeats 2000000 in
theorem implIsFile (s : ByteArray) (w : World) (hT : Tabs w) :
    Calls Tryz.prog 17 #[.string s] w fun e w' => e = .returned (.bool (fileOk s)) ∧ Below w.heap.size w w' := by
  obtain ⟨l, hl⟩ : ∃ l, s.data.toList = l := ⟨_, rfl⟩
  have hsl : s.size = l.length := by rw [Lib.size_eq, hl]
  by_cases hbig : (4000 : Int) < s.size
  · have HF := hid (show fileOk s = false by unfold fileOk; rw [decide_eq_false (by omega)]; rfl)
    clear hl hsl
    go_enter Tryz.func17, Tryz.ntmps17
    go_wp2
    go_ret
    rw [HF.out]
    exact ⟨rfl, Below.refl _ _⟩
  have HF := hid (show fileOk s = (runesAll l).isSome by unfold fileOk; rw [decide_eq_true (by omega), hl]; rfl)
  have HL := hid hl
  clear hl
  have hsz : s.size ≤ 4000 := by omega
  clear hsl
  have HV := hid (valid_runes l)
  have CV := Any.utf8_ValidString Tryz.laysValid s w (by omega) hT
  rw [HL.out] at CV
  by_cases hv : Lib.validD l = true
  · have CI : ∀ w, Calls Tryz.prog 38 #[.string s, .int .u8 0] w fun e w' => e = .returned (.int .i64 (Lib.indexByte l 0)) ∧ w' = w := fun w => by
      have := Tryz.strings_IndexByte s 0 w
      rw [HL.out] at this
      exact this
    rw [hv] at CV
    by_cases h0 : (0 : UInt8) ∈ l
    · have e1 : (runesAll l).isSome = false := by
        cases hr : runesAll l with
        | none => rfl
        | some x => exact absurd h0 ((HV.out.2 (by rw [hr]; rfl)).2)
      have hix0 := index_ge_of_mem h0
      have hix : ¬ Lib.indexByte l 0 < 0 := by omega
      clear hix0
      have E1 := hid e1
      clear e1 h0 hv
      go_enter Tryz.func17, Tryz.ntmps17
      go_wp2_with (first | (go_at_call 37; refine CV.mono ?_; rintro e w1 ⟨rfl, hb1⟩) | (go_at_call 38; refine (CI _).mono ?_; rintro e w1 ⟨rfl, rfl⟩))
      go_ret
      rw [HF.out, E1.out]
      first | exact ⟨rfl, hb1⟩ | exact ⟨end_bool (decide_eq_false (by omega)), hb1⟩
    · have hix := index_of_not_mem h0
      have e1 : (runesAll l).isSome = true := HV.out.1 ⟨hv, h0⟩
      have E1 := hid e1
      clear hv h0 e1
      go_enter Tryz.func17, Tryz.ntmps17
      go_wp2_with (first | (go_at_call 37; refine CV.mono ?_; rintro e w1 ⟨rfl, hb1⟩) | (go_at_call 38; refine (CI _).mono ?_; rintro e w1 ⟨rfl, rfl⟩))
      go_ret
      rw [HF.out, E1.out]
      first | exact ⟨rfl, hb1⟩ | exact ⟨end_bool (decide_eq_true (by omega)), hb1⟩
  · have hv' : Lib.validD l = false := by cases h : Lib.validD l with | false => rfl | true => exact absurd h hv
    rw [hv'] at CV
    have e1 : (runesAll l).isSome = false := by
      cases hr : runesAll l with
      | none => rfl
      | some x => exact absurd (HV.out.2 (by rw [hr]; rfl)).1 hv
    have E1 := hid e1
    clear e1 hv hv'
    go_enter Tryz.func17, Tryz.ntmps17
    go_wp2_with (go_at_call 37; refine CV.mono ?_; rintro e w1 ⟨rfl, hb1⟩)
    go_ret
    rw [HF.out, E1.out]
    exact ⟨rfl, hb1⟩
end Go.Proofs.YtcebgmdcbdggeaaGreatDoor
