/-
  What is proved here: spec.l02Trim and impl.trimNat drop the leading noughts of a row of digits. No condition.
-/
import Derived.Test.YtommldonooicjaaDoorZero
import Derived.Test.YtommldonooicjaaDoorShelfB
import Derived.Laws.Concat
import Derived.Laws.Cover1
namespace Go.Proofs.YtommldonooicjaaDoor
open Go.RowKit
set_option linter.unusedVariables false
set_option linter.unusedSimpArgs false

theorem extL (s : ByteArray) (a b : Nat) : (s.extract a b).data.toList = (s.data.toList.drop a).take (b - a) := by
  rw [ByteArray.data_extract, Array.toList_extract]
/-- digits without leading noughts; 0 if nothing is left -/
def trimL (l : List UInt8) : List UInt8 := if l.dropWhile (· == 48) = [] then [48] else l.dropWhile (· == 48)
def trimB (s : ByteArray) : ByteArray := mkB (trimL s.data.toList)
theorem trimL_nil : trimL [] = [48] := rfl
theorem trimL_zero (l : List UInt8) : trimL (48 :: l) = trimL l := by
  unfold trimL
  rw [List.dropWhile_cons_of_pos (by rfl)]
theorem trimL_head {c : UInt8} (l : List UInt8) (h : ¬ c = 48) : trimL (c :: l) = c :: l := by
  unfold trimL
  have e : (c == 48) = false := by rw [beq_eq_false_iff_ne]; exact h
  rw [List.dropWhile_cons_of_neg (by rw [e]; decide)]
  exact if_neg (by simp)
theorem trimL_one (c : UInt8) : trimL [c] = [c] := by
  by_cases h : c = 48
  · rw [h]; rfl
  · exact trimL_head [] h
theorem trimL_len : ∀ l : List UInt8, (trimL l).length ≤ l.length + 1 ∧ 1 ≤ (trimL l).length
  | [] => by rw [trimL_nil]; decide
  | c :: r => by
    by_cases h : c = 48
    · rw [h, trimL_zero]
      have := trimL_len r
      simp only [List.length_cons]
      omega
    · rw [trimL_head r h]
      simp only [List.length_cons]
      omega
set_option maxHeartbeats 2000000 in
theorem specTrim (s : ByteArray) (w : World) (hs : s.size ≤ 1000000) :
    Calls Tryd.prog 100 #[.string s] w fun e w' => e = .returned (.string (trimB s)) ∧ w = w' := by
  obtain ⟨l, hl⟩ : ∃ l, trimL s.data.toList = l := ⟨_, rfl⟩
  have HT := hid (show trimB s = mkB l by unfold trimB; rw [hl])
  go_enter Tryd.func100, Tryd.ntmps100
  go_wp2
  go_loopw [0] (fun a wr => ∃ t : ByteArray, a = .string t ∧ t.size ≤ 1000000 ∧ Hid (trimL t.data.toList = l) ∧ w = wr) (fun a _ => match a with | .string t => t.size | _ => 0)
  case atStart => exact ⟨s, rfl, hs, hl, rfl⟩
  case round =>
    obtain ⟨t, rfl, ht, HL, rfl⟩ := hrel
    clear hl
    by_cases h1 : 1 < t.size
    · have hpos : 0 < t.size := by omega
      obtain ⟨c, hc⟩ : ∃ c : UInt8, t[0] = c := ⟨_, rfl⟩
      have hcons : ∃ r, t.data.toList = c :: r := by
        have := head_list t hpos
        rw [hc] at this
        cases hd : t.data.toList with
        | nil => rw [hd] at this; cases this
        | cons x r => rw [hd] at this; exact ⟨r, by rw [show x = c by simpa using this]⟩
      obtain ⟨r, hr⟩ := hcons
      have hi1 : (1 : Int) < (t.size : Int) := by omega
      have hix : (t[0] : UInt8).toNat = c.toNat := by rw [hc]
      by_cases h48 : c.toNat = 48
      · have hc48 : c = 48 := toNat_eq_48.1 h48
        have HN := hid (show trimL (t.extract 1 t.size).data.toList = l by
          rw [← HL.out, hr, hc48, trimL_zero]
          congr 1
          have : (t.extract 1 t.size).data.toList = t.data.toList.drop 1 := by rw [extL, List.take_of_length_le (by rw [List.length_drop, ← Lib.size_eq]; exact Nat.le_refl _)]
          rw [this, hr]
          rfl)
        have hsz : (t.extract 1 t.size).size = t.size - 1 := by rw [ByteArray.size_extract]; omega
        clear hr hc hc48
        go_wp2
        go_roundw
        case rel => exact ⟨_, rfl, by rw [hsz]; omega, HN.out, by first | rfl | trivial⟩
        case measure => show (t.extract 1 t.size).size < t.size; omega
      · have g48 : ((c.toNat : Int) == 48) = false := by rw [beq_eq_false_iff_ne]; omega
        have g0 : (t.toList == []) = false := ba_nil_beq (by omega)
        have HR := hid (show trimB s = t by
          rw [HT.out, ← HL.out, hr, trimL_head r (fun h => h48 (toNat_eq_48.2 h)), ← hr, mkB_of])
        clear hr hc h48
        go_wp2
        go_ret
        rw [HR.out]
        exact ⟨rfl, rfl⟩
    · by_cases h0 : t.size = 0
      · have g0 : (t.toList == []) = true := by rw [ba_nil h0, Lib.toList_data]; rfl
        have HR := hid (show trimB s = ⟨#[48]⟩ by
          rw [HT.out, ← HL.out, ba_nil h0]; rfl)
        clear h0
        go_wp2
        go_ret
        rw [HR.out]
        exact ⟨rfl, rfl⟩
      · have g0 : (t.toList == []) = false := ba_nil_beq h0
        have HR := hid (show trimB s = t by
          have hl1 : t.data.toList.length = 1 := by rw [← Lib.size_eq]; omega
          obtain ⟨c, hc⟩ := List.length_eq_one_iff.1 hl1
          rw [HT.out, ← HL.out, hc, trimL_one, ← hc, mkB_of])
        go_wp2
        go_ret
        rw [HR.out]
        exact ⟨rfl, rfl⟩
end Go.Proofs.YtommldonooicjaaDoor
