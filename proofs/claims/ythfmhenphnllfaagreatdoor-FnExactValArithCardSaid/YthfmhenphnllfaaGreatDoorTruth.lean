/-
  What is proved here: ValTruth of both packages. The conditions 'Tabs' and 'Mx' speak of the library's tables and of its MaxLen.
-/
import Derived.Test.YthfmhenphnllfaaGreatDoorLooks
import Derived.Test.YthfmhenphnllfaaGreatDoorValNum
namespace Go.Proofs.YthfmhenphnllfaaGreatDoor
open Go.RowKit
set_option linter.unusedVariables false
set_option linter.unusedSimpArgs false

noncomputable def numericV (v : Val) : Bool := decide (v.kind = 0) || decide (v.kind = 1) || (decide (v.kind = 3) && looksB v.text)
noncomputable def truthV (v : Val) : Bool := if numericV v = true then !decide ((valNumV v).1.dig.size = 0) else !decide (v.text.size = 0)
noncomputable def truthR (x : Val) : Bool := truthV (soundVal x)
theorem empty_size (t : ByteArray) : t.toList.isEmpty = decide (t.size = 0) := by
  by_cases h : t.size = 0
  · rw [decide_eq_true h, ba_nil h, Lib.toList_data]; rfl
  · rw [decide_eq_false h, ba_nil_empty h]
theorem ok_val0 : valOk val0 = true := by
  unfold val0
  rw [valOk_0]
  unfold isDec0
  have e : (⟨#[]⟩ : ByteArray).toList = [] := by rw [Lib.toList_data]
  simp [e]
theorem sound_ok (x : Val) : valOk (soundVal x) = true := by
  unfold soundVal
  split
  · assumption
  · exact ok_val0
theorem sound_of {v : Val} (h : valOk v = true) : soundVal v = v := by unfold soundVal; rw [if_pos h]
theorem formD_dec0 {neg : Bool} {D : List UInt8} {exp : Int} (hD : digits D) : (formD neg D exp).1 = dec0 ∨ ¬ (formD neg D exp).1.dig.size = 0 := by
  unfold formD
  split
  · exact Or.inl rfl
  · rename_i h0
    simp only
    split
    · exact Or.inl rfl
    · split
      · exact Or.inl rfl
      · right
        show ¬ (mkB _).size = 0
        rw [mkB_size]
        intro h
        exact stripL_ne (cutL_ne hD h0) (List.eq_nil_of_length_eq_zero h)
theorem prefixR_dec0 (s : ByteArray) : (prefixR s).1 = dec0 ∨ ¬ (prefixR s).1.dig.size = 0 := by
  unfold prefixR
  split
  · exact Or.inl rfl
  · split
    · exact Or.inl rfl
    · rename_i hz
      have h := (numP_fits hz).2.1
      exact formD_dec0 (digits_append h.2.1 h.2.2.1)
theorem valNumV_dec0 {v : Val} (hv : valOk v = true) : (valNumV v).1 = dec0 ∨ ¬ (valNumV v).1.dig.size = 0 := by
  unfold valNumV
  split
  · rename_i h1
    by_cases hs : v.num.dig.size = 0
    · left
      obtain ⟨k, ⟨neg, dig, exp⟩, t⟩ := v
      obtain rfl : k = 1 := h1
      rw [valOk_1] at hv
      simp only [Bool.and_eq_true] at hv
      obtain rfl := ba_nil (s := dig) hs
      rw [decOk_nil] at hv
      simp only [Bool.and_eq_true, Bool.not_eq_true', decide_eq_true_eq] at hv
      obtain ⟨⟨rfl, rfl⟩, _⟩ := hv
      rfl
    · exact Or.inr hs
  · split
    · exact prefixR_dec0 _
    · exact Or.inl rfl
theorem truth_zero {v : Val} (hv : valOk v = true) (h : v.kind = 0) : v.text.size = 0 ∧ truthV v = false := by
  obtain ⟨k, d, t⟩ := v
  obtain rfl : k = 0 := h
  rw [valOk_0] at hv
  simp only [Bool.and_eq_true, decide_eq_true_eq] at hv
  refine ⟨?_, ?_⟩
  · show t.size = 0
    rw [Lib.size_eq, ← Lib.toList_data, hv.2]; rfl
  · unfold truthV
    rw [if_pos (by unfold numericV; simp)]
    rfl
end Go.Proofs.YthfmhenphnllfaaGreatDoor
