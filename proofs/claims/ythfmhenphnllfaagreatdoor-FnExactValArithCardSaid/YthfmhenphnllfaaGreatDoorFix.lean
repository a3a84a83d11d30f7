/-
  What is proved here: the plain law of FixText; spec.l03Dig and impl.digits. The conditions are on the bytes alone.
-/
import Derived.Test.YthfmhenphnllfaaGreatDoorRound
import Derived.Test.YthfmhenphnllfaaGreatDoorDecText
namespace Go.Proofs.YthfmhenphnllfaaGreatDoor
open Go.RowKit
set_option linter.unusedVariables false
set_option linter.unusedSimpArgs false

theorem trimL_trim (l : List UInt8) : trimL (trimL l) = trimL l := by
  induction l with
  | nil => rfl
  | cons c r ih =>
    by_cases h : c = 48
    · rw [h, trimL_zero]; exact ih
    · rw [trimL_head r h, trimL_head r h]
theorem roundL_trim (l : List UInt8) (n : Nat) : trimL (roundL l n) = roundL l n := by
  unfold roundL finL addL
  split
  · rfl
  · split <;> exact trimL_trim _
def dgB (dig : ByteArray) : ByteArray := if dig.size = 0 then ⟨#[48]⟩ else dig
def fixR (dig : ByteArray) (by' : Int) : List UInt8 := if 0 ≤ by' then trimL ((dgB dig).data.toList ++ zeroL by'.toNat) else roundL (dgB dig).data.toList (-by').toNat
def fixP (r : List UInt8) (pl : Nat) : List UInt8 := zeroL (pl + 1 - r.length) ++ r
def fixS (neg : Bool) (r : List UInt8) : List UInt8 := if neg = true ∧ r ≠ [48] then [45] else []
def fixL (neg : Bool) (r : List UInt8) (pl : Nat) : List UInt8 :=
  if pl = 0 then fixS neg r ++ fixP r pl else fixS neg r ++ (fixP r pl).take ((fixP r pl).length - pl) ++ [46] ++ (fixP r pl).drop ((fixP r pl).length - pl)
def fixT (d : Dec) (pl : Int) : ByteArray := if decOk d = true ∧ 0 ≤ pl ∧ pl ≤ 60 then mkB (fixL d.neg (fixR d.dig (d.exp + pl)) pl.toNat) else ⟨#[]⟩
theorem fixR_len {dig : ByteArray} (hd : dig.size ≤ 20) {by' : Int} (h : -200 ≤ by' ∧ by' ≤ 200) : 1 ≤ (fixR dig by').length ∧ (fixR dig by').length ≤ 300 := by
  have hg : (dgB dig).data.toList.length ≤ 20 := by
    rw [← Lib.size_eq]
    unfold dgB
    split
    · exact (by decide : 1 ≤ 20)
    · exact hd
  unfold fixR
  split
  · have := trimL_len ((dgB dig).data.toList ++ zeroL by'.toNat)
    rw [List.length_append, zeroL_len] at this
    omega
  · rw [← roundL_trim]
    have h1 := trimL_len (roundL (dgB dig).data.toList (-by').toNat)
    refine ⟨h1.2, ?_⟩
    rw [roundL_trim]
    unfold roundL
    split
    · exact (by decide : 1 ≤ 300)
    · unfold finL addL
      split
      · have h2 := trimL_len (outA (trimL (List.take ((dgB dig).data.toList.length - (-by').toNat) (dgB dig).data.toList)) [49] (max (trimL (List.take ((dgB dig).data.toList.length - (-by').toNat) (dgB dig).data.toList)).length [49].length + 1))
        have h3 := trimL_len (List.take ((dgB dig).data.toList.length - (-by').toNat) (dgB dig).data.toList)
        rw [outA_len] at h2
        rw [List.length_take] at h3
        have e1 : ([49] : List UInt8).length = 1 := rfl
        omega
      · have h3 := trimL_len (List.take ((dgB dig).data.toList.length - (-by').toNat) (dgB dig).data.toList)
        rw [List.length_take] at h3
        omega
theorem fixR_trim (dig : ByteArray) (by' : Int) : trimL (fixR dig by') = fixR dig by' := by
  unfold fixR
  split
  · exact trimL_trim _
  · exact roundL_trim _ _
theorem dgB_digits {neg : Bool} {dig : ByteArray} {exp : Int} (h : decOk ⟨neg, dig, exp⟩ = true) : digits (dgB dig).data.toList := by
  unfold dgB
  split
  · intro c hc
    have : c = 48 := by simpa using hc
    rw [this]; decide
  · rename_i hz
    unfold decOk at h
    rw [if_neg hz] at h
    simp only [Bool.and_eq_true] at h
    exact (natOk_iff.1 h.1.1.1.1).1
theorem decOk_small {neg : Bool} {dig : ByteArray} {exp : Int} (h : decOk ⟨neg, dig, exp⟩ = true) : dig.size ≤ 20 ∧ -118 ≤ exp ∧ exp ≤ 100 := by
  by_cases hz : dig.size = 0
  · unfold decOk at h
    rw [if_pos hz] at h
    simp only [Bool.and_eq_true, decide_eq_true_eq] at h
    have := h.2
    try dsimp only at this
    omega
  · have := decOk_facts h hz
    omega
theorem specDig (neg : Bool) (dig : ByteArray) (exp : Int) (w : World) :
    Calls Tryz.prog 72 #[.agg #[.bool neg, .string dig, .int .i64 exp]] w fun e w' => e = .returned (.string (dgB dig)) ∧ Below w.heap.size w w' := by
  by_cases hz : dig.size = 0
  · have HR := hid (show dgB dig = ⟨#[48]⟩ by unfold dgB; rw [if_pos hz])
    have g0 : (dig.toList == []) = true := by rw [ba_nil hz, Lib.toList_data]; rfl
    clear hz
    go_enter Tryz.func72, Tryz.ntmps72
    go_wp2
    go_ret
    rw [HR.out]
    exact ⟨rfl, ext_alloc _ _⟩
  · have HR := hid (show dgB dig = dig by unfold dgB; rw [if_neg hz])
    have g0 : (dig.toList == []) = false := ba_nil_beq hz
    clear hz
    go_enter Tryz.func72, Tryz.ntmps72
    go_wp2
    go_ret
    rw [HR.out]
    exact ⟨rfl, ext_alloc _ _⟩
theorem implDig (neg : Bool) (dig : ByteArray) (exp : Int) (w : World) :
    Calls Tryz.prog 133 #[.agg #[.bool neg, .string dig, .int .i64 exp]] w fun e w' => e = .returned (.string (dgB dig)) ∧ Below w.heap.size w w' := by
  by_cases hz : dig.size = 0
  · have HR := hid (show dgB dig = ⟨#[48]⟩ by unfold dgB; rw [if_pos hz])
    have g0 : (dig.toList == []) = true := by rw [ba_nil hz, Lib.toList_data]; rfl
    clear hz
    go_enter Tryz.func133, Tryz.ntmps133
    go_wp2
    go_ret
    rw [HR.out]
    exact ⟨rfl, ext_alloc _ _⟩
  · have HR := hid (show dgB dig = dig by unfold dgB; rw [if_neg hz])
    have g0 : (dig.toList == []) = false := ba_nil_beq hz
    clear hz
    go_enter Tryz.func133, Tryz.ntmps133
    go_wp2
    go_ret
    rw [HR.out]
    exact ⟨rfl, ext_alloc _ _⟩
theorem fixP_no {r : List UInt8} {pl : Nat} (h : pl + 1 ≤ r.length) : fixP r pl = r := by
  unfold fixP
  rw [show pl + 1 - r.length = 0 by omega]
  rfl
theorem fix_zero {neg : Bool} {r : List UInt8} {PB sg : ByteArray} (h : PB.data.toList = fixP r 0) (hs : fixS neg r = sg.data.toList) : mkB (fixL neg r 0) = sg ++ PB := by
  apply ba_list
  unfold fixL
  rw [if_pos rfl, mkB_data, ByteArray.data_append, Array.toList_append, h, hs]
theorem fix_cut {neg : Bool} {r : List UInt8} {PB sg : ByteArray} {pl m : Nat} (h : PB.data.toList = fixP r pl) (hs : fixS neg r = sg.data.toList) (h0 : ¬ pl = 0) (hm : PB.size - pl = m) :
    mkB (fixL neg r pl) = sg ++ PB.extract 0 m ++ ⟨#[46]⟩ ++ PB.extract m PB.size := by
  have hl : (fixP r pl).length = PB.size := by rw [Lib.size_eq, h]
  apply ba_list
  unfold fixL
  rw [if_neg h0, mkB_data]
  simp only [ByteArray.data_append, Array.toList_append, extL, h, hs, hl, hm]
  rw [List.take_of_length_le (l := (fixP r pl).drop m) (by rw [List.length_drop, hl]; exact Nat.le_refl _)]
  rfl
theorem fixS_no {r : List UInt8} : fixS false r = (⟨#[]⟩ : ByteArray).data.toList := rfl
theorem fixS_zero {r : List UInt8} (h : r = [48]) : fixS true r = (⟨#[]⟩ : ByteArray).data.toList := by unfold fixS; rw [if_neg (fun h' => h'.2 h)]
theorem fixS_yes {r : List UInt8} (h : ¬ r = [48]) : fixS true r = (⟨#[45]⟩ : ByteArray).data.toList := by unfold fixS; rw [if_pos ⟨rfl, h⟩]
end Go.Proofs.YthfmhenphnllfaaGreatDoor
