/-
  What is proved here: spec.ValCat and impl.ValCat return the concatenation of two values' texts. The condition 'TP' says that the library's tables lie in the world.
-/
import Derived.Test.YtflleebdfddkfaaDoorValText
namespace Go.Proofs.YtflleebdfddkfaaDoor
open Go.RowKit
set_option linter.unusedVariables false
set_option linter.unusedSimpArgs false

theorem signB_size (d : Dec) : (signB d).size ≤ 1 := by
  unfold signB
  split
  · exact Nat.le_refl 1
  · exact Nat.zero_le _
theorem decT_size {d : Dec} (h : decOk d = true) : (decT d).size ≤ 200 := by
  obtain ⟨neg, dig, exp⟩ := d
  have hs := signB_size ⟨neg, dig, exp⟩
  unfold decT
  by_cases hz : dig.size = 0
  · rw [if_pos hz]; exact (by decide : 1 ≤ 200)
  obtain ⟨h1, h2, h3, _⟩ := decOk_facts h hz
  have hp : decP ⟨neg, dig, exp⟩ = exp + (dig.size : Int) := rfl
  obtain ⟨P, hP⟩ : ∃ P, decP ⟨neg, dig, exp⟩ = P := ⟨_, rfl⟩
  rw [hP] at hp
  rw [hP, if_neg hz]
  dsimp only
  obtain ⟨sg, hsg⟩ : ∃ sg, signB ⟨neg, dig, exp⟩ = sg := ⟨_, rfl⟩
  rw [hsg] at hs
  rw [hsg]
  split
  · have n1 := numB_size (n := P - 1) (by omega)
    have n2 := numB_size (n := -(P - 1)) (by omega)
    have l1 : (⟨#[46]⟩ : ByteArray).size = 1 := rfl
    have l2 : (⟨#[101, 45]⟩ : ByteArray).size = 2 := rfl
    have l3 : (⟨#[101, 43]⟩ : ByteArray).size = 2 := rfl
    split <;> split <;> simp only [ByteArray.size_append, ByteArray.size_extract] <;> omega
  · rename_i hb
    have hb' : -7 ≤ P - 1 ∧ P - 1 ≤ 20 := Decidable.not_not.1 hb
    split
    · simp only [ByteArray.size_append, zeroB_size]; omega
    · have l1 : (⟨#[46]⟩ : ByteArray).size = 1 := rfl
      have l2 : (⟨#[48, 46]⟩ : ByteArray).size = 2 := rfl
      split
      · simp only [ByteArray.size_append, ByteArray.size_extract]; omega
      · simp only [ByteArray.size_append, zeroB_size]; omega
theorem toList_size {s : ByteArray} (h : s.toList = []) : s.size = 0 := by
  rw [Lib.size_eq, ← Lib.toList_data, h]; rfl
theorem valT_size (x : Val) : (valT x).size ≤ 1000 := by
  unfold valT
  split
  · rename_i h
    have hd := sound_dec h
    unfold decTx
    rw [if_pos hd]
    have := decT_size hd
    omega
  · rename_i h
    unfold soundVal at h ⊢
    split
    · rename_i hv
      rw [if_pos hv] at h
      unfold valOk at hv
      split at hv
      · simp only [Bool.and_eq_true, decide_eq_true_eq] at hv
        rw [toList_size hv.2]; omega
      · try rw [if_neg h] at hv
        split at hv
        · simp only [Bool.and_eq_true] at hv
          exact ok_size hv.2
        · exact absurd hv (by decide)
    · exact Nat.zero_le _
def catS (x y : Val) : ByteArray := valT x ++ valT y
def catV (x y : Val) : Val := if okText (catS x y) then ⟨2, dec0, catS x y⟩ else val0
theorem catS_size (x y : Val) : (catS x y).size ≤ 2000 := by
  have h1 := valT_size x
  have h2 := valT_size y
  unfold catS
  rw [ByteArray.size_append]
  omega

end Go.Proofs.YtflleebdfddkfaaDoor
