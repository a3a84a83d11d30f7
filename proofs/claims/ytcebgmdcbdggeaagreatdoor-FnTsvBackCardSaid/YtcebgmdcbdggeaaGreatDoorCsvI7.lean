/-
  What is proved here: impl.csvCell writes a cell. The condition 'Mx' says that the library's MaxLen holds an int.
-/
import Derived.Test.YtcebgmdcbdggeaaGreatDoorCsvI6
import Derived.Test.YtcebgmdcbdggeaaGreatDoorCsvLaw
import Derived.Lib.Replace
import Derived.Lib.SplitLaws
namespace Go.Proofs.YtcebgmdcbdggeaaGreatDoor
open Go.RowKit
set_option linter.unusedVariables false
set_option linter.unusedSimpArgs false

theorem idx34_ne {b : UInt8} (l : List UInt8) (h : b ≠ 34) : Lib.index (b :: l) [34] = if Lib.index l [34] == -1 then -1 else Lib.index l [34] + 1 := by
  rw [Lib.index, if_neg]
  simp only [List.isPrefixOf, Bool.and_true]
  intro e
  exact h (beq_iff_eq.1 e).symm
theorem idx34_eq (l : List UInt8) : Lib.index (34 :: l) [34] = ((0 : Nat) : Int) := by
  rw [Lib.index, if_pos (by simp [List.isPrefixOf])]
  rfl
theorem rep_ne {b : UInt8} (new : List UInt8) (h : b ≠ 34) : ∀ (k : Nat) (l : List UInt8), Lib.replaceK [34] new k (b :: l) = b :: Lib.replaceK [34] new k l
  | 0, l => by rw [Lib.replaceK, Lib.replaceK]
  | k + 1, l => by
    have hg := Lib.index_ge l [34]
    by_cases hm : Lib.index l [34] = -1
    · have e : (Lib.index (b :: l) [34] == -1) = true := by rw [idx34_ne l h, hm]; rfl
      have e2 : (Lib.index l [34] == -1) = true := by rw [hm]; rfl
      rw [Lib.replaceK, if_pos e, Lib.replaceK, if_pos e2]
    · obtain ⟨i, hi⟩ : ∃ i : Nat, Lib.index l [34] = i := ⟨(Lib.index l [34]).toNat, by omega⟩
      have e : Lib.index (b :: l) [34] = ((i + 1 : Nat) : Int) := by
        rw [idx34_ne l h, if_neg (by simpa using hm), hi]
        omega
      rw [Lib.replaceK_hit _ _ _ _ _ e, Lib.replaceK_hit _ _ _ _ _ hi]
      simp
theorem rep_eq (new : List UInt8) (k : Nat) (l : List UInt8) : Lib.replaceK [34] new (k + 1) (34 :: l) = new ++ Lib.replaceK [34] new k l := by
  rw [Lib.replaceK_hit _ _ _ _ _ (idx34_eq l)]
  simp
theorem rep_esc : ∀ l : List UInt8, Lib.replaceK [34] [34, 34] (Lib.count l [34]) l = escQ l
  | [] => by rw [escQ]; cases Lib.count [] [34] <;> rfl
  | b :: l => by
    by_cases h : b = 34
    · subst h
      rw [Lib.count_cons_eq, Nat.add_comm, rep_eq, rep_esc l, escQ, if_pos rfl]
      rfl
    · rw [Lib.count_cons_ne b 34 l h, rep_ne _ h, rep_esc l, escQ, if_neg h]
theorem replace_esc (l : List UInt8) : Lib.replaceAll l [34] [34, 34] = escQ l := by
  unfold Lib.replaceAll Lib.replace Lib.replaceNum
  rw [if_neg (by decide), if_pos (Or.inl (by decide))]
  exact rep_esc l
theorem has_spc (s : ByteArray) : hasAny s ⟨#[44, 34, 10, 13]⟩ = s.data.toList.any spc := by
  unfold hasAny
  congr 1
  funext b
  unfold spc
  rw [Bool.eq_iff_iff]
  simp
theorem str_app (a b : ByteArray) : (a ++ b).data.toList = a.data.toList ++ b.data.toList := by rw [ByteArray.data_append, Array.toList_append]
theorem escQ_len : ∀ l : List UInt8, (escQ l).length ≤ 2 * l.length
  | [] => Nat.le_refl _
  | c :: r => by
    have := escQ_len r
    rw [escQ]
    split <;> simp only [List.length_cons] <;> omega
theorem ba_eq (a : ByteArray) (l : List UInt8) (h : a.data.toList = l) : a = mkB l := by
  subst h
  rfl
end Go.Proofs.YtcebgmdcbdggeaaGreatDoor
