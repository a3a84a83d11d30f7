/-
  What is proved here: spec.DecText and impl.decText return the text of a number. The condition 'PT' says that the library's table of powers of ten lies in the world.
-/
import Derived.Test.YthfmhenphnllfaaGreatDoorNum
import Derived.Test.YthfmhenphnllfaaGreatDoorZero
import Derived.Laws.Concat
import Derived.Laws.Cover1
import Derived.Deep.QuietTactic
import Derived.BigQuiet
namespace Go.Proofs.YthfmhenphnllfaaGreatDoor
open Go.RowKit
set_option linter.unusedVariables false
set_option linter.unusedSimpArgs false

/-- the sum of a number's exponent and its digits' count -/
def decP (d : Dec) : Int := d.exp + (d.dig.size : Int)
def signB (d : Dec) : ByteArray := if d.neg then ⟨#[45]⟩ else ⟨#[]⟩
def decT (d : Dec) : ByteArray :=
  if d.dig.size = 0 then ⟨#[48]⟩
  else if ¬ (-7 ≤ decP d - 1 ∧ decP d - 1 ≤ 20) then
    (if 1 < d.dig.size then signB d ++ d.dig.extract 0 1 ++ ⟨#[46]⟩ ++ d.dig.extract 1 d.dig.size else signB d ++ d.dig.extract 0 1) ++ (if decP d - 1 < 0 then ⟨#[101, 45]⟩ ++ numB (-(decP d - 1)) else ⟨#[101, 43]⟩ ++ numB (decP d - 1))
  else if 0 ≤ d.exp then signB d ++ d.dig ++ zeroB d.exp.toNat
  else if 0 ≤ decP d - 1 then signB d ++ d.dig.extract 0 (decP d).toNat ++ ⟨#[46]⟩ ++ d.dig.extract (decP d).toNat d.dig.size
  else signB d ++ ⟨#[48, 46]⟩ ++ zeroB (-(decP d)).toNat ++ d.dig
def decTx (d : Dec) : ByteArray := if decOk d then decT d else ⟨#[]⟩
theorem numB_neg {n : Int} (h : n < 0) : numB n = ⟨#[45]⟩ ++ numB (-n) := by
  apply ba_list
  unfold numB Lib.itoa
  rw [if_pos h, if_neg (by omega), show (-n).toNat = n.natAbs by omega]
  simp [mkB]
theorem decOk_facts {neg : Bool} {dig : ByteArray} {exp : Int} (h : decOk ⟨neg, dig, exp⟩ = true) (hz : ¬ dig.size = 0) : dig.size ≤ 20 ∧ -98 - (dig.size : Int) ≤ exp ∧ exp ≤ 100 - (dig.size : Int) ∧ (dig.toList == [48]) = false := by
  unfold decOk at h
  rw [if_neg hz] at h
  simp only [Bool.and_eq_true, decide_eq_true_eq] at h
  obtain ⟨⟨⟨⟨_, h1⟩, h2⟩, _⟩, h3⟩ := h
  refine ⟨h1, h3.1, h3.2, ?_⟩
  rw [beq_eq_false_iff_ne]
  intro h'
  rw [Lib.toList_data] at h'
  exact h2 (by show dig.data.toList.head? = some 48; rw [h']; rfl)

end Go.Proofs.YthfmhenphnllfaaGreatDoor
