/-
  What is proved here: naturals in digits ('natOk'), numbers ('decOk'): what isNat, NatOk, isDec, DecOk return. No condition.
-/
import Derived.Test.YtlfkfofeenakhaaDoorDv
import Derived.Test.YtlfkfofeenakhaaDoorWithin
namespace Go.Proofs.YtlfkfofeenakhaaDoor
open Go.RowKit
set_option linter.unusedVariables false
set_option linter.unusedSimpArgs false

def isDig (c : UInt8) : Bool := decide (48 ≤ c.toNat ∧ c.toNat ≤ 57)
def natOk (l : List UInt8) : Bool := l.all isDig && decide (1 ≤ l.length ∧ l.length ≤ 600) && (decide (l.length = 1) || decide (l.head? ≠ some 48))
theorem isDig_iff {c : UInt8} : isDig c = true ↔ 48 ≤ c.toNat ∧ c.toNat ≤ 57 := by simp [isDig]
theorem natOk_iff {l : List UInt8} : natOk l = true ↔ (∀ c ∈ l, 48 ≤ c.toNat ∧ c.toNat ≤ 57) ∧ 1 ≤ l.length ∧ l.length ≤ 600 ∧ (l.length = 1 ∨ l.head? ≠ some 48) := by
  unfold natOk
  simp only [Bool.and_eq_true, Bool.or_eq_true, decide_eq_true_eq, List.all_eq_true, isDig_iff]
  constructor
  · rintro ⟨⟨h1, h2, h3⟩, h4⟩; exact ⟨h1, h2, h3, h4⟩
  · rintro ⟨h1, h2, h3, h4⟩; exact ⟨⟨h1, h2, h3⟩, h4⟩
theorem size_list (s : ByteArray) : s.size = s.data.toList.length := Lib.size_eq s
theorem get_list (s : ByteArray) (i : Nat) (h : i < s.size) : s.data.toList[i]'(by rw [← size_list]; exact h) = s[i] := rfl
theorem mem_list {s : ByteArray} {P : UInt8 → Prop} (h : ∀ i (hi : i < s.size), P s[i]) : ∀ c ∈ s.data.toList, P c := by
  intro c hc
  obtain ⟨i, hi, rfl⟩ := List.mem_iff_getElem.1 hc
  exact h i (by rw [size_list]; exact hi)
theorem head_list (s : ByteArray) (h : 0 < s.size) : s.data.toList.head? = some s[0] := by
  rw [List.head?_eq_getElem?, List.getElem?_eq_getElem (by rw [← size_list]; exact h)]
  rfl
theorem toNat_eq_48 {c : UInt8} : c.toNat = 48 ↔ c = 48 := by
  constructor
  · intro h; exact UInt8.toNat_inj.1 h
  · rintro rfl; rfl



/-- a number in form -/
def decOk (d : Dec) : Bool :=
  if d.dig.size = 0 then !d.neg && decide (d.exp = 0)
  else natOk d.dig.data.toList && decide (d.dig.size ≤ 20) && decide (d.dig.data.toList.head? ≠ some 48) && decide (d.dig.data.toList.getLast? ≠ some 48) && decide (-98 - (d.dig.size : Int) ≤ d.exp ∧ d.exp ≤ 100 - (d.dig.size : Int))
theorem decOk_nil (neg : Bool) (exp : Int) : decOk ⟨neg, ⟨#[]⟩, exp⟩ = (!neg && decide (exp = 0)) := by
  unfold decOk
  exact if_pos rfl
theorem last_list (s : ByteArray) (h : 0 < s.size) : s.data.toList.getLast? = some (s[s.size - 1]'(by omega)) := by
  rw [List.getLast?_eq_getElem?, List.getElem?_eq_getElem (by rw [← size_list]; omega)]
  simp only [← size_list]
  rfl
theorem decOk_pos {d : Dec} (h : 0 < d.dig.size) : decOk d = (natOk d.dig.data.toList && decide (d.dig.size ≤ 20) && !decide (d.dig[0].toNat = 48) && !decide ((d.dig[d.dig.size - 1]'(by omega)).toNat = 48) && decide (-98 - (d.dig.size : Int) ≤ d.exp ∧ d.exp ≤ 100 - (d.dig.size : Int))) := by
  unfold decOk
  rw [if_neg (by omega), head_list _ h, last_list _ h]
  simp only [ne_eq, Option.some.injEq, toNat_eq_48, decide_not]
theorem ba_nil {s : ByteArray} (h : s.size = 0) : s = ⟨#[]⟩ := by
  cases s with
  | mk a => simp [ByteArray.size] at h; simp [h]
theorem ba_nil_list {s : ByteArray} (h : ¬ s.size = 0) : ¬ s.toList = [] := by
  intro h'
  rw [Lib.toList_data] at h'
  rw [size_list, h'] at h
  exact h rfl
theorem ba_nil_empty {s : ByteArray} (h : ¬ s.size = 0) : s.toList.isEmpty = false := by
  cases hl : s.toList with
  | nil => exact absurd hl (ba_nil_list h)
  | cons a r => rfl
theorem ba_nil_beq {s : ByteArray} (h : ¬ s.size = 0) : (s.toList == []) = false := by
  rw [beq_eq_false_iff_ne]; exact ba_nil_list h


end Go.Proofs.YtlfkfofeenakhaaDoor
