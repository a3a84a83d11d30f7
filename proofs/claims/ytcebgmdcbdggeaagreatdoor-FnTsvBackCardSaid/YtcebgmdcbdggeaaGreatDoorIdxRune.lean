/-
  What is proved here: strings.IndexRune in a string of ASCII signs, at every rune. No condition.
-/
import Derived.Test.YtcebgmdcbdggeaaGreatDoorNat
import Derived.Test.YtcebgmdcbdggeaaGreatDoorShelfA
import Derived.Laws.RangeString
import Derived.Laws.RangeAny
import Derived.Lib.OthersKept
import Derived.Laws.Concat
import Derived.Laws.Cover1
import Derived.WalkMore
import Derived.IntWalk
namespace Go.Proofs.YtcebgmdcbdggeaaGreatDoor
open Go.RowKit
set_option linter.unusedVariables false
set_option linter.unusedSimpArgs false

def hasB (sp : List UInt8) (c : Int) : Bool := decide (0 ≤ c ∧ c < 128) && sp.contains (UInt8.ofNat c.toNat)
def encN (x : Nat) : ByteArray := if x < 0x80 then ⟨#[UInt8.ofNat x]⟩ else if x < 0x800 then ⟨#[UInt8.ofNat (0xC0 + x / 64), UInt8.ofNat (0x80 + x % 64)]⟩ else if x < 0x10000 then ⟨#[UInt8.ofNat (0xE0 + x / 4096), UInt8.ofNat (0x80 + x / 64 % 64), UInt8.ofNat (0x80 + x % 64)]⟩ else ⟨#[UInt8.ofNat (0xF0 + x / 262144), UInt8.ofNat (0x80 + x / 4096 % 64), UInt8.ofNat (0x80 + x / 64 % 64), UInt8.ofNat (0x80 + x % 64)]⟩
theorem encode_eq (r : Int) : Utf8.encode r = encN (if Utf8.valid r then r.toNat else Utf8.runeError) := rfl
theorem runeErr_eq : Utf8.runeError = 65533 := rfl
theorem bel_dn {B : Nat} {a w : World} (h : Below B a w) (n : Nat) : Below B a (w.drewN n) := h.trans ⟨rfl, rfl, rfl, Nat.le_refl _, fun _ _ => rfl⟩
theorem has_index (l : List UInt8) (b : UInt8) : decide (0 ≤ Lib.indexByte l b) = l.contains b := by
  have h1 := Lib.indexByte_ge l b
  by_cases hm : b ∈ l
  · rw [List.contains_iff_mem.2 hm]
    refine decide_eq_true ?_
    by_cases h2 : Lib.indexByte l b = -1
    · obtain ⟨i, hi, hi'⟩ := List.mem_iff_getElem.1 hm
      exact absurd (by rw [List.getElem?_eq_getElem hi, hi']) (Lib.indexByte_none h2 i)
    · omega
  · have hc : l.contains b = false := by
      cases h : l.contains b with
      | false => rfl
      | true => exact absurd (List.contains_iff_mem.1 h) hm
    rw [hc]
    refine decide_eq_false (fun h2 => ?_)
    obtain ⟨n, hn⟩ := Int.eq_ofNat_of_zero_le h2
    obtain ⟨h3, _⟩ := Lib.indexByte_some hn
    exact hm (List.mem_of_getElem? h3)
theorem hasB_out {l : List UInt8} {r : Int} (h : ¬ (0 ≤ r ∧ r < 128)) : hasB l r = false := by unfold hasB; rw [decide_eq_false h]; rfl
theorem hasB_in {l : List UInt8} {r : Int} (h : 0 ≤ r ∧ r < 128) : hasB l r = l.contains (UInt8.ofNat r.toNat) := by unfold hasB; rw [decide_eq_true h]; rfl
/-- the last byte of a rune that is no ASCII sign -/
theorem enc_last {r : Int} (h : 128 ≤ r) : 2 ≤ (Utf8.encode r).size ∧ (Utf8.encode r).size ≤ 4 ∧ ∀ i (hi : i < (Utf8.encode r).size), i + 1 = (Utf8.encode r).size → 128 ≤ ((Utf8.encode r)[i]'hi).toNat := by
  have key : ∀ x : Nat, 128 ≤ x → 2 ≤ (encN x).size ∧ (encN x).size ≤ 4 ∧ ∀ i (hi : i < (encN x).size), i + 1 = (encN x).size → 128 ≤ ((encN x)[i]'hi).toNat := by
    intro x hx
    unfold encN
    rw [if_neg (by omega)]
    split
    · refine ⟨by show 2 ≤ 2; omega, by show 2 ≤ 4; omega, fun i hi he => ?_⟩
      have : i = 1 := by have h2 : i + 1 = 2 := he; omega
      subst this
      show 128 ≤ (UInt8.ofNat (0x80 + x % 64)).toNat
      rw [UInt8.toNat_ofNat']; omega
    · split
      · refine ⟨by show 2 ≤ 3; omega, by show 3 ≤ 4; omega, fun i hi he => ?_⟩
        have : i = 2 := by have h2 : i + 1 = 3 := he; omega
        subst this
        show 128 ≤ (UInt8.ofNat (0x80 + x % 64)).toNat
        rw [UInt8.toNat_ofNat']; omega
      · refine ⟨by show 2 ≤ 4; omega, by show 4 ≤ 4; omega, fun i hi he => ?_⟩
        have : i = 3 := by have h2 : i + 1 = 4 := he; omega
        subst this
        show 128 ≤ (UInt8.ofNat (0x80 + x % 64)).toNat
        rw [UInt8.toNat_ofNat']; omega
  rw [encode_eq]
  by_cases hv : Utf8.valid r = true
  · rw [if_pos hv]; exact key _ (by omega)
  · rw [if_neg hv, runeErr_eq]; exact key _ (by omega)
end Go.Proofs.YtcebgmdcbdggeaaGreatDoor
