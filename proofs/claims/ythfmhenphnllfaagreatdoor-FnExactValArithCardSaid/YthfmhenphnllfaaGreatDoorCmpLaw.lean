/-
  What is proved here: plain laws on rows of digits and on numbers: values, sums, differences, comparisons; what is read from a text is sound. No program in sight; no condition.
-/
import Derived.Test.YthfmhenphnllfaaGreatDoorTruth
namespace Go.Proofs.YthfmhenphnllfaaGreatDoor
open Go.RowKit
set_option linter.unusedVariables false
set_option linter.unusedSimpArgs false

def vD (l : List UInt8) : Nat := valD 0 l
theorem vD_cons (c : UInt8) (r : List UInt8) : vD (c :: r) = (c.toNat - 48) * 10 ^ r.length + vD r := by
  unfold vD
  rw [valD_cons, valD_add, Nat.mul_zero, Nat.zero_add]
theorem dgA_cons_lt {c : UInt8} {r : List UInt8} {k : Nat} (h : k < r.length) : dgA (c :: r) k = dgA r k := by
  unfold dgA
  rw [List.reverse_cons, List.getElem?_append_left (by rw [List.length_reverse]; exact h)]
theorem dgA_cons_at (c : UInt8) (r : List UInt8) : dgA (c :: r) r.length = c.toNat - 48 := by
  unfold dgA
  rw [List.reverse_cons, List.getElem?_append_right (by rw [List.length_reverse]; exact Nat.le_refl _), List.length_reverse, Nat.sub_self]
  rfl
/-- the value of the first n places from the end -/
def pv (l : List UInt8) : Nat → Nat
  | 0 => 0
  | k + 1 => pv l k + dgA l k * 10 ^ k
theorem pv_cons_le {c : UInt8} {r : List UInt8} : ∀ k, k ≤ r.length → pv (c :: r) k = pv r k
  | 0, _ => rfl
  | k + 1, h => by rw [pv, pv, pv_cons_le k (by omega), dgA_cons_lt (by omega)]
theorem pv_len : ∀ l : List UInt8, pv l l.length = vD l
  | [] => rfl
  | c :: r => by
    rw [List.length_cons, pv, pv_cons_le _ (Nat.le_refl _), pv_len r, dgA_cons_at, vD_cons, Nat.add_comm]
theorem pv_far {l : List UInt8} : ∀ n, l.length ≤ n → pv l n = vD l
  | 0, h => by
    have : l = [] := List.eq_nil_of_length_eq_zero (by omega)
    subst this
    rfl
  | n + 1, h => by
    by_cases he : l.length = n + 1
    · rw [← he]; exact pv_len l
    · rw [pv, dgA_far (by omega), pv_far n (by omega), Nat.zero_mul, Nat.add_zero]
theorem pv_part (l : List UInt8) (n : Nat) : ∀ m, n ≤ m → ∃ q, pv l m = pv l n + q * 10 ^ n
  | 0, h => ⟨0, by rw [show n = 0 by omega]; simp⟩
  | m + 1, h => by
    by_cases he : n = m + 1
    · exact ⟨0, by rw [he]; simp⟩
    · obtain ⟨q, hq⟩ := pv_part l n m (by omega)
      refine ⟨q + dgA l m * 10 ^ (m - n), ?_⟩
      rw [pv, hq, Nat.add_mul, Nat.mul_assoc, ← Nat.pow_add, Nat.sub_add_cancel (by omega), Nat.add_assoc]
theorem pv_small {l : List UInt8} {n : Nat} (h : vD l < 10 ^ n) : pv l n = vD l := by
  by_cases hl : l.length ≤ n
  · exact pv_far n hl
  · obtain ⟨q, hq⟩ := pv_part l n l.length (by omega)
    rw [pv_len] at hq
    rw [hq] at h ⊢
    cases q with
    | zero => simp
    | succ q =>
      exfalso
      have : 10 ^ n ≤ (q + 1) * 10 ^ n := Nat.le_mul_of_pos_left _ (Nat.succ_pos _)
      omega
theorem digit_nat {n : Nat} (h : n < 10) : (UInt8.ofNat (48 + n)).toNat - 48 = n := by rw [ofNat_toNat (by omega)]; omega
theorem pv_out (a b : List UInt8) : ∀ n, vD (outA a b n) + cyA a b n * 10 ^ n = pv a n + pv b n
  | 0 => by rw [cyA]; rfl
  | n + 1 => by
    have ih := pv_out a b n
    rw [outA, vD_cons, digit_nat (Nat.mod_lt _ (by decide)), outA_len, pv, pv, cyA_succ]
    have e : smA a b n = dgA a n + dgA b n + cyA a b n := rfl
    have h1 := Nat.div_add_mod (smA a b n) 10
    have h2 : (smA a b n % 10) * 10 ^ n + smA a b n / 10 * 10 ^ (n + 1) = smA a b n * 10 ^ n := by
      rw [Nat.pow_succ, Nat.mul_comm (10 ^ n) 10, ← Nat.mul_assoc, ← Nat.add_mul]
      congr 1
      omega
    have h3 : smA a b n * 10 ^ n = dgA a n * 10 ^ n + dgA b n * 10 ^ n + cyA a b n * 10 ^ n := by rw [e, Nat.add_mul, Nat.add_mul]
    omega
theorem vD_trim (l : List UInt8) : vD (trimL l) = vD l := valD_trim l
theorem vD_add {a b : List UInt8} (ha : digits a) (hb : digits b) : vD (addL a b) = vD a + vD b := by
  unfold addL
  rw [vD_trim]
  have h := pv_out a b (max a.length b.length + 1)
  rw [cyA_end ha hb, Nat.zero_mul, Nat.add_zero, pv_far _ (by omega), pv_far _ (by omega)] at h
  exact h
/-- what is owed at a place, and the digits of a difference -/
def owS (a b : List UInt8) : Nat → Nat
  | 0 => 0
  | k + 1 => if dgA a k < dgA b k + owS a b k then 1 else 0
def dfS (a b : List UInt8) (k : Nat) : Nat := dgA a k + 10 * owS a b (k + 1) - dgA b k - owS a b k
def outS (a b : List UInt8) : Nat → List UInt8
  | 0 => []
  | k + 1 => UInt8.ofNat (48 + dfS a b k) :: outS a b k
def subL (a b : List UInt8) : List UInt8 := trimL (outS a b a.length)
theorem owS_le (a b : List UInt8) : ∀ k, owS a b k ≤ 1
  | 0 => by rw [owS]; exact Nat.zero_le _
  | k + 1 => by rw [owS]; split <;> decide
theorem outS_len (a b : List UInt8) : ∀ k, (outS a b k).length = k
  | 0 => rfl
  | k + 1 => by rw [outS, List.length_cons, outS_len a b k]
theorem dfS_le {a b : List UInt8} (ha : digits a) (hb : digits b) (k : Nat) : dfS a b k < 10 ∧ dfS a b k + dgA b k + owS a b k = dgA a k + 10 * owS a b (k + 1) := by
  have h1 := dgA_le ha k
  have h2 := dgA_le hb k
  have h3 := owS_le a b k
  unfold dfS
  rw [owS]
  split <;> omega
theorem pv_outS {a b : List UInt8} (ha : digits a) (hb : digits b) : ∀ n, vD (outS a b n) + pv b n = pv a n + owS a b n * 10 ^ n
  | 0 => by rw [owS]; rfl
  | n + 1 => by
    have ih := pv_outS ha hb n
    obtain ⟨h1, h2⟩ := dfS_le ha hb n
    rw [outS, vD_cons, digit_nat h1, outS_len, pv, pv]
    have h3 : dfS a b n * 10 ^ n + dgA b n * 10 ^ n + owS a b n * 10 ^ n = dgA a n * 10 ^ n + owS a b (n + 1) * 10 ^ (n + 1) := by
      rw [← Nat.add_mul, ← Nat.add_mul, h2, Nat.add_mul, Nat.pow_succ, Nat.mul_comm 10, Nat.mul_assoc, Nat.mul_comm 10]
    omega
theorem vD_lt {l : List UInt8} (h : digits l) : vD l < 10 ^ l.length := valD_lt l h
theorem digits_outS {a b : List UInt8} (ha : digits a) (hb : digits b) : ∀ n, digits (outS a b n)
  | 0 => digits_nil
  | n + 1 => by
    rw [outS]
    refine digits_cons ?_ (digits_outS ha hb n)
    have := (dfS_le ha hb n).1
    rw [isDig_iff, ofNat_toNat (by omega)]
    omega
theorem vD_sub {a b : List UInt8} (ha : digits a) (hb : digits b) (h : vD b ≤ vD a) : vD (subL a b) + vD b = vD a := by
  unfold subL
  rw [vD_trim]
  have h1 := pv_outS ha hb a.length
  have h2 := vD_lt ha
  have h3 := vD_lt (digits_outS ha hb a.length)
  rw [outS_len] at h3
  rw [pv_len, pv_small (l := b) (n := a.length) (by omega)] at h1
  have h4 := owS_le a b a.length
  have h5 : owS a b a.length = 0 := by
    rcases Nat.lt_or_ge (owS a b a.length) 1 with h5 | h5
    · omega
    · have : owS a b a.length = 1 := by omega
      rw [this, Nat.one_mul] at h1
      omega
  rw [h5, Nat.zero_mul, Nat.add_zero] at h1
  exact h1
theorem vD_pos {c : UInt8} {r : List UInt8} (h : digits (c :: r)) (h48 : ¬ c = 48) : 10 ^ r.length ≤ vD (c :: r) := by
  rw [vD_cons]
  have hc := h c (by simp)
  have hn : ¬ c.toNat = 48 := fun h' => h48 (toNat_eq_48.1 h')
  have : 1 * 10 ^ r.length ≤ (c.toNat - 48) * 10 ^ r.length := Nat.mul_le_mul_right _ (by omega)
  omega
theorem trim_zero_iff {l : List UInt8} (h : digits l) : trimL l = [48] ↔ vD l = 0 := by
  rw [← vD_trim]
  rcases trimL_cases l with h1 | ⟨c, r, h1, h48⟩
  · rw [h1]; exact ⟨fun _ => rfl, fun _ => rfl⟩
  · have h2 := vD_pos (c := c) (r := r) (by rw [← h1]; exact digits_trim h) h48
    rw [h1]
    constructor
    · intro h'
      injection h' with e1 _
      exact absurd e1 h48
    · intro h'
      have : 0 < 10 ^ r.length := Nat.pow_pos (by decide)
      omega
theorem less_iff : ∀ {a b : List UInt8}, digits a → digits b → a.length = b.length → (Op.bytesLess a b = true ↔ vD a < vD b)
  | [], [], _, _, _ => by simp [Op.bytesLess, vD, valD]
  | [], _ :: _, _, _, h => by simp at h
  | _ :: _, [], _, _, h => by simp at h
  | x :: a, y :: b, ha, hb, h => by
    have hl : a.length = b.length := by simpa using h
    have hx := ha x (by simp)
    have hy := hb y (by simp)
    have ha' : digits a := fun c hc => ha c (by simp [hc])
    have hb' : digits b := fun c hc => hb c (by simp [hc])
    have ih := less_iff ha' hb' hl
    have h1 := vD_lt ha'
    have h2 := vD_lt hb'
    rw [vD_cons, vD_cons, hl]
    rw [hl] at h1
    rw [Op.bytesLess]
    by_cases hlt : x < y
    · have hn : x.toNat < y.toNat := hlt
      have : (x.toNat - 48 + 1) * 10 ^ b.length ≤ (y.toNat - 48) * 10 ^ b.length := Nat.mul_le_mul_right _ (by omega)
      rw [Nat.add_mul, Nat.one_mul] at this
      simp [hlt]
      omega
    · by_cases he : x = y
      · subst he
        simp [ih]
      · have hn : y.toNat < x.toNat := by
          have h3 : ¬ x.toNat < y.toNat := hlt
          have h4 : ¬ x.toNat = y.toNat := fun h' => he (UInt8.toNat.inj h')
          omega
        have : (y.toNat - 48 + 1) * 10 ^ b.length ≤ (x.toNat - 48) * 10 ^ b.length := Nat.mul_le_mul_right _ (by omega)
        rw [Nat.add_mul, Nat.one_mul] at this
        simp [hlt, he]
        omega
end Go.Proofs.YthfmhenphnllfaaGreatDoor
