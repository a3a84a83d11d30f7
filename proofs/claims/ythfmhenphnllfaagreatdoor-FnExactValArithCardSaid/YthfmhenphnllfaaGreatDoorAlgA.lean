/-
  What is proved here: plain laws on rows of digits: products, quotients, and how a quotient is rounded. No program in sight; no condition.
  What is proved here: impl.natSub returns the difference of two rows of digits. No condition but that the bytes are digits.
  What is proved here: impl.natMul returns the product of two rows of digits. No condition but that the bytes are digits.
  What is proved here: impl.natDiv returns the quotient and the remainder of two rows of digits. The conditions are that the bytes are digits, the divisor in form and not 0.
  What is proved here: spec.l02Div returns the quotient and the remainder of two rows of digits. The conditions are that the bytes are digits and the divisor is not 0.
  What is proved here: spec.l02Mul returns the product of two rows of digits. No condition but that the bytes are digits.
  What is proved here: plain laws on the operations on numbers, and what lies in memory while a function on two numbers runs. No condition.
-/
import Derived.Test.YthfmhenphnllfaaGreatDoorNumOk
import Derived.StillTailTactics
namespace Go.Proofs.YthfmhenphnllfaaGreatDoor
open Go.RowKit
set_option linter.unusedVariables false
set_option linter.unusedSimpArgs false

theorem dig_eq : ∀ (x y : List UInt8), digits x → digits y → x.length = y.length → vD x = vD y → x = y := by
  intro x
  induction x with
  | nil => intro y _ _ h _; exact (List.eq_nil_of_length_eq_zero h.symm).symm
  | cons c r ih =>
    intro y hx hy hl hv
    cases y with
    | nil => simp at hl
    | cons d t =>
      have hl' : r.length = t.length := by simpa using hl
      have hr : digits r := fun z hz => hx z (by simp [hz])
      have ht : digits t := fun z hz => hy z (by simp [hz])
      have h1 := vD_lt hr
      have h2 := vD_lt ht
      rw [vD_cons, vD_cons, hl'] at hv
      rw [hl'] at h1
      have hc := hx c (by simp)
      have hd := hy d (by simp)
      have e1 : c.toNat - 48 = d.toNat - 48 := by
        have a1 : ((c.toNat - 48) * 10 ^ t.length + vD r) / 10 ^ t.length = c.toNat - 48 := by
          rw [Nat.mul_comm, Nat.mul_add_div (Nat.pow_pos (by decide)), Nat.div_eq_of_lt h1, Nat.add_zero]
        have a2 : ((d.toNat - 48) * 10 ^ t.length + vD t) / 10 ^ t.length = d.toNat - 48 := by
          rw [Nat.mul_comm, Nat.mul_add_div (Nat.pow_pos (by decide)), Nat.div_eq_of_lt h2, Nat.add_zero]
        rw [← a1, hv, a2]
      rw [e1] at hv
      have e2 : c = d := UInt8.toNat.inj (by omega)
      rw [e2, ih t hr ht hl' (by omega)]
theorem trim_val {a b : List UInt8} (ha : digits a) (hb : digits b) (h : vD a = vD b) : trimL a = trimL b := by
  rcases Nat.lt_trichotomy (trimL a).length (trimL b).length with h1 | h1 | h1
  · have := trim_short ha hb h1; omega
  · exact trim_eq ha hb h1 h
  · have := trim_short hb ha h1; omega
/-- a natural in digits -/
def natL (v : Nat) : List UInt8 := Lib.decDigits v
theorem natL_small {v : Nat} (h : v < 10) : natL v = [UInt8.ofNat (48 + v)] := by
  unfold natL
  rw [Lib.decDigits, dif_pos h]
theorem natL_step {v : Nat} (h : ¬ v < 10) : natL v = natL (v / 10) ++ [UInt8.ofNat (48 + v % 10)] := by
  unfold natL
  rw [Lib.decDigits, dif_neg h]
theorem natL_zero : natL 0 = [48] := natL_small (by decide)
theorem natL_snoc {v d : Nat} (hv : 0 < v) (hd : d < 10) : natL (10 * v + d) = natL v ++ [UInt8.ofNat (48 + d)] := by
  rw [natL_step (by omega), show (10 * v + d) / 10 = v by omega, show (10 * v + d) % 10 = d by omega]
theorem digits_single {n : Nat} (h : n < 10) : digits [UInt8.ofNat (48 + n)] := by
  intro c hc
  rw [List.mem_singleton.1 hc, ofNat_toNat (by omega)]
  omega
theorem vD_single {n : Nat} (h : n < 10) : vD [UInt8.ofNat (48 + n)] = n := by
  rw [vD_cons, digit_nat h]
  simp [vD, valD]
theorem natL_digits (v : Nat) : digits (natL v) := by
  induction v using Nat.strongRecOn with
  | _ v ih =>
    by_cases h : v < 10
    · rw [natL_small h]; exact digits_single h
    · rw [natL_step h]; exact digits_append (ih _ (by omega)) (digits_single (Nat.mod_lt _ (by decide)))
theorem natL_val (v : Nat) : vD (natL v) = v := by
  induction v using Nat.strongRecOn with
  | _ v ih =>
    by_cases h : v < 10
    · rw [natL_small h, vD_single h]
    · rw [natL_step h, vD_append, ih _ (by omega), vD_single (Nat.mod_lt _ (by decide))]
      simp
      omega
theorem natL_ne (v : Nat) : natL v ≠ [] := by
  by_cases h : v < 10
  · rw [natL_small h]; simp
  · rw [natL_step h]; simp
theorem natL_head : ∀ v : Nat, 0 < v → (natL v).head? ≠ some 48 := by
  intro v
  induction v using Nat.strongRecOn with
  | _ v ih =>
    intro hv
    by_cases h : v < 10
    · rw [natL_small h]
      simp only [List.head?_cons, ne_eq, Option.some.injEq]
      exact ofNat_48 h (by omega)
    · rw [natL_step h]
      have := ih (v / 10) (by omega) (by omega)
      cases hn : natL (v / 10) with
      | nil => exact absurd hn (natL_ne _)
      | cons c r => rw [hn] at this; simpa using this
theorem natL_trim (v : Nat) : trimL (natL v) = natL v := by
  by_cases h : v = 0
  · rw [h, natL_zero]; rfl
  · have := natL_head v (by omega)
    cases hn : natL v with
    | nil => exact absurd hn (natL_ne _)
    | cons c r =>
      rw [hn] at this
      exact trimL_head r (by simpa using this)
/-- digits in form are those of their value -/
theorem trim_nat {l : List UInt8} (h : digits l) : trimL l = natL (vD l) := by
  rw [← natL_trim]
  exact trim_val h (natL_digits _) (natL_val _).symm
theorem nat_of_trim {l : List UInt8} (h : digits l) (ht : trimL l = l) : l = natL (vD l) := by rw [← trim_nat h, ht]
theorem addL_nat {a b : List UInt8} (ha : digits a) (hb : digits b) : addL a b = natL (vD a + vD b) := by
  rw [← vD_add ha hb]
  have h : trimL (addL a b) = addL a b := by unfold addL; exact trimL_trim _
  exact nat_of_trim (digits_add _ _) h
theorem subL_nat {a b : List UInt8} (ha : digits a) (hb : digits b) (h : vD b ≤ vD a) : subL a b = natL (vD a - vD b) := by
  have e := vD_sub ha hb h
  rw [show vD a - vD b = vD (subL a b) by omega]
  exact nat_of_trim (by unfold subL; exact digits_trim (digits_outS ha hb _)) (by unfold subL; exact trimL_trim _)
theorem natL_len_pow {v n : Nat} (hv : v < 10 ^ n) (hn : 1 ≤ n) : (natL v).length ≤ n := by
  by_cases h0 : v = 0
  · rw [h0, natL_zero]; exact hn
  · have hh := natL_head v (by omega)
    cases hl : natL v with
    | nil => exact Nat.zero_le _
    | cons c r =>
      rw [hl] at hh
      have h1 := vD_pos (c := c) (r := r) (by rw [← hl]; exact natL_digits v) (by simpa using hh)
      rw [← hl, natL_val] at h1
      rw [List.length_cons]
      rcases Nat.lt_or_ge r.length n with h2 | h2
      · omega
      · have := Nat.pow_le_pow_right (n := 10) (by decide) h2; omega
theorem natL_pow_len (v : Nat) : v < 10 ^ (natL v).length := by
  have := vD_lt (natL_digits v)
  rwa [natL_val] at this
theorem natL_len_mono {u v : Nat} (h : u ≤ v) : (natL u).length ≤ (natL v).length :=
  natL_len_pow (Nat.lt_of_le_of_lt h (natL_pow_len v)) (List.length_pos_iff.2 (natL_ne v))
theorem natL_len_lo {v n : Nat} (hv : 10 ^ n ≤ v) : n + 1 ≤ (natL v).length := by
  have h := natL_pow_len v
  rcases Nat.lt_or_ge n (natL v).length with h2 | h2
  · exact h2
  · have := Nat.pow_le_pow_right (n := 10) (by decide) h2; omega

/-! ### Products -/
def gS (S : List Nat) (k : Nat) : Nat := S.getD k 0
/-- the value of a row of sums, the first n of them -/
def pvS (S : List Nat) : Nat → Nat
  | 0 => 0
  | k + 1 => pvS S k + gS S k * 10 ^ k
theorem gS_set (S : List Nat) (m k x : Nat) (hm : m < S.length) : gS (S.set m x) k = if k = m then x else gS S k := by
  unfold gS
  rw [List.getD_eq_getElem?_getD, List.getD_eq_getElem?_getD, List.getElem?_set]
  by_cases h : k = m
  · subst h; simp [hm]
  · rw [if_neg (fun e => h e.symm), if_neg h]
theorem pvS_set (S : List Nat) (m d : Nat) (hm : m < S.length) : ∀ n, pvS (S.set m (gS S m + d)) n = pvS S n + if m < n then d * 10 ^ m else 0
  | 0 => by rw [pvS, pvS, if_neg (by omega)]
  | n + 1 => by
    rw [pvS, pvS, pvS_set S m d hm n, gS_set S m n _ hm]
    by_cases h : n = m
    · subst h
      rw [if_pos rfl, if_neg (by omega), if_pos (by omega), Nat.add_mul]
      omega
    · rw [if_neg h]
      by_cases h2 : m < n
      · rw [if_pos h2, if_pos (by omega)]; omega
      · rw [if_neg h2, if_neg (by omega)]; omega
theorem pvS_zero (m : Nat) : ∀ n, pvS (List.replicate m 0) n = 0
  | 0 => rfl
  | n + 1 => by
    rw [pvS, pvS_zero m n]
    have : gS (List.replicate m 0) n = 0 := by
      unfold gS
      rw [List.getD_eq_getElem?_getD, List.getElem?_replicate]
      split <;> rfl
    rw [this, Nat.zero_mul]
def cyM (S : List Nat) : Nat → Nat
  | 0 => 0
  | k + 1 => (cyM S k + gS S k) / 10
def outM (S : List Nat) : Nat → List UInt8
  | 0 => []
  | k + 1 => UInt8.ofNat (48 + (cyM S k + gS S k) % 10) :: outM S k
theorem outM_len (S : List Nat) : ∀ k, (outM S k).length = k
  | 0 => rfl
  | k + 1 => by rw [outM, List.length_cons, outM_len S k]
theorem outM_digits (S : List Nat) : ∀ k, digits (outM S k)
  | 0 => digits_nil
  | k + 1 => by
    rw [outM]
    refine digits_cons ?_ (outM_digits S k)
    have := Nat.mod_lt (cyM S k + gS S k) (show 0 < 10 by decide)
    rw [isDig_iff, ofNat_toNat (by omega)]
    omega
theorem cyM_le {S : List Nat} {M : Nat} (h : ∀ k, gS S k ≤ M) : ∀ k, cyM S k ≤ M
  | 0 => by rw [cyM]; exact Nat.zero_le _
  | k + 1 => by
    have h1 := cyM_le h k
    have h2 := h k
    rw [cyM]
    omega
theorem pv_outM (S : List Nat) : ∀ n, vD (outM S n) + cyM S n * 10 ^ n = pvS S n
  | 0 => by rw [cyM, pvS]; rfl
  | n + 1 => by
    have ih := pv_outM S n
    rw [outM, vD_cons, digit_nat (Nat.mod_lt _ (by decide)), outM_len, pvS, cyM]
    have h1 := Nat.div_add_mod (cyM S n + gS S n) 10
    have h2 : ((cyM S n + gS S n) % 10) * 10 ^ n + (cyM S n + gS S n) / 10 * 10 ^ (n + 1) = (cyM S n + gS S n) * 10 ^ n := by
      rw [Nat.pow_succ, Nat.mul_comm (10 ^ n) 10, ← Nat.mul_assoc, ← Nat.add_mul]
      congr 1
      omega
    have h3 : (cyM S n + gS S n) * 10 ^ n = cyM S n * 10 ^ n + gS S n * 10 ^ n := Nat.add_mul _ _ _
    omega
theorem mul_out {a b : List UInt8} (ha : digits a) (hb : digits b) {S : List Nat} {n : Nat} (hn : a.length + b.length ≤ n) (hS : pvS S n = vD a * vD b) :
    trimL (outM S n) = natL (vD a * vD b) := by
  have h1 := pv_outM S n
  have h2 : vD a * vD b < 10 ^ n := by
    have a1 := vD_lt ha
    have b1 := vD_lt hb
    have : vD a * vD b < 10 ^ a.length * 10 ^ b.length := Nat.mul_lt_mul'' a1 b1
    rw [← Nat.pow_add] at this
    exact Nat.lt_of_lt_of_le this (Nat.pow_le_pow_right (by decide) hn)
  have h3 : cyM S n = 0 := by
    rcases Nat.eq_zero_or_pos (cyM S n) with h | h
    · exact h
    · have : 1 * 10 ^ n ≤ cyM S n * 10 ^ n := Nat.mul_le_mul_right _ h
      omega
  rw [h3, Nat.zero_mul, Nat.add_zero] at h1
  rw [trim_nat (outM_digits S n), h1, hS]

/-! ### Quotients -/
def dvX (a : List UInt8) (B i : Nat) : Nat := 10 * (vD (a.take i) % B) + ((a.getD i 0).toNat - 48)
def dvQ (a : List UInt8) (B : Nat) : Nat → List UInt8
  | 0 => []
  | i + 1 => dvQ a B i ++ [UInt8.ofNat (48 + dvX a B i / B)]
theorem dvQ_len (a : List UInt8) (B : Nat) : ∀ i, (dvQ a B i).length = i
  | 0 => rfl
  | i + 1 => by rw [dvQ, List.length_append, dvQ_len a B i]; rfl
theorem take_get {a : List UInt8} {i : Nat} (h : i < a.length) : a.take (i + 1) = a.take i ++ [a.getD i 0] := by
  rw [List.take_succ_eq_append_getElem h, List.getD_eq_getElem?_getD, List.getElem?_eq_getElem h]
  rfl
theorem take_val {a : List UInt8} (i : Nat) (h : i < a.length) : vD (a.take (i + 1)) = 10 * vD (a.take i) + ((a.getD i 0).toNat - 48) := by
  rw [take_get h, vD_append]
  simp only [List.length_singleton, Nat.pow_one, vD_cons, List.length_nil, Nat.pow_zero, Nat.mul_one]
  have : vD [] = 0 := rfl
  omega
theorem dv_mod {a : List UInt8} {B i : Nat} (h : i < a.length) : vD (a.take (i + 1)) % B = dvX a B i % B := by
  rw [take_val i h]
  unfold dvX
  rw [Nat.add_mod, Nat.mul_mod, Nat.add_mod (10 * _), Nat.mul_mod 10 (_ % B), Nat.mod_mod]
theorem dv_dig {a : List UInt8} (ha : digits a) (i : Nat) : (a.getD i 0).toNat - 48 ≤ 9 := by
  rw [List.getD_eq_getElem?_getD]
  by_cases h : i < a.length
  · rw [List.getElem?_eq_getElem h]
    have := ha a[i] (List.getElem_mem _)
    show a[i].toNat - 48 ≤ 9
    omega
  · rw [List.getElem?_eq_none (by omega)]
    decide
theorem dv_lt {a : List UInt8} (ha : digits a) {B : Nat} (hB : 0 < B) (i : Nat) : dvX a B i / B < 10 := by
  have h1 := dv_dig ha i
  have h2 := Nat.mod_lt (vD (a.take i)) hB
  unfold dvX
  rw [Nat.div_lt_iff_lt_mul hB]
  omega
theorem dvQ_digits {a : List UInt8} (ha : digits a) {B : Nat} (hB : 0 < B) : ∀ i, digits (dvQ a B i)
  | 0 => digits_nil
  | i + 1 => by rw [dvQ]; exact digits_append (dvQ_digits ha hB i) (digits_single (dv_lt ha hB i))
theorem dvQ_val {a : List UInt8} (ha : digits a) {B : Nat} (hB : 0 < B) : ∀ i, i ≤ a.length → vD (dvQ a B i) = vD (a.take i) / B
  | 0, _ => by simp [dvQ, vD, valD]
  | i + 1, h => by
    rw [dvQ, vD_append, vD_single (dv_lt ha hB i), dvQ_val ha hB i (by omega), take_val i (by omega)]
    unfold dvX
    have e := Nat.div_add_mod (vD (a.take i)) B
    rw [show 10 * vD (a.take i) + ((a.getD i 0).toNat - 48) = B * (10 * (vD (a.take i) / B)) + (10 * (vD (a.take i) % B) + ((a.getD i 0).toNat - 48)) by
      rw [Nat.mul_left_comm]; omega]
    rw [Nat.mul_add_div hB]
    simp
    omega
theorem div_out {a : List UInt8} (ha : digits a) {B : Nat} (hB : 0 < B) : trimL (dvQ a B a.length) = natL (vD a / B) := by
  rw [trim_nat (dvQ_digits ha hB _), dvQ_val ha hB _ (Nat.le_refl _), List.take_length]

/-! ### Rounding -/
/-- V over 10^n, rounded half to even; 'fr': there is something more behind V -/
def rV (V : Nat) (fr : Bool) (n : Nat) : Nat :=
  if 10 ^ n < 2 * (V % 10 ^ n) ∨ (2 * (V % 10 ^ n) = 10 ^ n ∧ (fr = true ∨ V / 10 ^ n % 2 = 1)) then V / 10 ^ n + 1 else V / 10 ^ n
theorem dg0 (l : List UInt8) (h : digits l) : dgA l 0 = vD l % 10 := by
  by_cases hl : l.length = 0
  · have : l = [] := List.eq_nil_of_length_eq_zero hl
    subst this
    rfl
  · obtain ⟨q, hq⟩ := pv_part l 1 l.length (by omega)
    have h9 := dgA_le h 0
    rw [pv_len, pv, pv] at hq
    omega
theorem vD_half {n : Nat} (h : 1 ≤ n) : 2 * vD (halfL n) = 10 ^ n ∧ (halfL n).length = n ∧ digits (halfL n) := by
  unfold halfL
  refine ⟨?_, by rw [List.length_cons, zeroL_len]; omega, digits_cons (by decide) (digits_zeros _)⟩
  rw [vD_cons, vD_zeros, zeroL_len]
  obtain ⟨m, rfl⟩ : ∃ m, n = m + 1 := ⟨n - 1, by omega⟩
  rw [Nat.add_sub_cancel, Nat.pow_succ, Nat.add_zero]
  show 2 * (5 * 10 ^ m) = _
  omega
theorem roundL_val {l : List UInt8} (hd : digits l) {n : Nat} (h1 : 1 ≤ n) (hn : n ≤ l.length) : roundL l n = natL (rV (vD l) false n) := by
  have hsp := List.take_append_drop (l.length - n) l
  have hdl : (l.drop (l.length - n)).length = n := by rw [List.length_drop]; omega
  have hdd : digits (l.drop (l.length - n)) := fun c hc => hd c (List.mem_of_mem_drop hc)
  have htd := digits_take hd (l.length - n)
  have hv := vD_append (l.take (l.length - n)) (l.drop (l.length - n))
  rw [hsp, hdl] at hv
  have hlt := vD_lt hdd
  rw [hdl] at hlt
  obtain ⟨hh1, hh2, hh3⟩ := vD_half h1
  unfold roundL
  rw [if_neg (by omega)]
  unfold finL upB rV
  have hp : 0 < 10 ^ n := Nat.pow_pos (by decide)
  have hmod : vD l % 10 ^ n = vD (l.drop (l.length - n)) := by rw [hv, Nat.mul_comm, Nat.mul_add_mod, Nat.mod_eq_of_lt hlt]
  have hdiv : vD l / 10 ^ n = vD (l.take (l.length - n)) := by rw [hv, Nat.mul_comm, Nat.mul_add_div hp, Nat.div_eq_of_lt hlt, Nat.add_zero]
  rw [hmod, hdiv]
  have hq := digits_trim htd
  have hqv := vD_trim (l.take (l.length - n))
  have hodd : dgA (trimL (l.take (l.length - n))) 0 % 2 = vD (l.take (l.length - n)) % 2 := by rw [dg0 _ hq, hqv]; omega
  have hless := less_iff hdd hh3 (by rw [hdl, hh2])
  have heq : (l.drop (l.length - n) == halfL n) = decide (vD (l.drop (l.length - n)) = vD (halfL n)) := by
    rw [Bool.eq_iff_iff, beq_iff_eq, decide_eq_true_eq]
    exact ⟨fun h => by rw [h], fun h => dig_eq _ _ hdd hh3 (by rw [hdl, hh2]) h⟩
  rw [heq, hodd]
  obtain ⟨lb, hlb⟩ : ∃ b, Op.bytesLess (l.drop (l.length - n)) (halfL n) = b := ⟨_, rfl⟩
  rw [hlb] at hless
  rw [hlb]
  have fin0 : trimL (l.take (l.length - n)) = natL (vD (l.take (l.length - n))) := trim_nat htd
  have fin1 : addL (trimL (l.take (l.length - n))) [49] = natL (vD (l.take (l.length - n)) + 1) := by
    rw [addL_nat hq digits_one, hqv]
    rfl
  rcases Nat.lt_trichotomy (vD (l.drop (l.length - n))) (vD (halfL n)) with h | h | h
  · have : lb = true := hless.2 h
    rw [this, if_neg (by simp; omega), if_neg (by omega), fin0]
  · have : lb = false := by rw [Bool.eq_false_iff]; intro h'; have := hless.1 h'; omega
    rw [this, decide_eq_true h]
    by_cases ho : vD (l.take (l.length - n)) % 2 = 1
    · rw [if_pos (by simp [ho]), if_pos (by omega), fin1]
    · rw [if_neg (by simp; omega), if_neg (by simp; omega), fin0]
  · have : lb = false := by rw [Bool.eq_false_iff]; intro h'; have := hless.1 h'; omega
    rw [this, decide_eq_false (by omega), if_pos (by simp), if_pos (by omega), fin1]
theorem rV_one {V n : Nat} (h : 1 ≤ n) : rV (10 * V + 1) false (n + 1) = rV V true n := by
  have hp : 0 < 10 ^ n := Nat.pow_pos (by decide)
  have hd : (10 * V + 1) / 10 ^ (n + 1) = V / 10 ^ n := by
    rw [Nat.pow_succ, Nat.mul_comm (10 ^ n) 10, ← Nat.div_div_eq_div_mul]
    congr 1
    omega
  have hm : (10 * V + 1) % 10 ^ (n + 1) = 10 * (V % 10 ^ n) + 1 := by
    have e1 := Nat.div_add_mod (10 * V + 1) (10 ^ (n + 1))
    have e2 := Nat.div_add_mod V (10 ^ n)
    rw [hd] at e1
    have e3 : 10 ^ (n + 1) * (V / 10 ^ n) = 10 * (10 ^ n * (V / 10 ^ n)) := by rw [Nat.pow_succ, Nat.mul_comm (10 ^ n) 10, Nat.mul_assoc]
    omega
  have hev : ∃ m, 10 ^ n = 2 * m := by
    obtain ⟨k, rfl⟩ : ∃ k, n = k + 1 := ⟨n - 1, by omega⟩
    exact ⟨5 * 10 ^ k, by rw [Nat.pow_succ]; omega⟩
  obtain ⟨m, hm2⟩ := hev
  unfold rV
  rw [hd, hm, Nat.pow_succ]
  have : ((10 ^ n * 10 < 2 * (10 * (V % 10 ^ n) + 1) ∨ (2 * (10 * (V % 10 ^ n) + 1) = 10 ^ n * 10 ∧ (false = true ∨ V / 10 ^ n % 2 = 1))) ↔ (10 ^ n < 2 * (V % 10 ^ n) ∨ (2 * (V % 10 ^ n) = 10 ^ n ∧ (true = true ∨ V / 10 ^ n % 2 = 1)))) := by
    generalize V / 10 ^ n % 2 = o
    generalize V % 10 ^ n = x at *
    rw [hm2]
    simp
    omega
  simp only [this]
theorem rV_thousand {V t n : Nat} (fr : Bool) (h : 1 ≤ n) (ht : t < 1000) : rV (1000 * V + t) fr (n + 3) = rV V (fr || decide (t ≠ 0)) n := by
  have hp : 0 < 10 ^ n := Nat.pow_pos (by decide)
  have hpw : 10 ^ (n + 3) = 1000 * 10 ^ n := by rw [Nat.pow_add, Nat.mul_comm]
  have hd : (1000 * V + t) / 10 ^ (n + 3) = V / 10 ^ n := by
    rw [hpw, ← Nat.div_div_eq_div_mul]
    congr 1
    omega
  have hm : (1000 * V + t) % 10 ^ (n + 3) = 1000 * (V % 10 ^ n) + t := by
    have e1 := Nat.div_add_mod (1000 * V + t) (10 ^ (n + 3))
    have e2 := Nat.div_add_mod V (10 ^ n)
    rw [hd] at e1
    have e3 : 10 ^ (n + 3) * (V / 10 ^ n) = 1000 * (10 ^ n * (V / 10 ^ n)) := by rw [hpw, Nat.mul_assoc]
    omega
  have hev : ∃ m, 10 ^ n = 2 * m := by
    obtain ⟨k, rfl⟩ : ∃ k, n = k + 1 := ⟨n - 1, by omega⟩
    exact ⟨5 * 10 ^ k, by rw [Nat.pow_succ]; omega⟩
  obtain ⟨m, hm2⟩ := hev
  unfold rV
  rw [hd, hm, hpw]
  have : ((1000 * 10 ^ n < 2 * (1000 * (V % 10 ^ n) + t) ∨ (2 * (1000 * (V % 10 ^ n) + t) = 1000 * 10 ^ n ∧ (fr = true ∨ V / 10 ^ n % 2 = 1))) ↔ (10 ^ n < 2 * (V % 10 ^ n) ∨ (2 * (V % 10 ^ n) = 10 ^ n ∧ ((fr || decide (t ≠ 0)) = true ∨ V / 10 ^ n % 2 = 1)))) := by
    generalize V / 10 ^ n % 2 = o
    generalize V % 10 ^ n = x at *
    rw [hm2]
    simp only [Bool.or_eq_true, decide_eq_true_eq]
    constructor
    · rintro (h1 | ⟨h1, h2⟩)
      · by_cases h3 : 2 * m < 2 * x
        · exact Or.inl h3
        · exact Or.inr ⟨by omega, Or.inl (Or.inr (by omega))⟩
      · have : t = 0 := by omega
        exact Or.inr ⟨by omega, by rcases h2 with h2 | h2; exact Or.inl (Or.inl h2); exact Or.inr h2⟩
    · rintro (h1 | ⟨h1, h2⟩)
      · exact Or.inl (by omega)
      · by_cases h3 : t = 0
        · exact Or.inr ⟨by omega, by rcases h2 with (h2 | h2) | h2; exact Or.inl h2; exact absurd h3 h2; exact Or.inr h2⟩
        · exact Or.inl (by omega)
  simp only [this]
/-- what is in form, off the rounded digits -/
def formG (neg : Bool) (V : Nat) (e0 : Int) : Dec × Int :=
  let R := natL V
  let S := stripL R
  let e : Int := e0 + ((R.length : Int) - (S.length : Int))
  if 99 < e + (S.length : Int) - 1 then (dec0, 1) else if e + (S.length : Int) - 1 < -99 then (dec0, 0) else (⟨neg, mkB S, e⟩, 0)
theorem formD_big {neg : Bool} {l : List UInt8} {exp : Int} (hd : digits l) {n : Nat} (h1 : 1 ≤ n) (hl : (natL (vD l)).length = n + 20) : formD neg l exp = formG neg (rV (vD l) false n) (exp + (n : Int)) := by
  have ht := trim_nat hd
  unfold formD formG
  have h0 : ¬ trimL l = [48] := by
    rw [ht]
    intro h
    rw [h] at hl
    simp at hl
  have hc : cutL (trimL l) = natL (rV (vD l) false n) := by
    unfold cutL
    rw [ht, hl, if_pos (by omega), show n + 20 - 20 = n by omega, roundL_val (natL_digits _) h1 (by rw [hl]; omega), natL_val]
  rw [if_neg h0]
  simp only [hc]
  rw [ht, hl, show n + 20 - 20 = n by omega]
theorem natL_thousand {V t : Nat} (hV : 0 < V) (ht : t < 1000) : (natL (1000 * V + t)).length = (natL V).length + 3 := by
  rw [show 1000 * V + t = 10 * (10 * (10 * V + t / 100) + t / 10 % 10) + t % 10 by omega, natL_snoc (by omega) (by omega), natL_snoc (by omega) (by omega), natL_snoc (by omega) (by omega)]
  simp
/-- the two ways to a quotient in form -/
theorem quot_form {neg : Bool} {N B : Nat} (hB : 0 < B) (hbig : 10 ^ 21 ≤ N / B) (e : Int) :
    (if (1000 * N) % B ≠ 0 then formD neg (natL (1000 * N / B) ++ [49]) (e - 4) else formD neg (natL (1000 * N / B)) (e - 3)) =
    (if N % B ≠ 0 then formD neg (natL (N / B) ++ [49]) (e - 1) else formD neg (natL (N / B)) e) := by
  obtain ⟨V, hV⟩ : ∃ V, N / B = V := ⟨_, rfl⟩
  obtain ⟨R, hR⟩ : ∃ R, N % B = R := ⟨_, rfl⟩
  have hRB : R < B := by rw [← hR]; exact Nat.mod_lt _ hB
  have hN : N = B * V + R := by rw [← hV, ← hR]; exact (Nat.div_add_mod N B).symm
  have hq : 1000 * N / B = 1000 * V + 1000 * R / B := by
    rw [hN, show 1000 * (B * V + R) = B * (1000 * V) + 1000 * R by rw [Nat.mul_add, Nat.mul_left_comm], Nat.mul_add_div hB]
  have hr : 1000 * N % B = 1000 * R % B := by
    rw [hN, show 1000 * (B * V + R) = B * (1000 * V) + 1000 * R by rw [Nat.mul_add, Nat.mul_left_comm], Nat.mul_add_mod]
  obtain ⟨t, ht⟩ : ∃ t, 1000 * R / B = t := ⟨_, rfl⟩
  obtain ⟨u, hu⟩ : ∃ u, 1000 * R % B = u := ⟨_, rfl⟩
  have htu : 1000 * R = B * t + u := by rw [← ht, ← hu]; exact (Nat.div_add_mod _ _).symm
  have ht1 : t < 1000 := by
    rw [← ht, Nat.div_lt_iff_lt_mul hB]
    exact (Nat.mul_lt_mul_left (by decide)).2 hRB
  have hV21 : 10 ^ 21 ≤ V := by rw [← hV]; exact hbig
  have hV0 : 0 < V := Nat.lt_of_lt_of_le (by decide) hV21
  have hlen := natL_len_lo hV21
  obtain ⟨n, hn⟩ : ∃ n, (natL V).length = n + 20 := ⟨(natL V).length - 20, by omega⟩
  have hn1 : 1 ≤ n := by omega
  rw [hq, hr, ht, hu, hV, hR]
  have hdone : digits [49] := digits_one
  have one : ∀ W : Nat, 0 < W → natL W ++ [49] = natL (10 * W + 1) := fun W hW => (natL_snoc (d := 1) hW (by decide)).symm
  have l1 : (natL (10 * V + 1)).length = n + 1 + 20 := by rw [natL_snoc hV0 (by decide), List.length_append, hn, List.length_singleton]
  have l2 : (natL (1000 * V + t)).length = n + 3 + 20 := by rw [natL_thousand hV0 ht1, hn]
  have l3 : (natL (10 * (1000 * V + t) + 1)).length = n + 3 + 1 + 20 := by rw [natL_snoc (by omega) (by decide), List.length_append, l2, List.length_singleton]
  have big : ∀ (W m : Nat) (x : Int), 1 ≤ m → (natL W).length = m + 20 → formD neg (natL W) x = formG neg (rV W false m) (x + (m : Int)) := fun W m x h1 h2 => by
    have := formD_big (neg := neg) (exp := x) (natL_digits W) h1 (by rw [natL_val]; exact h2)
    rwa [natL_val] at this
  have hR0 : R ≠ 0 ↔ (u ≠ 0 ∨ t ≠ 0) := by
    constructor
    · intro h
      rcases Nat.eq_zero_or_pos u with h1 | h1
      · right; intro h2; rw [h1, h2] at htu; omega
      · left; omega
    · rintro h rfl
      have e0 : B * t + u = 0 := by omega
      have e1 : u = 0 := by omega
      have e2 : B * t = 0 := by omega
      rcases Nat.mul_eq_zero.1 e2 with h3 | h3
      · omega
      · rcases h with h | h
        · exact h e1
        · exact h h3
  have rhs : (if R ≠ 0 then formD neg (natL V ++ [49]) (e - 1) else formD neg (natL V) e) = formG neg (rV V (decide (R ≠ 0)) n) (e + (n : Int)) := by
    by_cases h : R ≠ 0
    · rw [if_pos h, one V hV0, big _ _ _ (by omega) l1, rV_one hn1, decide_eq_true h]
      congr 1
      omega
    · rw [if_neg h, big _ _ _ hn1 hn, decide_eq_false h]
  rw [rhs]
  by_cases hu0 : u ≠ 0
  · rw [if_pos hu0, one _ (by omega), big _ _ _ (by omega) l3, rV_one (by omega), rV_thousand _ hn1 ht1, decide_eq_true (hR0.2 (Or.inl hu0))]
    simp only [Bool.true_or]
    congr 1
    omega
  · rw [if_neg hu0, big _ _ _ (by omega) l2, rV_thousand _ hn1 ht1, Bool.false_or]
    have : decide (t ≠ 0) = decide (R ≠ 0) := by
      rw [decide_eq_decide, hR0]
      exact ⟨fun h => Or.inr h, fun h => h.resolve_left hu0⟩
    rw [this]
    congr 1
    omega
end Go.Proofs.YthfmhenphnllfaaGreatDoor

namespace Go.Proofs.YthfmhenphnllfaaGreatDoor
open Go.RowKit
set_option linter.unusedVariables false
set_option linter.unusedSimpArgs false

theorem info_u8S : (Tryz.prog.info? 5).map (fun i => (i.zero.isSome, i.size, i.bytes)) = some (true, 1, 1) := by kernel_rfl
set_option maxHeartbeats 8000000 in
set_option maxRecDepth 100000 in
theorem implSub (a b : ByteArray) (w : World) (hda : digits a.data.toList) (hdb : digits b.data.toList) (ha : a.size ≤ 5000) (hb : b.size ≤ 5000) :
    Calls Tryz.prog 131 #[.string a, .string b] w fun e w' => e = .returned (.string (mkB (subL a.data.toList b.data.toList))) ∧ Below w.heap.size w w' := by
  obtain ⟨la, hla⟩ : ∃ l, a.data.toList = l := ⟨_, rfl⟩
  obtain ⟨lb, hlb⟩ : ∃ l, b.data.toList = l := ⟨_, rfl⟩
  have hsa : a.size = la.length := by rw [Lib.size_eq, hla]
  have CA := hid (fun (k : Nat) (w : World) (hk : k ≤ 1000000) => implDigit a k w hda (by omega) hk)
  have CB := hid (fun (k : Nat) (w : World) (hk : k ≤ 1000000) => implDigit b k w hdb (by omega) hk)
  rw [hla] at hda CA
  rw [hlb] at hdb CB
  rw [hla, hlb]
  have HDA := hid hda
  have HDB := hid hdb
  have HAL := hid (show subL la lb = trimL (outS la lb a.size) by unfold subL; rw [hsa])
  clear hda hdb hla hlb hsa
  obtain ⟨n, hn⟩ : ∃ n, a.size = n := ⟨_, rfl⟩
  rw [hn] at HAL ha
  have HN := hid hn
  obtain ⟨zc, hzl, hmk⟩ := make_cells (P := Tryz.prog) (t := 50) (e := 5) (n := 1) (bytes := 1) Tryz.underlying50 info_u8S n (by omega) (by omega)
  go_enter Tryz.func131, Tryz.ntmps131
  go_wp2
  clear hmk hn
  go_loopw [7, 15] (fun ow ki wr => ∃ (k : Nat) (Z : List Value), k ≤ n ∧ ki = .int .i64 (k : Int) ∧ ow = .int .i64 (owS la lb k : Int) ∧ Z.length = n - k ∧ wr.heap[w.heap.size]? = some (.cells (Z ++ byteVals (outS la lb k)).toArray 5 (0, 0)) ∧ Below w.heap.size w wr ∧ w.heap.size < wr.heap.size) (fun _ ki _ => n - (intOf ki).toNat)
  case atStart => exact ⟨0, zc, Nat.zero_le _, rfl, by rw [owS]; rfl, by simpa using hzl, by simpa [outS, byteVals] using heap_alloc_new w _, ext_alloc _ _, by simp⟩
  case round =>
    obtain ⟨k, Z, hk, rfl, rfl, hZ, hg, hbl, hsz⟩ := hrel
    by_cases hlt : k < n
    · have hlti : (k : Int) < (n : Int) := by omega
      have hcy := owS_le la lb k
      obtain ⟨hd10, hdf⟩ := dfS_le HDA.out HDB.out k
      have hda9 := dgA_le HDA.out k
      have hdb9 := dgA_le HDB.out k
      have HO := hid (show outS la lb (k + 1) = UInt8.ofNat (48 + dfS la lb k) :: outS la lb k by rw [outS])
      have hq0 : owS la lb (k + 1) = if dgA la k < dgA lb k + owS la lb k then 1 else 0 := by rw [owS]
      obtain ⟨c, hc⟩ : ∃ c, owS la lb k = c := ⟨_, rfl⟩
      obtain ⟨dg, hdg⟩ : ∃ m, dfS la lb k = m := ⟨_, rfl⟩
      obtain ⟨da, hdae⟩ : ∃ m, dgA la k = m := ⟨_, rfl⟩
      obtain ⟨db, hdbe⟩ : ∃ m, dgA lb k = m := ⟨_, rfl⟩
      obtain ⟨q, hq⟩ : ∃ m, owS la lb (k + 1) = m := ⟨_, rfl⟩
      have CAk := hid (CA.out k)
      have CBk := hid (CB.out k)
      rw [hdae] at CAk hda9
      rw [hdbe] at CBk hdb9
      rw [hdg, hdbe, hc, hdae, hq] at hdf
      rw [hdg] at HO hd10
      rw [hdae, hdbe, hc, hq] at hq0
      rw [hc] at hcy ⊢
      have HQ := hid hq
      have hv1 : IntKind.u8.wrap (48 + (dg : Int)) = 48 + (dg : Int) := by simp [IntKind.wrap, IntKind.bits, IntKind.signed]; omega
      have hv2 : (48 + (dg : Int)) % 256 = 48 + (dg : Int) := by omega
      have hw1 : IntKind.i64.wrap ((da : Int) - (db : Int)) = (da : Int) - (db : Int) := IntWalk.i64_in _ (by omega)
      have hw2 : IntKind.i64.wrap ((da : Int) - (db : Int) - (c : Int)) = (da : Int) - (db : Int) - (c : Int) := IntWalk.i64_in _ (by omega)
      obtain ⟨j, hj⟩ : ∃ j : Nat, j = n - 1 - k := ⟨_, rfl⟩
      have hji : (n : Int) - 1 - (k : Int) = (j : Int) := by omega
      have hjl : (j : Int) < (n : Int) := by omega
      have hj0 : (0 : Int) ≤ (j : Int) := by omega
      have hjw : IntKind.i64.wrap (j : Int) = (j : Int) := IntWalk.i64_in _ (by omega)
      have hZ1 : Z.length = j + 1 := by omega
      obtain ⟨o0, s0⟩ : ∃ u, wr.cell? ⟨w.heap.size, j, none⟩ = some u := by
        rw [cell_of_block hg, List.getElem?_append_left (by omega), List.getElem?_eq_getElem (by omega)]
        exact ⟨_, rfl⟩
      have z0 : wr.frozen? ⟨w.heap.size, j, none⟩ = false := frozen_of_row wr w.heap.size _ _ _ hg
      have HP := hid (row_end (Value.int .u8 (48 + (dg : Int))) hg hZ1)
      have HJ := hid hj
      clear hc hdae hdbe hq hdg hg hZ hZ1 hj
      by_cases hneg : da < db + c
      · have hq1 : q = 1 := by rw [hq0, if_pos hneg]
        have g1 : (da : Int) - (db : Int) - (c : Int) < 0 := by omega
        have hsum : (da : Int) - (db : Int) - (c : Int) + 10 = (dg : Int) := by omega
        rw [hq1] at HQ
        clear hq0 hdf hneg hq1
        go_wp2_with fail
        refine (CAk.out _ (by omega)).mono ?_
        rintro e w1 ⟨rfl, rfl⟩
        go_wp2_with fail
        refine (CBk.out _ (by omega)).mono ?_
        rintro e w1 ⟨rfl, rfl⟩
        go_wp2
        go_roundw
        case rel =>
          obtain ⟨Z', hZ', hg'⟩ := HP.out
          refine ⟨k + 1, Z', by omega, by go_num, by rw [HQ.out]; first | rfl | go_num, by have := HJ.out; omega, ?_, hbl.setCell (Nat.le_refl _) _, by simp; omega⟩
          rw [HO.out]
          have e2 : byteVals (UInt8.ofNat (48 + dg) :: outS la lb k) = .int .u8 (48 + (dg : Int)) :: byteVals (outS la lb k) := by
            unfold byteVals
            rw [List.map_cons, u8_cast (show 48 + dg < 256 by omega)]
            rfl
          rw [e2]
          exact hg'
        case measure => simp [intOf]; omega
      · have hq1 : q = 0 := by rw [hq0, if_neg hneg]
        have g1 : ¬ (da : Int) - (db : Int) - (c : Int) < 0 := by omega
        have hsum : (da : Int) - (db : Int) - (c : Int) = (dg : Int) := by omega
        have g2 : ¬ (dg : Int) < 0 := by omega
        rw [hq1] at HQ
        clear hq0 hdf hneg hq1
        go_wp2_with fail
        refine (CAk.out _ (by omega)).mono ?_
        rintro e w1 ⟨rfl, rfl⟩
        go_wp2_with fail
        refine (CBk.out _ (by omega)).mono ?_
        rintro e w1 ⟨rfl, rfl⟩
        go_wp2
        go_roundw
        case rel =>
          obtain ⟨Z', hZ', hg'⟩ := HP.out
          refine ⟨k + 1, Z', by omega, by go_num, by rw [HQ.out]; first | rfl | go_num, by have := HJ.out; omega, ?_, hbl.setCell (Nat.le_refl _) _, by simp; omega⟩
          rw [HO.out]
          have e2 : byteVals (UInt8.ofNat (48 + dg) :: outS la lb k) = .int .u8 (48 + (dg : Int)) :: byteVals (outS la lb k) := by
            unfold byteVals
            rw [List.map_cons, u8_cast (show 48 + dg < 256 by omega)]
            rfl
          rw [e2]
          exact hg'
        case measure => simp [intOf]; omega
    · obtain rfl : k = n := by omega
      have hlti : ¬ (k : Int) < (k : Int) := by omega
      have hZ0 : Z = [] := List.eq_nil_of_length_eq_zero (by omega)
      subst hZ0
      have HOL := hid (outS_len la lb k)
      have hown : wr.ownsRow w.heap.size 5 1 (.slice (some ⟨w.heap.size, 0, none⟩) k k) (outS la lb k).length (byteVals (outS la lb k)) := by
        refine ⟨by rw [byteVals_length, Nat.mul_one], Or.inr ⟨w.heap.size, k, _, by rw [HOL.out], Nat.le_refl _, hg, by rw [HOL.out]; exact Nat.le_refl _, by unfold maxLen; omega, by simp [byteVals_length, HOL.out], by rw [Nat.mul_one]; exact List.take_of_length_le (by rw [List.nil_append, byteVals_length]; exact Nat.le_refl _)⟩⟩
      have hcv := own_string (P := Tryz.prog) (src := 50) (dst := 9) hown Tryz.underlying50 Tryz.underlying5 Tryz.underlying9
      clear hown hg hZ
      go_wp2_with fail
      refine (implTrim (mkB (outS la lb k)) _).mono ?_
      rintro e w2 ⟨rfl, rfl⟩
      go_wp2
      go_ret
      rw [HAL.out]
      exact ⟨rfl, hbl⟩
end Go.Proofs.YthfmhenphnllfaaGreatDoor

namespace Go.Proofs.YthfmhenphnllfaaGreatDoor
open Go.RowKit
set_option linter.unusedVariables false
set_option linter.unusedSimpArgs false

def natVs (S : List Nat) : List Value := S.map fun (n : Nat) => Value.int .i64 (n : Int)
theorem natVs_len (S : List Nat) : (natVs S).length = S.length := by unfold natVs; rw [List.length_map]
theorem natVs_get {w : World} {g : Nat} {S : List Nat} {e : TypeId} {fr : Nat × Nat} (hg : w.heap[g]? = some (.cells (natVs S).toArray e fr)) {m : Nat} (hm : m < S.length) : w.cell? ⟨g, m, none⟩ = some (.int .i64 (gS S m : Int)) := by
  rw [cell_of_block hg]
  unfold natVs gS
  rw [List.getElem?_map, List.getD_eq_getElem?_getD, List.getElem?_eq_getElem hm]
  rfl
theorem natVs_set {w : World} {g : Nat} {S : List Nat} {e : TypeId} (hg : w.heap[g]? = some (.cells (natVs S).toArray e (0, 0))) (m y : Nat) :
    (w.setCell ⟨g, m, none⟩ (.int .i64 (y : Int))).heap[g]? = some (.cells (natVs (S.set m y)).toArray e (0, 0)) := by
  rw [heap_setCell_same w g m _ _ _ hg]
  unfold natVs
  rw [List.setIfInBounds_toArray, List.map_set]
theorem info_intM : (Tryz.prog.info? 3).map (fun i => (i.zero, i.size, i.bytes)) = some (some (.int .i64 0), 1, 8) := by kernel_rfl
theorem made_zeros (w : World) (n : Nat) (e : TypeId) : (w.alloc (.cells (madeCells #[.int .i64 0] n) e)).heap[w.heap.size]? = some (.cells (natVs (List.replicate n 0)).toArray e (0, 0)) := by
  rw [toList_madeCells1, heap_alloc_new]
  unfold natVs
  rw [List.map_replicate]
  rfl
theorem dgA_small {l : List UInt8} (h : digits l) (i : Nat) : dgA l i ≤ 9 := dgA_le h i
/-- the sum at the next place -/
theorem mul_step {la lb : List UInt8} {S : List Nat} {i k n : Nat} (hn : S.length = n) (hik : i + k < n) (h : pvS S n = pv la i * vD lb + dgA la i * 10 ^ i * pv lb k) :
    pvS (S.set (i + k) (gS S (i + k) + dgA la i * dgA lb k)) n = pv la i * vD lb + dgA la i * 10 ^ i * pv lb (k + 1) := by
  rw [pvS_set _ _ _ (by omega), if_pos (by omega), h, pv, Nat.mul_add, Nat.add_assoc]
  congr 2
  rw [Nat.pow_add]
  simp only [Nat.mul_assoc, Nat.mul_comm, Nat.mul_left_comm]
theorem mul_row {la lb : List UInt8} {x i : Nat} (h : x = pv la i * vD lb + dgA la i * 10 ^ i * pv lb lb.length) : x = pv la (i + 1) * vD lb + dgA la (i + 1) * 10 ^ (i + 1) * pv lb 0 := by
  rw [h, pv_len]
  show _ = (pv la i + dgA la i * 10 ^ i) * vD lb + dgA la (i + 1) * 10 ^ (i + 1) * 0
  rw [Nat.mul_zero, Nat.add_zero, Nat.add_mul]
set_option maxHeartbeats 8000000 in
set_option maxRecDepth 100000 in
theorem implMul (a b : ByteArray) (w : World) (hda : digits a.data.toList) (hdb : digits b.data.toList) (ha : a.size ≤ 100) (hb : b.size ≤ 100) :
    Calls Tryz.prog 132 #[.string a, .string b] w fun e w' => e = .returned (.string (mkB (natL (vD a.data.toList * vD b.data.toList)))) ∧ Below w.heap.size w w' := by
  obtain ⟨la, hla⟩ : ∃ l, a.data.toList = l := ⟨_, rfl⟩
  obtain ⟨lb, hlb⟩ : ∃ l, b.data.toList = l := ⟨_, rfl⟩
  have hsa : a.size = la.length := by rw [Lib.size_eq, hla]
  have hsb : b.size = lb.length := by rw [Lib.size_eq, hlb]
  have CA := hid (fun (k : Nat) (w : World) (hk : k ≤ 1000000) => implDigit a k w hda (by omega) hk)
  have CB := hid (fun (k : Nat) (w : World) (hk : k ≤ 1000000) => implDigit b k w hdb (by omega) hk)
  rw [hla] at hda CA
  rw [hlb] at hdb CB
  rw [hla, hlb]
  obtain ⟨na, hna⟩ : ∃ n, a.size = n := ⟨_, rfl⟩
  obtain ⟨nb, hnb⟩ : ∃ n, b.size = n := ⟨_, rfl⟩
  obtain ⟨n, hn⟩ : ∃ n, na + nb = n := ⟨_, rfl⟩
  have HN := hid (show na = la.length ∧ nb = lb.length by omega)
  have HDA := hid hda
  have HDB := hid hdb
  have HNB := hid hnb
  rw [hna] at ha
  rw [hnb] at hb
  have hni : (na : Int) + (nb : Int) = (n : Int) := by omega
  have hnb2 : n ≤ 200 := by omega
  clear hda hdb hla hlb hsa hsb
  have hmk := run_make_row' (P := Tryz.prog) 108 3 _ 8 Tryz.underlying108 info_intM rfl .i64 .i64 n (by omega) (by omega)
  have hmk2 := make_cells (P := Tryz.prog) (t := 50) (e := 5) (n := 1) (bytes := 1) Tryz.underlying50 info_u8S n (by omega) (by omega)
  have HMK2 := hid hmk2
  clear hmk2
  go_enter Tryz.func132, Tryz.ntmps132
  go_wp2
  clear hmk hna hnb
  go_loopw [20] (fun ii wr => ∃ (i : Nat) (S : List Nat), i ≤ na ∧ ii = .int .i64 (i : Int) ∧ S.length = n ∧ wr.heap[w.heap.size]? = some (.cells (natVs S).toArray 3 (0, 0)) ∧ Below w.heap.size w wr ∧ wr.heap.size = w.heap.size + 1 ∧ (∀ m, gS S m ≤ 81 * (i * 100)) ∧ Hid (pvS S n = pv la i * vD lb + dgA la i * 10 ^ i * pv lb 0)) (fun ii _ => na - (intOf ii).toNat)
  case atStart => exact ⟨0, List.replicate n 0, Nat.zero_le _, rfl, List.length_replicate, made_zeros _ _ _, ext_alloc _ _, by simp, fun m => by
      unfold gS
      rw [List.getD_eq_getElem?_getD, List.getElem?_replicate]
      split <;> simp, hid (by rw [pvS_zero]; simp [pv])⟩
  case round =>
    obtain ⟨i, S, hi, rfl, hS, hg, hbl, hsz, hbd, HV⟩ := hrel
    by_cases hlt : i < na
    · have hlti : (i : Int) < (na : Int) := by omega
      have HG := hid hg
      have HS := hid hS
      have HSZ := hid hsz
      have HBD := hid hbd
      obtain ⟨wo, hwo⟩ : ∃ wo : World, wo = wr := ⟨_, rfl⟩
      rw [← hwo]
      rw [← hwo] at HG HSZ hbl
      have hnb := HNB.out
      clear hg hS hsz hbd hwo wr
      go_wp2
      clear hnb
      go_loopw [25] (fun kk wr => ∃ (k : Nat) (S : List Nat), k ≤ nb ∧ kk = .int .i64 (k : Int) ∧ S.length = n ∧ wr.heap[w.heap.size]? = some (.cells (natVs S).toArray 3 (0, 0)) ∧ Below w.heap.size w wr ∧ wr.heap.size = w.heap.size + 1 ∧ (∀ m, gS S m ≤ 81 * (i * 100 + k)) ∧ Hid (pvS S n = pv la i * vD lb + dgA la i * 10 ^ i * pv lb k)) (fun kk _ => nb - (intOf kk).toNat)
      case atStart => exact ⟨0, S, Nat.zero_le _, rfl, HS.out, HG.out, hbl, HSZ.out, fun m => HBD.out m, HV⟩
      case round =>
        obtain ⟨k, S, hk, rfl, hS, hg, hbl, hsz, hbd, HV⟩ := hrel
        by_cases hltk : k < nb
        · have hltki : (k : Int) < (nb : Int) := by omega
          obtain ⟨m, hm⟩ : ∃ m, i + k = m := ⟨_, rfl⟩
          have hmi : (i : Int) + (k : Int) = (m : Int) := by omega
          have hmw : IntKind.i64.wrap ((i : Int) + (k : Int)) = (m : Int) := by rw [hmi]; exact IntWalk.i64_in _ (by omega)
          have hmw2 : IntKind.i64.wrap (m : Int) = (m : Int) := IntWalk.i64_in _ (by omega)
          have hm0 : (0 : Int) ≤ (m : Int) := by omega
          have hm1 : (m : Int) < (n : Int) := by omega
          have hmn : m < n := by omega
          have HV2 := hid (mul_step hS (by omega) HV.out)
          rw [hm] at HV2
          have hx := hbd m
          have hc0 := natVs_get hg (m := m) (by omega)
          have hz0 : wr.frozen? ⟨w.heap.size, m, none⟩ = false := frozen_of_row wr w.heap.size _ _ _ hg
          obtain ⟨x, hxe⟩ : ∃ x, gS S m = x := ⟨_, rfl⟩
          have HBD := hid hbd
          have CAk := hid (CA.out i)
          have CBk := hid (CB.out k)
          have hda9 := dgA_le HDA.out i
          have hdb9 := dgA_le HDB.out k
          rw [hxe] at hx hc0 HV2
          have HX := hid hxe
          obtain ⟨da, hdae⟩ : ∃ d, dgA la i = d := ⟨_, rfl⟩
          obtain ⟨db, hdbe⟩ : ∃ d, dgA lb k = d := ⟨_, rfl⟩
          rw [hdae] at CAk hda9
          rw [hdbe] at CBk hdb9
          have HDE := hid (And.intro hdae hdbe)
          have hprod : da * db ≤ 81 := by
            have := Nat.mul_le_mul hda9 hdb9
            omega
          obtain ⟨p, hp⟩ : ∃ p, da * db = p := ⟨_, rfl⟩
          have hpi : (da : Int) * (db : Int) = (p : Int) := by rw [← hp]; exact (Int.natCast_mul da db).symm
          have hpw : IntKind.i64.wrap ((da : Int) * (db : Int)) = (p : Int) := by rw [hpi]; exact IntWalk.i64_in _ (by omega)
          have hpw2 : IntKind.i64.wrap (p : Int) = (p : Int) := IntWalk.i64_in _ (by omega)
          have hsw : IntKind.i64.wrap ((x : Int) + (p : Int)) = (x : Int) + (p : Int) := IntWalk.i64_in _ (by omega)
          have HP := hid hp
          have HS := hid hS
          have hg2 : wr.drew.heap[w.heap.size]? = some (.cells (natVs S).toArray 3 (0, 0)) := hg
          have HG := hid hg2
          have hbd2 : Below w.heap.size w wr.drew := hbl.drew
          have hc2 : wr.drew.cell? ⟨w.heap.size, m, none⟩ = some (.int .i64 (x : Int)) := hc0
          have hz2 : wr.drew.frozen? ⟨w.heap.size, m, none⟩ = false := hz0
          have hsz2 : wr.drew.heap.size = w.heap.size + 1 := hsz
          have HSZ := hid hsz2
          clear hxe hdae hdbe hp hbd hS hg hg2 hsz hsz2 hm hc0 hz0 hbl
          go_wp2_with fail
          refine wp_region_still_tail 15 (by kernel_rfl) (by kernel_rfl) ?_
          simp only [List.take_succ_cons, List.take_zero, List.drop_succ_cons, List.drop_zero]
          change wpStill _ _ wr.drew _ _ _
          repeat still_step
          still_call ((CAk.out _ (by omega)).mono fun e w' h => ⟨h.1, h.2.symm⟩)
          repeat still_step
          still_call ((CBk.out _ (by omega)).mono fun e w' h => ⟨h.1, h.2.symm⟩)
          repeat still_step
          refine wpStill_nil ?_
          change wpList _ _ _ _ _ wr.drew
          generalize wr.drew = w2 at *
          go_wp2
          go_roundw
          case rel =>
            refine ⟨k + 1, S.set m (x + p), by omega, by go_num, by rw [List.length_set]; exact HS.out, ?_, hbd2.setCell (Nat.le_refl _) _, by simp; exact HSZ.out, ?_, hid (by rw [← HP.out, ← HDE.out.1, ← HDE.out.2]; exact HV2.out)⟩
            · exact natVs_set HG.out m (x + p)
            · intro q
              rw [gS_set _ _ _ _ (by rw [HS.out]; exact hmn)]
              split
              · omega
              · have := HBD.out q; omega
          case measure => simp [intOf]; omega
        · obtain rfl : k = nb := by omega
          have hltki : ¬ (k : Int) < (k : Int) := by omega
          have HG := hid hg
          have HS := hid hS
          have HSZ := hid hsz
          have HBD := hid hbd
          clear hg hS hsz hbd
          go_wp2
          go_roundw
          case rel =>
            refine ⟨i + 1, S, by omega, by go_num, HS.out, HG.out, hbl, HSZ.out, fun m => ?_, hid (mul_row (by rw [← HN.out.2]; exact HV.out))⟩
            have := HBD.out m
            omega
          case measure => simp [intOf]; omega
    · obtain rfl : i = na := by omega
      have hlti : ¬ (i : Int) < (i : Int) := by omega
      have HVV := hid (show pvS S n = vD la * vD lb by
        rw [HV.out, HN.out.1, pv_len, dgA_far (Nat.le_refl _)]
        simp)
      have HMO := hid (mul_out HDA.out HDB.out (S := S) (n := n) (by have := HN.out; omega) HVV.out)
      have HCY := hid (fun k => cyM_le (M := 81 * (i * 100)) hbd k)
      have HBD := hid hbd
      obtain ⟨zc, hzl, hmk⟩ := HMK2.out
      have HSZ := hid hsz
      have HS := hid hS
      have hgA : (wr.alloc (.cells zc.toArray 5)).heap[w.heap.size]? = some (.cells (natVs S).toArray 3 (0, 0)) := ((ext_alloc wr _).block _ (by rw [hsz]; omega)).trans hg
      have HGA := hid hgA
      have hsl : ((natVs S).length : Int) = (n : Int) := by rw [natVs_len, hS]
      clear hbd hgA hg hS hsz
      obtain ⟨wp, hwp⟩ : ∃ wp : World, wp = wr := ⟨_, rfl⟩
      rw [← hwp] at hbl HSZ HGA ⊢
      clear hwp wr
      go_wp2
      clear hmk
      go_loopw [9, 50] (fun cy ki wr => ∃ (k : Nat) (Z : List Value), k ≤ n ∧ ki = .int .i64 (k : Int) ∧ cy = .int .i64 (cyM S k : Int) ∧ Z.length = n - k ∧ wr.heap[w.heap.size]? = some (.cells (natVs S).toArray 3 (0, 0)) ∧ wr.heap[wp.heap.size]? = some (.cells (Z ++ byteVals (outM S k)).toArray 5 (0, 0)) ∧ Below w.heap.size w wr ∧ wp.heap.size < wr.heap.size) (fun _ ki _ => n - (intOf ki).toNat)
      case atStart => exact ⟨0, zc, Nat.zero_le _, rfl, by rw [cyM]; rfl, by simpa using hzl, HGA.out, by simpa [outM, byteVals] using heap_alloc_new wp _, ext_trans hbl (ext_alloc _ _), by simp⟩
      case round =>
        obtain ⟨k, Z, hk, rfl, rfl, hZ, hg, hg2, hblq, hsq⟩ := hrel
        by_cases hltk : k < n
        · have hltki : (k : Int) < (n : Int) := by omega
          have hc0 := natVs_get hg (m := k) (by rw [HS.out]; exact hltk)
          have hcy := HCY.out k
          have hgk := HBD.out k
          have HO := hid (show outM S (k + 1) = UInt8.ofNat (48 + (cyM S k + gS S k) % 10) :: outM S k by rw [outM])
          have hq0 : cyM S (k + 1) = (cyM S k + gS S k) / 10 := by rw [cyM]
          obtain ⟨c, hc⟩ : ∃ c, cyM S k = c := ⟨_, rfl⟩
          obtain ⟨x, hx⟩ : ∃ x, gS S k = x := ⟨_, rfl⟩
          obtain ⟨q, hq⟩ : ∃ q, cyM S (k + 1) = q := ⟨_, rfl⟩
          rw [hc, hx] at HO
          rw [hc, hx, hq] at hq0
          rw [hc] at hcy ⊢
          rw [hx] at hc0 hgk
          obtain ⟨sm, hsm⟩ : ∃ s, c + x = s := ⟨_, rfl⟩
          rw [hsm] at HO hq0
          obtain ⟨dg, hdg⟩ : ∃ d, sm % 10 = d := ⟨_, rfl⟩
          rw [hdg] at HO
          have hd10 : dg < 10 := by omega
          have hsum : (c : Int) + (x : Int) = (sm : Int) := by omega
          have hsw : IntKind.i64.wrap ((c : Int) + (x : Int)) = (sm : Int) := by rw [hsum]; exact IntWalk.i64_in _ (by omega)
          have hr1 : (sm : Int).tmod 10 = (dg : Int) := by rw [Int.tmod_eq_emod_of_nonneg (by omega)]; omega
          have hr2 : (sm : Int) % 10 = (dg : Int) := by omega
          have hq1 : (sm : Int).tdiv 10 = (q : Int) := by rw [Int.tdiv_eq_ediv_of_nonneg (by omega)]; omega
          have hq2 : (sm : Int) / 10 = (q : Int) := by omega
          have hv1 : IntKind.u8.wrap (48 + (dg : Int)) = 48 + (dg : Int) := by simp [IntKind.wrap, IntKind.bits, IntKind.signed]; omega
          have hv2 : (48 + (dg : Int)) % 256 = 48 + (dg : Int) := by omega
          obtain ⟨j, hj⟩ : ∃ j : Nat, j = n - 1 - k := ⟨_, rfl⟩
          have hji : (n : Int) - 1 - (k : Int) = (j : Int) := by omega
          have hjl : (j : Int) < (n : Int) := by omega
          have hj0 : (0 : Int) ≤ (j : Int) := by omega
          have hjw : IntKind.i64.wrap (j : Int) = (j : Int) := IntWalk.i64_in _ (by omega)
          have hZ1 : Z.length = j + 1 := by omega
          obtain ⟨o0, s0⟩ : ∃ u, wr.cell? ⟨wp.heap.size, j, none⟩ = some u := by
            rw [cell_of_block hg2, List.getElem?_append_left (by omega), List.getElem?_eq_getElem (by omega)]
            exact ⟨_, rfl⟩
          have z0 : wr.frozen? ⟨wp.heap.size, j, none⟩ = false := frozen_of_row wr wp.heap.size _ _ _ hg2
          have HP := hid (row_end (Value.int .u8 (48 + (dg : Int))) hg2 hZ1)
          have HQ := hid hq
          have HJ := hid hj
          have HG := hid hg
          have hszr : w.heap.size < wp.heap.size := by have := HSZ.out; omega
          have hszr2 : w.heap.size ≤ wp.heap.size := by omega
          clear hc hx hq hsm hdg hq0 hg hg2 hZ hZ1 hj
          go_wp2
          go_roundw
          case rel =>
            obtain ⟨Z', hZ', hg'⟩ := HP.out
            refine ⟨k + 1, Z', by omega, by go_num, by rw [HQ.out], by have := HJ.out; omega, (Below.heap_setCell _ _ _ _ (by show w.heap.size ≠ wp.heap.size; omega)).trans HG.out, ?_, hblq.setCell hszr2 _, by simp; omega⟩
            rw [HO.out]
            have e2 : byteVals (UInt8.ofNat (48 + dg) :: outM S k) = .int .u8 (48 + (dg : Int)) :: byteVals (outM S k) := by
              unfold byteVals
              rw [List.map_cons, u8_cast (show 48 + dg < 256 by omega)]
              rfl
            rw [e2]
            exact hg'
          case measure => simp [intOf]; omega
        · obtain rfl : k = n := by omega
          have hltki : ¬ (k : Int) < (k : Int) := by omega
          have hZ0 : Z = [] := List.eq_nil_of_length_eq_zero (by omega)
          subst hZ0
          have HOL := hid (outM_len S k)
          have hown : wr.ownsRow w.heap.size 5 1 (.slice (some ⟨wp.heap.size, 0, none⟩) k k) (outM S k).length (byteVals (outM S k)) := by
            refine ⟨by rw [byteVals_length, Nat.mul_one], Or.inr ⟨wp.heap.size, k, _, by rw [HOL.out], by have := HSZ.out; omega, hg2, by rw [HOL.out]; exact Nat.le_refl _, by unfold maxLen; omega, by simp [byteVals_length, HOL.out], by rw [Nat.mul_one]; exact List.take_of_length_le (by rw [List.nil_append, byteVals_length]; exact Nat.le_refl _)⟩⟩
          have hcv := own_string (P := Tryz.prog) (src := 50) (dst := 9) hown Tryz.underlying50 Tryz.underlying5 Tryz.underlying9
          clear hown hg hg2 hZ
          go_wp2_with fail
          refine (implTrim (mkB (outM S k)) _).mono ?_
          rintro e w2 ⟨rfl, rfl⟩
          go_wp2
          go_ret
          refine ⟨end_string ?_, hblq⟩
          unfold trimB
          rw [mkB_data, HMO.out]
end Go.Proofs.YthfmhenphnllfaaGreatDoor

namespace Go.Proofs.YthfmhenphnllfaaGreatDoor
open Go.RowKit
set_option linter.unusedVariables false
set_option linter.unusedSimpArgs false

theorem row_next1 {w : World} {g m r : Nat} {A Z : List Value} {e : TypeId} (c : Value) (hg : w.heap[g]? = some (.cells (A ++ Z).toArray e (0, 0))) (hA : A.length = m) (hZ : Z.length = r + 1) :
    ∃ Z', Z'.length = r ∧ (w.setCell ⟨g, m, none⟩ c).heap[g]? = some (.cells ((A ++ [c]) ++ Z').toArray e (0, 0)) := by
  have hsp : Z = Z.take 1 ++ Z.drop 1 := (List.take_append_drop 1 Z).symm
  obtain ⟨h1, _⟩ := setAll_block [c] w g m 0 A (Z.take 1) (Z.drop 1) e (by rw [List.append_assoc, ← hsp]; exact hg) (by omega) (by rw [List.length_take]; simp; omega)
  exact ⟨Z.drop 1, by rw [List.length_drop]; omega, h1⟩
theorem trimB_nat {s : ByteArray} {l : List UInt8} (hl : s.data.toList = l) (hd : digits l) {v : Nat} (hv : vD l = v) : trimB s = mkB (natL v) := by
  unfold trimB
  rw [hl, trim_nat hd, hv]
theorem byteVals_snoc (l : List UInt8) {n : Nat} (h : n < 256) : byteVals (l ++ [UInt8.ofNat n]) = byteVals l ++ [.int .u8 (n : Int)] := by
  unfold byteVals
  rw [List.map_append, List.map_cons, u8_cast h]
  rfl
theorem sgn3_cases (X Y : Nat) : (Y ≤ X ∧ 0 ≤ sgn3 X Y) ∨ (X < Y ∧ sgn3 X Y = -1) := by
  unfold sgn3
  by_cases h : X < Y
  · right; rw [if_pos h]; exact ⟨h, rfl⟩
  · left
    rw [if_neg h]
    refine ⟨by omega, ?_⟩
    split <;> decide
theorem natL_mkB_digits (v : Nat) : digits (mkB (natL v)).data.toList := by rw [mkB_data]; exact natL_digits v
set_option maxHeartbeats 8000000 in
set_option maxRecDepth 100000 in
theorem implDiv (a b : ByteArray) (w : World) (hda : digits a.data.toList) (hdb : digits b.data.toList) (htb : trimL b.data.toList = b.data.toList) (hB : 0 < vD b.data.toList) (ha : a.size ≤ 1000) (hb : b.size ≤ 1000) :
    Calls Tryz.prog 134 #[.string a, .string b] w fun e w' => e = .returned (.tuple #[.string (mkB (natL (vD a.data.toList / vD b.data.toList))), .string (mkB (natL (vD a.data.toList % vD b.data.toList)))]) ∧ Below w.heap.size w w' := by
  obtain ⟨la, hla⟩ : ∃ l, a.data.toList = l := ⟨_, rfl⟩
  have hsa : a.size = la.length := by rw [Lib.size_eq, hla]
  obtain ⟨B, hBe⟩ : ∃ B, vD b.data.toList = B := ⟨_, rfl⟩
  rw [hBe] at hB ⊢
  rw [hla] at hda ⊢
  have CC := hid (fun (v : Nat) (w : World) => implNatCmp (mkB (natL v)) b w (natL_mkB_digits v) hdb (by rw [mkB_data]; exact natL_trim v) htb)
  have CS := hid (fun (v : Nat) (w : World) (hv : B ≤ v) (hl : (natL v).length ≤ 5000) => show Calls Tryz.prog 131 #[.string (mkB (natL v)), .string b] w fun e w' => e = .returned (.string (mkB (natL (v - B)))) ∧ Below w.heap.size w w' by
    have h := implSub (mkB (natL v)) b w (natL_mkB_digits v) hdb (by rw [mkB_size]; exact hl) (by omega)
    rw [mkB_data, subL_nat (natL_digits v) hdb (by rw [natL_val, hBe]; exact hv), natL_val, hBe] at h
    exact h)
  have hlb : (natL B).length ≤ 1000 := by
    have := nat_of_trim hdb htb
    rw [hBe] at this
    rw [← this, ← Lib.size_eq]
    exact hb
  simp only [mkB_data, natL_val, hBe] at CC
  have HDA := hid hda
  have HLA := hid hla
  have HLB := hid hlb
  have HDO := hid (div_out hda hB)
  have HDL := hid (fun i => dvQ_len la B i)
  have HDM := hid (fun i (h : i < la.length) => dv_mod (a := la) (B := B) h)
  have HDT := hid (fun i => dv_lt hda hB i)
  obtain ⟨n, hn⟩ : ∃ n, a.size = n := ⟨_, rfl⟩
  have HN := hid hn
  have HNL := hid (show n = la.length by omega)
  rw [hn] at ha
  obtain ⟨zc, hzl, hmk⟩ := make_cells (P := Tryz.prog) (t := 50) (e := 5) (n := 1) (bytes := 1) Tryz.underlying50 info_u8S n (by omega) (by omega)
  clear hda hdb htb hla hsa hBe hlb
  go_enter Tryz.func134, Tryz.ntmps134
  go_wp2
  clear hmk hn
  go_loopw [7, 15] (fun rv ki wr => ∃ (i : Nat) (Z : List Value), i ≤ n ∧ ki = .int .i64 (i : Int) ∧ rv = .string (mkB (natL (vD (la.take i) % B))) ∧ Z.length = n - i ∧ wr.heap[w.heap.size]? = some (.cells (byteVals (dvQ la B i) ++ Z).toArray 5 (0, 0)) ∧ Below w.heap.size w wr ∧ w.heap.size < wr.heap.size) (fun _ ki _ => n - (intOf ki).toNat)
  case atStart => exact ⟨0, zc, Nat.zero_le _, rfl, by
      show _ = Value.string (mkB (natL (vD [] % B)))
      have : vD [] % B = 0 := by show 0 % B = 0; rw [Nat.zero_mod]
      rw [this, natL_zero]; rfl, by simpa using hzl, by simpa [dvQ, byteVals] using heap_alloc_new w _, ext_alloc _ _, by simp⟩
  case round =>
    obtain ⟨i, Z, hi, rfl, rfl, hZ, hg, hbl, hsz⟩ := hrel
    by_cases hlt : i < n
    · have hlti : (i : Int) < (n : Int) := by omega
      have hia : i < a.size := by have := HN.out; omega
      have HX := hid (show dvX la B i = 10 * (vD (la.take i) % B) + ((a[i]'hia).toNat - 48) by
        unfold dvX
        have : la.getD i 0 = a[i]'hia := by
          rw [← HLA.out, List.getD_eq_getElem?_getD, List.getElem?_eq_getElem (by rw [← size_list]; exact hia)]
          rfl
        rw [this])
      have hcd := HDA.out (a[i]'hia) (by rw [← HLA.out, ← get_list a i hia]; exact List.getElem_mem _)
      have HQ1 := hid (show dvQ la B (i + 1) = dvQ la B i ++ [UInt8.ofNat (48 + dvX la B i / B)] by rw [dvQ])
      have hlt10 := HDT.out i
      have HMD := hid (HDM.out i (by have := HNL.out; omega))
      have hr0 : vD (la.take i) % B < B := Nat.mod_lt _ hB
      obtain ⟨r0, hr0e⟩ : ∃ r, vD (la.take i) % B = r := ⟨_, rfl⟩
      obtain ⟨X, hXe⟩ : ∃ X, dvX la B i = X := ⟨_, rfl⟩
      rw [hr0e] at HX hr0
      rw [hXe] at HX HQ1 HMD hlt10
      rw [hr0e]
      obtain ⟨A, hA⟩ : ∃ A, mkB (natL r0) = A := ⟨_, rfl⟩
      rw [hA]
      have hAd : A.data.toList = natL r0 := by rw [← hA, mkB_data]
      have hAs : A.size ≤ 1000 := by
        rw [← hA, mkB_size]
        exact Nat.le_trans (natL_len_mono (Nat.le_of_lt hr0)) HLB.out
      have hexs : (a.extract i (i + 1)).size = 1 := by rw [ByteArray.size_extract]; omega
      have hss : ¬ 9223372036854775807 < A.size + 1 := by omega
      have hTR : trimB (A ++ a.extract i (i + 1)) = mkB (natL X) := by
        refine trimB_nat (l := natL r0 ++ [a[i]'hia]) ?_ ?_ ?_
        · rw [ByteArray.data_append, Array.toList_append, hAd, extL1 hia]
        · exact digits_append (natL_digits _) (fun c hc => by rw [List.mem_singleton.1 hc]; exact hcd)
        · rw [vD_append, natL_val, HX.out, vD_cons]
          simp [vD, valD]
          omega
      have hXB : X < 10 * B := by have := HX.out; omega
      have hXl : (natL X).length ≤ 1002 := by
        have h1 := natL_len_mono (Nat.le_of_lt hXB)
        rw [show 10 * B = 10 * B + 0 by omega, natL_snoc hB (by decide), List.length_append] at h1
        have h2 := HLB.out
        simp at h1
        omega
      have HTR := hid (fun (w : World) => show Calls Tryz.prog 159 #[.string (A ++ a.extract i (i + 1))] w fun e w' => e = .returned (.string (mkB (natL X))) ∧ w = w' by
        have h := implTrim (A ++ a.extract i (i + 1)) w
        rw [hTR] at h
        exact h)
      have HG := hid hg
      have HZ := hid hZ
      have HXL := hid hXl
      have HX0 := hid hXB
      obtain ⟨wo, hwo⟩ : ∃ wo : World, wo = wr := ⟨_, rfl⟩
      rw [← hwo] at hbl hsz HG ⊢
      clear hr0e hXe hA hAd hTR hg hZ hwo wr hXl hXB hcd
      go_wp2_with fail
      refine (HTR.out _).mono ?_
      rintro e w1 ⟨rfl, rfl⟩
      go_wp2
      go_loopw [7, 9] (fun rv dv wr => ∃ j : Nat, j * B ≤ X ∧ rv = .string (mkB (natL (X - j * B))) ∧ dv = .int .u8 (48 + (j : Int)) ∧ wr.heap[w.heap.size]? = some (.cells (byteVals (dvQ la B i) ++ Z).toArray 5 (0, 0)) ∧ Below w.heap.size w wr ∧ w.heap.size < wr.heap.size) (fun rv dv _ => 256 - (intOf dv).toNat)
      case atStart => exact ⟨0, by omega, by rw [Nat.zero_mul, Nat.sub_zero], rfl, HG.out, hbl, hsz⟩
      case round =>
        obtain ⟨j, hjX, rfl, rfl, hg, hblq, hszq⟩ := hrel
        have hj10 : j < 10 := by
          rcases Nat.lt_or_ge j 10 with h | h
          · exact h
          · have h1 := Nat.mul_le_mul_right B h
            have h2 := HX0.out
            omega
        have CCj := hid (CC.out (X - j * B))
        rcases sgn3_cases (X - j * B) B with ⟨hge, hs⟩ | ⟨hlt2, hs⟩
        · have CSj := hid (fun (w : World) => CS.out (X - j * B) w hge (Nat.le_trans (natL_len_mono (Nat.sub_le _ _)) (by have := HXL.out; omega)))
          have hjn : X - j * B - B = X - (j + 1) * B := by rw [Nat.add_mul]; omega
          have hjn2 : (j + 1) * B ≤ X := by rw [Nat.add_mul]; omega
          rw [hjn] at CSj
          obtain ⟨V, hV⟩ : ∃ V, mkB (natL (X - j * B)) = V := ⟨_, rfl⟩
          obtain ⟨sg, hsg⟩ : ∃ s, sgn3 (X - j * B) B = s := ⟨_, rfl⟩
          rw [hV] at CCj CSj ⊢
          rw [hsg] at CCj hs
          have HG2 := hid hg
          have hdw : IntKind.u8.wrap (48 + (j : Int) + 1) = 48 + (j : Int) + 1 := by simp [IntKind.wrap, IntKind.bits, IntKind.signed]; omega
          have hdm : (48 + (j : Int) + 1) % 256 = 48 + (j : Int) + 1 := by omega
          have HV := hid hjn2
          clear hg hV hsg hjn hjn2 hge
          go_wp2_with fail
          refine (CCj.out _).mono ?_
          rintro e w2 ⟨rfl, hb2⟩
          go_wp2_with fail
          refine (CSj.out _).mono ?_
          rintro e w3 ⟨rfl, hb3⟩
          have hb23 := ext_trans hb2 hb3
          have hG3 := hid ((hb23.block _ hszq).trans HG2.out)
          have hB3 : Below w.heap.size w w3 := hblq.trans (hb23.mono hblq.size)
          have hs3 : w.heap.size < w3.heap.size := Nat.lt_of_lt_of_le hszq hb23.size
          go_wp2
          go_roundw
          case rel => exact ⟨j + 1, HV.out, rfl, by first | go_num | (congr 1; omega), hG3.out, hB3, hs3⟩
          case measure => simp [intOf]; omega
        · have hjq : j = X / B := by
            have h1 : X < (j + 1) * B := by rw [Nat.add_mul]; omega
            have h2 : X / B < j + 1 := (Nat.div_lt_iff_lt_mul hB).2 h1
            have h3 : j ≤ X / B := (Nat.le_div_iff_mul_le hB).2 hjX
            omega
          have hxm : X - j * B = X % B := by
            have h1 := Nat.div_add_mod X B
            rw [hjq, Nat.mul_comm]
            omega
          rw [hxm] at CCj hs ⊢
          rw [hs] at CCj
          rw [← hjq] at HQ1
          have hmod2 : vD (la.take (i + 1)) % B = X % B := HMD.out
          have HMO := hid hmod2
          obtain ⟨V, hV⟩ : ∃ V, mkB (natL (X % B)) = V := ⟨_, rfl⟩
          rw [hV] at CCj ⊢
          have HV := hid hV
          have HG2 := hid hg
          have hal : (byteVals (dvQ la B i)).length = i := by rw [byteVals_length, HDL.out]
          have hzl2 : Z.length = (n - (i + 1)) + 1 := by have := HZ.out; omega
          have HAL := hid hal
          have HZL := hid hzl2
          clear hg hV hmod2 hxm hs hjq hal hzl2 hlt2 hjX
          have hin : (i : Int) < (n : Int) := hlti
          go_wp2_with fail
          refine (CCj.out _).mono ?_
          rintro e w2 ⟨rfl, hb2⟩
          have hg2 := (hb2.block _ hszq).trans HG2.out
          obtain ⟨o0, s0⟩ : ∃ u, w2.cell? ⟨w.heap.size, i, none⟩ = some u := by
            rw [cell_of_block hg2, List.getElem?_append_right (by rw [HAL.out]; exact Nat.le_refl _), HAL.out, Nat.sub_self, List.getElem?_eq_getElem (by have := HZL.out; omega)]
            exact ⟨_, rfl⟩
          have z0 : w2.frozen? ⟨w.heap.size, i, none⟩ = false := frozen_of_row w2 w.heap.size _ _ _ hg2
          have HP := hid (row_next1 (Value.int .u8 (48 + (j : Int))) hg2 HAL.out HZL.out)
          have hB3 : Below w.heap.size w w2 := hblq.trans (hb2.mono hblq.size)
          have hs3 : w.heap.size < w2.heap.size := Nat.lt_of_lt_of_le hszq hb2.size
          clear hg2
          go_wp2
          go_roundw
          case rel =>
            obtain ⟨Z', hZ', hg'⟩ := HP.out
            refine ⟨i + 1, Z', by omega, by go_num, by rw [HMO.out, HV.out], by rw [hZ'], ?_, hB3.setCell (Nat.le_refl _) _, by simp; omega⟩
            rw [HQ1.out, byteVals_snoc _ (by omega)]
            exact hg'
          case measure => simp [intOf]; omega
    · obtain rfl : i = n := by omega
      have hlti : ¬ (i : Int) < (i : Int) := by omega
      have hZ0 : Z = [] := List.eq_nil_of_length_eq_zero (by omega)
      subst hZ0
      rw [List.append_nil] at hg
      have hown : wr.ownsRow w.heap.size 5 1 (.slice (some ⟨w.heap.size, 0, none⟩) i i) (dvQ la B i).length (byteVals (dvQ la B i)) := by
        refine ⟨by rw [byteVals_length, Nat.mul_one], Or.inr ⟨w.heap.size, i, _, by rw [HDL.out], Nat.le_refl _, hg, by rw [HDL.out]; exact Nat.le_refl _, by unfold maxLen; omega, by simp [byteVals_length, HDL.out], by rw [Nat.mul_one]; exact List.take_of_length_le (by rw [byteVals_length]; exact Nat.le_refl _)⟩⟩
      have hcv := own_string (P := Tryz.prog) (src := 50) (dst := 9) hown Tryz.underlying50 Tryz.underlying5 Tryz.underlying9
      have HE := hid (show trimB (mkB (dvQ la B i)) = mkB (natL (vD la / B)) by
        unfold trimB
        rw [mkB_data, HNL.out, HDO.out])
      have HT2 := hid (show la.take i = la by rw [HNL.out]; exact List.take_length)
      obtain ⟨V, hV⟩ : ∃ V, mkB (natL (vD (la.take i) % B)) = V := ⟨_, rfl⟩
      rw [hV]
      have HV := hid hV
      clear hown hg hZ hV
      go_wp2_with fail
      refine (implTrim (mkB (dvQ la B i)) _).mono ?_
      rintro e w2 ⟨rfl, rfl⟩
      rw [HE.out]
      go_wp2
      go_ret2
      refine ⟨?_, hbl⟩
      rw [← HV.out, HT2.out]
      rfl
end Go.Proofs.YthfmhenphnllfaaGreatDoor

namespace Go.Proofs.YthfmhenphnllfaaGreatDoor
open Go.RowKit
set_option linter.unusedVariables false
set_option linter.unusedSimpArgs false

set_option maxHeartbeats 8000000 in
set_option maxRecDepth 100000 in
theorem specDiv (a b : ByteArray) (w : World) (hda : digits a.data.toList) (hdb : digits b.data.toList) (hB : 0 < vD b.data.toList) (ha : a.size ≤ 1000) (hb : b.size ≤ 1000) :
    Calls Tryz.prog 73 #[.string a, .string b] w fun e w' => e = .returned (.tuple #[.string (mkB (natL (vD a.data.toList / vD b.data.toList))), .string (mkB (natL (vD a.data.toList % vD b.data.toList)))]) ∧ Below w.heap.size w w' := by
  obtain ⟨la, hla⟩ : ∃ l, a.data.toList = l := ⟨_, rfl⟩
  have hsa : a.size = la.length := by rw [Lib.size_eq, hla]
  obtain ⟨B, hBe⟩ : ∃ B, vD b.data.toList = B := ⟨_, rfl⟩
  rw [hBe] at hB ⊢
  rw [hla] at hda ⊢
  have CC := hid (fun (v : Nat) (hv : (natL v).length ≤ 5000) (w : World) => specNatCmp (mkB (natL v)) b w (natL_mkB_digits v) hdb (by rw [mkB_size]; omega) (by omega))
  have CS := hid (fun (v : Nat) (w : World) (hv : B ≤ v) (hl : (natL v).length ≤ 5000) => show Calls Tryz.prog 119 #[.string (mkB (natL v)), .string b] w fun e w' => e = .returned (.string (mkB (natL (v - B)))) ∧ Below w.heap.size w w' by
    have h := specSub (mkB (natL v)) b w (natL_mkB_digits v) hdb (by rw [mkB_size]; exact hl) (by omega)
    rw [mkB_data, subL_nat (natL_digits v) hdb (by rw [natL_val, hBe]; exact hv), natL_val, hBe] at h
    exact h)
  have hlb : (natL B).length ≤ 1000 := by
    have h1 := vD_lt hdb
    rw [hBe, ← Lib.size_eq] at h1
    by_cases h0 : b.size = 0
    · rw [h0] at h1
      omega
    · exact Nat.le_trans (natL_len_pow h1 (by omega)) hb
  simp only [mkB_data, natL_val, hBe] at CC
  have HDA := hid hda
  have HLA := hid hla
  have HLB := hid hlb
  have HDO := hid (div_out hda hB)
  have HDL := hid (fun i => dvQ_len la B i)
  have HDM := hid (fun i (h : i < la.length) => dv_mod (a := la) (B := B) h)
  have HDT := hid (fun i => dv_lt hda hB i)
  obtain ⟨n, hn⟩ : ∃ n, a.size = n := ⟨_, rfl⟩
  have HN := hid hn
  have HNL := hid (show n = la.length by omega)
  rw [hn] at ha
  obtain ⟨i0, hi0, hz0, hz1, hz2⟩ := info_parts info_u8A
  have HI0 := hid hi0
  clear hda hdb hla hsa hBe hlb
  go_enter Tryz.func73, Tryz.ntmps73
  go_wp2
  clear hi0
  go_loopw [6, 7, 8] (fun qv rv ki wr => ∃ (i : Nat), i ≤ n ∧ ki = .int .i64 (i : Int) ∧ rv = .string (mkB (natL (vD (la.take i) % B))) ∧ wr.ownsRow w.heap.size 5 1 qv (dvQ la B i).length (byteVals (dvQ la B i)) ∧ Below w.heap.size w wr) (fun _ _ ki _ => n - (intOf ki).toNat)
  case atStart => exact ⟨0, Nat.zero_le _, rfl, by
      show _ = Value.string (mkB (natL (vD [] % B)))
      have : vD [] % B = 0 := by show 0 % B = 0; rw [Nat.zero_mod]
      rw [this, natL_zero]; rfl, own_none (Nat.le_refl _) _, ext_alloc _ _⟩
  case round =>
    obtain ⟨i, hi, rfl, rfl, hown, hbl⟩ := hrel
    by_cases hlt : i < n
    · have hlti : (i : Int) < (n : Int) := by omega
      have hia : i < a.size := by have := HN.out; omega
      have HX := hid (show dvX la B i = 10 * (vD (la.take i) % B) + ((a[i]'hia).toNat - 48) by
        unfold dvX
        have : la.getD i 0 = a[i]'hia := by
          rw [← HLA.out, List.getD_eq_getElem?_getD, List.getElem?_eq_getElem (by rw [← size_list]; exact hia)]
          rfl
        rw [this])
      have hcd := HDA.out (a[i]'hia) (by rw [← HLA.out, ← get_list a i hia]; exact List.getElem_mem _)
      have HQ1 := hid (show dvQ la B (i + 1) = dvQ la B i ++ [UInt8.ofNat (48 + dvX la B i / B)] by rw [dvQ])
      have hlt10 := HDT.out i
      have HMD := hid (HDM.out i (by have := HNL.out; omega))
      have hr0 : vD (la.take i) % B < B := Nat.mod_lt _ hB
      obtain ⟨r0, hr0e⟩ : ∃ r, vD (la.take i) % B = r := ⟨_, rfl⟩
      obtain ⟨X, hXe⟩ : ∃ X, dvX la B i = X := ⟨_, rfl⟩
      rw [hr0e] at HX hr0
      rw [hXe] at HX HQ1 HMD hlt10
      rw [hr0e]
      obtain ⟨A, hA⟩ : ∃ A, mkB (natL r0) = A := ⟨_, rfl⟩
      rw [hA]
      have hAd : A.data.toList = natL r0 := by rw [← hA, mkB_data]
      have hAs : A.size ≤ 1000 := by
        rw [← hA, mkB_size]
        exact Nat.le_trans (natL_len_mono (Nat.le_of_lt hr0)) HLB.out
      have hexs : (a.extract i (i + 1)).size = 1 := by rw [ByteArray.size_extract]; omega
      have hss : ¬ 9223372036854775807 < A.size + 1 := by omega
      have hTR : trimB (A ++ a.extract i (i + 1)) = mkB (natL X) := by
        refine trimB_nat (l := natL r0 ++ [a[i]'hia]) ?_ ?_ ?_
        · rw [ByteArray.data_append, Array.toList_append, hAd, extL1 hia]
        · exact digits_append (natL_digits _) (fun c hc => by rw [List.mem_singleton.1 hc]; exact hcd)
        · rw [vD_append, natL_val, HX.out, vD_cons]
          simp [vD, valD]
          omega
      have hXB : X < 10 * B := by have := HX.out; omega
      have hXl : (natL X).length ≤ 1002 := by
        have h1 := natL_len_mono (Nat.le_of_lt hXB)
        rw [show 10 * B = 10 * B + 0 by omega, natL_snoc hB (by decide), List.length_append] at h1
        have h2 := HLB.out
        simp at h1
        omega
      have HTR := hid (fun (w : World) => show Calls Tryz.prog 76 #[.string (A ++ a.extract i (i + 1))] w fun e w' => e = .returned (.string (mkB (natL X))) ∧ w = w' by
        have h := specTrim (A ++ a.extract i (i + 1)) w (by rw [ByteArray.size_append, hexs]; omega)
        rw [hTR] at h
        exact h)
      have HOW := hid hown
      have HXL := hid hXl
      have HX0 := hid hXB
      obtain ⟨wo, hwo⟩ : ∃ wo : World, wo = wr := ⟨_, rfl⟩
      rw [← hwo] at hbl HOW ⊢
      clear hr0e hXe hA hAd hTR hown hwo wr hXl hXB hcd
      go_wp2_with fail
      refine (HTR.out _).mono ?_
      rintro e w1 ⟨rfl, rfl⟩
      go_wp2
      go_loopw [7, 9] (fun rv dv wr => ∃ j : Nat, j * B ≤ X ∧ rv = .string (mkB (natL (X - j * B))) ∧ dv = .int .i64 (j : Int) ∧ Below wo.heap.size wo wr) (fun rv dv _ => 256 - (intOf dv).toNat)
      case atStart => exact ⟨0, by omega, by rw [Nat.zero_mul, Nat.sub_zero], rfl, Below.refl _ _⟩
      case round =>
        obtain ⟨j, hjX, rfl, rfl, hblq⟩ := hrel
        have hj10 : j < 10 := by
          rcases Nat.lt_or_ge j 10 with h | h
          · exact h
          · have h1 := Nat.mul_le_mul_right B h
            have h2 := HX0.out
            omega
        have CCj := hid (CC.out (X - j * B) (Nat.le_trans (natL_len_mono (Nat.sub_le _ _)) (by have := HXL.out; omega)))
        rcases sgn3_cases (X - j * B) B with ⟨hge, hs⟩ | ⟨hlt2, hs⟩
        · have CSj := hid (fun (w : World) => CS.out (X - j * B) w hge (Nat.le_trans (natL_len_mono (Nat.sub_le _ _)) (by have := HXL.out; omega)))
          have hjn : X - j * B - B = X - (j + 1) * B := by rw [Nat.add_mul]; omega
          have hjn2 : (j + 1) * B ≤ X := by rw [Nat.add_mul]; omega
          rw [hjn] at CSj
          obtain ⟨V, hV⟩ : ∃ V, mkB (natL (X - j * B)) = V := ⟨_, rfl⟩
          obtain ⟨sg, hsg⟩ : ∃ s, sgn3 (X - j * B) B = s := ⟨_, rfl⟩
          rw [hV] at CCj CSj ⊢
          rw [hsg] at CCj hs
          have hdw : IntKind.i64.wrap ((j : Int) + 1) = (j : Int) + 1 := IntWalk.i64_in _ (by omega)
          have HV := hid hjn2
          clear hV hsg hjn hjn2 hge
          go_wp2_with fail
          refine (CCj.out _).mono ?_
          rintro e w2 ⟨rfl, rfl⟩
          go_wp2_with fail
          refine (CSj.out _).mono ?_
          rintro e w3 ⟨rfl, hb3⟩
          have hB3 : Below wo.heap.size wo w3 := hblq.trans (hb3.mono hblq.size)
          go_wp2
          go_roundw
          case rel => exact ⟨j + 1, HV.out, rfl, by first | go_num | (congr 1; omega), hB3⟩
          case measure => simp [intOf]; omega
        · have hjq : j = X / B := by
            have h1 : X < (j + 1) * B := by rw [Nat.add_mul]; omega
            have h2 : X / B < j + 1 := (Nat.div_lt_iff_lt_mul hB).2 h1
            have h3 : j ≤ X / B := (Nat.le_div_iff_mul_le hB).2 hjX
            omega
          have hxm : X - j * B = X % B := by
            have h1 := Nat.div_add_mod X B
            rw [hjq, Nat.mul_comm]
            omega
          rw [hxm] at CCj hs ⊢
          rw [hs] at CCj
          rw [← hjq] at HQ1
          have hmod2 : vD (la.take (i + 1)) % B = X % B := HMD.out
          have HMO := hid hmod2
          obtain ⟨V, hV⟩ : ∃ V, mkB (natL (X % B)) = V := ⟨_, rfl⟩
          rw [hV] at CCj ⊢
          have HV := hid hV
          have hown2 := own_later HOW.out hblq
          have hBq : Below w.heap.size w wr := hbl.trans (hblq.mono hbl.size)
          have hi := HI0.out
          have hv1 : IntKind.u8.wrap (48 + (j : Int)) = 48 + (j : Int) := by simp [IntKind.wrap, IntKind.bits, IntKind.signed]; omega
          have hv2 : (48 + (j : Int)) % 256 = 48 + (j : Int) := by omega
          have HOW2 := hid hown2
          have hdl := HDL.out i
          clear hV hmod2 hxm hs hjq hlt2 hjX hown2
          go_wp2_with fail
          refine (CCj.out _).mono ?_
          rintro e w2 ⟨rfl, rfl⟩
          have hown2 := HOW2.out
          go_wp2_with ((at_builtin; refine wpList_append_own _ rfl _ _ 50 rfl w.heap.size 5 i0 (.int .u8 0) 1 1 Tryz.underlying50 hi hz0 hz1 hz2 rfl (by decide) _ _ _ rfl (hown2.alloc _) ⟨wr.heap.size, 0, none⟩ 1 1 [.int .u8 (48 + (j : Int))] rfl rfl ?c1 ?c2 ?c3 ?c4 ?c5 ?_))
          case c1 => exact cells_new wr #[.int .u8 (48 + (j : Int))] _
          case c2 => intro u hu; simp at hu; subst hu; rfl
          case c3 => unfold maxLen; omega
          case c4 => omega
          case c5 => simp; exact Nat.le_trans hBq.size (by omega)
          intro v' w3 hown3 hgrow _
          have hlt' := (hown2.alloc (.cells #[.int .u8 (48 + (j : Int))] 5)).lt
          have hB2 : Below w.heap.size w w3 := (ext_trans hBq (ext_alloc _ _)).grown hgrow (ext_trans hBq (ext_alloc _ _)).size (fun q hq => (hlt' q hq).1)
          clear hi hz0 hz1 hz2 hgrow hown2 hlt'
          go_wp2
          go_roundw
          case rel => exact ⟨i + 1, by omega, by go_num, by rw [HMO.out, HV.out], by rw [HQ1.out, byteVals_snoc _ (by omega), List.length_append, HDL.out, show ((48 + j : Nat) : Int) = 48 + (j : Int) by omega]; exact hown3, hB2⟩
          case measure => simp [intOf]; omega
    · obtain rfl : i = n := by omega
      have hlti : ¬ (i : Int) < (i : Int) := by omega
      have hcv := own_string (P := Tryz.prog) (src := 50) (dst := 9) hown Tryz.underlying50 Tryz.underlying5 Tryz.underlying9
      obtain ⟨oa, oc, rfl⟩ := own_slice hown
      have hsz2 : (mkB (dvQ la B i)).size ≤ 1000000 := by rw [mkB_size, HDL.out]; omega
      have HE := hid (show trimB (mkB (dvQ la B i)) = mkB (natL (vD la / B)) by
        unfold trimB
        rw [mkB_data, HNL.out, HDO.out])
      have HT2 := hid (show la.take i = la by rw [HNL.out]; exact List.take_length)
      obtain ⟨V, hV⟩ : ∃ V, mkB (natL (vD (la.take i) % B)) = V := ⟨_, rfl⟩
      rw [hV]
      have HV := hid hV
      clear hown hV hz0 hz1 hz2
      go_wp2_with fail
      refine (specTrim (mkB (dvQ la B i)) _ hsz2).mono ?_
      rintro e w2 ⟨rfl, rfl⟩
      rw [HE.out]
      go_wp2
      go_ret2
      refine ⟨?_, hbl⟩
      rw [← HV.out, HT2.out]
      rfl
end Go.Proofs.YthfmhenphnllfaaGreatDoor

namespace Go.Proofs.YthfmhenphnllfaaGreatDoor
open Go.RowKit
set_option linter.unusedVariables false
set_option linter.unusedSimpArgs false

set_option maxHeartbeats 8000000 in
set_option maxRecDepth 100000 in
theorem specMul (a b : ByteArray) (w : World) (hda : digits a.data.toList) (hdb : digits b.data.toList) (ha : a.size ≤ 100) (hb : b.size ≤ 100) :
    Calls Tryz.prog 71 #[.string a, .string b] w fun e w' => e = .returned (.string (mkB (natL (vD a.data.toList * vD b.data.toList)))) ∧ Below w.heap.size w w' := by
  obtain ⟨la, hla⟩ : ∃ l, a.data.toList = l := ⟨_, rfl⟩
  obtain ⟨lb, hlb⟩ : ∃ l, b.data.toList = l := ⟨_, rfl⟩
  have hsa : a.size = la.length := by rw [Lib.size_eq, hla]
  have hsb : b.size = lb.length := by rw [Lib.size_eq, hlb]
  have CA := hid (fun (k : Nat) (w : World) (hk : k ≤ 1000000) => specDigit a k w hda (by omega) hk)
  have CB := hid (fun (k : Nat) (w : World) (hk : k ≤ 1000000) => specDigit b k w hdb (by omega) hk)
  rw [hla] at hda CA
  rw [hlb] at hdb CB
  rw [hla, hlb]
  obtain ⟨na, hna⟩ : ∃ n, a.size = n := ⟨_, rfl⟩
  obtain ⟨nb, hnb⟩ : ∃ n, b.size = n := ⟨_, rfl⟩
  obtain ⟨n, hn⟩ : ∃ n, na + nb + 1 = n := ⟨_, rfl⟩
  have HN := hid (show na = la.length ∧ nb = lb.length by omega)
  have HDA := hid hda
  have HDB := hid hdb
  have HNB := hid hnb
  rw [hna] at ha
  rw [hnb] at hb
  have hni : (na : Int) + (nb : Int) + 1 = (n : Int) := by omega
  have hnb2 : n ≤ 201 := by omega
  clear hda hdb hla hlb hsa hsb
  have hmk := run_make_row' (P := Tryz.prog) 108 3 _ 8 Tryz.underlying108 info_intM rfl .i64 .i64 n (by omega) (by omega)
  obtain ⟨i0, hi0, hz0, hz1, hz2⟩ := info_parts info_u8A
  have HI0 := hid hi0
  clear hi0
  go_enter Tryz.func71, Tryz.ntmps71
  go_wp2
  clear hmk
  go_loopw [6] (fun ii wr => ∃ (i : Nat) (S : List Nat), i ≤ na ∧ ii = .int .i64 (i : Int) ∧ S.length = n ∧ wr.heap[w.heap.size]? = some (.cells (natVs S).toArray 3 (0, 0)) ∧ Below w.heap.size w wr ∧ wr.heap.size = w.heap.size + 1 ∧ (∀ m, gS S m ≤ 81 * (i * 100)) ∧ Hid (pvS S n = pv la i * vD lb + dgA la i * 10 ^ i * pv lb 0)) (fun ii _ => na - (intOf ii).toNat)
  case atStart => exact ⟨0, List.replicate n 0, Nat.zero_le _, rfl, List.length_replicate, made_zeros _ _ _, ext_alloc _ _, by simp, fun m => by
      unfold gS
      rw [List.getD_eq_getElem?_getD, List.getElem?_replicate]
      split <;> simp, hid (by rw [pvS_zero]; simp [pv])⟩
  case round =>
    obtain ⟨i, S, hi, rfl, hS, hg, hbl, hsz, hbd, HV⟩ := hrel
    by_cases hlt : i < na
    · have hlti : (i : Int) < (na : Int) := by omega
      have HG := hid hg
      have HS := hid hS
      have HSZ := hid hsz
      have HBD := hid hbd
      obtain ⟨wo, hwo⟩ : ∃ wo : World, wo = wr := ⟨_, rfl⟩
      rw [← hwo]
      rw [← hwo] at HG HSZ hbl
      clear hg hS hsz hbd hwo wr
      go_wp2
      go_loopw [7] (fun kk wr => ∃ (k : Nat) (S : List Nat), k ≤ nb ∧ kk = .int .i64 (k : Int) ∧ S.length = n ∧ wr.heap[w.heap.size]? = some (.cells (natVs S).toArray 3 (0, 0)) ∧ Below w.heap.size w wr ∧ wr.heap.size = w.heap.size + 1 ∧ (∀ m, gS S m ≤ 81 * (i * 100 + k)) ∧ Hid (pvS S n = pv la i * vD lb + dgA la i * 10 ^ i * pv lb k)) (fun kk _ => nb - (intOf kk).toNat)
      case atStart => exact ⟨0, S, Nat.zero_le _, rfl, HS.out, HG.out, hbl, HSZ.out, fun m => HBD.out m, HV⟩
      case round =>
        obtain ⟨k, S, hk, rfl, hS, hg, hbl, hsz, hbd, HV⟩ := hrel
        by_cases hltk : k < nb
        · have hltki : (k : Int) < (nb : Int) := by omega
          obtain ⟨m, hm⟩ : ∃ m, i + k = m := ⟨_, rfl⟩
          have hmi : (i : Int) + (k : Int) = (m : Int) := by omega
          have hmw : IntKind.i64.wrap ((i : Int) + (k : Int)) = (m : Int) := by rw [hmi]; exact IntWalk.i64_in _ (by omega)
          have hmw2 : IntKind.i64.wrap (m : Int) = (m : Int) := IntWalk.i64_in _ (by omega)
          have hm0 : (0 : Int) ≤ (m : Int) := by omega
          have hm1 : (m : Int) < (n : Int) := by omega
          have hmn : m < n := by omega
          have HV2 := hid (mul_step hS (by omega) HV.out)
          rw [hm] at HV2
          have hx := hbd m
          have hc0 := natVs_get hg (m := m) (by omega)
          have hz0 : wr.frozen? ⟨w.heap.size, m, none⟩ = false := frozen_of_row wr w.heap.size _ _ _ hg
          obtain ⟨x, hxe⟩ : ∃ x, gS S m = x := ⟨_, rfl⟩
          have HBD := hid hbd
          have CAk := hid (CA.out i)
          have CBk := hid (CB.out k)
          have hda9 := dgA_le HDA.out i
          have hdb9 := dgA_le HDB.out k
          rw [hxe] at hx hc0 HV2
          have HX := hid hxe
          obtain ⟨da, hdae⟩ : ∃ d, dgA la i = d := ⟨_, rfl⟩
          obtain ⟨db, hdbe⟩ : ∃ d, dgA lb k = d := ⟨_, rfl⟩
          rw [hdae] at CAk hda9
          rw [hdbe] at CBk hdb9
          have HDE := hid (And.intro hdae hdbe)
          have hprod : da * db ≤ 81 := by
            have := Nat.mul_le_mul hda9 hdb9
            omega
          obtain ⟨p, hp⟩ : ∃ p, da * db = p := ⟨_, rfl⟩
          have hpi : (da : Int) * (db : Int) = (p : Int) := by rw [← hp]; exact (Int.natCast_mul da db).symm
          have hpw : IntKind.i64.wrap ((da : Int) * (db : Int)) = (p : Int) := by rw [hpi]; exact IntWalk.i64_in _ (by omega)
          have hpw2 : IntKind.i64.wrap (p : Int) = (p : Int) := IntWalk.i64_in _ (by omega)
          have hsw : IntKind.i64.wrap ((x : Int) + (p : Int)) = (x : Int) + (p : Int) := IntWalk.i64_in _ (by omega)
          have HP := hid hp
          have HS := hid hS
          have hg2 : wr.drew.heap[w.heap.size]? = some (.cells (natVs S).toArray 3 (0, 0)) := hg
          have HG := hid hg2
          have hbd2 : Below w.heap.size w wr.drew := hbl.drew
          have hc2 : wr.drew.cell? ⟨w.heap.size, m, none⟩ = some (.int .i64 (x : Int)) := hc0
          have hz2 : wr.drew.frozen? ⟨w.heap.size, m, none⟩ = false := hz0
          have hsz2 : wr.drew.heap.size = w.heap.size + 1 := hsz
          have HSZ := hid hsz2
          clear hxe hdae hdbe hp hbd hS hg hg2 hsz hsz2 hm hc0 hz0 hbl
          go_wp2_with fail
          refine wp_region_still_tail 19 (by kernel_rfl) (by kernel_rfl) ?_
          simp only [List.take_succ_cons, List.take_zero, List.drop_succ_cons, List.drop_zero]
          change wpStill _ _ wr.drew _ _ _
          repeat still_step
          still_call ((CAk.out _ (by omega)).mono fun e w' h => ⟨h.1, h.2.symm⟩)
          repeat still_step
          still_call ((CBk.out _ (by omega)).mono fun e w' h => ⟨h.1, h.2.symm⟩)
          repeat still_step
          refine wpStill_nil ?_
          change wpList _ _ _ _ _ wr.drew
          generalize wr.drew = w2 at *
          go_wp2
          go_roundw
          case rel =>
            refine ⟨k + 1, S.set m (x + p), by omega, by go_num, by rw [List.length_set]; exact HS.out, ?_, hbd2.setCell (Nat.le_refl _) _, by simp; exact HSZ.out, ?_, hid (by rw [← HP.out, ← HDE.out.1, ← HDE.out.2]; exact HV2.out)⟩
            · exact natVs_set HG.out m (x + p)
            · intro q
              rw [gS_set _ _ _ _ (by rw [HS.out]; exact hmn)]
              split
              · omega
              · have := HBD.out q; omega
          case measure => simp [intOf]; omega
        · obtain rfl : k = nb := by omega
          have hltki : ¬ (k : Int) < (k : Int) := by omega
          have HG := hid hg
          have HS := hid hS
          have HSZ := hid hsz
          have HBD := hid hbd
          clear hg hS hsz hbd
          go_wp2
          go_roundw
          case rel =>
            refine ⟨i + 1, S, by omega, by go_num, HS.out, HG.out, hbl, HSZ.out, fun m => ?_, hid (mul_row (by rw [← HN.out.2]; exact HV.out))⟩
            have := HBD.out m
            omega
          case measure => simp [intOf]; omega
    · obtain rfl : i = na := by omega
      have hlti : ¬ (i : Int) < (i : Int) := by omega
      have HVV := hid (show pvS S n = vD la * vD lb by
        rw [HV.out, HN.out.1, pv_len, dgA_far (Nat.le_refl _)]
        simp)
      have HMO := hid (mul_out HDA.out HDB.out (S := S) (n := n) (by have := HN.out; omega) HVV.out)
      have HCY := hid (fun k => cyM_le (M := 81 * (i * 100)) hbd k)
      have HBD := hid hbd
      obtain ⟨wp, hwp⟩ : ∃ wp : World, wp = wr := ⟨_, rfl⟩
      rw [← hwp] at hbl hsz hg ⊢
      clear hwp wr
      have HSZ := hid hsz
      have HS := hid hS
      have HG0 := hid hg
      have hsl : ((natVs S).length : Int) = (n : Int) := by rw [natVs_len, hS]
      have hszr2 : w.heap.size ≤ wp.heap.size := by omega
      clear hbd hg hS hsz
      go_wp2
      have hi := HI0.out
      go_loopw [8, 9, 10] (fun out cy ki wr => ∃ (k g cap : Nat), k ≤ n ∧ ki = .int .i64 (k : Int) ∧ cy = .int .i64 (cyM S k : Int) ∧ out = .slice (some ⟨g, 0, none⟩) k cap ∧ wr.ownsRow wp.heap.size 5 1 out k (byteVals (outM S k)) ∧ Below wp.heap.size wp wr) (fun _ _ ki _ => n - (intOf ki).toNat)
      case atStart => exact ⟨0, wp.heap.size, 0, Nat.zero_le _, rfl, by rw [cyM]; rfl, rfl, own_none (Nat.le_refl _) _, ext_alloc _ _⟩
      case round =>
        obtain ⟨k, g, cap, hk, rfl, rfl, rfl, hown, hblq⟩ := hrel
        have HOL := hid (outM_len S k)
        by_cases hltk : k < n
        · have hltki : (k : Int) < (n : Int) := by omega
          have hgq : wr.heap[w.heap.size]? = some (.cells (natVs S).toArray 3 (0, 0)) := (hblq.block _ (by have := HSZ.out; omega)).trans HG0.out
          have hc0 := natVs_get hgq (m := k) (by rw [HS.out]; exact hltk)
          have hcy := HCY.out k
          have hgk := HBD.out k
          have HO := hid (show outM S (k + 1) = UInt8.ofNat (48 + (cyM S k + gS S k) % 10) :: outM S k by rw [outM])
          have hq0 : cyM S (k + 1) = (cyM S k + gS S k) / 10 := by rw [cyM]
          obtain ⟨c, hc⟩ : ∃ c, cyM S k = c := ⟨_, rfl⟩
          obtain ⟨x, hx⟩ : ∃ x, gS S k = x := ⟨_, rfl⟩
          obtain ⟨q, hq⟩ : ∃ q, cyM S (k + 1) = q := ⟨_, rfl⟩
          rw [hc, hx] at HO
          rw [hc, hx, hq] at hq0
          rw [hc] at hcy ⊢
          rw [hx] at hc0 hgk
          obtain ⟨sm, hsm⟩ : ∃ s, c + x = s := ⟨_, rfl⟩
          rw [hsm] at HO hq0
          obtain ⟨dg, hdg⟩ : ∃ d, sm % 10 = d := ⟨_, rfl⟩
          rw [hdg] at HO
          have hd10 : dg < 10 := by omega
          have hsum : (x : Int) + (c : Int) = (sm : Int) := by omega
          have hsw : IntKind.i64.wrap ((x : Int) + (c : Int)) = (sm : Int) := by rw [hsum]; exact IntWalk.i64_in _ (by omega)
          have hr1 : (sm : Int).tmod 10 = (dg : Int) := by rw [Int.tmod_eq_emod_of_nonneg (by omega)]; omega
          have hr2 : (sm : Int) % 10 = (dg : Int) := by omega
          have hq1 : (sm : Int).tdiv 10 = (q : Int) := by rw [Int.tdiv_eq_ediv_of_nonneg (by omega)]; omega
          have hq2 : (sm : Int) / 10 = (q : Int) := by omega
          have hv1 : IntKind.u8.wrap (48 + (dg : Int)) = 48 + (dg : Int) := by simp [IntKind.wrap, IntKind.bits, IntKind.signed]; omega
          have hv2 : (48 + (dg : Int)) % 256 = 48 + (dg : Int) := by omega
          have HQ := hid hq
          have hlit : (wr.alloc (.cells #[.int .u8 (48 + (dg : Int))] 5)).ownsRow wp.heap.size 5 1 (.slice (some ⟨wr.heap.size, 0, none⟩) 1 1) 1 [.int .u8 (48 + (dg : Int))] := World.ownsRow_lit wr #[.int .u8 (48 + (dg : Int))] 1 hblq.size (by decide) rfl
          clear hc hx hq hsm hdg hq0 hgq
          go_wp2_with ((at_builtin; refine wpList_append_own _ rfl _ _ 50 rfl wp.heap.size 5 i0 (.int .u8 0) 1 1 Tryz.underlying50 hi hz0 hz1 hz2 rfl (by decide) _ _ _ rfl hlit ⟨g, 0, none⟩ k cap (byteVals (outM S k)) rfl (by rw [byteVals_length, Nat.mul_one, HOL.out]) ?c1 ?c2 ?c3 ?c4 ?c5 ?_))
          case c1 => first | exact fun j u hu => (hown.alloc _).cells (g := g) rfl j u hu | (intro j u hu; have hcl := (hown.alloc (.cells #[.int .u8 (48 + (dg : Int))] 5)).cells (g := g) rfl j u hu; rw [Addr.add_lit, Nat.zero_add] at hcl; exact hcl)
          case c2 =>
            intro u hu
            unfold byteVals at hu
            obtain ⟨y, _, rfl⟩ := List.mem_map.1 hu
            rfl
          case c3 => unfold maxLen; omega
          case c4 => omega
          case c5 => first | (simp; exact Nat.le_trans hblq.size (by omega)) | (exact Nat.le_trans hblq.size (by omega))
          intro v' w2 hown2 hgrow _
          have hlt' := hlit.lt
          have hB2 : Below wp.heap.size wp w2 := (ext_trans hblq (ext_alloc _ _)).grown hgrow (ext_trans hblq (ext_alloc _ _)).size (fun q hq => (hlt' q hq).1)
          obtain ⟨g', cap', rfl, hob⟩ := own_some hown2 (by omega)
          clear hi hz0 hz1 hz2 hgrow hown hlt' hlit
          have hown3 : w2.ownsRow wp.heap.size 5 1 (.slice (some ⟨g', 0, none⟩) (1 + k) cap') (k + 1) (byteVals (outM S (k + 1))) := by
            have e2 : byteVals (outM S (k + 1)) = [.int .u8 (48 + (dg : Int))] ++ byteVals (outM S k) := by
              rw [HO.out]
              unfold byteVals
              rw [List.map_cons, u8_cast (show 48 + dg < 256 by omega)]
              rfl
            rw [e2, Nat.add_comm k 1]
            exact hown2
          clear hown2
          go_wp2
          go_roundw
          case rel => exact ⟨k + 1, g', cap', by omega, by go_num, by rw [HQ.out], by rw [Nat.add_comm k 1], by rw [Nat.add_comm 1 k] at hown3 ⊢; exact hown3, hB2⟩
          case measure => simp [intOf]; omega
        · obtain rfl : k = n := by omega
          have hltki : ¬ (k : Int) < (k : Int) := by omega
          have hcv := own_string (P := Tryz.prog) (src := 50) (dst := 9) (l := outM S k) (by rw [HOL.out]; exact hown) Tryz.underlying50 Tryz.underlying5 Tryz.underlying9
          have hsz2 : (mkB (outM S k)).size ≤ 1000000 := by rw [mkB_size, HOL.out]; omega
          have hBB : Below w.heap.size w wr := hbl.trans (hblq.mono hszr2)
          clear hi hz0 hz1 hz2 hown
          go_wp2_with fail
          refine (specTrim (mkB (outM S k)) _ hsz2).mono ?_
          rintro e w2 ⟨rfl, rfl⟩
          go_wp2
          go_ret
          refine ⟨end_string ?_, hBB⟩
          unfold trimB
          rw [mkB_data, HMO.out]
end Go.Proofs.YthfmhenphnllfaaGreatDoor

namespace Go.Proofs.YthfmhenphnllfaaGreatDoor
open Go.RowKit
set_option linter.unusedVariables false
set_option linter.unusedSimpArgs false

def valZ (d : Dec) : Nat := vD (dgB d.dig).data.toList
def mulD (a b : Dec) : Dec × Int := formD (a.neg != b.neg) (natL (valZ a * valZ b)) (a.exp + b.exp)
def divN (ng : Bool) (N B : Nat) (e : Int) : Dec × Int := if N % B ≠ 0 then formD ng (natL (N / B) ++ [49]) (e - 1) else formD ng (natL (N / B)) e
def divD (a b : Dec) : Dec × Int := if b.dig.size = 0 then (dec0, 2) else divN (a.neg != b.neg) (valZ a * 10 ^ 42) (valZ b) (a.exp - b.exp - 42)
def modD (a b : Dec) : Dec × Int := if b.dig.size = 0 then (dec0, 2) else formD a.neg (natL (valX a (lowE a.exp b.exp) % valX b (lowE a.exp b.exp))) (lowE a.exp b.exp)
def sumF (na nb : Bool) (X Y : Nat) (e : Int) : Dec × Int := if na = nb then formD na (natL (X + Y)) e else if Y ≤ X then formD na (natL (X - Y)) e else formD nb (natL (Y - X)) e
def addD (a b : Dec) : Dec × Int := sumF a.neg b.neg (valX a (lowE a.exp b.exp)) (valX b (lowE a.exp b.exp)) (lowE a.exp b.exp)
def subD (a b : Dec) : Dec × Int := addD a (negD b)
def one1 : Dec := ⟨false, ⟨#[49]⟩, 0⟩
def powG (a : Dec) : Nat → Dec × Int
  | 0 => (a, 0)
  | k + 1 => if (powG a k).2 = 0 then mulD (powG a k).1 a else powG a k
def powD (a : Dec) (n : Int) : Dec × Int :=
  if n = 0 then (one1, 0) else if (powG a (n.natAbs - 1)).2 ≠ 0 then (dec0, (powG a (n.natAbs - 1)).2)
  else if n < 0 then divD one1 (powG a (n.natAbs - 1)).1 else powG a (n.natAbs - 1)
/-- a number that is a whole one of at most 10^18 -/
def wholeN (d : Dec) : Nat := vD d.dig.data.toList * 10 ^ d.exp.toNat
def wholeD (d : Dec) : Int × Bool := if 0 ≤ d.exp ∧ wholeN d ≤ 1000000000000000000 then (if d.neg = true then -(wholeN d : Int) else (wholeN d : Int), true) else (0, false)
def arithD (op : Int) (x y : Dec) : Dec × Int :=
  if op = 1 then addD x y else if op = 2 then subD x y else if op = 3 then mulD x y else if op = 4 then divD x y else if op = 5 then modD x y
  else if (wholeD y).2 = false then (dec0, 3) else if -99 ≤ (wholeD y).1 ∧ (wholeD y).1 ≤ 99 then powD x (wholeD y).1 else (dec0, 3)

theorem dec0_ok : decOk dec0 = true := by show decOk ⟨false, ⟨#[]⟩, 0⟩ = true; rw [decOk_nil]; rfl
theorem one1_ok : decOk one1 = true := by decide
theorem mulD_ok (a b : Dec) : decOk (mulD a b).1 = true := formD_ok (natL_digits _)
theorem divN_ok (ng : Bool) (N B : Nat) (e : Int) : decOk (divN ng N B e).1 = true := by
  unfold divN
  split
  · exact formD_ok (digits_append (natL_digits _) digits_one)
  · exact formD_ok (natL_digits _)
theorem divD_ok (a b : Dec) : decOk (divD a b).1 = true := by
  unfold divD
  split
  · exact dec0_ok
  · exact divN_ok _ _ _ _
theorem modD_ok (a b : Dec) : decOk (modD a b).1 = true := by
  unfold modD
  split
  · exact dec0_ok
  · exact formD_ok (natL_digits _)
theorem sumF_ok (na nb : Bool) (X Y : Nat) (e : Int) : decOk (sumF na nb X Y e).1 = true := by
  unfold sumF
  repeat' split
  all_goals exact formD_ok (natL_digits _)
theorem powG_ok {a : Dec} (h : decOk a = true) : ∀ k, decOk (powG a k).1 = true
  | 0 => h
  | k + 1 => by
    rw [powG]
    split
    · exact mulD_ok _ _
    · exact powG_ok h k
theorem powD_ok {a : Dec} (h : decOk a = true) (n : Int) : decOk (powD a n).1 = true := by
  unfold powD
  split
  · exact one1_ok
  · split
    · exact dec0_ok
    · split
      · exact divD_ok _ _
      · exact powG_ok h _
theorem negD_ok {b : Dec} (h : decOk b = true) : decOk (negD b) = true := by
  unfold negD
  split
  · exact dec0_ok
  · rename_i hz
    obtain ⟨neg, dig, exp⟩ := b
    have hz' : ¬ dig.size = 0 := hz
    unfold decOk at h ⊢
    rw [if_neg hz'] at h ⊢
    exact h
theorem arithD_ok {x y : Dec} (hx : decOk x = true) (op : Int) : decOk (arithD op x y).1 = true := by
  unfold arithD
  repeat' split
  · exact sumF_ok _ _ _ _ _
  · exact sumF_ok _ _ _ _ _
  · exact mulD_ok _ _
  · exact divD_ok _ _
  · exact modD_ok _ _
  · exact dec0_ok
  · exact powD_ok hx _
  · exact dec0_ok
theorem natL_is0 (v : Nat) : natL v = [48] ↔ v = 0 := by
  constructor
  · intro h
    have := natL_val v
    rw [h] at this
    exact this.symm
  · rintro rfl; exact natL_zero
theorem formD_nil (ng : Bool) (e : Int) : formD ng (natL 0) e = (dec0, 0) := formD_zero (by rw [natL_zero]; rfl)
theorem valZ_lt {d : Dec} (h : decOk d = true) : valZ d < 10 ^ 20 := by
  obtain ⟨a1, a2, a3, a4, a5⟩ := ok_facts h
  have h1 := vD_lt a3
  unfold valZ
  refine Nat.lt_of_lt_of_le h1 (Nat.pow_le_pow_right (by decide) ?_)
  rw [← Lib.size_eq]
  unfold dgB
  split
  · decide
  · exact a1
theorem valZ_zero {d : Dec} (h : decOk d = true) : valZ d = 0 ↔ d.dig.size = 0 := val_zero h
/-- the quotient with three digits more -/
theorem div_impl {a b : Dec} (ha : decOk a = true) (hb : decOk b = true) (hz : ¬ b.dig.size = 0) :
    (if (valZ a * 10 ^ 45) % valZ b ≠ 0 then formD (a.neg != b.neg) (natL (valZ a * 10 ^ 45 / valZ b) ++ [49]) (a.exp - b.exp - 46) else formD (a.neg != b.neg) (natL (valZ a * 10 ^ 45 / valZ b)) (a.exp - b.exp - 45)) = divD a b := by
  have hB : 0 < valZ b := by
    have := mt (valZ_zero hb).1 hz
    omega
  have hB2 := valZ_lt hb
  unfold divD divN
  rw [if_neg hz]
  have e : valZ a * 10 ^ 45 = 1000 * (valZ a * 10 ^ 42) := by omega
  rw [e]
  have hN0 : valZ a = 0 → valZ a * 10 ^ 42 = 0 := fun h => by rw [h, Nat.zero_mul]
  have hN1 : ¬ valZ a = 0 → 10 ^ 21 ≤ valZ a * 10 ^ 42 / valZ b := fun h0 => by
    rw [Nat.le_div_iff_mul_le hB]
    have h1 : 10 ^ 21 * valZ b ≤ 10 ^ 21 * 10 ^ 20 := Nat.mul_le_mul_left _ (Nat.le_of_lt hB2)
    have h2 : 1 * 10 ^ 42 ≤ valZ a * 10 ^ 42 := Nat.mul_le_mul_right _ (by omega)
    have h3 : (10 : Nat) ^ 21 * 10 ^ 20 ≤ 1 * 10 ^ 42 := by decide
    exact Nat.le_trans h1 (Nat.le_trans h3 h2)
  generalize valZ a * 10 ^ 42 = N at hN0 hN1 ⊢
  clear e
  by_cases h0 : valZ a = 0
  · obtain rfl := hN0 h0
    simp [formD_nil]
  · have := quot_form (neg := a.neg != b.neg) hB (hN1 h0) (a.exp - b.exp - 42)
    have e4 : a.exp - b.exp - 42 - 4 = a.exp - b.exp - 46 := by omega
    have e3 : a.exp - b.exp - 42 - 3 = a.exp - b.exp - 45 := by omega
    rw [e4, e3] at this
    exact this
/-- two numbers and a result lie in three blocks from w's end on -/
structure Box3 (w wr : World) (na : Bool) (da : ByteArray) (ea : Int) (nb : Bool) (db : ByteArray) (eb : Int) : Prop where
  s0 : wr.cell? ⟨w.heap.size, 0, none⟩ = some (.bool na)
  s1 : wr.cell? ⟨w.heap.size, 1, none⟩ = some (.string da)
  s2 : wr.cell? ⟨w.heap.size, 2, none⟩ = some (.int .i64 ea)
  s3 : wr.cell? ⟨w.heap.size + 1, 0, none⟩ = some (.bool nb)
  s4 : wr.cell? ⟨w.heap.size + 1, 1, none⟩ = some (.string db)
  s5 : wr.cell? ⟨w.heap.size + 1, 2, none⟩ = some (.int .i64 eb)
  s6 : wr.cell? ⟨w.heap.size + 1 + 1, 0, none⟩ = some (.bool false)
  s7 : wr.cell? ⟨w.heap.size + 1 + 1, 1, none⟩ = some (.string ⟨#[]⟩)
  s8 : wr.cell? ⟨w.heap.size + 1 + 1, 2, none⟩ = some (.int .i64 0)
  r0 : wr.frozen? ⟨w.heap.size + 1 + 1, 0, none⟩ = false
  r1 : wr.frozen? ⟨w.heap.size + 1 + 1, 1, none⟩ = false
  r2 : wr.frozen? ⟨w.heap.size + 1 + 1, 2, none⟩ = false
  bw : Below w.heap.size w wr
  lt : w.heap.size + 1 + 1 < wr.heap.size
theorem Box3.call {w wr w2 : World} {na : Bool} {da : ByteArray} {ea : Int} {nb : Bool} {db : ByteArray} {eb : Int} (h : Box3 w wr na da ea nb db eb) (hb : Below wr.heap.size wr w2) : Box3 w w2 na da ea nb db eb :=
  ⟨keeps_cells hb _ _ h.s0, keeps_cells hb _ _ h.s1, keeps_cells hb _ _ h.s2, keeps_cells hb _ _ h.s3, keeps_cells hb _ _ h.s4, keeps_cells hb _ _ h.s5, keeps_cells hb _ _ h.s6, keeps_cells hb _ _ h.s7, keeps_cells hb _ _ h.s8, (hb.frozen (p := ⟨w.heap.size + 1 + 1, 0, none⟩) h.lt).trans h.r0, (hb.frozen (p := ⟨w.heap.size + 1 + 1, 1, none⟩) h.lt).trans h.r1, (hb.frozen (p := ⟨w.heap.size + 1 + 1, 2, none⟩) h.lt).trans h.r2, ext_trans h.bw hb, Nat.lt_of_lt_of_le h.lt hb.size⟩
theorem Box3.drew {w wr : World} {na : Bool} {da : ByteArray} {ea : Int} {nb : Bool} {db : ByteArray} {eb : Int} (h : Box3 w wr na da ea nb db eb) : Box3 w wr.drew na da ea nb db eb :=
  ⟨h.s0, h.s1, h.s2, h.s3, h.s4, h.s5, h.s6, h.s7, h.s8, h.r0, h.r1, h.r2, h.bw.drew, h.lt⟩
theorem box3_start (w : World) (na : Bool) (da : ByteArray) (ea : Int) (nb : Bool) (db : ByteArray) (eb : Int) : Box3 w (((w.alloc (.cells #[.bool na, .string da, .int .i64 ea] 27)).alloc (.cells #[.bool nb, .string db, .int .i64 eb] 27)).alloc (.cells #[.bool false, .string ⟨#[]⟩, .int .i64 0] 27)) na da ea nb db eb := by
  refine ⟨?_, ?_, ?_, ?_, ?_, ?_, ?_, ?_, ?_, ?_, ?_, ?_, ext_trans (ext_trans (ext_alloc _ _) (ext_alloc _ _)) (ext_alloc _ _), by simp⟩
  all_goals go_simp
end Go.Proofs.YthfmhenphnllfaaGreatDoor
