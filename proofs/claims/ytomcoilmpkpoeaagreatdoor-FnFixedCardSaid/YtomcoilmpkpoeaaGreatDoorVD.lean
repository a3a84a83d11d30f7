/-
  What is proved here: plain laws on rows of digits and on numbers: values, sums, differences, comparisons; what is read from a text is sound. No program in sight; no condition.
  What is proved here: spec.l02Sub and spec.l02Cmp: the difference and the comparison of two rows of digits. No condition but that the bytes are digits.
  What is proved here: impl.natCmp (with cmp.Compare and cmp.Or at int) compares two rows of digits that have no leading noughts. No condition else.
  What is proved here: the plain law of FixText; spec.l03Dig and impl.digits. The conditions are on the bytes alone.
  What is proved here: spec.l03Level and impl.aligned bring two numbers to one exponent. The conditions are on sizes alone.
  What is proved here: spec.DecNeg, spec.l03Sum (without its digits) and impl.decCmp. The conditions are that the numbers are sound.
  What is proved here: spec.l03Sum without its digits, and spec.DecCmp. The conditions are that the numbers are sound.
  What is proved here: plain laws: the number that is read from a text is sound; the comparison of two texts. No program in sight; no condition.
  What is proved here: plain laws on rows of digits: products, quotients, and how a quotient is rounded. No program in sight; no condition.
  What is proved here: NumVal on both sides. No condition.
  What is proved here: a number's text, read again, is the number (plain laws). No program in sight; no condition.
-/
import Derived.Test.YtomcoilmpkpoeaaGreatDoorVTruth
import Derived.Test.YtomcoilmpkpoeaaGreatDoorVRound
import Derived.Test.YtomcoilmpkpoeaaGreatDoorVDecText
import Derived.Test.YtomcoilmpkpoeaaGreatDoorVB
import Derived.Test.YtomcoilmpkpoeaaGreatDoorVValText
namespace Go.Proofs.YtomcoilmpkpoeaaGreatDoor
open Go.RowKit
set_option linter.unusedVariables false
set_option linter.unusedSimpArgs false

def vD (l : List UInt8) : Nat := valD 0 l
theorem vD_cons (c : UInt8) (r : List UInt8) : vD (c :: r) = (c.toNat - 48) * 10 ^ r.length + vD r := by
  unfold vD
  rw [valD_cons, valD_add, Nat.mul_zero, Nat.zero_add]
theorem dgA_cons_lt {c : UInt8} {r : List UInt8} {k : Nat} (h : k < r.length) : dgA (c :: r) k = dgA r k := by
  unfold dgA
  rw [List.reverse_cons, List.getElem?_append_left (by rw [List.length_reverse]; exact h)]
theorem dgA_cons_at (c : UInt8) (r : List UInt8) : dgA (c :: r) r.length = c.toNat - 48 := by
  unfold dgA
  rw [List.reverse_cons, List.getElem?_append_right (by rw [List.length_reverse]; exact Nat.le_refl _), List.length_reverse, Nat.sub_self]
  rfl
/-- the value of the first n places from the end -/
def pv (l : List UInt8) : Nat → Nat
  | 0 => 0
  | k + 1 => pv l k + dgA l k * 10 ^ k
theorem pv_cons_le {c : UInt8} {r : List UInt8} : ∀ k, k ≤ r.length → pv (c :: r) k = pv r k
  | 0, _ => rfl
  | k + 1, h => by rw [pv, pv, pv_cons_le k (by omega), dgA_cons_lt (by omega)]
theorem pv_len : ∀ l : List UInt8, pv l l.length = vD l
  | [] => rfl
  | c :: r => by
    rw [List.length_cons, pv, pv_cons_le _ (Nat.le_refl _), pv_len r, dgA_cons_at, vD_cons, Nat.add_comm]
theorem pv_far {l : List UInt8} : ∀ n, l.length ≤ n → pv l n = vD l
  | 0, h => by
    have : l = [] := List.eq_nil_of_length_eq_zero (by omega)
    subst this
    rfl
  | n + 1, h => by
    by_cases he : l.length = n + 1
    · rw [← he]; exact pv_len l
    · rw [pv, dgA_far (by omega), pv_far n (by omega), Nat.zero_mul, Nat.add_zero]
theorem pv_part (l : List UInt8) (n : Nat) : ∀ m, n ≤ m → ∃ q, pv l m = pv l n + q * 10 ^ n
  | 0, h => ⟨0, by rw [show n = 0 by omega]; simp⟩
  | m + 1, h => by
    by_cases he : n = m + 1
    · exact ⟨0, by rw [he]; simp⟩
    · obtain ⟨q, hq⟩ := pv_part l n m (by omega)
      refine ⟨q + dgA l m * 10 ^ (m - n), ?_⟩
      rw [pv, hq, Nat.add_mul, Nat.mul_assoc, ← Nat.pow_add, Nat.sub_add_cancel (by omega), Nat.add_assoc]
theorem pv_small {l : List UInt8} {n : Nat} (h : vD l < 10 ^ n) : pv l n = vD l := by
  by_cases hl : l.length ≤ n
  · exact pv_far n hl
  · obtain ⟨q, hq⟩ := pv_part l n l.length (by omega)
    rw [pv_len] at hq
    rw [hq] at h ⊢
    cases q with
    | zero => simp
    | succ q =>
      exfalso
      have : 10 ^ n ≤ (q + 1) * 10 ^ n := Nat.le_mul_of_pos_left _ (Nat.succ_pos _)
      omega
theorem digit_nat {n : Nat} (h : n < 10) : (UInt8.ofNat (48 + n)).toNat - 48 = n := by rw [ofNat_toNat (by omega)]; omega
theorem pv_out (a b : List UInt8) : ∀ n, vD (outA a b n) + cyA a b n * 10 ^ n = pv a n + pv b n
  | 0 => by rw [cyA]; rfl
  | n + 1 => by
    have ih := pv_out a b n
    rw [outA, vD_cons, digit_nat (Nat.mod_lt _ (by decide)), outA_len, pv, pv, cyA_succ]
    have e : smA a b n = dgA a n + dgA b n + cyA a b n := rfl
    have h1 := Nat.div_add_mod (smA a b n) 10
    have h2 : (smA a b n % 10) * 10 ^ n + smA a b n / 10 * 10 ^ (n + 1) = smA a b n * 10 ^ n := by
      rw [Nat.pow_succ, Nat.mul_comm (10 ^ n) 10, ← Nat.mul_assoc, ← Nat.add_mul]
      congr 1
      omega
    have h3 : smA a b n * 10 ^ n = dgA a n * 10 ^ n + dgA b n * 10 ^ n + cyA a b n * 10 ^ n := by rw [e, Nat.add_mul, Nat.add_mul]
    omega
theorem vD_trim (l : List UInt8) : vD (trimL l) = vD l := valD_trim l
theorem vD_add {a b : List UInt8} (ha : digits a) (hb : digits b) : vD (addL a b) = vD a + vD b := by
  unfold addL
  rw [vD_trim]
  have h := pv_out a b (max a.length b.length + 1)
  rw [cyA_end ha hb, Nat.zero_mul, Nat.add_zero, pv_far _ (by omega), pv_far _ (by omega)] at h
  exact h
/-- what is owed at a place, and the digits of a difference -/
def owS (a b : List UInt8) : Nat → Nat
  | 0 => 0
  | k + 1 => if dgA a k < dgA b k + owS a b k then 1 else 0
def dfS (a b : List UInt8) (k : Nat) : Nat := dgA a k + 10 * owS a b (k + 1) - dgA b k - owS a b k
def outS (a b : List UInt8) : Nat → List UInt8
  | 0 => []
  | k + 1 => UInt8.ofNat (48 + dfS a b k) :: outS a b k
def subL (a b : List UInt8) : List UInt8 := trimL (outS a b a.length)
theorem owS_le (a b : List UInt8) : ∀ k, owS a b k ≤ 1
  | 0 => by rw [owS]; exact Nat.zero_le _
  | k + 1 => by rw [owS]; split <;> decide
theorem outS_len (a b : List UInt8) : ∀ k, (outS a b k).length = k
  | 0 => rfl
  | k + 1 => by rw [outS, List.length_cons, outS_len a b k]
theorem dfS_le {a b : List UInt8} (ha : digits a) (hb : digits b) (k : Nat) : dfS a b k < 10 ∧ dfS a b k + dgA b k + owS a b k = dgA a k + 10 * owS a b (k + 1) := by
  have h1 := dgA_le ha k
  have h2 := dgA_le hb k
  have h3 := owS_le a b k
  unfold dfS
  rw [owS]
  split <;> omega
theorem pv_outS {a b : List UInt8} (ha : digits a) (hb : digits b) : ∀ n, vD (outS a b n) + pv b n = pv a n + owS a b n * 10 ^ n
  | 0 => by rw [owS]; rfl
  | n + 1 => by
    have ih := pv_outS ha hb n
    obtain ⟨h1, h2⟩ := dfS_le ha hb n
    rw [outS, vD_cons, digit_nat h1, outS_len, pv, pv]
    have h3 : dfS a b n * 10 ^ n + dgA b n * 10 ^ n + owS a b n * 10 ^ n = dgA a n * 10 ^ n + owS a b (n + 1) * 10 ^ (n + 1) := by
      rw [← Nat.add_mul, ← Nat.add_mul, h2, Nat.add_mul, Nat.pow_succ, Nat.mul_comm 10, Nat.mul_assoc, Nat.mul_comm 10]
    omega
theorem vD_lt {l : List UInt8} (h : digits l) : vD l < 10 ^ l.length := valD_lt l h
theorem digits_outS {a b : List UInt8} (ha : digits a) (hb : digits b) : ∀ n, digits (outS a b n)
  | 0 => digits_nil
  | n + 1 => by
    rw [outS]
    refine digits_cons ?_ (digits_outS ha hb n)
    have := (dfS_le ha hb n).1
    rw [isDig_iff, ofNat_toNat (by omega)]
    omega
theorem vD_sub {a b : List UInt8} (ha : digits a) (hb : digits b) (h : vD b ≤ vD a) : vD (subL a b) + vD b = vD a := by
  unfold subL
  rw [vD_trim]
  have h1 := pv_outS ha hb a.length
  have h2 := vD_lt ha
  have h3 := vD_lt (digits_outS ha hb a.length)
  rw [outS_len] at h3
  rw [pv_len, pv_small (l := b) (n := a.length) (by omega)] at h1
  have h4 := owS_le a b a.length
  have h5 : owS a b a.length = 0 := by
    rcases Nat.lt_or_ge (owS a b a.length) 1 with h5 | h5
    · omega
    · have : owS a b a.length = 1 := by omega
      rw [this, Nat.one_mul] at h1
      omega
  rw [h5, Nat.zero_mul, Nat.add_zero] at h1
  exact h1
theorem vD_pos {c : UInt8} {r : List UInt8} (h : digits (c :: r)) (h48 : ¬ c = 48) : 10 ^ r.length ≤ vD (c :: r) := by
  rw [vD_cons]
  have hc := h c (by simp)
  have hn : ¬ c.toNat = 48 := fun h' => h48 (toNat_eq_48.1 h')
  have : 1 * 10 ^ r.length ≤ (c.toNat - 48) * 10 ^ r.length := Nat.mul_le_mul_right _ (by omega)
  omega
theorem trim_zero_iff {l : List UInt8} (h : digits l) : trimL l = [48] ↔ vD l = 0 := by
  rw [← vD_trim]
  rcases trimL_cases l with h1 | ⟨c, r, h1, h48⟩
  · rw [h1]; exact ⟨fun _ => rfl, fun _ => rfl⟩
  · have h2 := vD_pos (c := c) (r := r) (by rw [← h1]; exact digits_trim h) h48
    rw [h1]
    constructor
    · intro h'
      injection h' with e1 _
      exact absurd e1 h48
    · intro h'
      have : 0 < 10 ^ r.length := Nat.pow_pos (by decide)
      omega
theorem less_iff : ∀ {a b : List UInt8}, digits a → digits b → a.length = b.length → (Op.bytesLess a b = true ↔ vD a < vD b)
  | [], [], _, _, _ => by simp [Op.bytesLess, vD, valD]
  | [], _ :: _, _, _, h => by simp at h
  | _ :: _, [], _, _, h => by simp at h
  | x :: a, y :: b, ha, hb, h => by
    have hl : a.length = b.length := by simpa using h
    have hx := ha x (by simp)
    have hy := hb y (by simp)
    have ha' : digits a := fun c hc => ha c (by simp [hc])
    have hb' : digits b := fun c hc => hb c (by simp [hc])
    have ih := less_iff ha' hb' hl
    have h1 := vD_lt ha'
    have h2 := vD_lt hb'
    rw [vD_cons, vD_cons, hl]
    rw [hl] at h1
    rw [Op.bytesLess]
    by_cases hlt : x < y
    · have hn : x.toNat < y.toNat := hlt
      have : (x.toNat - 48 + 1) * 10 ^ b.length ≤ (y.toNat - 48) * 10 ^ b.length := Nat.mul_le_mul_right _ (by omega)
      rw [Nat.add_mul, Nat.one_mul] at this
      simp [hlt]
      omega
    · by_cases he : x = y
      · subst he
        simp [ih]
      · have hn : y.toNat < x.toNat := by
          have h3 : ¬ x.toNat < y.toNat := hlt
          have h4 : ¬ x.toNat = y.toNat := fun h' => he (UInt8.toNat.inj h')
          omega
        have : (y.toNat - 48 + 1) * 10 ^ b.length ≤ (x.toNat - 48) * 10 ^ b.length := Nat.mul_le_mul_right _ (by omega)
        rw [Nat.add_mul, Nat.one_mul] at this
        simp [hlt, he]
        omega
end Go.Proofs.YtomcoilmpkpoeaaGreatDoor

namespace Go.Proofs.YtomcoilmpkpoeaaGreatDoor
open Go.RowKit
set_option linter.unusedVariables false
set_option linter.unusedSimpArgs false

def sgn3 (a b : Nat) : Int := if a < b then -1 else if a = b then 0 else 1
theorem trim_eq {a b : List UInt8} (ha : digits a) (hb : digits b) (h : (trimL a).length = (trimL b).length) (hv : vD a = vD b) : trimL a = trimL b := by
  have key : ∀ (x y : List UInt8), digits x → digits y → x.length = y.length → vD x = vD y → x = y := by
    intro x
    induction x with
    | nil => intro y _ _ h _; exact (List.eq_nil_of_length_eq_zero h.symm).symm
    | cons c r ih =>
      intro y hx hy hl hv
      cases y with
      | nil => simp at hl
      | cons d t =>
        have hl' : r.length = t.length := by simpa using hl
        have hr : digits r := fun z hz => hx z (by simp [hz])
        have ht : digits t := fun z hz => hy z (by simp [hz])
        have h1 := vD_lt hr
        have h2 := vD_lt ht
        rw [vD_cons, vD_cons, hl'] at hv
        rw [hl'] at h1
        have hc := hx c (by simp)
        have hd := hy d (by simp)
        have e1 : c.toNat - 48 = d.toNat - 48 := by
          have a1 : ((c.toNat - 48) * 10 ^ t.length + vD r) / 10 ^ t.length = c.toNat - 48 := by
            rw [Nat.mul_comm, Nat.mul_add_div (Nat.pow_pos (by decide)), Nat.div_eq_of_lt h1, Nat.add_zero]
          have a2 : ((d.toNat - 48) * 10 ^ t.length + vD t) / 10 ^ t.length = d.toNat - 48 := by
            rw [Nat.mul_comm, Nat.mul_add_div (Nat.pow_pos (by decide)), Nat.div_eq_of_lt h2, Nat.add_zero]
          rw [← a1, hv, a2]
        rw [e1] at hv
        have e2 : c = d := UInt8.toNat.inj (by omega)
        rw [e2, ih t hr ht hl' (by omega)]
  exact key _ _ (digits_trim ha) (digits_trim hb) h (by rw [vD_trim, vD_trim]; exact hv)
theorem trim_short {a b : List UInt8} (ha : digits a) (hb : digits b) (h : (trimL a).length < (trimL b).length) : vD a < vD b := by
  rw [← vD_trim a, ← vD_trim b]
  have h1 := vD_lt (digits_trim ha)
  have hl := (trimL_len a).2
  rcases trimL_cases b with h2 | ⟨c, r, h2, h48⟩
  · rw [h2] at h
    simp only [List.length_cons, List.length_nil] at h
    omega
  · have h3 := vD_pos (c := c) (r := r) (by rw [← h2]; exact digits_trim hb) h48
    rw [h2] at h ⊢
    rw [List.length_cons] at h
    have : 10 ^ (trimL a).length ≤ 10 ^ r.length := Nat.pow_le_pow_right (by decide) (by omega)
    omega
set_option maxHeartbeats 4000000 in
theorem specNatCmp (a b : ByteArray) (w : World) (ha : digits a.data.toList) (hb : digits b.data.toList) (hsa : a.size ≤ 1000000) (hsb : b.size ≤ 1000000) :
    Calls Tryz.prog 109 #[.string a, .string b] w fun e w' => e = .returned (.int .i64 (sgn3 (vD a.data.toList) (vD b.data.toList))) ∧ w = w' := by
  have CA := hid (fun (w : World) => specTrim a w hsa)
  have CB := hid (fun (w : World) => specTrim b w hsb)
  obtain ⟨la, hla⟩ : ∃ l, a.data.toList = l := ⟨_, rfl⟩
  obtain ⟨lb, hlb⟩ : ∃ l, b.data.toList = l := ⟨_, rfl⟩
  obtain ⟨x, hx⟩ : ∃ x, trimB a = x := ⟨_, rfl⟩
  obtain ⟨y, hy⟩ : ∃ y, trimB b = y := ⟨_, rfl⟩
  rw [hx] at CA
  rw [hy] at CB
  have hxd : x.data.toList = trimL la := by rw [← hx]; unfold trimB; rw [mkB_data, hla]
  have hyd : y.data.toList = trimL lb := by rw [← hy]; unfold trimB; rw [mkB_data, hlb]
  have hxs : x.size = (trimL la).length := by rw [Lib.size_eq, hxd]
  have hys : y.size = (trimL lb).length := by rw [Lib.size_eq, hyd]
  rw [hla] at ha ⊢
  rw [hlb] at hb ⊢
  obtain ⟨R, hR⟩ : ∃ r, sgn3 (vD la) (vD lb) = r := ⟨_, rfl⟩
  rw [hR]
  unfold sgn3 at hR
  by_cases h1 : x.size < y.size
  · have HR := hid (show R = -1 by rw [← hR, if_pos (trim_short ha hb (by omega))])
    have g1 : (x.size : Int) < (y.size : Int) := by omega
    clear h1 hR hxs hys hx hy
    go_enter Tryz.func109, Tryz.ntmps109
    go_wp2_with fail
    refine (CA.out _).mono ?_
    rintro e w1 ⟨rfl, rfl⟩
    go_wp2_with fail
    refine (CB.out _).mono ?_
    rintro e w1 ⟨rfl, rfl⟩
    go_wp2
    go_ret
    rw [HR.out]
    exact ⟨rfl, by first | rfl | trivial⟩
  have g1 : ¬ (x.size : Int) < (y.size : Int) := by omega
  by_cases h2 : x.size = y.size
  · have g2 : ((x.size : Int) == (y.size : Int)) = true := by rw [beq_iff_eq]; omega
    have hless : Op.bytesLess x.toList y.toList = decide (vD la < vD lb) := by
      rw [Bool.eq_iff_iff, decide_eq_true_eq, Lib.toList_data, Lib.toList_data, hxd, hyd, less_iff (digits_trim ha) (digits_trim hb) (by omega), vD_trim, vD_trim]
    have hg2 : ((y.size : Int) == (y.size : Int)) = true := by rw [beq_iff_eq]
    by_cases h3 : vD la < vD lb
    · have HR := hid (show R = -1 by rw [← hR, if_pos h3])
      rw [decide_eq_true h3] at hless
      clear h1 h2 h3 hR hxs hys hx hy
      go_enter Tryz.func109, Tryz.ntmps109
      go_wp2_with fail
      refine (CA.out _).mono ?_
      rintro e w1 ⟨rfl, rfl⟩
      go_wp2_with fail
      refine (CB.out _).mono ?_
      rintro e w1 ⟨rfl, rfl⟩
      go_wp2
      go_ret
      rw [HR.out]
      exact ⟨rfl, by first | rfl | trivial⟩
    · rw [decide_eq_false h3] at hless
      by_cases h4 : vD la = vD lb
      · have HR := hid (show R = 0 by rw [← hR, if_neg h3, if_pos h4])
        have heq : (x.toList == y.toList) = true := by rw [beq_iff_eq, Lib.toList_data, Lib.toList_data, hxd, hyd, trim_eq ha hb (by omega) h4]
        clear h1 h2 h3 h4 hR hxs hys hx hy
        go_enter Tryz.func109, Tryz.ntmps109
        go_wp2_with fail
        refine (CA.out _).mono ?_
        rintro e w1 ⟨rfl, rfl⟩
        go_wp2_with fail
        refine (CB.out _).mono ?_
        rintro e w1 ⟨rfl, rfl⟩
        go_wp2
        go_ret
        rw [HR.out]
        exact ⟨rfl, by first | rfl | trivial⟩
      · have HR := hid (show R = 1 by rw [← hR, if_neg h3, if_neg h4])
        have heq : (x.toList == y.toList) = false := by
          rw [beq_eq_false_iff_ne, Lib.toList_data, Lib.toList_data, hxd, hyd]
          intro h5
          exact h4 (by rw [← vD_trim la, h5, vD_trim])
        clear h1 h2 h3 h4 hR hxs hys hx hy
        go_enter Tryz.func109, Tryz.ntmps109
        go_wp2_with fail
        refine (CA.out _).mono ?_
        rintro e w1 ⟨rfl, rfl⟩
        go_wp2_with fail
        refine (CB.out _).mono ?_
        rintro e w1 ⟨rfl, rfl⟩
        go_wp2
        go_ret
        rw [HR.out]
        exact ⟨rfl, by first | rfl | trivial⟩
  · have g2 : ((x.size : Int) == (y.size : Int)) = false := by rw [beq_eq_false_iff_ne]; omega
    have hgt := trim_short hb ha (by omega)
    have HR := hid (show R = 1 by rw [← hR, if_neg (by omega), if_neg (by omega)])
    have heq : (x.toList == y.toList) = false := by
      rw [beq_eq_false_iff_ne]
      intro h5
      exact h2 (by rw [ba_toList_inj h5])
    clear h1 h2 hR hxs hys hx hy
    go_enter Tryz.func109, Tryz.ntmps109
    go_wp2_with fail
    refine (CA.out _).mono ?_
    rintro e w1 ⟨rfl, rfl⟩
    go_wp2_with fail
    refine (CB.out _).mono ?_
    rintro e w1 ⟨rfl, rfl⟩
    go_wp2
    go_ret
    rw [HR.out]
    exact ⟨rfl, by first | rfl | trivial⟩
set_option maxHeartbeats 8000000 in
set_option maxRecDepth 100000 in
theorem specSub (a b : ByteArray) (w : World) (hda : digits a.data.toList) (hdb : digits b.data.toList) (ha : a.size ≤ 5000) (hb : b.size ≤ 5000) :
    Calls Tryz.prog 110 #[.string a, .string b] w fun e w' => e = .returned (.string (mkB (subL a.data.toList b.data.toList))) ∧ Below w.heap.size w w' := by
  obtain ⟨i0, hi, hz0, hz1, hz2⟩ := info_parts info_u8A
  obtain ⟨la, hla⟩ : ∃ l, a.data.toList = l := ⟨_, rfl⟩
  obtain ⟨lb, hlb⟩ : ∃ l, b.data.toList = l := ⟨_, rfl⟩
  have hsa : a.size = la.length := by rw [Lib.size_eq, hla]
  have CA := hid (fun (k : Nat) (w : World) (hk : k ≤ 1000000) => specDigit a k w hda (by omega) hk)
  have CB := hid (fun (k : Nat) (w : World) (hk : k ≤ 1000000) => specDigit b k w hdb (by omega) hk)
  rw [hla] at hda CA
  rw [hlb] at hdb CB
  rw [hla, hlb]
  have HDA := hid hda
  have HDB := hid hdb
  have HAL := hid (show subL la lb = trimL (outS la lb a.size) by unfold subL; rw [hsa])
  clear hda hdb hla hlb hsa
  go_enter Tryz.func110, Tryz.ntmps110
  go_wp2
  go_loopw [5, 6, 7] (fun out ow ki wr => ∃ (k g cap : Nat), k ≤ a.size ∧ ki = .int .i64 (k : Int) ∧ ow = .int .i64 (owS la lb k : Int) ∧ out = .slice (some ⟨g, 0, none⟩) k cap ∧ wr.ownsRow w.heap.size 5 1 out k (byteVals (outS la lb k)) ∧ Below w.heap.size w wr) (fun _ _ ki _ => a.size - (intOf ki).toNat)
  case atStart => exact ⟨0, w.heap.size, 0, Nat.zero_le _, rfl, by rw [owS]; rfl, rfl, own_none (Nat.le_refl _) _, ext_alloc _ _⟩
  case round =>
    obtain ⟨k, g, cap, hk, rfl, rfl, rfl, hown, hbl⟩ := hrel
    have HOL := hid (outS_len la lb k)
    by_cases hlt : k < a.size
    · have hcy := owS_le la lb k
      obtain ⟨hd10, hdf⟩ := dfS_le HDA.out HDB.out k
      have hda9 := dgA_le HDA.out k
      have hdb9 := dgA_le HDB.out k
      have HO := hid (show outS la lb (k + 1) = UInt8.ofNat (48 + dfS la lb k) :: outS la lb k by rw [outS])
      have hq0 : owS la lb (k + 1) = if dgA la k < dgA lb k + owS la lb k then 1 else 0 := by rw [owS]
      obtain ⟨c, hc⟩ : ∃ c, owS la lb k = c := ⟨_, rfl⟩
      obtain ⟨dg, hdg⟩ : ∃ m, dfS la lb k = m := ⟨_, rfl⟩
      obtain ⟨da, hdae⟩ : ∃ m, dgA la k = m := ⟨_, rfl⟩
      obtain ⟨db, hdbe⟩ : ∃ m, dgA lb k = m := ⟨_, rfl⟩
      obtain ⟨q, hq⟩ : ∃ m, owS la lb (k + 1) = m := ⟨_, rfl⟩
      have CAk := hid (CA.out k)
      have CBk := hid (CB.out k)
      rw [hdae] at CAk hda9
      rw [hdbe] at CBk hdb9
      rw [hdg, hdbe, hc, hdae, hq] at hdf
      rw [hdg] at HO hd10
      rw [hdae, hdbe, hc, hq] at hq0
      rw [hc] at hcy ⊢
      have HQ := hid hq
      have hv1 : IntKind.u8.wrap (48 + (dg : Int)) = 48 + (dg : Int) := by simp [IntKind.wrap, IntKind.bits, IntKind.signed]; omega
      have hv2 : (48 + (dg : Int)) % 256 = 48 + (dg : Int) := by omega
      have hw1 : IntKind.i64.wrap ((da : Int) - (db : Int)) = (da : Int) - (db : Int) := IntWalk.i64_in _ (by omega)
      have hw2 : IntKind.i64.wrap ((da : Int) - (db : Int) - (c : Int)) = (da : Int) - (db : Int) - (c : Int) := IntWalk.i64_in _ (by omega)
      have hi1 : (k : Int) < (a.size : Int) := by omega
      have hlit : (wr.alloc (.cells #[.int .u8 (48 + (dg : Int))] 5)).ownsRow w.heap.size 5 1 (.slice (some ⟨wr.heap.size, 0, none⟩) 1 1) 1 [.int .u8 (48 + (dg : Int))] := World.ownsRow_lit wr #[.int .u8 (48 + (dg : Int))] 1 hbl.size (by decide) rfl
      clear hc hdae hdbe hq hdg
      by_cases hneg : da < db + c
      · have hq1 : q = 1 := by rw [hq0, if_pos hneg]
        have g1 : (da : Int) - (db : Int) - (c : Int) < 0 := by omega
        have hsum : (da : Int) - (db : Int) - (c : Int) + 10 = (dg : Int) := by omega
        rw [hq1] at HQ
        clear hq0 hdf hneg hq1
        go_wp2_with fail
        refine (CAk.out _ (by omega)).mono ?_
        rintro e w1 ⟨rfl, rfl⟩
        go_wp2_with fail
        refine (CBk.out _ (by omega)).mono ?_
        rintro e w1 ⟨rfl, rfl⟩
        go_wp2_with ((at_builtin; refine wpList_append_own _ rfl _ _ 33 rfl w.heap.size 5 i0 (.int .u8 0) 1 1 Tryz.underlying33 hi hz0 hz1 hz2 rfl (by decide) _ _ _ rfl hlit ⟨g, 0, none⟩ k cap (byteVals (outS la lb k)) rfl (by rw [byteVals_length, Nat.mul_one, HOL.out]) ?c1 ?c2 ?c3 ?c4 ?c5 ?_))
        case c1 => first | exact fun j u hu => (hown.alloc _).cells (g := g) rfl j u hu | (intro j u hu; have hcl := (hown.alloc (.cells #[.int .u8 (48 + (dg : Int))] 5)).cells (g := g) rfl j u hu; rw [Addr.add_lit, Nat.zero_add] at hcl; exact hcl)
        case c2 =>
          intro u hu
          unfold byteVals at hu
          obtain ⟨y, _, rfl⟩ := List.mem_map.1 hu
          rfl
        case c3 => unfold maxLen; omega
        case c4 => omega
        case c5 => first | (simp; exact Nat.le_trans hbl.size (by omega)) | (exact Nat.le_trans hbl.size (by omega))
        intro v' w2 hown2 hgrow _
        have hlt' := hlit.lt
        have hB2 : Below w.heap.size w w2 := (ext_trans hbl (ext_alloc _ _)).grown hgrow (ext_trans hbl (ext_alloc _ _)).size (fun q hq => (hlt' q hq).1)
        obtain ⟨g', cap', rfl, hob⟩ := own_some hown2 (by omega)
        clear hi hz0 hz1 hz2 hgrow hown hlt' hlit
        have hown3 : w2.ownsRow w.heap.size 5 1 (.slice (some ⟨g', 0, none⟩) (1 + k) cap') (k + 1) (byteVals (outS la lb (k + 1))) := by
          have e2 : byteVals (outS la lb (k + 1)) = [.int .u8 (48 + (dg : Int))] ++ byteVals (outS la lb k) := by
            rw [HO.out]
            unfold byteVals
            rw [List.map_cons, u8_cast (show 48 + dg < 256 by omega)]
            rfl
          rw [e2, Nat.add_comm k 1]
          exact hown2
        clear hown2
        go_wp2
        go_roundw
        case rel => exact ⟨k + 1, g', cap', by omega, by go_num, by rw [HQ.out]; first | rfl | go_num, by rw [Nat.add_comm k 1], by rw [Nat.add_comm 1 k] at hown3 ⊢; exact hown3, hB2⟩
        case measure => simp [intOf]; omega
      · have hq1 : q = 0 := by rw [hq0, if_neg hneg]
        have g1 : ¬ (da : Int) - (db : Int) - (c : Int) < 0 := by omega
        have hsum : (da : Int) - (db : Int) - (c : Int) = (dg : Int) := by omega
        have g2 : ¬ (dg : Int) < 0 := by omega
        rw [hq1] at HQ
        clear hq0 hdf hneg hq1
        go_wp2_with fail
        refine (CAk.out _ (by omega)).mono ?_
        rintro e w1 ⟨rfl, rfl⟩
        go_wp2_with fail
        refine (CBk.out _ (by omega)).mono ?_
        rintro e w1 ⟨rfl, rfl⟩
        go_wp2_with ((at_builtin; refine wpList_append_own _ rfl _ _ 33 rfl w.heap.size 5 i0 (.int .u8 0) 1 1 Tryz.underlying33 hi hz0 hz1 hz2 rfl (by decide) _ _ _ rfl hlit ⟨g, 0, none⟩ k cap (byteVals (outS la lb k)) rfl (by rw [byteVals_length, Nat.mul_one, HOL.out]) ?c1 ?c2 ?c3 ?c4 ?c5 ?_))
        case c1 => first | exact fun j u hu => (hown.alloc _).cells (g := g) rfl j u hu | (intro j u hu; have hcl := (hown.alloc (.cells #[.int .u8 (48 + (dg : Int))] 5)).cells (g := g) rfl j u hu; rw [Addr.add_lit, Nat.zero_add] at hcl; exact hcl)
        case c2 =>
          intro u hu
          unfold byteVals at hu
          obtain ⟨y, _, rfl⟩ := List.mem_map.1 hu
          rfl
        case c3 => unfold maxLen; omega
        case c4 => omega
        case c5 => first | (simp; exact Nat.le_trans hbl.size (by omega)) | (exact Nat.le_trans hbl.size (by omega))
        intro v' w2 hown2 hgrow _
        have hlt' := hlit.lt
        have hB2 : Below w.heap.size w w2 := (ext_trans hbl (ext_alloc _ _)).grown hgrow (ext_trans hbl (ext_alloc _ _)).size (fun q hq => (hlt' q hq).1)
        obtain ⟨g', cap', rfl, hob⟩ := own_some hown2 (by omega)
        clear hi hz0 hz1 hz2 hgrow hown hlt' hlit
        have hown3 : w2.ownsRow w.heap.size 5 1 (.slice (some ⟨g', 0, none⟩) (1 + k) cap') (k + 1) (byteVals (outS la lb (k + 1))) := by
          have e2 : byteVals (outS la lb (k + 1)) = [.int .u8 (48 + (dg : Int))] ++ byteVals (outS la lb k) := by
            rw [HO.out]
            unfold byteVals
            rw [List.map_cons, u8_cast (show 48 + dg < 256 by omega)]
            rfl
          rw [e2, Nat.add_comm k 1]
          exact hown2
        clear hown2
        go_wp2
        go_roundw
        case rel => exact ⟨k + 1, g', cap', by omega, by go_num, by rw [HQ.out]; first | rfl | go_num, by rw [Nat.add_comm k 1], by rw [Nat.add_comm 1 k] at hown3 ⊢; exact hown3, hB2⟩
        case measure => simp [intOf]; omega
    · obtain rfl : k = a.size := by omega
      have hi1 : ¬ (a.size : Int) < (a.size : Int) := by omega
      have hcv := own_string (P := Tryz.prog) (src := 33) (dst := 9) (l := outS la lb a.size) (by rw [HOL.out]; exact hown) Tryz.underlying33 Tryz.underlying5 Tryz.underlying9
      have hsz : (mkB (outS la lb a.size)).size ≤ 1000000 := by rw [mkB_size, HOL.out]; omega
      clear hi hz0 hz1 hz2 hown
      go_wp2_with fail
      refine (specTrim (mkB (outS la lb a.size)) _ hsz).mono ?_
      rintro e w2 ⟨rfl, rfl⟩
      go_wp2
      go_ret
      rw [HAL.out]
      exact ⟨rfl, hbl⟩
end Go.Proofs.YtomcoilmpkpoeaaGreatDoor

namespace Go.Proofs.YtomcoilmpkpoeaaGreatDoor
open Go.RowKit
set_option linter.unusedVariables false
set_option linter.unusedSimpArgs false

theorem cmp_same : ∀ {a b : List UInt8}, digits a → digits b → a.length = b.length → Lib.compareBytes a b = sgn3 (vD a) (vD b)
  | [], [], _, _, _ => rfl
  | [], _ :: _, _, _, h => by simp at h
  | _ :: _, [], _, _, h => by simp at h
  | x :: a, y :: b, ha, hb, h => by
    have hl : a.length = b.length := by simpa using h
    have hx := ha x (by simp)
    have hy := hb y (by simp)
    have ha' : digits a := fun c hc => ha c (by simp [hc])
    have hb' : digits b := fun c hc => hb c (by simp [hc])
    have ih := cmp_same ha' hb' hl
    have h1 := vD_lt ha'
    have h2 := vD_lt hb'
    rw [hl] at h1
    rw [Lib.compareBytes]
    unfold sgn3 at ih ⊢
    rw [vD_cons, vD_cons, hl]
    by_cases hlt : x < y
    · have hn : x.toNat < y.toNat := hlt
      have : (x.toNat - 48 + 1) * 10 ^ b.length ≤ (y.toNat - 48) * 10 ^ b.length := Nat.mul_le_mul_right _ (by omega)
      rw [Nat.add_mul, Nat.one_mul] at this
      rw [if_pos hlt, if_pos (by omega)]
    · rw [if_neg hlt]
      by_cases hgt : y < x
      · have hn : y.toNat < x.toNat := hgt
        have : (y.toNat - 48 + 1) * 10 ^ b.length ≤ (x.toNat - 48) * 10 ^ b.length := Nat.mul_le_mul_right _ (by omega)
        rw [Nat.add_mul, Nat.one_mul] at this
        rw [if_pos hgt, if_neg (by omega), if_neg (by omega)]
      · have h3 : ¬ x.toNat < y.toNat := hlt
        have h4 : ¬ y.toNat < x.toNat := hgt
        have e : x.toNat = y.toNat := by omega
        rw [if_neg hgt, ih, e]
        simp only [Nat.add_lt_add_iff_left, Nat.add_left_cancel_iff]
/-- rows without leading noughts: the longer one is the greater -/
theorem cmp_nat {a b : List UInt8} (ha : digits a) (hb : digits b) (hta : trimL a = a) (htb : trimL b = b) :
    sgn3 (vD a) (vD b) = if a.length < b.length then -1 else if b.length < a.length then 1 else Lib.compareBytes a b := by
  by_cases h1 : a.length < b.length
  · have := trim_short ha hb (by rw [hta, htb]; exact h1)
    rw [if_pos h1]
    unfold sgn3
    rw [if_pos this]
  · by_cases h2 : b.length < a.length
    · have := trim_short hb ha (by rw [hta, htb]; exact h2)
      rw [if_neg h1, if_pos h2]
      unfold sgn3
      rw [if_neg (by omega), if_neg (by omega)]
    · rw [if_neg h1, if_neg h2, cmp_same ha hb (by omega)]
theorem isNaNInt (a : Int) (w : World) : Calls Tryz.prog 162 #[.int .i64 a] w fun e w' => e = .returned (.bool false) ∧ w = w' := by
  go_enter Tryz.func162, Tryz.ntmps162
  go_wp2
  go_ret
  exact ⟨end_bool (by simp), rfl⟩
theorem cmpInt (a b : Int) (w : World) : Calls Tryz.prog 127 #[.int .i64 a, .int .i64 b] w fun e w' => e = .returned (.int .i64 (if a < b then -1 else if b < a then 1 else 0)) ∧ w = w' := by
  have CN := hid (fun (a : Int) (w : World) => isNaNInt a w)
  by_cases h1 : a < b
  · have HR := hid (show (if a < b then (-1 : Int) else if b < a then 1 else 0) = -1 by rw [if_pos h1])
    go_enter Tryz.func127, Tryz.ntmps127
    go_wp2_with (go_at_call 162; refine (CN.out _ _).mono ?_; rintro e w1 ⟨rfl, rfl⟩)
    go_ret
    first | (rw [HR.out]; exact ⟨rfl, rfl⟩) | exact ⟨rfl, rfl⟩ | exact ⟨rfl, by first | rfl | trivial⟩
  · by_cases h2 : b < a
    · have HR := hid (show (if a < b then (-1 : Int) else if b < a then 1 else 0) = 1 by rw [if_neg h1, if_pos h2])
      go_enter Tryz.func127, Tryz.ntmps127
      go_wp2_with (go_at_call 162; refine (CN.out _ _).mono ?_; rintro e w1 ⟨rfl, rfl⟩)
      go_ret
      first | (rw [HR.out]; exact ⟨rfl, rfl⟩) | exact ⟨rfl, rfl⟩ | exact ⟨rfl, by first | rfl | trivial⟩
    · have HR := hid (show (if a < b then (-1 : Int) else if b < a then 1 else 0) = 0 by rw [if_neg h1, if_neg h2])
      go_enter Tryz.func127, Tryz.ntmps127
      go_wp2_with (go_at_call 162; refine (CN.out _ _).mono ?_; rintro e w1 ⟨rfl, rfl⟩)
      go_ret
      first | (rw [HR.out]; exact ⟨rfl, rfl⟩) | exact ⟨rfl, rfl⟩ | exact ⟨rfl, by first | rfl | trivial⟩
set_option maxHeartbeats 1000000 in
theorem orInt (a b : Int) (g cap : Nat) (w : World) (h0 : w.cell? ⟨g, 0, none⟩ = some (.int .i64 a)) (h1 : w.cell? ⟨g, 1, none⟩ = some (.int .i64 b)) :
    Calls Tryz.prog 126 #[.slice (some ⟨g, 0, none⟩) 2 cap] w fun e w' => e = .returned (.int .i64 (if a = 0 then b else a)) ∧ w = w' := by
  obtain ⟨R, hR⟩ : ∃ r, (if a = 0 then b else a) = r := ⟨_, rfl⟩
  rw [hR]
  have HR := hid hR
  clear hR
  go_enter Tryz.func126, Tryz.ntmps126
  go_wp2
  go_loopw [8] (fun k wr => ∃ n : Nat, n ≤ 2 ∧ k = .int .i64 (n : Int) ∧ Hid (1 ≤ n → a = 0) ∧ Hid (n = 2 → b = 0) ∧ w = wr) (fun k _ => 2 - (intOf k).toNat)
  case atStart => exact ⟨0, by decide, rfl, hid (fun h => absurd h (by decide)), hid (fun h => absurd h (by decide)), rfl⟩
  case round =>
    obtain ⟨n, hn, rfl, HA, HB, rfl⟩ := hrel
    by_cases hn0 : n = 0
    · subst hn0
      by_cases ha : a = 0
      · have HA0 := hid ha
        have ga : (a != 0) = false := by rw [ha]; rfl
        clear ha
        go_wp2
        go_roundw
        case rel => exact ⟨1, by decide, rfl, hid (fun _ => HA0.out), hid (fun h => absurd h (by decide)), by first | rfl | trivial⟩
        case measure => decide
      · have ga : (a != 0) = true := by rw [bne_iff_ne]; exact ha
        have HRR := hid (show R = a by rw [← HR.out, if_neg ha])
        clear ha
        go_wp2
        go_ret
        rw [HRR.out]
        exact ⟨rfl, by first | rfl | trivial⟩
    · by_cases hn1 : n = 1
      · subst hn1
        have ha := HA.out (Nat.le_refl _)
        by_cases hb : b = 0
        · have HB0 := hid hb
          have gb : (b != 0) = false := by rw [hb]; rfl
          have HA2 := hid ha
          clear hb ha
          go_wp2
          go_roundw
          case rel => exact ⟨2, by decide, rfl, hid (fun _ => HA2.out), hid (fun _ => HB0.out), by first | rfl | trivial⟩
          case measure => decide
        · have gb : (b != 0) = true := by rw [bne_iff_ne]; exact hb
          have HRR := hid (show R = b by rw [← HR.out, if_pos ha])
          clear hb ha
          go_wp2
          go_ret
          rw [HRR.out]
          exact ⟨rfl, by first | rfl | trivial⟩
      · obtain rfl : n = 2 := by omega
        have HRR := hid (show R = 0 by rw [← HR.out, if_pos (HA.out (by decide))]; exact HB.out rfl)
        clear HA HB
        go_wp2
        go_ret
        rw [HRR.out]
        exact ⟨rfl, by first | rfl | trivial⟩
set_option maxHeartbeats 2000000 in
theorem implNatCmp (a b : ByteArray) (w : World) (ha : digits a.data.toList) (hb : digits b.data.toList) (hta : trimL a.data.toList = a.data.toList) (htb : trimL b.data.toList = b.data.toList) :
    Calls Tryz.prog 90 #[.string a, .string b] w fun e w' => e = .returned (.int .i64 (sgn3 (vD a.data.toList) (vD b.data.toList))) ∧ Below w.heap.size w w' := by
  have hcn := cmp_nat ha hb hta htb
  rw [← Lib.size_eq, ← Lib.size_eq] at hcn
  obtain ⟨R, hR⟩ : ∃ r, sgn3 (vD a.data.toList) (vD b.data.toList) = r := ⟨_, rfl⟩
  rw [hR] at hcn ⊢
  obtain ⟨cb, hcb⟩ : ∃ c, Lib.compareBytes a.data.toList b.data.toList = c := ⟨_, rfl⟩
  have CS := hid (fun (w : World) => Tryz.strings_Compare a b w)
  rw [hcb] at CS hcn
  obtain ⟨cl, hcl⟩ : ∃ c : Int, (if (a.size : Int) < (b.size : Int) then (-1 : Int) else if (b.size : Int) < (a.size : Int) then 1 else 0) = c := ⟨_, rfl⟩
  have CC := hid (fun (w : World) => cmpInt (a.size : Int) (b.size : Int) w)
  rw [hcl] at CC
  have HR2 := hid (show (if cl = 0 then cb else cl) = R by
    by_cases h1 : a.size < b.size
    · have e : cl = -1 := by rw [← hcl, if_pos (show (a.size : Int) < (b.size : Int) by omega)]
      rw [hcn, if_pos h1, e, if_neg (by decide)]
    · by_cases h2 : b.size < a.size
      · have e : cl = 1 := by rw [← hcl, if_neg (show ¬ (a.size : Int) < (b.size : Int) by omega), if_pos (show (b.size : Int) < (a.size : Int) by omega)]
        rw [hcn, if_neg h1, if_pos h2, e, if_neg (by decide)]
      · have e : cl = 0 := by rw [← hcl, if_neg (show ¬ (a.size : Int) < (b.size : Int) by omega), if_neg (show ¬ (b.size : Int) < (a.size : Int) by omega)]
        rw [hcn, if_neg h1, if_neg h2, if_pos e])
  have CO := hid (fun (g cap : Nat) (w : World) (h0 : w.cell? ⟨g, 0, none⟩ = some (.int .i64 cl)) (h1 : w.cell? ⟨g, 1, none⟩ = some (.int .i64 cb)) => orInt cl cb g cap w h0 h1)
  rw [HR2.out] at CO
  clear hcn hR hcb hcl ha hb hta htb
  go_enter Tryz.func90, Tryz.ntmps90
  go_wp2_with fail
  refine (CC.out _).mono ?_
  rintro e w1 ⟨rfl, rfl⟩
  go_wp2_with fail
  refine (CS.out _).mono ?_
  rintro e w1 ⟨rfl, rfl⟩
  go_wp2_with fail
  refine (CO.out _ _ _ (by go_simp) (by go_simp)).mono ?_
  rintro e w2 ⟨rfl, rfl⟩
  go_wp2
  go_ret
  exact ⟨rfl, ext_alloc _ _⟩
end Go.Proofs.YtomcoilmpkpoeaaGreatDoor

namespace Go.Proofs.YtomcoilmpkpoeaaGreatDoor
open Go.RowKit
set_option linter.unusedVariables false
set_option linter.unusedSimpArgs false

theorem trimL_trim (l : List UInt8) : trimL (trimL l) = trimL l := by
  induction l with
  | nil => rfl
  | cons c r ih =>
    by_cases h : c = 48
    · rw [h, trimL_zero]; exact ih
    · rw [trimL_head r h, trimL_head r h]
theorem roundL_trim (l : List UInt8) (n : Nat) : trimL (roundL l n) = roundL l n := by
  unfold roundL finL addL
  split
  · rfl
  · split <;> exact trimL_trim _
def dgB (dig : ByteArray) : ByteArray := if dig.size = 0 then ⟨#[48]⟩ else dig
def fixR (dig : ByteArray) (by' : Int) : List UInt8 := if 0 ≤ by' then trimL ((dgB dig).data.toList ++ zeroL by'.toNat) else roundL (dgB dig).data.toList (-by').toNat
def fixP (r : List UInt8) (pl : Nat) : List UInt8 := zeroL (pl + 1 - r.length) ++ r
def fixS (neg : Bool) (r : List UInt8) : List UInt8 := if neg = true ∧ r ≠ [48] then [45] else []
def fixL (neg : Bool) (r : List UInt8) (pl : Nat) : List UInt8 :=
  if pl = 0 then fixS neg r ++ fixP r pl else fixS neg r ++ (fixP r pl).take ((fixP r pl).length - pl) ++ [46] ++ (fixP r pl).drop ((fixP r pl).length - pl)
def fixT (d : Dec) (pl : Int) : ByteArray := if decOk d = true ∧ 0 ≤ pl ∧ pl ≤ 60 then mkB (fixL d.neg (fixR d.dig (d.exp + pl)) pl.toNat) else ⟨#[]⟩
theorem fixR_len {dig : ByteArray} (hd : dig.size ≤ 20) {by' : Int} (h : -200 ≤ by' ∧ by' ≤ 200) : 1 ≤ (fixR dig by').length ∧ (fixR dig by').length ≤ 300 := by
  have hg : (dgB dig).data.toList.length ≤ 20 := by
    rw [← Lib.size_eq]
    unfold dgB
    split
    · exact (by decide : 1 ≤ 20)
    · exact hd
  unfold fixR
  split
  · have := trimL_len ((dgB dig).data.toList ++ zeroL by'.toNat)
    rw [List.length_append, zeroL_len] at this
    omega
  · rw [← roundL_trim]
    have h1 := trimL_len (roundL (dgB dig).data.toList (-by').toNat)
    refine ⟨h1.2, ?_⟩
    rw [roundL_trim]
    unfold roundL
    split
    · exact (by decide : 1 ≤ 300)
    · unfold finL addL
      split
      · have h2 := trimL_len (outA (trimL (List.take ((dgB dig).data.toList.length - (-by').toNat) (dgB dig).data.toList)) [49] (max (trimL (List.take ((dgB dig).data.toList.length - (-by').toNat) (dgB dig).data.toList)).length [49].length + 1))
        have h3 := trimL_len (List.take ((dgB dig).data.toList.length - (-by').toNat) (dgB dig).data.toList)
        rw [outA_len] at h2
        rw [List.length_take] at h3
        have e1 : ([49] : List UInt8).length = 1 := rfl
        omega
      · have h3 := trimL_len (List.take ((dgB dig).data.toList.length - (-by').toNat) (dgB dig).data.toList)
        rw [List.length_take] at h3
        omega
theorem fixR_trim (dig : ByteArray) (by' : Int) : trimL (fixR dig by') = fixR dig by' := by
  unfold fixR
  split
  · exact trimL_trim _
  · exact roundL_trim _ _
theorem dgB_digits {neg : Bool} {dig : ByteArray} {exp : Int} (h : decOk ⟨neg, dig, exp⟩ = true) : digits (dgB dig).data.toList := by
  unfold dgB
  split
  · intro c hc
    have : c = 48 := by simpa using hc
    rw [this]; decide
  · rename_i hz
    unfold decOk at h
    rw [if_neg hz] at h
    simp only [Bool.and_eq_true] at h
    exact (natOk_iff.1 h.1.1.1.1).1
theorem decOk_small {neg : Bool} {dig : ByteArray} {exp : Int} (h : decOk ⟨neg, dig, exp⟩ = true) : dig.size ≤ 20 ∧ -118 ≤ exp ∧ exp ≤ 100 := by
  by_cases hz : dig.size = 0
  · unfold decOk at h
    rw [if_pos hz] at h
    simp only [Bool.and_eq_true, decide_eq_true_eq] at h
    have := h.2
    try dsimp only at this
    omega
  · have := decOk_facts h hz
    omega
theorem specDig (neg : Bool) (dig : ByteArray) (exp : Int) (w : World) :
    Calls Tryz.prog 57 #[.agg #[.bool neg, .string dig, .int .i64 exp]] w fun e w' => e = .returned (.string (dgB dig)) ∧ Below w.heap.size w w' := by
  by_cases hz : dig.size = 0
  · have HR := hid (show dgB dig = ⟨#[48]⟩ by unfold dgB; rw [if_pos hz])
    have g0 : (dig.toList == []) = true := by rw [ba_nil hz, Lib.toList_data]; rfl
    clear hz
    go_enter Tryz.func57, Tryz.ntmps57
    go_wp2
    go_ret
    rw [HR.out]
    exact ⟨rfl, ext_alloc _ _⟩
  · have HR := hid (show dgB dig = dig by unfold dgB; rw [if_neg hz])
    have g0 : (dig.toList == []) = false := ba_nil_beq hz
    clear hz
    go_enter Tryz.func57, Tryz.ntmps57
    go_wp2
    go_ret
    rw [HR.out]
    exact ⟨rfl, ext_alloc _ _⟩
theorem implDig (neg : Bool) (dig : ByteArray) (exp : Int) (w : World) :
    Calls Tryz.prog 95 #[.agg #[.bool neg, .string dig, .int .i64 exp]] w fun e w' => e = .returned (.string (dgB dig)) ∧ Below w.heap.size w w' := by
  by_cases hz : dig.size = 0
  · have HR := hid (show dgB dig = ⟨#[48]⟩ by unfold dgB; rw [if_pos hz])
    have g0 : (dig.toList == []) = true := by rw [ba_nil hz, Lib.toList_data]; rfl
    clear hz
    go_enter Tryz.func95, Tryz.ntmps95
    go_wp2
    go_ret
    rw [HR.out]
    exact ⟨rfl, ext_alloc _ _⟩
  · have HR := hid (show dgB dig = dig by unfold dgB; rw [if_neg hz])
    have g0 : (dig.toList == []) = false := ba_nil_beq hz
    clear hz
    go_enter Tryz.func95, Tryz.ntmps95
    go_wp2
    go_ret
    rw [HR.out]
    exact ⟨rfl, ext_alloc _ _⟩
theorem fixP_no {r : List UInt8} {pl : Nat} (h : pl + 1 ≤ r.length) : fixP r pl = r := by
  unfold fixP
  rw [show pl + 1 - r.length = 0 by omega]
  rfl
theorem fix_zero {neg : Bool} {r : List UInt8} {PB sg : ByteArray} (h : PB.data.toList = fixP r 0) (hs : fixS neg r = sg.data.toList) : mkB (fixL neg r 0) = sg ++ PB := by
  apply ba_list
  unfold fixL
  rw [if_pos rfl, mkB_data, ByteArray.data_append, Array.toList_append, h, hs]
theorem fix_cut {neg : Bool} {r : List UInt8} {PB sg : ByteArray} {pl m : Nat} (h : PB.data.toList = fixP r pl) (hs : fixS neg r = sg.data.toList) (h0 : ¬ pl = 0) (hm : PB.size - pl = m) :
    mkB (fixL neg r pl) = sg ++ PB.extract 0 m ++ ⟨#[46]⟩ ++ PB.extract m PB.size := by
  have hl : (fixP r pl).length = PB.size := by rw [Lib.size_eq, h]
  apply ba_list
  unfold fixL
  rw [if_neg h0, mkB_data]
  simp only [ByteArray.data_append, Array.toList_append, extL, h, hs, hl, hm]
  rw [List.take_of_length_le (l := (fixP r pl).drop m) (by rw [List.length_drop, hl]; exact Nat.le_refl _)]
  rfl
theorem fixS_no {r : List UInt8} : fixS false r = (⟨#[]⟩ : ByteArray).data.toList := rfl
theorem fixS_zero {r : List UInt8} (h : r = [48]) : fixS true r = (⟨#[]⟩ : ByteArray).data.toList := by unfold fixS; rw [if_neg (fun h' => h'.2 h)]
theorem fixS_yes {r : List UInt8} (h : ¬ r = [48]) : fixS true r = (⟨#[45]⟩ : ByteArray).data.toList := by unfold fixS; rw [if_pos ⟨rfl, h⟩]
end Go.Proofs.YtomcoilmpkpoeaaGreatDoor

namespace Go.Proofs.YtomcoilmpkpoeaaGreatDoor
open Go.RowKit
set_option linter.unusedVariables false
set_option linter.unusedSimpArgs false

def lowE (x y : Int) : Int := if y < x then y else x
theorem lowE_le (x y : Int) : lowE x y ≤ x ∧ lowE x y ≤ y ∧ (lowE x y = x ∨ lowE x y = y) := by unfold lowE; split <;> omega
def levB (dig : ByteArray) (n : Nat) : ByteArray := dgB dig ++ zeroB n
def shfB (dig : ByteArray) (n : Nat) : ByteArray := if dig.size = 0 then ⟨#[48]⟩ else dgB dig ++ zeroB n
theorem dgB_size (dig : ByteArray) : (dgB dig).size ≤ dig.size + 1 := by
  unfold dgB
  split
  · rename_i h; rw [h]; decide
  · omega

set_option maxHeartbeats 8000000 in
set_option maxRecDepth 100000 in
theorem specLevel (na nb : Bool) (da db : ByteArray) (ea eb : Int) (w : World) (hda : da.size ≤ 2000) (hdb : db.size ≤ 2000) (hea : -2000 ≤ ea ∧ ea ≤ 2000) (heb : -2000 ≤ eb ∧ eb ≤ 2000) :
    Calls Tryz.prog 108 #[.agg #[.bool na, .string da, .int .i64 ea], .agg #[.bool nb, .string db, .int .i64 eb]] w fun e w' => e = .returned (.tuple #[.string (levB da (ea - lowE ea eb).toNat), .string (levB db (eb - lowE ea eb).toNat), .int .i64 (lowE ea eb)]) ∧ Below w.heap.size w w' := by
  obtain ⟨e, he⟩ : ∃ e, lowE ea eb = e := ⟨_, rfl⟩
  have hle := lowE_le ea eb
  rw [he] at hle
  obtain ⟨n1, hn1⟩ : ∃ n : Nat, ea - e = (n : Int) := ⟨(ea - e).toNat, by omega⟩
  obtain ⟨n2, hn2⟩ : ∃ n : Nat, eb - e = (n : Int) := ⟨(eb - e).toNat, by omega⟩
  have e1 : (ea - e).toNat = n1 := by omega
  have e2 : (eb - e).toNat = n2 := by omega
  rw [he, e1, e2]
  have hb1 : n1 ≤ 4000 := by omega
  have hb2 : n2 ≤ 4000 := by omega
  have hz1 := zeroB_size n1
  have hz2 := zeroB_size n2
  have hd1 := dgB_size da
  have hd2 := dgB_size db
  have hw1 : IntKind.i64.wrap (ea - e) = (n1 : Int) := by rw [hn1]; exact IntWalk.i64_in _ (by omega)
  have hw2 : IntKind.i64.wrap (eb - e) = (n2 : Int) := by rw [hn2]; exact IntWalk.i64_in _ (by omega)
  have CD1 := hid (fun (w : World) => specDig na da ea w)
  have CD2 := hid (fun (w : World) => specDig nb db eb w)
  have CZ1 := hid (fun (w : World) => specZeros n1 w (by omega))
  have CZ2 := hid (fun (w : World) => specZeros n2 w (by omega))
  have HL1 := hid (show levB da n1 = dgB da ++ zeroB n1 from rfl)
  have HL2 := hid (show levB db n2 = dgB db ++ zeroB n2 from rfl)
  obtain ⟨A, hA⟩ : ∃ x, dgB da = x := ⟨_, rfl⟩
  obtain ⟨B, hB⟩ : ∃ x, dgB db = x := ⟨_, rfl⟩
  obtain ⟨Z1, hZ1⟩ : ∃ x, zeroB n1 = x := ⟨_, rfl⟩
  obtain ⟨Z2, hZ2⟩ : ∃ x, zeroB n2 = x := ⟨_, rfl⟩
  rw [hA] at CD1 HL1 hd1
  rw [hB] at CD2 HL2 hd2
  rw [hZ1] at CZ1 HL1 hz1
  rw [hZ2] at CZ2 HL2 hz2
  have q1 : ¬ 9223372036854775807 < A.size + Z1.size := by omega
  have q2 : ¬ 9223372036854775807 < B.size + Z2.size := by omega
  have HLE := hid hle
  have HE := hid he
  clear hA hB hZ1 hZ2 hz1 hz2 hd1 hd2 hle he e1 e2 hn1 hn2
  go_enter Tryz.func108, Tryz.ntmps108
  go_upto_if 13 with fail
  go_cut [7] from 8 (fun v wr => v = .int .i64 e ∧ (w.alloc (.cells #[.bool na, .string da, .int .i64 ea] 36)).alloc (.cells #[.bool nb, .string db, .int .i64 eb] 36) = wr)
  case first =>
    by_cases hlt : eb < ea
    · have HE2 := hid (show e = eb by rw [← HE.out]; unfold lowE; rw [if_pos hlt])
      go_wp2
      go_meet
      case rel => exact ⟨by rw [HE2.out], rfl⟩
    · have HE2 := hid (show e = ea by rw [← HE.out]; unfold lowE; rw [if_neg hlt])
      go_wp2
      go_meet
      case rel => exact ⟨by rw [HE2.out], rfl⟩
  case rest =>
  obtain ⟨rfl, hwc⟩ := hcut
  have hbw : Below w.heap.size w wc := by subst hwc; exact ext_trans (ext_alloc _ _) (ext_alloc _ _)
  have k0 : wc.cell? ⟨w.heap.size, 0, none⟩ = some (.bool na) := by subst hwc; go_simp
  have k1 : wc.cell? ⟨w.heap.size, 1, none⟩ = some (.string da) := by subst hwc; go_simp
  have k2 : wc.cell? ⟨w.heap.size, 2, none⟩ = some (.int .i64 ea) := by subst hwc; go_simp
  have k3 : wc.cell? ⟨w.heap.size + 1, 0, none⟩ = some (.bool nb) := by subst hwc; go_simp
  have k4 : wc.cell? ⟨w.heap.size + 1, 1, none⟩ = some (.string db) := by subst hwc; go_simp
  have k5 : wc.cell? ⟨w.heap.size + 1, 2, none⟩ = some (.int .i64 eb) := by subst hwc; go_simp
  clear hwc
  go_wp2_with fail
  refine wp_region_held_drew (S := fun w' => w'.cell? ⟨w.heap.size, 0, none⟩ = some (.bool na) ∧ w'.cell? ⟨w.heap.size, 1, none⟩ = some (.string da) ∧ w'.cell? ⟨w.heap.size, 2, none⟩ = some (.int .i64 ea) ∧ w'.cell? ⟨w.heap.size + 1, 0, none⟩ = some (.bool nb) ∧ w'.cell? ⟨w.heap.size + 1, 1, none⟩ = some (.string db) ∧ w'.cell? ⟨w.heap.size + 1, 2, none⟩ = some (.int .i64 eb)) (by kernel_rfl) ?_ (fun hHeld => ?_)
  · simp [*]
  refine wpAnyH_take (i := 0) (v := ?_) rfl (by kernel_rfl) (by kernel_rfl) (by kernel_rfl) (fun _ _ _ h => h) (Or.inl ⟨by rfl, ?_⟩) (by assumption) ?_
  rotate_left
  · (intro w' hSw; (try dsimp only at hSw); go_simp; try (with_reducible rfl))
  change wpAnyH _ _ _ _ _ _ _ (Act.put _ (some 16) _) _
  try simp only [Act.put, List.setIfInBounds_toArray, List.set_cons_zero, List.set_cons_succ]
  refine wpAnyH_take (i := 2) (v := ?_) rfl (by kernel_rfl) (by kernel_rfl) (by kernel_rfl) (fun _ _ _ h => h) (Or.inl ⟨by rfl, ?_⟩) (by assumption) ?_
  rotate_left
  · (intro w' hSw; (try dsimp only at hSw); go_simp; try (with_reducible rfl))
  change wpAnyH _ _ _ _ _ _ _ (Act.put _ (some 18) _) _
  try simp only [Act.put, List.setIfInBounds_toArray, List.set_cons_zero, List.set_cons_succ]
  refine wpAnyH_take (i := 3) (v := ?_) rfl (by kernel_rfl) (by kernel_rfl) (by kernel_rfl) (fun _ _ _ h => h) (Or.inl ⟨by rfl, ?_⟩) (by assumption) ?_
  rotate_left
  · (intro w' hSw; (try dsimp only at hSw); go_simp; try (with_reducible rfl))
  change wpAnyH _ _ _ _ _ _ _ (Act.put _ (some 19) _) _
  try simp only [Act.put, List.setIfInBounds_toArray, List.set_cons_zero, List.set_cons_succ]
  refine wpAnyH_take (i := 4) (v := ?_) rfl (by kernel_rfl) (by kernel_rfl) (by kernel_rfl) (fun _ _ _ h => h) (Or.inl ⟨by rfl, ?_⟩) (by assumption) ?_
  rotate_left
  · (intro w' hSw; (try dsimp only at hSw); go_simp; try (with_reducible rfl))
  change wpAnyH _ _ _ _ _ _ _ (Act.put _ (some 20) _) _
  try simp only [Act.put, List.setIfInBounds_toArray, List.set_cons_zero, List.set_cons_succ]
  refine wpAnyH_take (i := 5) (v := ?_) rfl (by kernel_rfl) (by kernel_rfl) (by kernel_rfl) (fun _ _ _ h => h) (Or.inl ⟨by rfl, ?_⟩) (by assumption) ?_
  rotate_left
  · (intro w' hSw; (try dsimp only at hSw); go_simp; try (with_reducible rfl))
  change wpAnyH _ _ _ _ _ _ _ (Act.put _ (some 21) _) _
  try simp only [Act.put, List.setIfInBounds_toArray, List.set_cons_zero, List.set_cons_succ]
  refine wpAnyH_take (i := 8) (v := ?_) rfl (by kernel_rfl) (by kernel_rfl) (by kernel_rfl) (fun _ _ _ h => h) (Or.inl ⟨by rfl, ?_⟩) (by assumption) ?_
  rotate_left
  · (intro w' hSw; (try dsimp only at hSw); go_simp; try (with_reducible rfl))
  change wpAnyH _ _ _ _ _ _ _ (Act.put _ (some 24) _) _
  try simp only [Act.put, List.setIfInBounds_toArray, List.set_cons_zero, List.set_cons_succ]
  refine wpAnyH_take (i := 10) (v := ?_) rfl (by kernel_rfl) (by kernel_rfl) (by kernel_rfl) (fun _ _ _ h => h) (Or.inl ⟨by rfl, ?_⟩) (by assumption) ?_
  rotate_left
  · (intro w' hSw; (try dsimp only at hSw); go_simp; try (with_reducible rfl))
  change wpAnyH _ _ _ _ _ _ _ (Act.put _ (some 26) _) _
  try simp only [Act.put, List.setIfInBounds_toArray, List.set_cons_zero, List.set_cons_succ]
  refine wpAnyH_take (i := 11) (v := ?_) rfl (by kernel_rfl) (by kernel_rfl) (by kernel_rfl) (fun _ _ _ h => h) (Or.inl ⟨by rfl, ?_⟩) (by assumption) ?_
  rotate_left
  · (intro w' hSw; (try dsimp only at hSw); go_simp; try (with_reducible rfl))
  change wpAnyH _ _ _ _ _ _ _ (Act.put _ (some 27) _) _
  try simp only [Act.put, List.setIfInBounds_toArray, List.set_cons_zero, List.set_cons_succ]
  refine wpAnyH_take (i := 12) (v := ?_) rfl (by kernel_rfl) (by kernel_rfl) (by kernel_rfl) (fun _ _ _ h => h) (Or.inl ⟨by rfl, ?_⟩) (by assumption) ?_
  rotate_left
  · (intro w' hSw; (try dsimp only at hSw); go_simp; try (with_reducible rfl))
  change wpAnyH _ _ _ _ _ _ _ (Act.put _ (some 28) _) _
  try simp only [Act.put, List.setIfInBounds_toArray, List.set_cons_zero, List.set_cons_succ]
  refine wpAnyH_take (i := 13) (v := ?_) rfl (by kernel_rfl) (by kernel_rfl) (by kernel_rfl) (fun _ _ _ h => h) (Or.inl ⟨by rfl, ?_⟩) (by assumption) ?_
  rotate_left
  · (intro w' hSw; (try dsimp only at hSw); go_simp; try (with_reducible rfl))
  change wpAnyH _ _ _ _ _ _ _ (Act.put _ (some 29) _) _
  try simp only [Act.put, List.setIfInBounds_toArray, List.set_cons_zero, List.set_cons_succ]
  refine wpAnyH_take (i := 16) (v := ?_) rfl (by kernel_rfl) (by kernel_rfl) (by kernel_rfl) (fun _ _ _ h => h) (Or.inl ⟨by rfl, ?_⟩) (by assumption) ?_
  rotate_left
  · (intro w' hSw; (try dsimp only at hSw); go_simp; try (with_reducible rfl))
  change wpAnyH _ _ _ _ _ _ _ (Act.put _ (some 32) _) _
  try simp only [Act.put, List.setIfInBounds_toArray, List.set_cons_zero, List.set_cons_succ]
  refine wpAnyH_ready (rs := [1]) (by kernel_rfl) (by simp) ?_
  refine AllReadyH.cons (i := 1) rfl (fun K hK => ?_) AllReadyH.nil
  simp only [List.getElem_toArray, List.getElem_cons_succ, List.getElem_cons_zero]
  rw [if_pos (by rfl)]
  go_simp
  (go_at_call 57; refine (CD1.out _).mono ?_; rintro e' w1 ⟨rfl, hb1⟩; have hkc1 := keeps_cells hb1; go_wp2_with fail)
  have hOld := hHeld
  clear hHeld
  refine hK.out _ _ ?_ (fun hHeld => ?_)
  · (try dsimp only); simp [*]
  clear hK K hOld
  try simp only [Act.put, List.setIfInBounds_toArray, List.set_cons_zero, List.set_cons_succ]
  refine wpAnyH_ready (rs := [6]) (by kernel_rfl) (by simp) ?_
  refine AllReadyH.cons (i := 6) rfl (fun K hK => ?_) AllReadyH.nil
  simp only [List.getElem_toArray, List.getElem_cons_succ, List.getElem_cons_zero]
  rw [if_pos (by rfl)]
  go_simp
  (go_at_call 45; refine (CZ1.out _).mono ?_; rintro e' w2 ⟨rfl, hb2⟩; have hkc2 := keeps_cells hb2; go_wp2_with fail)
  have hOld := hHeld
  clear hHeld
  refine hK.out _ _ ?_ (fun hHeld => ?_)
  · (try dsimp only); simp [*]
  clear hK K hOld
  try simp only [Act.put, List.setIfInBounds_toArray, List.set_cons_zero, List.set_cons_succ]
  refine wpAnyH_take (i := 7) (v := ?_) rfl (by kernel_rfl) (by kernel_rfl) (by kernel_rfl) (fun _ _ _ h => h) (Or.inl ⟨by rfl, ?_⟩) (by assumption) ?_
  rotate_left
  · (intro w' hSw; (try dsimp only at hSw); go_simp; try (with_reducible rfl))
  change wpAnyH _ _ _ _ _ _ _ (Act.put _ (some 23) _) _
  try simp only [Act.put, List.setIfInBounds_toArray, List.set_cons_zero, List.set_cons_succ]
  refine wpAnyH_ready (rs := [9]) (by kernel_rfl) (by simp) ?_
  refine AllReadyH.cons (i := 9) rfl (fun K hK => ?_) AllReadyH.nil
  simp only [List.getElem_toArray, List.getElem_cons_succ, List.getElem_cons_zero]
  rw [if_pos (by rfl)]
  go_simp
  (go_at_call 57; refine (CD2.out _).mono ?_; rintro e' w3 ⟨rfl, hb3⟩; have hkc3 := keeps_cells hb3; go_wp2_with fail)
  have hOld := hHeld
  clear hHeld
  refine hK.out _ _ ?_ (fun hHeld => ?_)
  · (try dsimp only); simp [*]
  clear hK K hOld
  try simp only [Act.put, List.setIfInBounds_toArray, List.set_cons_zero, List.set_cons_succ]
  refine wpAnyH_ready (rs := [14]) (by kernel_rfl) (by simp) ?_
  refine AllReadyH.cons (i := 14) rfl (fun K hK => ?_) AllReadyH.nil
  simp only [List.getElem_toArray, List.getElem_cons_succ, List.getElem_cons_zero]
  rw [if_pos (by rfl)]
  go_simp
  (go_at_call 45; refine (CZ2.out _).mono ?_; rintro e' w4 ⟨rfl, hb4⟩; have hkc4 := keeps_cells hb4; go_wp2_with fail)
  have hOld := hHeld
  clear hHeld
  refine hK.out _ _ ?_ (fun hHeld => ?_)
  · (try dsimp only); simp [*]
  clear hK K hOld
  try simp only [Act.put, List.setIfInBounds_toArray, List.set_cons_zero, List.set_cons_succ]
  refine wpAnyH_take (i := 15) (v := ?_) rfl (by kernel_rfl) (by kernel_rfl) (by kernel_rfl) (fun _ _ _ h => h) (Or.inl ⟨by rfl, ?_⟩) (by assumption) ?_
  rotate_left
  · (intro w' hSw; (try dsimp only at hSw); go_simp; try (with_reducible rfl))
  change wpAnyH _ _ _ _ _ _ _ (Act.put _ (some 31) _) _
  try simp only [Act.put, List.setIfInBounds_toArray, List.set_cons_zero, List.set_cons_succ]
  refine wpAnyH_take (i := 17) (v := ?_) rfl (by kernel_rfl) (by kernel_rfl) (by kernel_rfl) (fun _ _ _ h => h) (Or.inl ⟨by rfl, ?_⟩) (by assumption) ?_
  rotate_left
  · (intro w' hSw; (try dsimp only at hSw); go_simp; try (with_reducible rfl))
  change wpAnyH _ _ _ _ _ _ _ (Act.put _ (some 4) _) _
  try simp only [Act.put, List.setIfInBounds_toArray, List.set_cons_zero, List.set_cons_succ]
  refine wpAnyH_take (i := 18) (v := ?_) rfl (by kernel_rfl) (by kernel_rfl) (by kernel_rfl) (fun _ _ _ h => h) (Or.inl ⟨by rfl, ?_⟩) (by assumption) ?_
  rotate_left
  · (intro w' hSw; (try dsimp only at hSw); go_simp; try (with_reducible rfl))
  change wpAnyH _ _ _ _ _ _ _ (Act.put _ (some 5) _) _
  try simp only [Act.put, List.setIfInBounds_toArray, List.set_cons_zero, List.set_cons_succ]
  refine wpAnyH_take (i := 19) (v := ?_) rfl (by kernel_rfl) (by kernel_rfl) (by kernel_rfl) (fun _ _ _ h => h) (Or.inl ⟨by rfl, ?_⟩) (by assumption) ?_
  rotate_left
  · (intro w' hSw; (try dsimp only at hSw); go_simp; try (with_reducible rfl))
  change wpAnyH _ _ _ _ _ _ _ (Act.put _ (some 6) _) _
  try simp only [Act.put, List.setIfInBounds_toArray, List.set_cons_zero, List.set_cons_succ]
  refine wpAnyH_done (by kernel_rfl) ?_ _
  clear hHeld
  go_wp2
  go_ret3
  rw [HL1.out, HL2.out]
  exact ⟨rfl, by repeat' (first | (with_reducible exact hbw) | (with_reducible refine ext_trans ?_ hb4) | (with_reducible refine ext_trans ?_ hb3) | (with_reducible refine ext_trans ?_ hb2) | (with_reducible refine ext_trans ?_ hb1) | (with_reducible refine Below.drew ?_))⟩
theorem implShiftD (dig : ByteArray) (m : Nat) (w : World) (hm : m ≤ 1000000) (hs : dig.size ≤ 900000) (h0 : ¬ dig.data.toList = [48]) :
    Calls Tryz.prog 96 #[.string (dgB dig), .int .i64 (m : Int)] w fun e w' => e = .returned (.string (shfB dig m)) ∧ Below w.heap.size w w' := by
  by_cases hz : dig.size = 0
  · have HR := hid (show dgB dig = ⟨#[48]⟩ ∧ shfB dig m = ⟨#[48]⟩ by unfold dgB shfB; rw [if_pos hz, if_pos hz]; exact ⟨rfl, rfl⟩)
    rw [HR.out.1]
    clear hz
    go_enter Tryz.func96, Tryz.ntmps96
    go_wp2
    go_ret
    rw [HR.out.2]
    exact ⟨rfl, Below.refl _ _⟩
  · have hd : dgB dig = dig := by unfold dgB; rw [if_neg hz]
    have hsh : shfB dig m = dig ++ zeroB m := by unfold shfB; rw [if_neg hz, hd]
    rw [hd, hsh]
    exact implShift dig m w hm (by omega) (trimL_beq h0)
set_option maxHeartbeats 8000000 in
set_option maxRecDepth 100000 in
theorem implAligned (na nb : Bool) (da db : ByteArray) (ea eb : Int) (w : World) (hda : da.size ≤ 2000) (hdb : db.size ≤ 2000) (hea : -2000 ≤ ea ∧ ea ≤ 2000) (heb : -2000 ≤ eb ∧ eb ≤ 2000) (ha0 : ¬ da.data.toList = [48]) (hb0 : ¬ db.data.toList = [48]) :
    Calls Tryz.prog 89 #[.agg #[.bool na, .string da, .int .i64 ea], .agg #[.bool nb, .string db, .int .i64 eb]] w fun e w' => e = .returned (.tuple #[.string (shfB da (ea - lowE ea eb).toNat), .string (shfB db (eb - lowE ea eb).toNat), .int .i64 (lowE ea eb)]) ∧ Below w.heap.size w w' := by
  obtain ⟨e, he⟩ : ∃ e, lowE ea eb = e := ⟨_, rfl⟩
  have hle := lowE_le ea eb
  rw [he] at hle
  obtain ⟨n1, hn1⟩ : ∃ n : Nat, ea - e = (n : Int) := ⟨(ea - e).toNat, by omega⟩
  obtain ⟨n2, hn2⟩ : ∃ n : Nat, eb - e = (n : Int) := ⟨(eb - e).toNat, by omega⟩
  have e1 : (ea - e).toNat = n1 := by omega
  have e2 : (eb - e).toNat = n2 := by omega
  rw [he, e1, e2]
  have hb1 : n1 ≤ 4000 := by omega
  have hb2 : n2 ≤ 4000 := by omega
  have hz1 := zeroB_size n1
  have hz2 := zeroB_size n2
  have hd1 := dgB_size da
  have hd2 := dgB_size db
  have hw1 : IntKind.i64.wrap (ea - e) = (n1 : Int) := by rw [hn1]; exact IntWalk.i64_in _ (by omega)
  have hw2 : IntKind.i64.wrap (eb - e) = (n2 : Int) := by rw [hn2]; exact IntWalk.i64_in _ (by omega)
  have CD1 := hid (fun (w : World) => implDig na da ea w)
  have CD2 := hid (fun (w : World) => implDig nb db eb w)
  have CS1 := hid (fun (w : World) => implShiftD da n1 w (by omega) (by omega) ha0)
  have CS2 := hid (fun (w : World) => implShiftD db n2 w (by omega) (by omega) hb0)
  have hmin : min ea eb = e := by rw [← he]; unfold lowE; split <;> omega
  have HMN := hid hmin
  clear hz1 hz2 hd1 hd2 hle he e1 e2 hn1 hn2 ha0 hb0
  go_enter Tryz.func89, Tryz.ntmps89
  go_wp2_with fail
  try rw [HMN.out]
  refine wp_region_held_drew (S := fun w' => w'.cell? ⟨w.heap.size, 0, none⟩ = some (.bool na) ∧ w'.cell? ⟨w.heap.size, 1, none⟩ = some (.string da) ∧ w'.cell? ⟨w.heap.size, 2, none⟩ = some (.int .i64 ea) ∧ w'.cell? ⟨w.heap.size + 1, 0, none⟩ = some (.bool nb) ∧ w'.cell? ⟨w.heap.size + 1, 1, none⟩ = some (.string db) ∧ w'.cell? ⟨w.heap.size + 1, 2, none⟩ = some (.int .i64 eb)) (by kernel_rfl) ?_ (fun hHeld => ?_)
  · simp [*]
  refine wpAnyH_take (i := 0) (v := ?_) rfl (by kernel_rfl) (by kernel_rfl) (by kernel_rfl) (fun _ _ _ h => h) (Or.inl ⟨by rfl, ?_⟩) (by assumption) ?_
  rotate_left
  · (intro w' hSw; (try dsimp only at hSw); go_simp; try (with_reducible rfl))
  change wpAnyH _ _ _ _ _ _ _ (Act.put _ (some 13) _) _
  try simp only [Act.put, List.setIfInBounds_toArray, List.set_cons_zero, List.set_cons_succ]
  refine wpAnyH_take (i := 2) (v := ?_) rfl (by kernel_rfl) (by kernel_rfl) (by kernel_rfl) (fun _ _ _ h => h) (Or.inl ⟨by rfl, ?_⟩) (by assumption) ?_
  rotate_left
  · (intro w' hSw; (try dsimp only at hSw); go_simp; try (with_reducible rfl))
  change wpAnyH _ _ _ _ _ _ _ (Act.put _ (some 15) _) _
  try simp only [Act.put, List.setIfInBounds_toArray, List.set_cons_zero, List.set_cons_succ]
  refine wpAnyH_take (i := 3) (v := ?_) rfl (by kernel_rfl) (by kernel_rfl) (by kernel_rfl) (fun _ _ _ h => h) (Or.inl ⟨by rfl, ?_⟩) (by assumption) ?_
  rotate_left
  · (intro w' hSw; (try dsimp only at hSw); go_simp; try (with_reducible rfl))
  change wpAnyH _ _ _ _ _ _ _ (Act.put _ (some 16) _) _
  try simp only [Act.put, List.setIfInBounds_toArray, List.set_cons_zero, List.set_cons_succ]
  refine wpAnyH_take (i := 4) (v := ?_) rfl (by kernel_rfl) (by kernel_rfl) (by kernel_rfl) (fun _ _ _ h => h) (Or.inl ⟨by rfl, ?_⟩) (by assumption) ?_
  rotate_left
  · (intro w' hSw; (try dsimp only at hSw); go_simp; try (with_reducible rfl))
  change wpAnyH _ _ _ _ _ _ _ (Act.put _ (some 17) _) _
  try simp only [Act.put, List.setIfInBounds_toArray, List.set_cons_zero, List.set_cons_succ]
  refine wpAnyH_take (i := 5) (v := ?_) rfl (by kernel_rfl) (by kernel_rfl) (by kernel_rfl) (fun _ _ _ h => h) (Or.inl ⟨by rfl, ?_⟩) (by assumption) ?_
  rotate_left
  · (intro w' hSw; (try dsimp only at hSw); go_simp; try (with_reducible rfl))
  change wpAnyH _ _ _ _ _ _ _ (Act.put _ (some 18) _) _
  try simp only [Act.put, List.setIfInBounds_toArray, List.set_cons_zero, List.set_cons_succ]
  refine wpAnyH_take (i := 7) (v := ?_) rfl (by kernel_rfl) (by kernel_rfl) (by kernel_rfl) (fun _ _ _ h => h) (Or.inl ⟨by rfl, ?_⟩) (by assumption) ?_
  rotate_left
  · (intro w' hSw; (try dsimp only at hSw); go_simp; try (with_reducible rfl))
  change wpAnyH _ _ _ _ _ _ _ (Act.put _ (some 20) _) _
  try simp only [Act.put, List.setIfInBounds_toArray, List.set_cons_zero, List.set_cons_succ]
  refine wpAnyH_take (i := 9) (v := ?_) rfl (by kernel_rfl) (by kernel_rfl) (by kernel_rfl) (fun _ _ _ h => h) (Or.inl ⟨by rfl, ?_⟩) (by assumption) ?_
  rotate_left
  · (intro w' hSw; (try dsimp only at hSw); go_simp; try (with_reducible rfl))
  change wpAnyH _ _ _ _ _ _ _ (Act.put _ (some 22) _) _
  try simp only [Act.put, List.setIfInBounds_toArray, List.set_cons_zero, List.set_cons_succ]
  refine wpAnyH_take (i := 10) (v := ?_) rfl (by kernel_rfl) (by kernel_rfl) (by kernel_rfl) (fun _ _ _ h => h) (Or.inl ⟨by rfl, ?_⟩) (by assumption) ?_
  rotate_left
  · (intro w' hSw; (try dsimp only at hSw); go_simp; try (with_reducible rfl))
  change wpAnyH _ _ _ _ _ _ _ (Act.put _ (some 23) _) _
  try simp only [Act.put, List.setIfInBounds_toArray, List.set_cons_zero, List.set_cons_succ]
  refine wpAnyH_take (i := 11) (v := ?_) rfl (by kernel_rfl) (by kernel_rfl) (by kernel_rfl) (fun _ _ _ h => h) (Or.inl ⟨by rfl, ?_⟩) (by assumption) ?_
  rotate_left
  · (intro w' hSw; (try dsimp only at hSw); go_simp; try (with_reducible rfl))
  change wpAnyH _ _ _ _ _ _ _ (Act.put _ (some 24) _) _
  try simp only [Act.put, List.setIfInBounds_toArray, List.set_cons_zero, List.set_cons_succ]
  refine wpAnyH_take (i := 12) (v := ?_) rfl (by kernel_rfl) (by kernel_rfl) (by kernel_rfl) (fun _ _ _ h => h) (Or.inl ⟨by rfl, ?_⟩) (by assumption) ?_
  rotate_left
  · (intro w' hSw; (try dsimp only at hSw); go_simp; try (with_reducible rfl))
  change wpAnyH _ _ _ _ _ _ _ (Act.put _ (some 25) _) _
  try simp only [Act.put, List.setIfInBounds_toArray, List.set_cons_zero, List.set_cons_succ]
  refine wpAnyH_take (i := 14) (v := ?_) rfl (by kernel_rfl) (by kernel_rfl) (by kernel_rfl) (fun _ _ _ h => h) (Or.inl ⟨by rfl, ?_⟩) (by assumption) ?_
  rotate_left
  · (intro w' hSw; (try dsimp only at hSw); go_simp; try (with_reducible rfl))
  change wpAnyH _ _ _ _ _ _ _ (Act.put _ (some 27) _) _
  try simp only [Act.put, List.setIfInBounds_toArray, List.set_cons_zero, List.set_cons_succ]
  refine wpAnyH_ready (rs := [1]) (by kernel_rfl) (by simp) ?_
  refine AllReadyH.cons (i := 1) rfl (fun K hK => ?_) AllReadyH.nil
  simp only [List.getElem_toArray, List.getElem_cons_succ, List.getElem_cons_zero]
  rw [if_pos (by rfl)]
  go_simp
  (go_at_call 95; refine (CD1.out _).mono ?_; rintro e' w1 ⟨rfl, hb1⟩; have hkc1 := keeps_cells hb1; go_wp2_with fail)
  have hOld := hHeld
  clear hHeld
  refine hK.out _ _ ?_ (fun hHeld => ?_)
  · (try dsimp only); simp [*]
  clear hK K hOld
  try simp only [Act.put, List.setIfInBounds_toArray, List.set_cons_zero, List.set_cons_succ]
  refine wpAnyH_ready (rs := [6]) (by kernel_rfl) (by simp) ?_
  refine AllReadyH.cons (i := 6) rfl (fun K hK => ?_) AllReadyH.nil
  simp only [List.getElem_toArray, List.getElem_cons_succ, List.getElem_cons_zero]
  rw [if_pos (by rfl)]
  go_simp
  (go_at_call 96; refine (CS1.out _).mono ?_; rintro e' w2 ⟨rfl, hb2⟩; have hkc2 := keeps_cells hb2; go_wp2_with fail)
  have hOld := hHeld
  clear hHeld
  refine hK.out _ _ ?_ (fun hHeld => ?_)
  · (try dsimp only); simp [*]
  clear hK K hOld
  try simp only [Act.put, List.setIfInBounds_toArray, List.set_cons_zero, List.set_cons_succ]
  refine wpAnyH_ready (rs := [8]) (by kernel_rfl) (by simp) ?_
  refine AllReadyH.cons (i := 8) rfl (fun K hK => ?_) AllReadyH.nil
  simp only [List.getElem_toArray, List.getElem_cons_succ, List.getElem_cons_zero]
  rw [if_pos (by rfl)]
  go_simp
  (go_at_call 95; refine (CD2.out _).mono ?_; rintro e' w3 ⟨rfl, hb3⟩; have hkc3 := keeps_cells hb3; go_wp2_with fail)
  have hOld := hHeld
  clear hHeld
  refine hK.out _ _ ?_ (fun hHeld => ?_)
  · (try dsimp only); simp [*]
  clear hK K hOld
  try simp only [Act.put, List.setIfInBounds_toArray, List.set_cons_zero, List.set_cons_succ]
  refine wpAnyH_ready (rs := [13]) (by kernel_rfl) (by simp) ?_
  refine AllReadyH.cons (i := 13) rfl (fun K hK => ?_) AllReadyH.nil
  simp only [List.getElem_toArray, List.getElem_cons_succ, List.getElem_cons_zero]
  rw [if_pos (by rfl)]
  go_simp
  (go_at_call 96; refine (CS2.out _).mono ?_; rintro e' w4 ⟨rfl, hb4⟩; have hkc4 := keeps_cells hb4; go_wp2_with fail)
  have hOld := hHeld
  clear hHeld
  refine hK.out _ _ ?_ (fun hHeld => ?_)
  · (try dsimp only); simp [*]
  clear hK K hOld
  try simp only [Act.put, List.setIfInBounds_toArray, List.set_cons_zero, List.set_cons_succ]
  refine wpAnyH_take (i := 15) (v := ?_) rfl (by kernel_rfl) (by kernel_rfl) (by kernel_rfl) (fun _ _ _ h => h) (Or.inl ⟨by rfl, ?_⟩) (by assumption) ?_
  rotate_left
  · (intro w' hSw; (try dsimp only at hSw); go_simp; try (with_reducible rfl))
  change wpAnyH _ _ _ _ _ _ _ (Act.put _ (some 4) _) _
  try simp only [Act.put, List.setIfInBounds_toArray, List.set_cons_zero, List.set_cons_succ]
  refine wpAnyH_take (i := 16) (v := ?_) rfl (by kernel_rfl) (by kernel_rfl) (by kernel_rfl) (fun _ _ _ h => h) (Or.inl ⟨by rfl, ?_⟩) (by assumption) ?_
  rotate_left
  · (intro w' hSw; (try dsimp only at hSw); go_simp; try (with_reducible rfl))
  change wpAnyH _ _ _ _ _ _ _ (Act.put _ (some 5) _) _
  try simp only [Act.put, List.setIfInBounds_toArray, List.set_cons_zero, List.set_cons_succ]
  refine wpAnyH_take (i := 17) (v := ?_) rfl (by kernel_rfl) (by kernel_rfl) (by kernel_rfl) (fun _ _ _ h => h) (Or.inl ⟨by rfl, ?_⟩) (by assumption) ?_
  rotate_left
  · (intro w' hSw; (try dsimp only at hSw); go_simp; try (with_reducible rfl))
  change wpAnyH _ _ _ _ _ _ _ (Act.put _ (some 6) _) _
  try simp only [Act.put, List.setIfInBounds_toArray, List.set_cons_zero, List.set_cons_succ]
  refine wpAnyH_done (by kernel_rfl) ?_ _
  clear hHeld
  go_wp2
  go_ret3
  exact ⟨rfl, by repeat' (first | (with_reducible exact Below.refl _ _) | (with_reducible refine ext_trans ?_ hb4) | (with_reducible refine ext_trans ?_ hb3) | (with_reducible refine ext_trans ?_ hb2) | (with_reducible refine ext_trans ?_ hb1) | (with_reducible refine ext_trans ?_ (ext_alloc _ _)) | (with_reducible refine Below.drew ?_))⟩
end Go.Proofs.YtomcoilmpkpoeaaGreatDoor

namespace Go.Proofs.YtomcoilmpkpoeaaGreatDoor
open Go.RowKit
set_option linter.unusedVariables false
set_option linter.unusedSimpArgs false

def negD (d : Dec) : Dec := if d.dig.size = 0 then dec0 else ⟨!d.neg, d.dig, d.exp⟩
def sumN (na nb : Bool) (X Y : Nat) : Bool := if na = nb then na else if Y ≤ X then na else nb
def sumZ (na nb : Bool) (X Y : Nat) : Bool := if na = nb then decide (X + Y = 0) else decide (X = Y)
def sumD (na nb : Bool) (X Y : Nat) : Dec := if sumZ na nb X Y = true then dec0 else ⟨sumN na nb X Y, ⟨#[49]⟩, 0⟩
/-- what a sound number's digits are -/
theorem ok_facts {d : Dec} (h : decOk d = true) : d.dig.size ≤ 20 ∧ (-200 ≤ d.exp ∧ d.exp ≤ 200) ∧ digits (dgB d.dig).data.toList ∧ ¬ d.dig.data.toList = [48] ∧ (d.dig.size = 0 → d.neg = false ∧ d.exp = 0) := by
  obtain ⟨neg, dig, exp⟩ := d
  have h1 := decOk_small h
  refine ⟨h1.1, by simp only; omega, dgB_digits h, ?_, ?_⟩
  · intro h2
    have hz : ¬ dig.size = 0 := by
      intro h3
      have : dig.data.toList.length = 0 := by rw [← Lib.size_eq]; exact h3
      have h2' : dig.data.toList = [48] := h2
      rw [h2'] at this
      exact absurd this (by decide)
    have h4 := (decOk_facts h hz).2.2.2
    rw [beq_eq_false_iff_ne, Lib.toList_data] at h4
    exact h4 h2
  · intro hz
    obtain rfl := ba_nil (s := dig) hz
    rw [decOk_nil] at h
    simpa using h
/-- the first digit of a sound number is no nought -/
theorem ok_head {d : Dec} (h : decOk d = true) (hz : ¬ d.dig.size = 0) : ∃ c r, d.dig.data.toList = c :: r ∧ ¬ c = 48 := by
  obtain ⟨neg, dig, exp⟩ := d
  have hp : 0 < dig.size := by have : ¬ dig.size = 0 := hz; omega
  rw [decOk_pos (d := ⟨neg, dig, exp⟩) hp] at h
  simp only [Bool.and_eq_true, Bool.not_eq_true', decide_eq_false_iff_not] at h
  refine ⟨dig[0], dig.data.toList.drop 1, ?_, ?_⟩
  · have := drop_get hp
    rw [List.drop_zero] at this
    exact this
  · intro h48
    have h2 := h.1.1.2
    exact h2 (by show (dig[0]'hp).toNat = 48; rw [h48]; rfl)
theorem vD_append (l r : List UInt8) : vD (l ++ r) = vD l * 10 ^ r.length + vD r := by
  have : vD (l ++ r) = valD (vD l) r := by unfold vD valD; rw [List.foldl_append]
  rw [this, valD_add]
  rfl
theorem vD_zeros : ∀ n, vD (zeroL n) = 0
  | 0 => rfl
  | n + 1 => by
    show vD (48 :: zeroL n) = 0
    rw [vD_cons, vD_zeros n]
    simp
theorem levB_list (dig : ByteArray) (n : Nat) : (levB dig n).data.toList = (dgB dig).data.toList ++ zeroL n := by
  unfold levB
  rw [ByteArray.data_append, Array.toList_append]
  rfl
theorem levB_val (dig : ByteArray) (n : Nat) : vD (levB dig n).data.toList = vD (dgB dig).data.toList * 10 ^ n := by
  rw [levB_list, vD_append, vD_zeros, zeroL_len, Nat.add_zero]
theorem shfB_val (dig : ByteArray) (n : Nat) : vD (shfB dig n).data.toList = vD (dgB dig).data.toList * 10 ^ n := by
  unfold shfB
  split
  · rename_i hz
    have e : dgB dig = ⟨#[48]⟩ := by unfold dgB; rw [if_pos hz]
    rw [e]
    have : vD (⟨#[48]⟩ : ByteArray).data.toList = 0 := rfl
    rw [this, Nat.zero_mul]
  · exact levB_val dig n
theorem digits_append_zeros {l : List UInt8} (h : digits l) (n : Nat) : digits (l ++ zeroL n) := digits_append h (digits_zeros n)
theorem shfB_trim {d : Dec} (h : decOk d = true) (n : Nat) : digits (shfB d.dig n).data.toList ∧ trimL (shfB d.dig n).data.toList = (shfB d.dig n).data.toList := by
  by_cases hz : d.dig.size = 0
  · have e : shfB d.dig n = ⟨#[48]⟩ := by unfold shfB; rw [if_pos hz]
    rw [e]
    exact ⟨by intro c hc; rw [List.mem_singleton.1 hc]; decide, rfl⟩
  · have e : shfB d.dig n = levB d.dig n := by unfold shfB levB; rw [if_neg hz]
    have hd : dgB d.dig = d.dig := by unfold dgB; rw [if_neg hz]
    have h1 := (ok_facts h).2.2.1
    obtain ⟨c, r, hc, h48⟩ := ok_head h hz
    rw [e, levB_list]
    refine ⟨digits_append_zeros h1 n, ?_⟩
    rw [hd, hc, List.cons_append, trimL_head _ h48]
theorem val_zero {d : Dec} (h : decOk d = true) : vD (dgB d.dig).data.toList = 0 ↔ d.dig.size = 0 := by
  constructor
  · intro hv
    by_cases hz : d.dig.size = 0
    · exact hz
    · exfalso
      have hd : dgB d.dig = d.dig := by unfold dgB; rw [if_neg hz]
      have h1 := (ok_facts h).2.2.1
      obtain ⟨c, r, hc, h48⟩ := ok_head h hz
      rw [hd] at hv h1
      rw [hc] at hv h1
      have := vD_pos h1 h48
      have : 0 < 10 ^ r.length := Nat.pow_pos (by decide)
      omega
  · intro hz
    have e : dgB d.dig = ⟨#[48]⟩ := by unfold dgB; rw [if_pos hz]
    rw [e]; rfl
/-- the value of a number's digits at an exponent that is not greater -/
def valX (d : Dec) (e : Int) : Nat := vD (dgB d.dig).data.toList * 10 ^ (d.exp - e).toNat
theorem valX_zero {d : Dec} (h : decOk d = true) (e : Int) : valX d e = 0 ↔ d.dig.size = 0 := by
  unfold valX
  rw [← val_zero h]
  constructor
  · intro hv
    rcases Nat.mul_eq_zero.1 hv with h1 | h1
    · exact h1
    · exfalso
      have : 0 < 10 ^ (d.exp - e).toNat := Nat.pow_pos (by decide)
      omega
  · intro hv; rw [hv, Nat.zero_mul]
def cmpD (a b : Dec) : Int :=
  if a.neg = true ∧ b.neg = true then sgn3 (valX b (lowE a.exp b.exp)) (valX a (lowE a.exp b.exp))
  else if a.neg = true then -1 else if b.neg = true then 1
  else sgn3 (valX a (lowE a.exp b.exp)) (valX b (lowE a.exp b.exp))
set_option maxHeartbeats 4000000 in
theorem implDecCmp (a b : Dec) (w : World) (ha : decOk a = true) (hb : decOk b = true) :
    Calls Tryz.prog 47 #[.agg #[.bool a.neg, .string a.dig, .int .i64 a.exp], .agg #[.bool b.neg, .string b.dig, .int .i64 b.exp]] w fun e w' => e = .returned (.int .i64 (cmpD a b)) ∧ Below w.heap.size w w' := by
  obtain ⟨a1, a2, a3, a4, a5⟩ := ok_facts ha
  obtain ⟨b1, b2, b3, b4, b5⟩ := ok_facts hb
  have CA := hid (fun (w : World) => implAligned a.neg b.neg a.dig b.dig a.exp b.exp w (by omega) (by omega) (by omega) (by omega) a4 b4)
  have hv1 := shfB_val a.dig (a.exp - lowE a.exp b.exp).toNat
  have hv2 := shfB_val b.dig (b.exp - lowE a.exp b.exp).toNat
  obtain ⟨p1, p2⟩ := shfB_trim ha (a.exp - lowE a.exp b.exp).toNat
  obtain ⟨p3, p4⟩ := shfB_trim hb (b.exp - lowE a.exp b.exp).toNat
  have hX : vD (dgB a.dig).data.toList * 10 ^ (a.exp - lowE a.exp b.exp).toNat = valX a (lowE a.exp b.exp) := rfl
  have hY : vD (dgB b.dig).data.toList * 10 ^ (b.exp - lowE a.exp b.exp).toNat = valX b (lowE a.exp b.exp) := rfl
  rw [hX] at hv1
  rw [hY] at hv2
  obtain ⟨x, hx⟩ : ∃ x, shfB a.dig (a.exp - lowE a.exp b.exp).toNat = x := ⟨_, rfl⟩
  obtain ⟨y, hy⟩ : ∃ y, shfB b.dig (b.exp - lowE a.exp b.exp).toNat = y := ⟨_, rfl⟩
  rw [hx] at CA hv1 p1 p2
  rw [hy] at CA hv2 p3 p4
  have CXY := hid (fun (w : World) => implNatCmp x y w p1 p3 p2 p4)
  have CYX := hid (fun (w : World) => implNatCmp y x w p3 p1 p4 p2)
  rw [hv1, hv2] at CXY CYX
  obtain ⟨R, hR⟩ : ∃ r, cmpD a b = r := ⟨_, rfl⟩
  rw [hR]
  unfold cmpD at hR
  obtain ⟨na, da, ea⟩ := a
  obtain ⟨nb, db, eb⟩ := b
  dsimp only at *
  clear hv1 hv2 p1 p2 p3 p4 hX hY hx hy a1 a2 a3 a4 a5 b1 b2 b3 b4 b5 ha hb
  cases na
  · cases nb
    · have HR := hid hR.symm
      rw [if_neg (by simp), if_neg (by decide), if_neg (by decide)] at HR
      clear hR
      go_enter Tryz.func47, Tryz.ntmps47
      go_wp2_with fail
      refine (CA.out _).mono ?_
      rintro e w1 ⟨rfl, hb1⟩
      obtain ⟨hc1, hf1⟩ := bcell hb1
      have hbw : Below w.heap.size w w1 := ext_trans (ext_trans (ext_alloc _ _) (ext_alloc _ _)) hb1
      have s0 : w1.cell? ⟨w.heap.size, 0, none⟩ = some (.bool false) := (hc1 _ _ (by first | (simp; done) | (simp; omega))).trans (by go_simp)
      have s1 : w1.cell? ⟨w.heap.size, 1, none⟩ = some (.string da) := (hc1 _ _ (by first | (simp; done) | (simp; omega))).trans (by go_simp)
      have s2 : w1.cell? ⟨w.heap.size, 2, none⟩ = some (.int .i64 ea) := (hc1 _ _ (by first | (simp; done) | (simp; omega))).trans (by go_simp)
      have s3 : w1.cell? ⟨w.heap.size + 1, 0, none⟩ = some (.bool false) := (hc1 _ _ (by first | (simp; done) | (simp; omega))).trans (by go_simp)
      have s4 : w1.cell? ⟨w.heap.size + 1, 1, none⟩ = some (.string db) := (hc1 _ _ (by first | (simp; done) | (simp; omega))).trans (by go_simp)
      have s5 : w1.cell? ⟨w.heap.size + 1, 2, none⟩ = some (.int .i64 eb) := (hc1 _ _ (by first | (simp; done) | (simp; omega))).trans (by go_simp)
      clear hc1 hf1
      go_wp2_with fail
      refine (CXY.out _).mono ?_
      rintro e w2 ⟨rfl, hb2⟩
      go_wp2
      go_ret
      rw [HR.out]
      exact ⟨rfl, ext_trans hbw hb2⟩
    · have HR := hid hR.symm
      rw [if_neg (by simp), if_neg (by decide), if_pos rfl] at HR
      clear hR
      go_enter Tryz.func47, Tryz.ntmps47
      go_wp2_with fail
      refine (CA.out _).mono ?_
      rintro e w1 ⟨rfl, hb1⟩
      obtain ⟨hc1, hf1⟩ := bcell hb1
      have hbw : Below w.heap.size w w1 := ext_trans (ext_trans (ext_alloc _ _) (ext_alloc _ _)) hb1
      have s0 : w1.cell? ⟨w.heap.size, 0, none⟩ = some (.bool false) := (hc1 _ _ (by first | (simp; done) | (simp; omega))).trans (by go_simp)
      have s1 : w1.cell? ⟨w.heap.size, 1, none⟩ = some (.string da) := (hc1 _ _ (by first | (simp; done) | (simp; omega))).trans (by go_simp)
      have s2 : w1.cell? ⟨w.heap.size, 2, none⟩ = some (.int .i64 ea) := (hc1 _ _ (by first | (simp; done) | (simp; omega))).trans (by go_simp)
      have s3 : w1.cell? ⟨w.heap.size + 1, 0, none⟩ = some (.bool true) := (hc1 _ _ (by first | (simp; done) | (simp; omega))).trans (by go_simp)
      have s4 : w1.cell? ⟨w.heap.size + 1, 1, none⟩ = some (.string db) := (hc1 _ _ (by first | (simp; done) | (simp; omega))).trans (by go_simp)
      have s5 : w1.cell? ⟨w.heap.size + 1, 2, none⟩ = some (.int .i64 eb) := (hc1 _ _ (by first | (simp; done) | (simp; omega))).trans (by go_simp)
      clear hc1 hf1
      go_wp2
      go_ret
      rw [HR.out]
      exact ⟨rfl, hbw⟩
  · cases nb
    · have HR := hid hR.symm
      rw [if_neg (by simp), if_pos rfl] at HR
      clear hR
      go_enter Tryz.func47, Tryz.ntmps47
      go_wp2_with fail
      refine (CA.out _).mono ?_
      rintro e w1 ⟨rfl, hb1⟩
      obtain ⟨hc1, hf1⟩ := bcell hb1
      have hbw : Below w.heap.size w w1 := ext_trans (ext_trans (ext_alloc _ _) (ext_alloc _ _)) hb1
      have s0 : w1.cell? ⟨w.heap.size, 0, none⟩ = some (.bool true) := (hc1 _ _ (by first | (simp; done) | (simp; omega))).trans (by go_simp)
      have s1 : w1.cell? ⟨w.heap.size, 1, none⟩ = some (.string da) := (hc1 _ _ (by first | (simp; done) | (simp; omega))).trans (by go_simp)
      have s2 : w1.cell? ⟨w.heap.size, 2, none⟩ = some (.int .i64 ea) := (hc1 _ _ (by first | (simp; done) | (simp; omega))).trans (by go_simp)
      have s3 : w1.cell? ⟨w.heap.size + 1, 0, none⟩ = some (.bool false) := (hc1 _ _ (by first | (simp; done) | (simp; omega))).trans (by go_simp)
      have s4 : w1.cell? ⟨w.heap.size + 1, 1, none⟩ = some (.string db) := (hc1 _ _ (by first | (simp; done) | (simp; omega))).trans (by go_simp)
      have s5 : w1.cell? ⟨w.heap.size + 1, 2, none⟩ = some (.int .i64 eb) := (hc1 _ _ (by first | (simp; done) | (simp; omega))).trans (by go_simp)
      clear hc1 hf1
      go_wp2
      go_ret
      rw [HR.out]
      exact ⟨rfl, hbw⟩
    · have HR := hid hR.symm
      rw [if_pos (by simp)] at HR
      clear hR
      go_enter Tryz.func47, Tryz.ntmps47
      go_wp2_with fail
      refine (CA.out _).mono ?_
      rintro e w1 ⟨rfl, hb1⟩
      obtain ⟨hc1, hf1⟩ := bcell hb1
      have hbw : Below w.heap.size w w1 := ext_trans (ext_trans (ext_alloc _ _) (ext_alloc _ _)) hb1
      have s0 : w1.cell? ⟨w.heap.size, 0, none⟩ = some (.bool true) := (hc1 _ _ (by first | (simp; done) | (simp; omega))).trans (by go_simp)
      have s1 : w1.cell? ⟨w.heap.size, 1, none⟩ = some (.string da) := (hc1 _ _ (by first | (simp; done) | (simp; omega))).trans (by go_simp)
      have s2 : w1.cell? ⟨w.heap.size, 2, none⟩ = some (.int .i64 ea) := (hc1 _ _ (by first | (simp; done) | (simp; omega))).trans (by go_simp)
      have s3 : w1.cell? ⟨w.heap.size + 1, 0, none⟩ = some (.bool true) := (hc1 _ _ (by first | (simp; done) | (simp; omega))).trans (by go_simp)
      have s4 : w1.cell? ⟨w.heap.size + 1, 1, none⟩ = some (.string db) := (hc1 _ _ (by first | (simp; done) | (simp; omega))).trans (by go_simp)
      have s5 : w1.cell? ⟨w.heap.size + 1, 2, none⟩ = some (.int .i64 eb) := (hc1 _ _ (by first | (simp; done) | (simp; omega))).trans (by go_simp)
      clear hc1 hf1
      go_wp2_with fail
      refine (CYX.out _).mono ?_
      rintro e w2 ⟨rfl, hb2⟩
      go_wp2
      go_ret
      rw [HR.out]
      exact ⟨rfl, ext_trans hbw hb2⟩
def decCode (d : Dec) : Int := if d.dig.size = 0 then 0 else if d.neg = true then -1 else 1
theorem negD_same {b : Dec} (hb : decOk b = true) : (negD b).exp = b.exp ∧ (negD b).dig.size = b.dig.size ∧ (negD b).dig = b.dig := by
  unfold negD
  split
  · rename_i h
    have := (ok_facts hb).2.2.2.2 h
    exact ⟨this.2.symm, h.symm, (ba_nil h).symm⟩
  · exact ⟨rfl, rfl, rfl⟩
theorem code_zero : decCode dec0 = 0 := rfl
theorem code_one (n : Bool) : decCode ⟨n, ⟨#[49]⟩, 0⟩ = if n = true then -1 else 1 := rfl
theorem spec_cmp {a b : Dec} (ha : decOk a = true) (hb : decOk b = true) :
    decCode (sumD a.neg (negD b).neg (valX a (lowE a.exp b.exp)) (valX b (lowE a.exp b.exp))) = cmpD a b := by
  have hX := valX_zero ha (lowE a.exp b.exp)
  have hY := valX_zero hb (lowE a.exp b.exp)
  have h1 := (ok_facts ha).2.2.2.2
  have h2 := (ok_facts hb).2.2.2.2
  have hn : (negD b).neg = if b.dig.size = 0 then false else !b.neg := by
    unfold negD
    split <;> rfl
  rw [hn]
  unfold cmpD
  obtain ⟨X, hXe⟩ : ∃ X, valX a (lowE a.exp b.exp) = X := ⟨_, rfl⟩
  obtain ⟨Y, hYe⟩ : ∃ Y, valX b (lowE a.exp b.exp) = Y := ⟨_, rfl⟩
  rw [hXe] at hX ⊢
  rw [hYe] at hY ⊢
  obtain ⟨na, da, ea⟩ := a
  obtain ⟨nb, db, eb⟩ := b
  dsimp only at *
  unfold sumD sumZ sumN sgn3
  by_cases hb0 : db.size = 0
  · have hY0 : Y = 0 := hY.2 hb0
    obtain ⟨rfl, _⟩ := h2 hb0
    rw [if_pos hb0, hY0]
    cases na
    · simp only [if_true, Nat.add_zero, decide_eq_true_eq]
      by_cases hX0 : X = 0
      · rw [if_pos hX0, code_zero]; simp [hX0]
      · rw [if_neg hX0, code_one]; simp [hX0]
    · have ha0 : ¬ da.size = 0 := fun h => by have := (h1 h).1; cases this
      have hX0 : ¬ X = 0 := fun h => ha0 (hX.1 h)
      simp [hX0, code_one]
  · have hY0 : ¬ Y = 0 := fun h => hb0 (hY.1 h)
    rw [if_neg hb0]
    cases na
    · cases nb
      · simp only [Bool.not_false, Bool.false_eq_true, if_false, decide_eq_true_eq]
        by_cases hXY : X = Y
        · rw [if_pos hXY, code_zero]; simp [hXY]
        · rw [if_neg hXY, code_one]
          by_cases hle : Y ≤ X
          · have : ¬ X < Y := by omega
            simp [hle, this, hXY]
          · have : X < Y := by omega
            simp [hle, this]
      · simp [hY0, code_one]
    · have ha0 : ¬ da.size = 0 := fun h => by have := (h1 h).1; cases this
      have hX0 : ¬ X = 0 := fun h => ha0 (hX.1 h)
      cases nb
      · simp [hX0, code_one]
      · simp only [Bool.not_true, Bool.true_eq_false, if_false, decide_eq_true_eq]
        by_cases hXY : X = Y
        · rw [if_pos hXY, code_zero]; simp [hXY]
        · rw [if_neg hXY, code_one]
          by_cases hle : Y ≤ X
          · have h3 : Y < X := by omega
            simp [hle, h3]
          · have h3 : ¬ Y < X := by omega
            have h4 : ¬ Y = X := fun h => hXY h.symm
            simp [hle, h3, h4]
set_option maxHeartbeats 4000000 in
theorem specNegD (b : Dec) (w : World) (hb : decOk b = true) :
    Calls Tryz.prog 63 #[.agg #[.bool b.neg, .string b.dig, .int .i64 b.exp]] w fun e w' => e = .returned (.agg #[.bool (negD b).neg, .string (negD b).dig, .int .i64 (negD b).exp]) ∧ Below w.heap.size w w' := by
  obtain ⟨b1, b2, b3, b4, b5⟩ := ok_facts hb
  have CO : Hid (∀ w, Calls Tryz.prog 14 #[.agg #[.bool b.neg, .string b.dig, .int .i64 b.exp]] w fun e w' => e = .returned (.bool true) ∧ Below w.heap.size w w') := hid (fun w => by
    have h := specDecOk (d := b) (cs := #[.bool b.neg, .string b.dig, .int .i64 b.exp]) w (by exact rdDec_mk (x := b) (by omega) (by omega))
    rw [hb] at h
    exact h)
  obtain ⟨nb, db, eb⟩ := b
  dsimp only at *
  by_cases hz : db.size = 0
  · have HR := hid (show negD ⟨nb, db, eb⟩ = dec0 by unfold negD; rw [if_pos hz])
    have g1 : (db.toList == []) = true := by rw [ba_nil hz, Lib.toList_data]; rfl
    have g2 : db.toList.isEmpty = true := by rw [empty_size, decide_eq_true hz]
    clear hz b5 b4 b3
    go_enter Tryz.func63, Tryz.ntmps63
    go_wp2_with fail
    refine (CO.out _).mono ?_
    rintro e w1 ⟨rfl, hb1⟩
    obtain ⟨hc1, hf1⟩ := bcell hb1
    have hbw : Below w.heap.size w w1 := ext_trans (ext_trans (ext_alloc _ _) (ext_alloc _ _)) hb1
    have hl1 : w.heap.size + 1 < w1.heap.size := by have := hb1.size; (try simp at this); omega
    have s0 : w1.cell? ⟨w.heap.size, 0, none⟩ = some (.bool nb) := (hc1 _ _ (by first | (simp; done) | (simp; omega))).trans (by go_simp)
    have s1 : w1.cell? ⟨w.heap.size, 1, none⟩ = some (.string db) := (hc1 _ _ (by first | (simp; done) | (simp; omega))).trans (by go_simp)
    have s2 : w1.cell? ⟨w.heap.size, 2, none⟩ = some (.int .i64 eb) := (hc1 _ _ (by first | (simp; done) | (simp; omega))).trans (by go_simp)
    have t0 : w1.cell? ⟨w.heap.size + 1, 0, none⟩ = some (.bool false) := (hc1 _ _ (by first | (simp; done) | (simp; omega))).trans (by go_simp)
    have t1 : w1.cell? ⟨w.heap.size + 1, 1, none⟩ = some (.string ⟨#[]⟩) := (hc1 _ _ (by first | (simp; done) | (simp; omega))).trans (by go_simp)
    have t2 : w1.cell? ⟨w.heap.size + 1, 2, none⟩ = some (.int .i64 0) := (hc1 _ _ (by first | (simp; done) | (simp; omega))).trans (by go_simp)
    have r0 : w1.frozen? ⟨w.heap.size + 1, 0, none⟩ = false := (hf1 _ _ (by first | (simp; done) | (simp; omega))).trans (by go_simp)
    have r1 : w1.frozen? ⟨w.heap.size + 1, 1, none⟩ = false := (hf1 _ _ (by first | (simp; done) | (simp; omega))).trans (by go_simp)
    have r2 : w1.frozen? ⟨w.heap.size + 1, 2, none⟩ = false := (hf1 _ _ (by first | (simp; done) | (simp; omega))).trans (by go_simp)
    clear hc1 hf1
    go_wp2
    refine bodyPost_ret (v := .agg #[.bool false, .string ⟨#[]⟩, .int .i64 0]) (by simp [results, Tryz.results63, go_sem, hl1, t0, t1, t2, r0, r1, r2]) rfl ⟨by rw [HR.out]; rfl, ?_⟩
    repeat' (first | (with_reducible exact hbw) | (with_reducible refine Below.setCell ?_ ?_ _) | (simp; done) | (simp; omega) | omega)
  · have HR := hid (show negD ⟨nb, db, eb⟩ = ⟨!nb, db, eb⟩ by unfold negD; rw [if_neg hz])
    have g1 : (db.toList == []) = false := ba_nil_beq hz
    have g2 : db.toList.isEmpty = false := by rw [empty_size, decide_eq_false hz]
    clear hz b5 b4 b3
    go_enter Tryz.func63, Tryz.ntmps63
    go_wp2_with fail
    refine (CO.out _).mono ?_
    rintro e w1 ⟨rfl, hb1⟩
    obtain ⟨hc1, hf1⟩ := bcell hb1
    have hbw : Below w.heap.size w w1 := ext_trans (ext_trans (ext_alloc _ _) (ext_alloc _ _)) hb1
    have hl1 : w.heap.size + 1 < w1.heap.size := by have := hb1.size; (try simp at this); omega
    have s0 : w1.cell? ⟨w.heap.size, 0, none⟩ = some (.bool nb) := (hc1 _ _ (by first | (simp; done) | (simp; omega))).trans (by go_simp)
    have s1 : w1.cell? ⟨w.heap.size, 1, none⟩ = some (.string db) := (hc1 _ _ (by first | (simp; done) | (simp; omega))).trans (by go_simp)
    have s2 : w1.cell? ⟨w.heap.size, 2, none⟩ = some (.int .i64 eb) := (hc1 _ _ (by first | (simp; done) | (simp; omega))).trans (by go_simp)
    have t0 : w1.cell? ⟨w.heap.size + 1, 0, none⟩ = some (.bool false) := (hc1 _ _ (by first | (simp; done) | (simp; omega))).trans (by go_simp)
    have t1 : w1.cell? ⟨w.heap.size + 1, 1, none⟩ = some (.string ⟨#[]⟩) := (hc1 _ _ (by first | (simp; done) | (simp; omega))).trans (by go_simp)
    have t2 : w1.cell? ⟨w.heap.size + 1, 2, none⟩ = some (.int .i64 0) := (hc1 _ _ (by first | (simp; done) | (simp; omega))).trans (by go_simp)
    have r0 : w1.frozen? ⟨w.heap.size + 1, 0, none⟩ = false := (hf1 _ _ (by first | (simp; done) | (simp; omega))).trans (by go_simp)
    have r1 : w1.frozen? ⟨w.heap.size + 1, 1, none⟩ = false := (hf1 _ _ (by first | (simp; done) | (simp; omega))).trans (by go_simp)
    have r2 : w1.frozen? ⟨w.heap.size + 1, 2, none⟩ = false := (hf1 _ _ (by first | (simp; done) | (simp; omega))).trans (by go_simp)
    clear hc1 hf1
    go_wp2
    refine bodyPost_ret (v := .agg #[.bool (!nb), .string db, .int .i64 eb]) (by simp [results, Tryz.results63, go_sem, hl1, t0, t1, t2, r0, r1, r2]) rfl ⟨by rw [HR.out], ?_⟩
    repeat' (first | (with_reducible exact hbw) | (with_reducible refine Below.setCell ?_ ?_ _) | (simp; done) | (simp; omega) | omega)
end Go.Proofs.YtomcoilmpkpoeaaGreatDoor

namespace Go.Proofs.YtomcoilmpkpoeaaGreatDoor
open Go.RowKit
set_option linter.unusedVariables false
set_option linter.unusedSimpArgs false

theorem addfact {p q : Prop} (h : p) (k : p → q) : q := k h
theorem trimB_zero {d : ByteArray} (h : digits d.data.toList) : ((trimB d).toList == [48]) = decide (vD d.data.toList = 0) := by
  rw [Bool.eq_iff_iff, beq_iff_eq, decide_eq_true_eq, Lib.toList_data]
  unfold trimB
  rw [mkB_data]
  exact trim_zero_iff h
theorem trimB_list (a : ByteArray) : (trimB a).data.toList = trimL a.data.toList := by unfold trimB; rw [mkB_data]
theorem trimB_size (a : ByteArray) : (trimB a).size ≤ a.size + 1 := by
  rw [Lib.size_eq, trimB_list, Lib.size_eq]
  exact (trimL_len _).1
theorem sgn3_ge (X Y : Nat) : 0 ≤ sgn3 X Y ↔ Y ≤ X := by
  unfold sgn3
  split
  · omega
  · split <;> omega
set_option maxHeartbeats 8000000 in
set_option maxRecDepth 100000 in
theorem specSum0 (na nb : Bool) (da db : ByteArray) (ea eb : Int) (w : World) (hda : da.size ≤ 20) (hdb : db.size ≤ 20) (hea : -200 ≤ ea ∧ ea ≤ 200) (heb : -200 ≤ eb ∧ eb ≤ 200) (ga : digits (dgB da).data.toList) (gb : digits (dgB db).data.toList) :
    Calls Tryz.prog 62 #[.agg #[.bool na, .string da, .int .i64 ea], .agg #[.bool nb, .string db, .int .i64 eb], .bool false] w fun e w' => e = .returned (formV (sumD na nb (vD (dgB da).data.toList * 10 ^ (ea - lowE ea eb).toNat) (vD (dgB db).data.toList * 10 ^ (eb - lowE ea eb).toNat), 0)) ∧ Below w.heap.size w w' := by
  have CL := hid (fun (w : World) => specLevel na nb da db ea eb w (by omega) (by omega) (by omega) (by omega))
  have hle := lowE_le ea eb
  obtain ⟨e, he⟩ : ∃ e, lowE ea eb = e := ⟨_, rfl⟩
  rw [he] at CL hle ⊢
  obtain ⟨n1, hn1⟩ : ∃ n, (ea - e).toNat = n := ⟨_, rfl⟩
  obtain ⟨n2, hn2⟩ : ∃ n, (eb - e).toNat = n := ⟨_, rfl⟩
  rw [hn1, hn2] at CL ⊢
  rw [← levB_val, ← levB_val]
  have hzs1 := zeroB_size n1
  have hzs2 := zeroB_size n2
  have hds1 := dgB_size da
  have hds2 := dgB_size db
  have hAs : (levB da n1).size ≤ 900 := by unfold levB; rw [ByteArray.size_append]; omega
  have hBs : (levB db n2).size ≤ 900 := by unfold levB; rw [ByteArray.size_append]; omega
  have hAd : digits (levB da n1).data.toList := by rw [levB_list]; exact digits_append_zeros ga _
  have hBd : digits (levB db n2).data.toList := by rw [levB_list]; exact digits_append_zeros gb _
  obtain ⟨A, hA⟩ : ∃ x, levB da n1 = x := ⟨_, rfl⟩
  obtain ⟨B, hB⟩ : ∃ x, levB db n2 = x := ⟨_, rfl⟩
  rw [hA] at CL hAs hAd ⊢
  rw [hB] at CL hBs hBd ⊢
  have hTAd : digits (trimB A).data.toList := by rw [trimB_list]; exact digits_trim hAd
  have hTBd : digits (trimB B).data.toList := by rw [trimB_list]; exact digits_trim hBd
  have hTA := trimB_size A
  have hTB := trimB_size B
  have CAdd := hid (fun (w : World) => specAdd A B w hAd hBd (by omega) (by omega))
  have CCmp := hid (fun (w : World) => specNatCmp A B w hAd hBd (by omega) (by omega))
  have CTA := hid (fun (w : World) => specTrim A w (by omega))
  have CTB := hid (fun (w : World) => specTrim B w (by omega))
  have CS1 := hid (fun (w : World) => specSub (trimB A) B w hTAd hBd (by omega) (by omega))
  have CS2 := hid (fun (w : World) => specSub (trimB B) A w hTBd hAd (by omega) (by omega))
  obtain ⟨X, hX⟩ : ∃ x, vD A.data.toList = x := ⟨_, rfl⟩
  obtain ⟨Y, hY⟩ : ∃ x, vD B.data.toList = x := ⟨_, rfl⟩
  have hvadd : vD (addL A.data.toList B.data.toList) = X + Y := by rw [vD_add hAd hBd, hX, hY]
  have hlad : (addL A.data.toList B.data.toList).length ≤ 2000 := by
    have := addL_len A.data.toList B.data.toList
    rw [Lib.size_eq] at hAs hBs
    omega
  have hgad := digits_add A.data.toList B.data.toList
  have hsubs : ∀ (a b : ByteArray), digits a.data.toList → digits b.data.toList → a.size ≤ 1000 → digits (subL a.data.toList b.data.toList) ∧ (subL a.data.toList b.data.toList).length ≤ 2000 := by
    intro a b h1 h2 h3
    unfold subL
    refine ⟨digits_trim (digits_outS h1 h2 _), ?_⟩
    have := (trimL_len (outS a.data.toList b.data.toList a.data.toList.length)).1
    rw [outS_len] at this
    rw [Lib.size_eq] at h3
    omega
  obtain ⟨hg1, hl1⟩ := hsubs (trimB A) B hTAd hBd (by omega)
  obtain ⟨hg2, hl2⟩ := hsubs (trimB B) A hTBd hAd (by omega)
  have hv1 : Y ≤ X → vD (subL (trimB A).data.toList B.data.toList) + Y = X := by
    intro h
    have := vD_sub hTAd hBd (by rw [trimB_list, vD_trim, hX, hY]; exact h)
    rw [trimB_list, vD_trim, hX, hY] at this
    rw [trimB_list]
    exact this
  have hv2 : X ≤ Y → vD (subL (trimB B).data.toList A.data.toList) + X = Y := by
    intro h
    have := vD_sub hTBd hAd (by rw [trimB_list, vD_trim, hX, hY]; exact h)
    rw [trimB_list, vD_trim, hX, hY] at this
    rw [trimB_list]
    exact this
  rw [hX, hY] at CCmp ⊢
  obtain ⟨SA, hSA⟩ : ∃ l, addL A.data.toList B.data.toList = l := ⟨_, rfl⟩
  obtain ⟨S1, hS1⟩ : ∃ l, subL (trimB A).data.toList B.data.toList = l := ⟨_, rfl⟩
  obtain ⟨S2, hS2⟩ : ∃ l, subL (trimB B).data.toList A.data.toList = l := ⟨_, rfl⟩
  rw [hSA] at CAdd hvadd hlad hgad
  rw [hS1] at CS1 hv1 hg1 hl1
  rw [hS2] at CS2 hv2 hg2 hl2
  obtain ⟨TA, hTAe⟩ : ∃ t, trimB A = t := ⟨_, rfl⟩
  obtain ⟨TB, hTBe⟩ : ∃ t, trimB B = t := ⟨_, rfl⟩
  rw [hTAe] at CTA CS1
  rw [hTBe] at CTB CS2
  obtain ⟨R, hR⟩ : ∃ r, sumD na nb X Y = r := ⟨_, rfl⟩
  rw [hR]
  obtain ⟨sg, hsg⟩ : ∃ b, sumN na nb X Y = b := ⟨_, rfl⟩
  obtain ⟨zr, hzr⟩ : ∃ b, sumZ na nb X Y = b := ⟨_, rfl⟩
  have hRR : R = if zr = true then dec0 else ⟨sg, ⟨#[49]⟩, 0⟩ := by rw [← hR]; unfold sumD; rw [hsg, hzr]
  have HR := hid hRR
  have HSG := hid hsg
  have HZR := hid hzr
  have HV1 := hid hv1
  have HV2 := hid hv2
  have HVA := hid hvadd
  have e0 : (((w.alloc (.cells #[.bool na, .string da, .int .i64 ea] 36)).alloc (.cells #[.bool nb, .string db, .int .i64 eb] 36)).alloc (.cells #[.bool false, .string ⟨#[]⟩, .int .i64 0] 36)).heap.size = w.heap.size + 1 + 1 + 1 := by simp
  clear hR hRR hsg hzr hv1 hv2 hvadd hsubs hTA hTB hTAd hTBd hAd hBd hAs hBs hzs1 hzs2 hds1 hds2 hle he hn1 hn2 hX hY hA hB hSA hS1 hS2 hTAe hTBe ga gb
  go_enter Tryz.func62, Tryz.ntmps62
  go_wp2_with fail
  refine (CL.out _).mono ?_
  rintro e' w1 ⟨rfl, hb1⟩
  obtain ⟨hc1, hf1⟩ := bcell hb1
  have hB1 : Below (w.heap.size + 1 + 1 + 1) (((w.alloc (.cells #[.bool na, .string da, .int .i64 ea] 36)).alloc (.cells #[.bool nb, .string db, .int .i64 eb] 36)).alloc (.cells #[.bool false, .string ⟨#[]⟩, .int .i64 0] 36)) w1 := by rw [← e0]; exact hb1
  have hlw : w.heap.size + 1 + 1 < w1.heap.size := by have := hB1.size; (try simp at this); omega
  have s0 : w1.cell? ⟨w.heap.size, 0, none⟩ = some (.bool na) := (hc1 _ _ (by first | (simp; done) | (simp; omega))).trans (by go_simp)
  have s1 : w1.cell? ⟨w.heap.size, 1, none⟩ = some (.string da) := (hc1 _ _ (by first | (simp; done) | (simp; omega))).trans (by go_simp)
  have s2 : w1.cell? ⟨w.heap.size, 2, none⟩ = some (.int .i64 ea) := (hc1 _ _ (by first | (simp; done) | (simp; omega))).trans (by go_simp)
  have s3 : w1.cell? ⟨w.heap.size + 1, 0, none⟩ = some (.bool nb) := (hc1 _ _ (by first | (simp; done) | (simp; omega))).trans (by go_simp)
  have s4 : w1.cell? ⟨w.heap.size + 1, 1, none⟩ = some (.string db) := (hc1 _ _ (by first | (simp; done) | (simp; omega))).trans (by go_simp)
  have s5 : w1.cell? ⟨w.heap.size + 1, 2, none⟩ = some (.int .i64 eb) := (hc1 _ _ (by first | (simp; done) | (simp; omega))).trans (by go_simp)
  have s6 : w1.cell? ⟨w.heap.size + 1 + 1, 0, none⟩ = some (.bool false) := (hc1 _ _ (by first | (simp; done) | (simp; omega))).trans (by go_simp)
  have s7 : w1.cell? ⟨w.heap.size + 1 + 1, 1, none⟩ = some (.string ⟨#[]⟩) := (hc1 _ _ (by first | (simp; done) | (simp; omega))).trans (by go_simp)
  have s8 : w1.cell? ⟨w.heap.size + 1 + 1, 2, none⟩ = some (.int .i64 0) := (hc1 _ _ (by first | (simp; done) | (simp; omega))).trans (by go_simp)
  have r0 : w1.frozen? ⟨w.heap.size + 1 + 1, 0, none⟩ = false := (hf1 _ _ (by first | (simp; done) | (simp; omega))).trans (by go_simp)
  have r1 : w1.frozen? ⟨w.heap.size + 1 + 1, 1, none⟩ = false := (hf1 _ _ (by first | (simp; done) | (simp; omega))).trans (by go_simp)
  have r2 : w1.frozen? ⟨w.heap.size + 1 + 1, 2, none⟩ = false := (hf1 _ _ (by first | (simp; done) | (simp; omega))).trans (by go_simp)
  clear hc1 hf1
  go_upto_region 3 with fail
  go_cut [12] from 13 (fun v wr => v = .string ⟨#[]⟩ ∧ w1 = wr)
  case first =>
    go_wp2
    go_meet
    case rel => exact ⟨rfl, rfl⟩
  case rest =>
  obtain ⟨rfl, rfl⟩ := hcut
  go_step
  go_step
  go_cut [11, 12] from 13 (fun v11 v12 wr => ∃ D : ByteArray, v11 = .bool sg ∧ v12 = .string D ∧ digits D.data.toList ∧ D.size ≤ 2000 ∧ Hid (vD D.data.toList = 0 ↔ zr = true) ∧ Below (w.heap.size + 1 + 1 + 1) (((w.alloc (.cells #[.bool na, .string da, .int .i64 ea] 36)).alloc (.cells #[.bool nb, .string db, .int .i64 eb] 36)).alloc (.cells #[.bool false, .string ⟨#[]⟩, .int .i64 0] 36)) wr)
  case first =>
    by_cases hs : na = nb
    · have HN := hid (show sg = na by rw [← HSG.out]; unfold sumN; rw [if_pos hs])
      have HZ := hid (show zr = decide (X + Y = 0) by rw [← HZR.out]; unfold sumZ; rw [if_pos hs])
      have g1 : (na == nb) = true := by rw [hs]; simp
      clear hs
      go_wp2_with fail
      refine (CAdd.out _).mono ?_
      rintro e' w2 ⟨rfl, hb2⟩
      go_wp2
      go_meet
      case rel => exact ⟨mkB SA, by rw [HN.out], rfl, hgad, by rw [mkB_size]; exact hlad, hid (by rw [HZ.out, decide_eq_true_eq, mkB_data, HVA.out]), hB1.trans (hb2.mono (by omega))⟩
    · have g1 : (na == nb) = false := by simpa using hs
      by_cases hle : Y ≤ X
      · have HN := hid (show sg = na by rw [← HSG.out]; unfold sumN; rw [if_neg hs, if_pos hle])
        have HZ := hid (show zr = decide (X = Y) by rw [← HZR.out]; unfold sumZ; rw [if_neg hs])
        have g2 : (0 : Int) ≤ sgn3 X Y := (sgn3_ge X Y).2 hle
        have hv := HV1.out hle
        have HIF := hid (show vD S1 = 0 ↔ zr = true by rw [HZ.out, decide_eq_true_eq]; omega)
        clear hs hv
        go_wp2_with fail
        refine (CCmp.out _).mono ?_
        rintro e' w2 ⟨rfl, rfl⟩
        go_wp2_with fail
        refine (CTA.out _).mono ?_
        rintro e' w2 ⟨rfl, rfl⟩
        go_wp2_with fail
        refine (CS1.out _).mono ?_
        rintro e' w2 ⟨rfl, hb2⟩
        go_wp2
        go_meet
        case rel => exact ⟨mkB S1, by rw [HN.out], rfl, hg1, by rw [mkB_size]; exact hl1, HIF, hB1.trans (hb2.mono (by omega))⟩
      · have HN := hid (show sg = nb by rw [← HSG.out]; unfold sumN; rw [if_neg hs, if_neg hle])
        have HZ := hid (show zr = decide (X = Y) by rw [← HZR.out]; unfold sumZ; rw [if_neg hs])
        have g2 : ¬ (0 : Int) ≤ sgn3 X Y := fun h => hle ((sgn3_ge X Y).1 h)
        have hv := HV2.out (by omega)
        have HIF := hid (show vD S2 = 0 ↔ zr = true by rw [HZ.out, decide_eq_true_eq]; omega)
        clear hs hv hle
        go_wp2_with fail
        refine (CCmp.out _).mono ?_
        rintro e' w2 ⟨rfl, rfl⟩
        go_wp2_with fail
        refine (CTB.out _).mono ?_
        rintro e' w2 ⟨rfl, rfl⟩
        go_wp2_with fail
        refine (CS2.out _).mono ?_
        rintro e' w2 ⟨rfl, hb2⟩
        have k0 := keeps_cells hb2 _ _ s0
        have k3 := keeps_cells hb2 _ _ s3
        go_wp2
        go_meet
        case rel => exact ⟨mkB S2, by rw [HN.out], rfl, hg2, by rw [mkB_size]; exact hl2, HIF, hB1.trans (hb2.mono (by omega))⟩
  case rest =>
  obtain ⟨D, rfl, rfl, hDg, hDs, HIF, hB2⟩ := hcut
  have CTD := hid (fun (w : World) => specTrim D w (by omega))
  have gz := trimB_zero hDg
  obtain ⟨T, hT⟩ : ∃ t, trimB D = t := ⟨_, rfl⟩
  rw [hT] at CTD gz
  clear hT hB1 s0 s1 s2 s3 s4 s5 s6 s7 s8 r0 r1 r2 CL CAdd CCmp CTA CTB CS1 CS2
  obtain ⟨hc2, hf2⟩ := bcell hB2
  have hl2 : w.heap.size + 1 + 1 < wc.heap.size := by have := hB2.size; (try simp at this); omega
  have s6 : wc.cell? ⟨w.heap.size + 1 + 1, 0, none⟩ = some (.bool false) := (hc2 _ _ (by omega)).trans (by go_simp)
  have s7 : wc.cell? ⟨w.heap.size + 1 + 1, 1, none⟩ = some (.string ⟨#[]⟩) := (hc2 _ _ (by omega)).trans (by go_simp)
  have s8 : wc.cell? ⟨w.heap.size + 1 + 1, 2, none⟩ = some (.int .i64 0) := (hc2 _ _ (by omega)).trans (by go_simp)
  have r0 : wc.frozen? ⟨w.heap.size + 1 + 1, 0, none⟩ = false := (hf2 _ _ (by omega)).trans (by go_simp)
  have r1 : wc.frozen? ⟨w.heap.size + 1 + 1, 1, none⟩ = false := (hf2 _ _ (by omega)).trans (by go_simp)
  have r2 : wc.frozen? ⟨w.heap.size + 1 + 1, 2, none⟩ = false := (hf2 _ _ (by omega)).trans (by go_simp)
  clear hc2 hf2
  have hbw : Below w.heap.size w wc := (ext_trans (ext_trans (ext_alloc _ _) (ext_alloc _ _)) (ext_alloc _ _)).trans (hB2.mono (by omega))
  cases zr
  · have hv : ¬ vD D.data.toList = 0 := fun h => by have := HIF.out.1 h; cases this
    rw [decide_eq_false hv] at gz
    have HRR := hid (show R = ⟨sg, ⟨#[49]⟩, 0⟩ by rw [HR.out, if_neg (by decide)])
    clear hv
    go_wp2_with fail
    refine (CTD.out _).mono ?_
    rintro e' w2 ⟨rfl, rfl⟩
    go_wp2
    refine bodyPost_ret (v := .tuple #[.agg #[.bool sg, .string ⟨#[49]⟩, .int .i64 0], .int .i64 0]) (by simp [results, Tryz.results62, go_sem, hl2, s6, s7, s8, r0, r1, r2]) rfl ⟨by rw [HRR.out]; rfl, ?_⟩
    repeat' (first | (with_reducible exact hbw) | (with_reducible refine Below.setCell ?_ ?_ _) | (simp; done) | (simp; omega) | omega)
  · have hv : vD D.data.toList = 0 := HIF.out.2 rfl
    rw [decide_eq_true hv] at gz
    have HRR := hid (show R = dec0 by rw [HR.out, if_pos rfl])
    clear hv
    go_wp2_with fail
    refine (CTD.out _).mono ?_
    rintro e' w2 ⟨rfl, rfl⟩
    go_wp2
    refine bodyPost_ret (v := .tuple #[.agg #[.bool false, .string ⟨#[]⟩, .int .i64 0], .int .i64 0]) (by simp [results, Tryz.results62, go_sem, hl2, s6, s7, s8, r0, r1, r2]) rfl ⟨by rw [HRR.out]; rfl, ?_⟩
    repeat' (first | (with_reducible exact hbw) | (with_reducible refine Below.setCell ?_ ?_ _) | (simp; done) | (simp; omega) | omega)
set_option maxHeartbeats 16000000 in
set_option maxRecDepth 100000 in
theorem specDecCmp (a b : Dec) (w : World) (ha : decOk a = true) (hb : decOk b = true) :
    Calls Tryz.prog 28 #[.agg #[.bool a.neg, .string a.dig, .int .i64 a.exp], .agg #[.bool b.neg, .string b.dig, .int .i64 b.exp]] w fun e w' => e = .returned (.int .i64 (cmpD a b)) ∧ Below w.heap.size w w' := by
  obtain ⟨a1, a2, a3, a4, a5⟩ := ok_facts ha
  obtain ⟨b1, b2, b3, b4, b5⟩ := ok_facts hb
  obtain ⟨n1, n2, n3⟩ := negD_same hb
  have hcm := spec_cmp ha hb
  have CO1 : Hid (∀ w, Calls Tryz.prog 14 #[.agg #[.bool a.neg, .string a.dig, .int .i64 a.exp]] w fun e w' => e = .returned (.bool true) ∧ Below w.heap.size w w') := hid (fun w => by
    have h := specDecOk (d := a) (cs := #[.bool a.neg, .string a.dig, .int .i64 a.exp]) w (by exact rdDec_mk (x := a) (by omega) (by omega))
    rw [ha] at h
    exact h)
  have CO2 : Hid (∀ w, Calls Tryz.prog 14 #[.agg #[.bool b.neg, .string b.dig, .int .i64 b.exp]] w fun e w' => e = .returned (.bool true) ∧ Below w.heap.size w w') := hid (fun w => by
    have h := specDecOk (d := b) (cs := #[.bool b.neg, .string b.dig, .int .i64 b.exp]) w (by exact rdDec_mk (x := b) (by omega) (by omega))
    rw [hb] at h
    exact h)
  have CN := hid (fun (w : World) => specNegD b w hb)
  obtain ⟨R, hR⟩ : ∃ r, sumD a.neg (negD b).neg (valX a (lowE a.exp b.exp)) (valX b (lowE a.exp b.exp)) = r := ⟨_, rfl⟩
  have CS : Hid (∀ w, Calls Tryz.prog 62 #[.agg #[.bool a.neg, .string a.dig, .int .i64 a.exp], .agg #[.bool (negD b).neg, .string (negD b).dig, .int .i64 (negD b).exp], .bool false] w fun e w' => e = .returned (.tuple #[.agg #[.bool R.neg, .string R.dig, .int .i64 R.exp], .int .i64 0]) ∧ Below w.heap.size w w') := hid (fun w => by
    have h := specSum0 a.neg (negD b).neg a.dig (negD b).dig a.exp (negD b).exp w a1 (by rw [n3]; exact b1) a2 (by rw [n1]; exact b2) a3 (by rw [n3]; exact b3)
    rw [n1, n3] at h
    rw [n1, n3]
    have e1 : sumD a.neg (negD b).neg (vD (dgB a.dig).data.toList * 10 ^ (a.exp - lowE a.exp b.exp).toNat) (vD (dgB b.dig).data.toList * 10 ^ (b.exp - lowE a.exp b.exp).toNat) = R := hR
    rw [e1] at h
    exact h)
  rw [hR] at hcm
  rw [← hcm]
  obtain ⟨nn, nd, ne⟩ : ∃ x y z, (negD b) = ⟨x, y, z⟩ := ⟨_, _, _, rfl⟩
  obtain ⟨C, hC⟩ : ∃ c, decCode R = c := ⟨_, rfl⟩
  rw [hC]
  have HC := hid (show C = if R.dig.size = 0 then 0 else if R.neg = true then -1 else 1 by rw [← hC]; rfl)
  obtain ⟨NB, hNB⟩ : ∃ d, negD b = d := ⟨_, rfl⟩
  rw [hNB] at CN CS
  obtain ⟨na, da, ea⟩ := a
  obtain ⟨nb, db, eb⟩ := b
  dsimp only at *
  clear a1 a2 a3 a4 a5 b1 b2 b3 b4 b5 n1 n2 n3 hcm hR hC hNB ha hb ne
  go_enter Tryz.func28, Tryz.ntmps28
  go_wp2_with fail
  refine (CO1.out _).mono ?_
  rintro e' w1 ⟨rfl, hb1⟩
  have s0 : w1.cell? ⟨w.heap.size, 0, none⟩ = some (.bool na) := keeps_cells hb1 _ _ (by go_simp)
  have s1 : w1.cell? ⟨w.heap.size, 1, none⟩ = some (.string da) := keeps_cells hb1 _ _ (by go_simp)
  have s2 : w1.cell? ⟨w.heap.size, 2, none⟩ = some (.int .i64 ea) := keeps_cells hb1 _ _ (by go_simp)
  have s3 : w1.cell? ⟨w.heap.size + 1, 0, none⟩ = some (.bool nb) := keeps_cells hb1 _ _ (by go_simp)
  have s4 : w1.cell? ⟨w.heap.size + 1, 1, none⟩ = some (.string db) := keeps_cells hb1 _ _ (by go_simp)
  have s5 : w1.cell? ⟨w.heap.size + 1, 2, none⟩ = some (.int .i64 eb) := keeps_cells hb1 _ _ (by go_simp)
  go_wp2_with fail
  refine (CO2.out _).mono ?_
  rintro e' w2 ⟨rfl, hb2⟩
  replace s0 := keeps_cells hb2 _ _ s0
  replace s1 := keeps_cells hb2 _ _ s1
  replace s2 := keeps_cells hb2 _ _ s2
  replace s3 := keeps_cells hb2 _ _ s3
  replace s4 := keeps_cells hb2 _ _ s4
  replace s5 := keeps_cells hb2 _ _ s5
  have hbw : Below w.heap.size w w2 := ext_trans (ext_trans (ext_trans (ext_alloc _ _) (ext_alloc _ _)) hb1) hb2
  have hl2 : w.heap.size + 1 < w2.heap.size := by have h1 := hb1.size; have h2 := hb2.size; (try simp at h1); omega
  clear hb1 hb2
  go_upto_region 3 with fail
  go_cut [5] from 7 (fun v5 wr => ∃ bk : Nat, v5 = .pointer (some ⟨bk, 0, none⟩) ∧ wr.cell? ⟨bk, 0, none⟩ = some (.bool R.neg) ∧ wr.cell? ⟨bk, 1, none⟩ = some (.string R.dig) ∧ Below w.heap.size w wr)
  case first =>
    have kl0 : w.heap.size < w2.heap.size := by omega
    have kl1 : w.heap.size + 1 < w2.heap.size := by omega
    refine wp_region_held_drew (S := fun w' => Below w2.heap.size w2 w') (by kernel_rfl) ?_ (fun hHeld => ?_)
    · exact Below.drew (Below.refl _ _)
    refine wpAnyH_take (i := 0) (v := ?_) rfl (by kernel_rfl) (by kernel_rfl) (by kernel_rfl) (fun _ _ _ h => h) (Or.inl ⟨by rfl, ?_⟩) (by assumption) ?_
    rotate_left
    · (intro w' hSw; (try dsimp only at hSw); (have q0 := (hSw.cell (p := ⟨w.heap.size, 0, none⟩) kl0).trans s0; have q1 := (hSw.cell (p := ⟨w.heap.size, 1, none⟩) kl0).trans s1; have q2 := (hSw.cell (p := ⟨w.heap.size, 2, none⟩) kl0).trans s2); go_simp; try (with_reducible rfl))
    change wpAnyH _ _ _ _ _ _ _ (Act.put _ (some 16) _) _
    try simp only [Act.put, List.setIfInBounds_toArray, List.set_cons_zero, List.set_cons_succ]
    refine wpAnyH_take (i := 1) (v := ?_) rfl (by kernel_rfl) (by kernel_rfl) (by kernel_rfl) (fun _ _ _ h => h) (Or.inl ⟨by rfl, ?_⟩) (by assumption) ?_
    rotate_left
    · (intro w' hSw; (try dsimp only at hSw); (have q0 := (hSw.cell (p := ⟨w.heap.size + 1, 0, none⟩) kl1).trans s3; have q1 := (hSw.cell (p := ⟨w.heap.size + 1, 1, none⟩) kl1).trans s4; have q2 := (hSw.cell (p := ⟨w.heap.size + 1, 2, none⟩) kl1).trans s5); go_simp; try (with_reducible rfl))
    change wpAnyH _ _ _ _ _ _ _ (Act.put _ (some 17) _) _
    try simp only [Act.put, List.setIfInBounds_toArray, List.set_cons_zero, List.set_cons_succ]
    refine wpAnyH_ready (rs := [2, 7]) (by kernel_rfl) (by simp) ?_
    refine AllReadyH.cons (i := 2) rfl (fun K hK => ?_) ?_
    · simp only [List.getElem_toArray, List.getElem_cons_succ, List.getElem_cons_zero]
      rw [if_pos (by rfl)]
      go_simp
      (go_at_call 63; refine (CN.out _).mono ?_; rintro e' tA ⟨rfl, hbA⟩; go_wp2_with fail)
      refine hK.out _ _ ?_ (fun hHeld => ?_)
      · ((try dsimp only); exact ext_trans hHeld hbA)
      clear hK K
      try simp only [Act.put, List.setIfInBounds_toArray, List.set_cons_zero, List.set_cons_succ]
      refine wpAnyH_ready (rs := [3, 7]) (by kernel_rfl) (by simp) ?_
      refine AllReadyH.cons (i := 3) rfl (fun K hK => ?_) ?_
      · simp only [List.getElem_toArray, List.getElem_cons_succ, List.getElem_cons_zero]
        rw [if_pos (by rfl)]
        go_simp
        (go_at_call 62; refine (CS.out _).mono ?_; rintro e' tB ⟨rfl, hbB⟩; go_wp2_with fail)
        refine hK.out _ _ ?_ (fun hHeld => ?_)
        · ((try dsimp only); exact ext_trans hHeld hbB)
        clear hK K
        try simp only [Act.put, List.setIfInBounds_toArray, List.set_cons_zero, List.set_cons_succ]
        refine wpAnyH_take (i := 4) (v := ?_) rfl (by kernel_rfl) (by kernel_rfl) (by kernel_rfl) (fun _ _ _ h => h) (Or.inl ⟨by rfl, ?_⟩) (by assumption) ?_
        rotate_left
        · (intro w' hSw; (try dsimp only at hSw); go_simp; try (with_reducible rfl))
        change wpAnyH _ _ _ _ _ _ _ (Act.put _ (some 15) _) _
        try simp only [Act.put, List.setIfInBounds_toArray, List.set_cons_zero, List.set_cons_succ]
        refine wpAnyH_take (i := 5) (v := ?_) rfl (by kernel_rfl) (by kernel_rfl) (by kernel_rfl) (fun _ _ _ h => h) (Or.inl ⟨by rfl, ?_⟩) (by assumption) ?_
        rotate_left
        · (intro w' hSw; (try dsimp only at hSw); go_simp; try (with_reducible rfl))
        change wpAnyH _ _ _ _ _ _ _ (Act.put _ (some 20) _) _
        try simp only [Act.put, List.setIfInBounds_toArray, List.set_cons_zero, List.set_cons_succ]
        refine wpAnyH_take (i := 6) (v := ?_) rfl (by kernel_rfl) (by kernel_rfl) (by kernel_rfl) (fun _ _ _ h => h) (Or.inl ⟨by rfl, ?_⟩) (by assumption) ?_
        rotate_left
        · (intro w' hSw; (try dsimp only at hSw); go_simp; try (with_reducible rfl))
        change wpAnyH _ _ _ _ _ _ _ (Act.put _ (some 21) _) _
        try simp only [Act.put, List.setIfInBounds_toArray, List.set_cons_zero, List.set_cons_succ]
        refine wpAnyH_ready (rs := [7]) (by kernel_rfl) (by simp) ?_
        refine AllReadyH.cons (i := 7) rfl (fun K hK => ?_) AllReadyH.nil
        simp only [List.getElem_toArray, List.getElem_cons_succ, List.getElem_cons_zero]
        rw [if_pos (by rfl)]
        go_simp
        have hHC := hHeld
        have gle : w2.heap.size ≤ tB.heap.size := hHeld.size
        have gl : tB.heap.size < (tB.alloc (.cells #[.bool false, .string ⟨#[]⟩, .int .i64 0] 36)).heap.size := by simp
        have g0 : (tB.alloc (.cells #[.bool false, .string ⟨#[]⟩, .int .i64 0] 36)).cell? ⟨tB.heap.size, 0, none⟩ = some (.bool false) := by go_simp
        have g1 : (tB.alloc (.cells #[.bool false, .string ⟨#[]⟩, .int .i64 0] 36)).cell? ⟨tB.heap.size, 1, none⟩ = some (.string ⟨#[]⟩) := by go_simp
        have g2 : (tB.alloc (.cells #[.bool false, .string ⟨#[]⟩, .int .i64 0] 36)).cell? ⟨tB.heap.size, 2, none⟩ = some (.int .i64 0) := by go_simp
        have gz0 : (tB.alloc (.cells #[.bool false, .string ⟨#[]⟩, .int .i64 0] 36)).frozen? ⟨tB.heap.size, 0, none⟩ = false := by go_simp
        have gz1 : (tB.alloc (.cells #[.bool false, .string ⟨#[]⟩, .int .i64 0] 36)).frozen? ⟨tB.heap.size, 1, none⟩ = false := by go_simp
        have gz2 : (tB.alloc (.cells #[.bool false, .string ⟨#[]⟩, .int .i64 0] 36)).frozen? ⟨tB.heap.size, 2, none⟩ = false := by go_simp
        refine hK.out _ _ ?_ (fun hHeld => ?_)
        · ((try dsimp only); exact ext_trans hHeld (ext_alloc _ _))
        clear hK K
        try simp only [Act.put, List.setIfInBounds_toArray, List.set_cons_zero, List.set_cons_succ]
        refine wpAnyH_ready (rs := [8]) (by kernel_rfl) (by simp) ?_
        refine AllReadyH.cons (i := 8) rfl (fun K hK => ?_) AllReadyH.nil
        simp only [List.getElem_toArray, List.getElem_cons_succ, List.getElem_cons_zero]
        rw [if_pos (by rfl)]
        go_simp
        refine hK.out _ _ ?_ (fun hHeld => ?_)
        · ((try dsimp only); first | (refine Below.setCell ?_ gle _; refine Below.setCell ?_ gle _; refine Below.setCell ?_ gle _; exact hHeld) | exact ext_trans hHC (ext_alloc _ _))
        clear hK K
        try simp only [Act.put, List.setIfInBounds_toArray, List.set_cons_zero, List.set_cons_succ]
        refine wpAnyH_take (i := 9) (v := ?_) rfl (by kernel_rfl) (by kernel_rfl) (by kernel_rfl) (fun _ _ _ h => h) (Or.inl ⟨by rfl, ?_⟩) (by assumption) ?_
        rotate_left
        · (intro w' hSw; (try dsimp only at hSw); go_simp; try (with_reducible rfl))
        change wpAnyH _ _ _ _ _ _ _ (Act.put _ (some 6) _) _
        try simp only [Act.put, List.setIfInBounds_toArray, List.set_cons_zero, List.set_cons_succ]
        refine wpAnyH_done (by kernel_rfl) ?_ _
        go_wp2_with fail
        go_meet
        case rel => exact ⟨_, rfl, by go_simp, by go_simp, ext_trans hbw hHeld⟩
      refine AllReadyH.cons (i := 7) rfl (fun K hK => ?_) ?_
      · simp only [List.getElem_toArray, List.getElem_cons_succ, List.getElem_cons_zero]
        rw [if_pos (by rfl)]
        go_simp
        have hHC := hHeld
        have gle : w2.heap.size ≤ tA.heap.size := hHeld.size
        have gl : tA.heap.size < (tA.alloc (.cells #[.bool false, .string ⟨#[]⟩, .int .i64 0] 36)).heap.size := by simp
        have g0 : (tA.alloc (.cells #[.bool false, .string ⟨#[]⟩, .int .i64 0] 36)).cell? ⟨tA.heap.size, 0, none⟩ = some (.bool false) := by go_simp
        have g1 : (tA.alloc (.cells #[.bool false, .string ⟨#[]⟩, .int .i64 0] 36)).cell? ⟨tA.heap.size, 1, none⟩ = some (.string ⟨#[]⟩) := by go_simp
        have g2 : (tA.alloc (.cells #[.bool false, .string ⟨#[]⟩, .int .i64 0] 36)).cell? ⟨tA.heap.size, 2, none⟩ = some (.int .i64 0) := by go_simp
        have gz0 : (tA.alloc (.cells #[.bool false, .string ⟨#[]⟩, .int .i64 0] 36)).frozen? ⟨tA.heap.size, 0, none⟩ = false := by go_simp
        have gz1 : (tA.alloc (.cells #[.bool false, .string ⟨#[]⟩, .int .i64 0] 36)).frozen? ⟨tA.heap.size, 1, none⟩ = false := by go_simp
        have gz2 : (tA.alloc (.cells #[.bool false, .string ⟨#[]⟩, .int .i64 0] 36)).frozen? ⟨tA.heap.size, 2, none⟩ = false := by go_simp
        refine hK.out _ _ ?_ (fun hHeld => ?_)
        · ((try dsimp only); exact ext_trans hHeld (ext_alloc _ _))
        clear hK K
        try simp only [Act.put, List.setIfInBounds_toArray, List.set_cons_zero, List.set_cons_succ]
        refine wpAnyH_ready (rs := [3]) (by kernel_rfl) (by simp) ?_
        refine AllReadyH.cons (i := 3) rfl (fun K hK => ?_) AllReadyH.nil
        simp only [List.getElem_toArray, List.getElem_cons_succ, List.getElem_cons_zero]
        rw [if_pos (by rfl)]
        go_simp
        (go_at_call 62; refine (CS.out _).mono ?_; rintro e' tB ⟨rfl, hbB⟩; go_wp2_with fail)
        replace g0 := (hbB.cell (p := ⟨tA.heap.size, 0, none⟩) gl).trans g0
        replace g1 := (hbB.cell (p := ⟨tA.heap.size, 1, none⟩) gl).trans g1
        replace g2 := (hbB.cell (p := ⟨tA.heap.size, 2, none⟩) gl).trans g2
        replace gz0 := (hbB.frozen (p := ⟨tA.heap.size, 0, none⟩) gl).trans gz0
        replace gz1 := (hbB.frozen (p := ⟨tA.heap.size, 1, none⟩) gl).trans gz1
        replace gz2 := (hbB.frozen (p := ⟨tA.heap.size, 2, none⟩) gl).trans gz2
        replace gl := Nat.lt_of_lt_of_le gl hbB.size
        refine hK.out _ _ ?_ (fun hHeld => ?_)
        · ((try dsimp only); exact ext_trans hHeld hbB)
        clear hK K
        try simp only [Act.put, List.setIfInBounds_toArray, List.set_cons_zero, List.set_cons_succ]
        refine wpAnyH_take (i := 4) (v := ?_) rfl (by kernel_rfl) (by kernel_rfl) (by kernel_rfl) (fun _ _ _ h => h) (Or.inl ⟨by rfl, ?_⟩) (by assumption) ?_
        rotate_left
        · (intro w' hSw; (try dsimp only at hSw); go_simp; try (with_reducible rfl))
        change wpAnyH _ _ _ _ _ _ _ (Act.put _ (some 15) _) _
        try simp only [Act.put, List.setIfInBounds_toArray, List.set_cons_zero, List.set_cons_succ]
        refine wpAnyH_take (i := 5) (v := ?_) rfl (by kernel_rfl) (by kernel_rfl) (by kernel_rfl) (fun _ _ _ h => h) (Or.inl ⟨by rfl, ?_⟩) (by assumption) ?_
        rotate_left
        · (intro w' hSw; (try dsimp only at hSw); go_simp; try (with_reducible rfl))
        change wpAnyH _ _ _ _ _ _ _ (Act.put _ (some 20) _) _
        try simp only [Act.put, List.setIfInBounds_toArray, List.set_cons_zero, List.set_cons_succ]
        refine wpAnyH_take (i := 6) (v := ?_) rfl (by kernel_rfl) (by kernel_rfl) (by kernel_rfl) (fun _ _ _ h => h) (Or.inl ⟨by rfl, ?_⟩) (by assumption) ?_
        rotate_left
        · (intro w' hSw; (try dsimp only at hSw); go_simp; try (with_reducible rfl))
        change wpAnyH _ _ _ _ _ _ _ (Act.put _ (some 21) _) _
        try simp only [Act.put, List.setIfInBounds_toArray, List.set_cons_zero, List.set_cons_succ]
        refine wpAnyH_ready (rs := [8]) (by kernel_rfl) (by simp) ?_
        refine AllReadyH.cons (i := 8) rfl (fun K hK => ?_) AllReadyH.nil
        simp only [List.getElem_toArray, List.getElem_cons_succ, List.getElem_cons_zero]
        rw [if_pos (by rfl)]
        go_simp
        refine hK.out _ _ ?_ (fun hHeld => ?_)
        · ((try dsimp only); first | (refine Below.setCell ?_ gle _; refine Below.setCell ?_ gle _; refine Below.setCell ?_ gle _; exact hHeld) | exact ext_trans hHC (ext_alloc _ _))
        clear hK K
        try simp only [Act.put, List.setIfInBounds_toArray, List.set_cons_zero, List.set_cons_succ]
        refine wpAnyH_take (i := 9) (v := ?_) rfl (by kernel_rfl) (by kernel_rfl) (by kernel_rfl) (fun _ _ _ h => h) (Or.inl ⟨by rfl, ?_⟩) (by assumption) ?_
        rotate_left
        · (intro w' hSw; (try dsimp only at hSw); go_simp; try (with_reducible rfl))
        change wpAnyH _ _ _ _ _ _ _ (Act.put _ (some 6) _) _
        try simp only [Act.put, List.setIfInBounds_toArray, List.set_cons_zero, List.set_cons_succ]
        refine wpAnyH_done (by kernel_rfl) ?_ _
        go_wp2_with fail
        go_meet
        case rel => exact ⟨_, rfl, by go_simp, by go_simp, ext_trans hbw hHeld⟩
      exact AllReadyH.nil
    refine AllReadyH.cons (i := 7) rfl (fun K hK => ?_) ?_
    · simp only [List.getElem_toArray, List.getElem_cons_succ, List.getElem_cons_zero]
      rw [if_pos (by rfl)]
      go_simp
      have hHC := hHeld
      have gle : w2.heap.size ≤ w2.heap.size := hHeld.size
      have gl : w2.heap.size < (w2.drew.alloc (.cells #[.bool false, .string ⟨#[]⟩, .int .i64 0] 36)).heap.size := by simp
      have g0 : (w2.drew.alloc (.cells #[.bool false, .string ⟨#[]⟩, .int .i64 0] 36)).cell? ⟨w2.heap.size, 0, none⟩ = some (.bool false) := by go_simp
      have g1 : (w2.drew.alloc (.cells #[.bool false, .string ⟨#[]⟩, .int .i64 0] 36)).cell? ⟨w2.heap.size, 1, none⟩ = some (.string ⟨#[]⟩) := by go_simp
      have g2 : (w2.drew.alloc (.cells #[.bool false, .string ⟨#[]⟩, .int .i64 0] 36)).cell? ⟨w2.heap.size, 2, none⟩ = some (.int .i64 0) := by go_simp
      have gz0 : (w2.drew.alloc (.cells #[.bool false, .string ⟨#[]⟩, .int .i64 0] 36)).frozen? ⟨w2.heap.size, 0, none⟩ = false := by go_simp
      have gz1 : (w2.drew.alloc (.cells #[.bool false, .string ⟨#[]⟩, .int .i64 0] 36)).frozen? ⟨w2.heap.size, 1, none⟩ = false := by go_simp
      have gz2 : (w2.drew.alloc (.cells #[.bool false, .string ⟨#[]⟩, .int .i64 0] 36)).frozen? ⟨w2.heap.size, 2, none⟩ = false := by go_simp
      refine hK.out _ _ ?_ (fun hHeld => ?_)
      · ((try dsimp only); exact ext_trans hHeld (ext_alloc _ _))
      clear hK K
      try simp only [Act.put, List.setIfInBounds_toArray, List.set_cons_zero, List.set_cons_succ]
      refine wpAnyH_ready (rs := [2]) (by kernel_rfl) (by simp) ?_
      refine AllReadyH.cons (i := 2) rfl (fun K hK => ?_) AllReadyH.nil
      simp only [List.getElem_toArray, List.getElem_cons_succ, List.getElem_cons_zero]
      rw [if_pos (by rfl)]
      go_simp
      (go_at_call 63; refine (CN.out _).mono ?_; rintro e' tA ⟨rfl, hbA⟩; go_wp2_with fail)
      replace g0 := (hbA.cell (p := ⟨w2.heap.size, 0, none⟩) gl).trans g0
      replace g1 := (hbA.cell (p := ⟨w2.heap.size, 1, none⟩) gl).trans g1
      replace g2 := (hbA.cell (p := ⟨w2.heap.size, 2, none⟩) gl).trans g2
      replace gz0 := (hbA.frozen (p := ⟨w2.heap.size, 0, none⟩) gl).trans gz0
      replace gz1 := (hbA.frozen (p := ⟨w2.heap.size, 1, none⟩) gl).trans gz1
      replace gz2 := (hbA.frozen (p := ⟨w2.heap.size, 2, none⟩) gl).trans gz2
      replace gl := Nat.lt_of_lt_of_le gl hbA.size
      refine hK.out _ _ ?_ (fun hHeld => ?_)
      · ((try dsimp only); exact ext_trans hHeld hbA)
      clear hK K
      try simp only [Act.put, List.setIfInBounds_toArray, List.set_cons_zero, List.set_cons_succ]
      refine wpAnyH_ready (rs := [3]) (by kernel_rfl) (by simp) ?_
      refine AllReadyH.cons (i := 3) rfl (fun K hK => ?_) AllReadyH.nil
      simp only [List.getElem_toArray, List.getElem_cons_succ, List.getElem_cons_zero]
      rw [if_pos (by rfl)]
      go_simp
      (go_at_call 62; refine (CS.out _).mono ?_; rintro e' tB ⟨rfl, hbB⟩; go_wp2_with fail)
      replace g0 := (hbB.cell (p := ⟨w2.heap.size, 0, none⟩) gl).trans g0
      replace g1 := (hbB.cell (p := ⟨w2.heap.size, 1, none⟩) gl).trans g1
      replace g2 := (hbB.cell (p := ⟨w2.heap.size, 2, none⟩) gl).trans g2
      replace gz0 := (hbB.frozen (p := ⟨w2.heap.size, 0, none⟩) gl).trans gz0
      replace gz1 := (hbB.frozen (p := ⟨w2.heap.size, 1, none⟩) gl).trans gz1
      replace gz2 := (hbB.frozen (p := ⟨w2.heap.size, 2, none⟩) gl).trans gz2
      replace gl := Nat.lt_of_lt_of_le gl hbB.size
      refine hK.out _ _ ?_ (fun hHeld => ?_)
      · ((try dsimp only); exact ext_trans hHeld hbB)
      clear hK K
      try simp only [Act.put, List.setIfInBounds_toArray, List.set_cons_zero, List.set_cons_succ]
      refine wpAnyH_take (i := 4) (v := ?_) rfl (by kernel_rfl) (by kernel_rfl) (by kernel_rfl) (fun _ _ _ h => h) (Or.inl ⟨by rfl, ?_⟩) (by assumption) ?_
      rotate_left
      · (intro w' hSw; (try dsimp only at hSw); go_simp; try (with_reducible rfl))
      change wpAnyH _ _ _ _ _ _ _ (Act.put _ (some 15) _) _
      try simp only [Act.put, List.setIfInBounds_toArray, List.set_cons_zero, List.set_cons_succ]
      refine wpAnyH_take (i := 5) (v := ?_) rfl (by kernel_rfl) (by kernel_rfl) (by kernel_rfl) (fun _ _ _ h => h) (Or.inl ⟨by rfl, ?_⟩) (by assumption) ?_
      rotate_left
      · (intro w' hSw; (try dsimp only at hSw); go_simp; try (with_reducible rfl))
      change wpAnyH _ _ _ _ _ _ _ (Act.put _ (some 20) _) _
      try simp only [Act.put, List.setIfInBounds_toArray, List.set_cons_zero, List.set_cons_succ]
      refine wpAnyH_take (i := 6) (v := ?_) rfl (by kernel_rfl) (by kernel_rfl) (by kernel_rfl) (fun _ _ _ h => h) (Or.inl ⟨by rfl, ?_⟩) (by assumption) ?_
      rotate_left
      · (intro w' hSw; (try dsimp only at hSw); go_simp; try (with_reducible rfl))
      change wpAnyH _ _ _ _ _ _ _ (Act.put _ (some 21) _) _
      try simp only [Act.put, List.setIfInBounds_toArray, List.set_cons_zero, List.set_cons_succ]
      refine wpAnyH_ready (rs := [8]) (by kernel_rfl) (by simp) ?_
      refine AllReadyH.cons (i := 8) rfl (fun K hK => ?_) AllReadyH.nil
      simp only [List.getElem_toArray, List.getElem_cons_succ, List.getElem_cons_zero]
      rw [if_pos (by rfl)]
      go_simp
      refine hK.out _ _ ?_ (fun hHeld => ?_)
      · ((try dsimp only); first | (refine Below.setCell ?_ gle _; refine Below.setCell ?_ gle _; refine Below.setCell ?_ gle _; exact hHeld) | exact ext_trans hHC (ext_alloc _ _))
      clear hK K
      try simp only [Act.put, List.setIfInBounds_toArray, List.set_cons_zero, List.set_cons_succ]
      refine wpAnyH_take (i := 9) (v := ?_) rfl (by kernel_rfl) (by kernel_rfl) (by kernel_rfl) (fun _ _ _ h => h) (Or.inl ⟨by rfl, ?_⟩) (by assumption) ?_
      rotate_left
      · (intro w' hSw; (try dsimp only at hSw); go_simp; try (with_reducible rfl))
      change wpAnyH _ _ _ _ _ _ _ (Act.put _ (some 6) _) _
      try simp only [Act.put, List.setIfInBounds_toArray, List.set_cons_zero, List.set_cons_succ]
      refine wpAnyH_done (by kernel_rfl) ?_ _
      go_wp2_with fail
      go_meet
      case rel => exact ⟨_, rfl, by go_simp, by go_simp, ext_trans hbw hHeld⟩
    exact AllReadyH.nil
  case rest =>
  obtain ⟨bk, rfl, m0, m1, hbw2⟩ := hcut
  by_cases hz : R.dig.size = 0
  · have g1 : (R.dig.toList == []) = true := by rw [ba_nil hz, Lib.toList_data]; rfl
    have g2 : R.dig.toList.isEmpty = true := by rw [empty_size, decide_eq_true hz]
    have HCC := hid (show C = 0 by rw [HC.out, if_pos hz])
    clear hz
    go_wp2
    go_ret
    rw [HCC.out]
    exact ⟨rfl, hbw2⟩
  · have g1 : (R.dig.toList == []) = false := ba_nil_beq hz
    have g2 : R.dig.toList.isEmpty = false := by rw [empty_size, decide_eq_false hz]
    have HCC := hid (show C = if R.neg = true then -1 else 1 by rw [HC.out, if_neg hz])
    clear hz
    obtain ⟨rn, hrn⟩ : ∃ b, R.neg = b := ⟨_, rfl⟩
    rw [hrn] at m0 HCC
    clear hrn
    cases rn
    · go_wp2
      go_ret
      rw [HCC.out]
      exact ⟨rfl, hbw2⟩
    · go_wp2
      go_ret
      rw [HCC.out]
      exact ⟨rfl, hbw2⟩
end Go.Proofs.YtomcoilmpkpoeaaGreatDoor

namespace Go.Proofs.YtomcoilmpkpoeaaGreatDoor
open Go.RowKit
set_option linter.unusedVariables false
set_option linter.unusedSimpArgs false

theorem trimL_le : ∀ {l : List UInt8}, l ≠ [] → (trimL l).length ≤ l.length
  | [], h => absurd rfl h
  | c :: r, _ => by
    by_cases h : c = 48
    · rw [h, trimL_zero]
      cases r with
      | nil => exact Nat.le_refl _
      | cons d t =>
        have := trimL_le (l := d :: t) (by simp)
        simp only [List.length_cons] at this ⊢
        omega
    · rw [trimL_head r h]; exact Nat.le_refl _
theorem zeroL_snoc (n : Nat) : zeroL (n + 1) = zeroL n ++ [48] := by
  unfold zeroL
  rw [List.replicate_succ']
theorem strip_one : ∀ n, stripL ([49] ++ zeroL n) = [49]
  | 0 => by rw [show ([49] : List UInt8) ++ zeroL 0 = [] ++ [49] from rfl, stripL_other _ (by decide)]; rfl
  | n + 1 => by rw [zeroL_snoc, ← List.append_assoc, stripL_zero, strip_one n]
theorem carry_zeros {q : List UInt8} (hq : digits q) : ∀ k, cyA q [49] (k + 1) = 1 → outA q [49] (k + 1) = zeroL (k + 1)
  | 0, h => by
    have h1 := dgA_le hq 0
    have h2 : dgA [49] 0 = 1 := rfl
    rw [cyA, cyA, h2] at h
    have hs : smA q [49] 0 = 10 := by unfold smA; rw [cyA, h2]; omega
    rw [outA, outA, hs]
    rfl
  | k + 1, h => by
    have h1 := dgA_le hq (k + 1)
    have h2 : dgA [49] (k + 1) = 0 := dgA_far (by simp)
    have h3 := cyA_le hq digits_one (k + 1)
    rw [cyA, h2] at h
    have hc : cyA q [49] (k + 1) = 1 := by omega
    have hs : smA q [49] (k + 1) = 10 := by unfold smA; rw [h2, hc]; omega
    rw [outA, hs, carry_zeros hq k hc]
    rfl
theorem cutL_short {T : List UInt8} (hT : digits T) {c : UInt8} {r : List UInt8} (hc : T = c :: r) (h48 : ¬ c = 48) : (stripL (cutL T)).length ≤ 20 := by
  unfold cutL
  split
  · rename_i hl
    unfold roundL
    rw [if_neg (by omega)]
    have e20 : T.length - (T.length - 20) = 19 + 1 := by omega
    have ht : T.take (19 + 1) = c :: r.take 19 := by rw [hc, List.take_succ_cons]
    have hlen : (c :: r.take 19).length = 20 := by rw [hc] at hl; simp only [List.length_cons, List.length_take] at hl ⊢; omega
    have hq : digits (c :: r.take 19) := by rw [← ht]; exact digits_take hT 20
    rw [e20, ht, trimL_head _ h48]
    unfold finL
    split
    · unfold addL
      rw [hlen]
      show (stripL (trimL (outA (c :: r.take 19) [49] 21))).length ≤ 20
      have h3 := cyA_le hq digits_one 20
      rw [outA]
      by_cases hcy : cyA (c :: r.take 19) [49] 20 = 0
      · have hs : smA (c :: r.take 19) [49] 20 = 0 := by unfold smA; rw [dgA_far (by omega), dgA_far (by simp), hcy]
        rw [hs]
        show (stripL (trimL (48 :: outA (c :: r.take 19) [49] 20))).length ≤ 20
        rw [trimL_zero]
        refine Nat.le_trans (stripL_len _) (Nat.le_trans (trimL_le ?_) ?_)
        · intro h; have := congrArg List.length h; rw [outA_len] at this; exact absurd this (by decide)
        · rw [outA_len]; exact Nat.le_refl _
      · have hcy1 : cyA (c :: r.take 19) [49] 20 = 1 := by omega
        have hs : smA (c :: r.take 19) [49] 20 = 1 := by unfold smA; rw [dgA_far (by omega), dgA_far (by simp), hcy1]
        rw [hs, carry_zeros hq 19 hcy1]
        show (stripL (trimL (49 :: zeroL 20))).length ≤ 20
        rw [trimL_head _ (by decide), show (49 : UInt8) :: zeroL 20 = [49] ++ zeroL 20 from rfl, strip_one]
        decide
    · exact Nat.le_trans (stripL_len _) (by rw [hlen]; exact Nat.le_refl _)
  · exact Nat.le_trans (stripL_len _) (by omega)
theorem dropWhile_head : ∀ l : List UInt8, (l.dropWhile (· == 48)).head? ≠ some 48
  | [] => by simp
  | c :: r => by
    by_cases h : c = 48
    · rw [h, List.dropWhile_cons_of_pos (by rfl)]; exact dropWhile_head r
    · rw [List.dropWhile_cons_of_neg (by simpa using h)]
      simpa using h
theorem strip_last (l : List UInt8) : (stripL l).getLast? ≠ some 48 := by
  unfold stripL
  rw [List.getLast?_reverse]
  exact dropWhile_head _
theorem strip_prefix (l : List UInt8) : ∃ z, l = stripL l ++ z := by
  refine ⟨(l.reverse.takeWhile (· == 48)).reverse, ?_⟩
  unfold stripL
  rw [← List.reverse_append, List.takeWhile_append_dropWhile, List.reverse_reverse]
theorem roundL_trim2 (l : List UInt8) (n : Nat) : trimL (roundL l n) = roundL l n := roundL_trim l n
theorem formD_ok {neg : Bool} {D : List UInt8} {exp : Int} (hD : digits D) : decOk (formD neg D exp).1 = true := by
  have h00 : decOk dec0 = true := by show decOk ⟨false, ⟨#[]⟩, 0⟩ = true; rw [decOk_nil]; rfl
  unfold formD
  split
  · exact h00
  · rename_i h0
    simp only
    split
    · exact h00
    · split
      · exact h00
      · rename_i c1 c2
        have hne := stripL_ne (cutL_ne hD h0)
        have hTd := digits_trim hD
        obtain ⟨c, r, hc, h48⟩ := (trimL_cases D).resolve_left h0
        have hlen := cutL_short hTd hc h48
        have hRd : digits (cutL (trimL D)) := by
          unfold cutL
          split
          · exact digits_round hTd _
          · exact hTd
        have hRt : trimL (cutL (trimL D)) = cutL (trimL D) := by
          unfold cutL
          split
          · exact roundL_trim _ _
          · exact trimL_trim _
        obtain ⟨z, hz⟩ := strip_prefix (cutL (trimL D))
        have hlast := strip_last (cutL (trimL D))
        obtain ⟨S, hS⟩ : ∃ S, stripL (cutL (trimL D)) = S := ⟨_, rfl⟩
        obtain ⟨R, hR⟩ : ∃ R, cutL (trimL D) = R := ⟨_, rfl⟩
        rw [hR] at hS hz hRd hRt hlast
        rw [hR, hS] at hne hlen
        rw [hS] at hz hlast
        rw [hR, hS] at c1 c2
        rw [hR, hS]
        have hSd : digits S := fun x hx => hRd x (by rw [hz]; exact List.mem_append_left _ hx)
        cases S with
        | nil => exact absurd rfl hne
        | cons d t =>
          have hd : ¬ d = 48 := by
            intro hd
            rw [hz, hd, List.cons_append, trimL_zero] at hRt
            have h1 := congrArg List.length hRt
            have h2 : (trimL (t ++ z)).length ≤ (t ++ z).length ∨ t ++ z = [] := by
              by_cases h3 : t ++ z = []
              · exact Or.inr h3
              · exact Or.inl (trimL_le h3)
            rcases h2 with h2 | h2
            · rw [List.length_cons] at h1; omega
            · have ht : t = [] := (List.append_eq_nil_iff.1 h2).1
              rw [ht, hd] at hlast
              exact hlast rfl
          have hsz : (mkB (d :: t)).size = (d :: t).length := mkB_size _
          unfold decOk
          rw [if_neg (by show ¬ (mkB (d :: t)).size = 0; rw [hsz]; simp)]
          simp only [mkB_data, hsz, Bool.and_eq_true, decide_eq_true_eq]
          refine ⟨⟨⟨⟨natOk_iff.2 ⟨hSd, by simp, by omega, Or.inr (by simpa using hd)⟩, hlen⟩, by simpa using hd⟩, decide_eq_true hlast⟩, ?_⟩
          omega
theorem prefixR_ok (s : ByteArray) : decOk (prefixR s).1 = true := by
  have h00 : decOk dec0 = true := by show decOk ⟨false, ⟨#[]⟩, 0⟩ = true; rw [decOk_nil]; rfl
  unfold prefixR
  split
  · exact h00
  · split
    · exact h00
    · rename_i hz
      have h := (numP_fits hz).2.1
      exact formD_ok (digits_append h.2.1 h.2.2.1)
theorem valNumV_ok {v : Val} (hv : valOk v = true) : decOk (valNumV v).1 = true := by
  have h00 : decOk dec0 = true := by show decOk ⟨false, ⟨#[]⟩, 0⟩ = true; rw [decOk_nil]; rfl
  unfold valNumV
  split
  · rename_i h1
    obtain ⟨k, d, t⟩ := v
    obtain rfl : k = 1 := h1
    rw [valOk_1] at hv
    simp only [Bool.and_eq_true] at hv
    exact hv.1
  · split
    · exact prefixR_ok _
    · exact h00
theorem cmp_bytes : ∀ a b : List UInt8, Lib.compareBytes a b = if Op.bytesLess a b = true then -1 else if Op.bytesLess b a = true then 1 else 0
  | [], [] => by simp [Lib.compareBytes, Op.bytesLess]
  | [], _ :: _ => by simp [Lib.compareBytes, Op.bytesLess]
  | _ :: _, [] => by simp [Lib.compareBytes, Op.bytesLess]
  | x :: a, y :: b => by
    have ih := cmp_bytes a b
    rw [Lib.compareBytes, Op.bytesLess, Op.bytesLess]
    by_cases h1 : x < y
    · simp [h1]
    · by_cases h2 : y < x
      · have hne : ¬ x = y := fun h => by rw [h] at h2; exact absurd h2 (by rw [UInt8.lt_iff_toNat_lt]; omega)
        simp [h1, h2, hne]
      · have he : x = y := by
          have h3 : ¬ x.toNat < y.toNat := h1
          have h4 : ¬ y.toNat < x.toNat := h2
          exact UInt8.toNat.inj (by omega)
        subst he
        simp [h1, ih]
noncomputable def cmpV (x y : Val) : Int :=
  if (numericV (soundVal x) && numericV (soundVal y)) = true then cmpD (valNumV (soundVal x)).1 (valNumV (soundVal y)).1
  else Lib.compareBytes (valT x).data.toList (valT y).data.toList
end Go.Proofs.YtomcoilmpkpoeaaGreatDoor

namespace Go.Proofs.YtomcoilmpkpoeaaGreatDoor
open Go.RowKit
set_option linter.unusedVariables false
set_option linter.unusedSimpArgs false

theorem dig_eq : ∀ (x y : List UInt8), digits x → digits y → x.length = y.length → vD x = vD y → x = y := by
  intro x
  induction x with
  | nil => intro y _ _ h _; exact (List.eq_nil_of_length_eq_zero h.symm).symm
  | cons c r ih =>
    intro y hx hy hl hv
    cases y with
    | nil => simp at hl
    | cons d t =>
      have hl' : r.length = t.length := by simpa using hl
      have hr : digits r := fun z hz => hx z (by simp [hz])
      have ht : digits t := fun z hz => hy z (by simp [hz])
      have h1 := vD_lt hr
      have h2 := vD_lt ht
      rw [vD_cons, vD_cons, hl'] at hv
      rw [hl'] at h1
      have hc := hx c (by simp)
      have hd := hy d (by simp)
      have e1 : c.toNat - 48 = d.toNat - 48 := by
        have a1 : ((c.toNat - 48) * 10 ^ t.length + vD r) / 10 ^ t.length = c.toNat - 48 := by
          rw [Nat.mul_comm, Nat.mul_add_div (Nat.pow_pos (by decide)), Nat.div_eq_of_lt h1, Nat.add_zero]
        have a2 : ((d.toNat - 48) * 10 ^ t.length + vD t) / 10 ^ t.length = d.toNat - 48 := by
          rw [Nat.mul_comm, Nat.mul_add_div (Nat.pow_pos (by decide)), Nat.div_eq_of_lt h2, Nat.add_zero]
        rw [← a1, hv, a2]
      rw [e1] at hv
      have e2 : c = d := UInt8.toNat.inj (by omega)
      rw [e2, ih t hr ht hl' (by omega)]
theorem trim_val {a b : List UInt8} (ha : digits a) (hb : digits b) (h : vD a = vD b) : trimL a = trimL b := by
  rcases Nat.lt_trichotomy (trimL a).length (trimL b).length with h1 | h1 | h1
  · have := trim_short ha hb h1; omega
  · exact trim_eq ha hb h1 h
  · have := trim_short hb ha h1; omega
/-- a natural in digits -/
def natL (v : Nat) : List UInt8 := Lib.decDigits v
theorem natL_small {v : Nat} (h : v < 10) : natL v = [UInt8.ofNat (48 + v)] := by
  unfold natL
  rw [Lib.decDigits, dif_pos h]
theorem natL_step {v : Nat} (h : ¬ v < 10) : natL v = natL (v / 10) ++ [UInt8.ofNat (48 + v % 10)] := by
  unfold natL
  rw [Lib.decDigits, dif_neg h]
theorem natL_zero : natL 0 = [48] := natL_small (by decide)
theorem natL_snoc {v d : Nat} (hv : 0 < v) (hd : d < 10) : natL (10 * v + d) = natL v ++ [UInt8.ofNat (48 + d)] := by
  rw [natL_step (by omega), show (10 * v + d) / 10 = v by omega, show (10 * v + d) % 10 = d by omega]
theorem digits_single {n : Nat} (h : n < 10) : digits [UInt8.ofNat (48 + n)] := by
  intro c hc
  rw [List.mem_singleton.1 hc, ofNat_toNat (by omega)]
  omega
theorem vD_single {n : Nat} (h : n < 10) : vD [UInt8.ofNat (48 + n)] = n := by
  rw [vD_cons, digit_nat h]
  simp [vD, valD]
theorem natL_digits (v : Nat) : digits (natL v) := by
  induction v using Nat.strongRecOn with
  | _ v ih =>
    by_cases h : v < 10
    · rw [natL_small h]; exact digits_single h
    · rw [natL_step h]; exact digits_append (ih _ (by omega)) (digits_single (Nat.mod_lt _ (by decide)))
theorem natL_val (v : Nat) : vD (natL v) = v := by
  induction v using Nat.strongRecOn with
  | _ v ih =>
    by_cases h : v < 10
    · rw [natL_small h, vD_single h]
    · rw [natL_step h, vD_append, ih _ (by omega), vD_single (Nat.mod_lt _ (by decide))]
      simp
      omega
theorem natL_ne (v : Nat) : natL v ≠ [] := by
  by_cases h : v < 10
  · rw [natL_small h]; simp
  · rw [natL_step h]; simp
theorem natL_head : ∀ v : Nat, 0 < v → (natL v).head? ≠ some 48 := by
  intro v
  induction v using Nat.strongRecOn with
  | _ v ih =>
    intro hv
    by_cases h : v < 10
    · rw [natL_small h]
      simp only [List.head?_cons, ne_eq, Option.some.injEq]
      exact ofNat_48 h (by omega)
    · rw [natL_step h]
      have := ih (v / 10) (by omega) (by omega)
      cases hn : natL (v / 10) with
      | nil => exact absurd hn (natL_ne _)
      | cons c r => rw [hn] at this; simpa using this
theorem natL_trim (v : Nat) : trimL (natL v) = natL v := by
  by_cases h : v = 0
  · rw [h, natL_zero]; rfl
  · have := natL_head v (by omega)
    cases hn : natL v with
    | nil => exact absurd hn (natL_ne _)
    | cons c r =>
      rw [hn] at this
      exact trimL_head r (by simpa using this)
/-- digits in form are those of their value -/
theorem trim_nat {l : List UInt8} (h : digits l) : trimL l = natL (vD l) := by
  rw [← natL_trim]
  exact trim_val h (natL_digits _) (natL_val _).symm
theorem nat_of_trim {l : List UInt8} (h : digits l) (ht : trimL l = l) : l = natL (vD l) := by rw [← trim_nat h, ht]
theorem addL_nat {a b : List UInt8} (ha : digits a) (hb : digits b) : addL a b = natL (vD a + vD b) := by
  rw [← vD_add ha hb]
  have h : trimL (addL a b) = addL a b := by unfold addL; exact trimL_trim _
  exact nat_of_trim (digits_add _ _) h
theorem subL_nat {a b : List UInt8} (ha : digits a) (hb : digits b) (h : vD b ≤ vD a) : subL a b = natL (vD a - vD b) := by
  have e := vD_sub ha hb h
  rw [show vD a - vD b = vD (subL a b) by omega]
  exact nat_of_trim (by unfold subL; exact digits_trim (digits_outS ha hb _)) (by unfold subL; exact trimL_trim _)
theorem natL_len_pow {v n : Nat} (hv : v < 10 ^ n) (hn : 1 ≤ n) : (natL v).length ≤ n := by
  by_cases h0 : v = 0
  · rw [h0, natL_zero]; exact hn
  · have hh := natL_head v (by omega)
    cases hl : natL v with
    | nil => exact Nat.zero_le _
    | cons c r =>
      rw [hl] at hh
      have h1 := vD_pos (c := c) (r := r) (by rw [← hl]; exact natL_digits v) (by simpa using hh)
      rw [← hl, natL_val] at h1
      rw [List.length_cons]
      rcases Nat.lt_or_ge r.length n with h2 | h2
      · omega
      · have := Nat.pow_le_pow_right (n := 10) (by decide) h2; omega
theorem natL_pow_len (v : Nat) : v < 10 ^ (natL v).length := by
  have := vD_lt (natL_digits v)
  rwa [natL_val] at this
theorem natL_len_mono {u v : Nat} (h : u ≤ v) : (natL u).length ≤ (natL v).length :=
  natL_len_pow (Nat.lt_of_le_of_lt h (natL_pow_len v)) (List.length_pos_iff.2 (natL_ne v))
theorem natL_len_lo {v n : Nat} (hv : 10 ^ n ≤ v) : n + 1 ≤ (natL v).length := by
  have h := natL_pow_len v
  rcases Nat.lt_or_ge n (natL v).length with h2 | h2
  · exact h2
  · have := Nat.pow_le_pow_right (n := 10) (by decide) h2; omega

/-! ### Products -/
def gS (S : List Nat) (k : Nat) : Nat := S.getD k 0
/-- the value of a row of sums, the first n of them -/
def pvS (S : List Nat) : Nat → Nat
  | 0 => 0
  | k + 1 => pvS S k + gS S k * 10 ^ k
theorem gS_set (S : List Nat) (m k x : Nat) (hm : m < S.length) : gS (S.set m x) k = if k = m then x else gS S k := by
  unfold gS
  rw [List.getD_eq_getElem?_getD, List.getD_eq_getElem?_getD, List.getElem?_set]
  by_cases h : k = m
  · subst h; simp [hm]
  · rw [if_neg (fun e => h e.symm), if_neg h]
theorem pvS_set (S : List Nat) (m d : Nat) (hm : m < S.length) : ∀ n, pvS (S.set m (gS S m + d)) n = pvS S n + if m < n then d * 10 ^ m else 0
  | 0 => by rw [pvS, pvS, if_neg (by omega)]
  | n + 1 => by
    rw [pvS, pvS, pvS_set S m d hm n, gS_set S m n _ hm]
    by_cases h : n = m
    · subst h
      rw [if_pos rfl, if_neg (by omega), if_pos (by omega), Nat.add_mul]
      omega
    · rw [if_neg h]
      by_cases h2 : m < n
      · rw [if_pos h2, if_pos (by omega)]; omega
      · rw [if_neg h2, if_neg (by omega)]; omega
theorem pvS_zero (m : Nat) : ∀ n, pvS (List.replicate m 0) n = 0
  | 0 => rfl
  | n + 1 => by
    rw [pvS, pvS_zero m n]
    have : gS (List.replicate m 0) n = 0 := by
      unfold gS
      rw [List.getD_eq_getElem?_getD, List.getElem?_replicate]
      split <;> rfl
    rw [this, Nat.zero_mul]
def cyM (S : List Nat) : Nat → Nat
  | 0 => 0
  | k + 1 => (cyM S k + gS S k) / 10
def outM (S : List Nat) : Nat → List UInt8
  | 0 => []
  | k + 1 => UInt8.ofNat (48 + (cyM S k + gS S k) % 10) :: outM S k
theorem outM_len (S : List Nat) : ∀ k, (outM S k).length = k
  | 0 => rfl
  | k + 1 => by rw [outM, List.length_cons, outM_len S k]
theorem outM_digits (S : List Nat) : ∀ k, digits (outM S k)
  | 0 => digits_nil
  | k + 1 => by
    rw [outM]
    refine digits_cons ?_ (outM_digits S k)
    have := Nat.mod_lt (cyM S k + gS S k) (show 0 < 10 by decide)
    rw [isDig_iff, ofNat_toNat (by omega)]
    omega
theorem cyM_le {S : List Nat} {M : Nat} (h : ∀ k, gS S k ≤ M) : ∀ k, cyM S k ≤ M
  | 0 => by rw [cyM]; exact Nat.zero_le _
  | k + 1 => by
    have h1 := cyM_le h k
    have h2 := h k
    rw [cyM]
    omega
theorem pv_outM (S : List Nat) : ∀ n, vD (outM S n) + cyM S n * 10 ^ n = pvS S n
  | 0 => by rw [cyM, pvS]; rfl
  | n + 1 => by
    have ih := pv_outM S n
    rw [outM, vD_cons, digit_nat (Nat.mod_lt _ (by decide)), outM_len, pvS, cyM]
    have h1 := Nat.div_add_mod (cyM S n + gS S n) 10
    have h2 : ((cyM S n + gS S n) % 10) * 10 ^ n + (cyM S n + gS S n) / 10 * 10 ^ (n + 1) = (cyM S n + gS S n) * 10 ^ n := by
      rw [Nat.pow_succ, Nat.mul_comm (10 ^ n) 10, ← Nat.mul_assoc, ← Nat.add_mul]
      congr 1
      omega
    have h3 : (cyM S n + gS S n) * 10 ^ n = cyM S n * 10 ^ n + gS S n * 10 ^ n := Nat.add_mul _ _ _
    omega
theorem mul_out {a b : List UInt8} (ha : digits a) (hb : digits b) {S : List Nat} {n : Nat} (hn : a.length + b.length ≤ n) (hS : pvS S n = vD a * vD b) :
    trimL (outM S n) = natL (vD a * vD b) := by
  have h1 := pv_outM S n
  have h2 : vD a * vD b < 10 ^ n := by
    have a1 := vD_lt ha
    have b1 := vD_lt hb
    have : vD a * vD b < 10 ^ a.length * 10 ^ b.length := Nat.mul_lt_mul'' a1 b1
    rw [← Nat.pow_add] at this
    exact Nat.lt_of_lt_of_le this (Nat.pow_le_pow_right (by decide) hn)
  have h3 : cyM S n = 0 := by
    rcases Nat.eq_zero_or_pos (cyM S n) with h | h
    · exact h
    · have : 1 * 10 ^ n ≤ cyM S n * 10 ^ n := Nat.mul_le_mul_right _ h
      omega
  rw [h3, Nat.zero_mul, Nat.add_zero] at h1
  rw [trim_nat (outM_digits S n), h1, hS]

/-! ### Quotients -/
def dvX (a : List UInt8) (B i : Nat) : Nat := 10 * (vD (a.take i) % B) + ((a.getD i 0).toNat - 48)
def dvQ (a : List UInt8) (B : Nat) : Nat → List UInt8
  | 0 => []
  | i + 1 => dvQ a B i ++ [UInt8.ofNat (48 + dvX a B i / B)]
theorem dvQ_len (a : List UInt8) (B : Nat) : ∀ i, (dvQ a B i).length = i
  | 0 => rfl
  | i + 1 => by rw [dvQ, List.length_append, dvQ_len a B i]; rfl
theorem take_get {a : List UInt8} {i : Nat} (h : i < a.length) : a.take (i + 1) = a.take i ++ [a.getD i 0] := by
  rw [List.take_succ_eq_append_getElem h, List.getD_eq_getElem?_getD, List.getElem?_eq_getElem h]
  rfl
theorem take_val {a : List UInt8} (i : Nat) (h : i < a.length) : vD (a.take (i + 1)) = 10 * vD (a.take i) + ((a.getD i 0).toNat - 48) := by
  rw [take_get h, vD_append]
  simp only [List.length_singleton, Nat.pow_one, vD_cons, List.length_nil, Nat.pow_zero, Nat.mul_one]
  have : vD [] = 0 := rfl
  omega
theorem dv_mod {a : List UInt8} {B i : Nat} (h : i < a.length) : vD (a.take (i + 1)) % B = dvX a B i % B := by
  rw [take_val i h]
  unfold dvX
  rw [Nat.add_mod, Nat.mul_mod, Nat.add_mod (10 * _), Nat.mul_mod 10 (_ % B), Nat.mod_mod]
theorem dv_dig {a : List UInt8} (ha : digits a) (i : Nat) : (a.getD i 0).toNat - 48 ≤ 9 := by
  rw [List.getD_eq_getElem?_getD]
  by_cases h : i < a.length
  · rw [List.getElem?_eq_getElem h]
    have := ha a[i] (List.getElem_mem _)
    show a[i].toNat - 48 ≤ 9
    omega
  · rw [List.getElem?_eq_none (by omega)]
    decide
theorem dv_lt {a : List UInt8} (ha : digits a) {B : Nat} (hB : 0 < B) (i : Nat) : dvX a B i / B < 10 := by
  have h1 := dv_dig ha i
  have h2 := Nat.mod_lt (vD (a.take i)) hB
  unfold dvX
  rw [Nat.div_lt_iff_lt_mul hB]
  omega
theorem dvQ_digits {a : List UInt8} (ha : digits a) {B : Nat} (hB : 0 < B) : ∀ i, digits (dvQ a B i)
  | 0 => digits_nil
  | i + 1 => by rw [dvQ]; exact digits_append (dvQ_digits ha hB i) (digits_single (dv_lt ha hB i))
theorem dvQ_val {a : List UInt8} (ha : digits a) {B : Nat} (hB : 0 < B) : ∀ i, i ≤ a.length → vD (dvQ a B i) = vD (a.take i) / B
  | 0, _ => by simp [dvQ, vD, valD]
  | i + 1, h => by
    rw [dvQ, vD_append, vD_single (dv_lt ha hB i), dvQ_val ha hB i (by omega), take_val i (by omega)]
    unfold dvX
    have e := Nat.div_add_mod (vD (a.take i)) B
    rw [show 10 * vD (a.take i) + ((a.getD i 0).toNat - 48) = B * (10 * (vD (a.take i) / B)) + (10 * (vD (a.take i) % B) + ((a.getD i 0).toNat - 48)) by
      rw [Nat.mul_left_comm]; omega]
    rw [Nat.mul_add_div hB]
    simp
    omega
theorem div_out {a : List UInt8} (ha : digits a) {B : Nat} (hB : 0 < B) : trimL (dvQ a B a.length) = natL (vD a / B) := by
  rw [trim_nat (dvQ_digits ha hB _), dvQ_val ha hB _ (Nat.le_refl _), List.take_length]

/-! ### Rounding -/
/-- V over 10^n, rounded half to even; 'fr': there is something more behind V -/
def rV (V : Nat) (fr : Bool) (n : Nat) : Nat :=
  if 10 ^ n < 2 * (V % 10 ^ n) ∨ (2 * (V % 10 ^ n) = 10 ^ n ∧ (fr = true ∨ V / 10 ^ n % 2 = 1)) then V / 10 ^ n + 1 else V / 10 ^ n
theorem dg0 (l : List UInt8) (h : digits l) : dgA l 0 = vD l % 10 := by
  by_cases hl : l.length = 0
  · have : l = [] := List.eq_nil_of_length_eq_zero hl
    subst this
    rfl
  · obtain ⟨q, hq⟩ := pv_part l 1 l.length (by omega)
    have h9 := dgA_le h 0
    rw [pv_len, pv, pv] at hq
    omega
theorem vD_half {n : Nat} (h : 1 ≤ n) : 2 * vD (halfL n) = 10 ^ n ∧ (halfL n).length = n ∧ digits (halfL n) := by
  unfold halfL
  refine ⟨?_, by rw [List.length_cons, zeroL_len]; omega, digits_cons (by decide) (digits_zeros _)⟩
  rw [vD_cons, vD_zeros, zeroL_len]
  obtain ⟨m, rfl⟩ : ∃ m, n = m + 1 := ⟨n - 1, by omega⟩
  rw [Nat.add_sub_cancel, Nat.pow_succ, Nat.add_zero]
  show 2 * (5 * 10 ^ m) = _
  omega
theorem roundL_val {l : List UInt8} (hd : digits l) {n : Nat} (h1 : 1 ≤ n) (hn : n ≤ l.length) : roundL l n = natL (rV (vD l) false n) := by
  have hsp := List.take_append_drop (l.length - n) l
  have hdl : (l.drop (l.length - n)).length = n := by rw [List.length_drop]; omega
  have hdd : digits (l.drop (l.length - n)) := fun c hc => hd c (List.mem_of_mem_drop hc)
  have htd := digits_take hd (l.length - n)
  have hv := vD_append (l.take (l.length - n)) (l.drop (l.length - n))
  rw [hsp, hdl] at hv
  have hlt := vD_lt hdd
  rw [hdl] at hlt
  obtain ⟨hh1, hh2, hh3⟩ := vD_half h1
  unfold roundL
  rw [if_neg (by omega)]
  unfold finL upB rV
  have hp : 0 < 10 ^ n := Nat.pow_pos (by decide)
  have hmod : vD l % 10 ^ n = vD (l.drop (l.length - n)) := by rw [hv, Nat.mul_comm, Nat.mul_add_mod, Nat.mod_eq_of_lt hlt]
  have hdiv : vD l / 10 ^ n = vD (l.take (l.length - n)) := by rw [hv, Nat.mul_comm, Nat.mul_add_div hp, Nat.div_eq_of_lt hlt, Nat.add_zero]
  rw [hmod, hdiv]
  have hq := digits_trim htd
  have hqv := vD_trim (l.take (l.length - n))
  have hodd : dgA (trimL (l.take (l.length - n))) 0 % 2 = vD (l.take (l.length - n)) % 2 := by rw [dg0 _ hq, hqv]; omega
  have hless := less_iff hdd hh3 (by rw [hdl, hh2])
  have heq : (l.drop (l.length - n) == halfL n) = decide (vD (l.drop (l.length - n)) = vD (halfL n)) := by
    rw [Bool.eq_iff_iff, beq_iff_eq, decide_eq_true_eq]
    exact ⟨fun h => by rw [h], fun h => dig_eq _ _ hdd hh3 (by rw [hdl, hh2]) h⟩
  rw [heq, hodd]
  obtain ⟨lb, hlb⟩ : ∃ b, Op.bytesLess (l.drop (l.length - n)) (halfL n) = b := ⟨_, rfl⟩
  rw [hlb] at hless
  rw [hlb]
  have fin0 : trimL (l.take (l.length - n)) = natL (vD (l.take (l.length - n))) := trim_nat htd
  have fin1 : addL (trimL (l.take (l.length - n))) [49] = natL (vD (l.take (l.length - n)) + 1) := by
    rw [addL_nat hq digits_one, hqv]
    rfl
  rcases Nat.lt_trichotomy (vD (l.drop (l.length - n))) (vD (halfL n)) with h | h | h
  · have : lb = true := hless.2 h
    rw [this, if_neg (by simp; omega), if_neg (by omega), fin0]
  · have : lb = false := by rw [Bool.eq_false_iff]; intro h'; have := hless.1 h'; omega
    rw [this, decide_eq_true h]
    by_cases ho : vD (l.take (l.length - n)) % 2 = 1
    · rw [if_pos (by simp [ho]), if_pos (by omega), fin1]
    · rw [if_neg (by simp; omega), if_neg (by simp; omega), fin0]
  · have : lb = false := by rw [Bool.eq_false_iff]; intro h'; have := hless.1 h'; omega
    rw [this, decide_eq_false (by omega), if_pos (by simp), if_pos (by omega), fin1]
theorem rV_one {V n : Nat} (h : 1 ≤ n) : rV (10 * V + 1) false (n + 1) = rV V true n := by
  have hp : 0 < 10 ^ n := Nat.pow_pos (by decide)
  have hd : (10 * V + 1) / 10 ^ (n + 1) = V / 10 ^ n := by
    rw [Nat.pow_succ, Nat.mul_comm (10 ^ n) 10, ← Nat.div_div_eq_div_mul]
    congr 1
    omega
  have hm : (10 * V + 1) % 10 ^ (n + 1) = 10 * (V % 10 ^ n) + 1 := by
    have e1 := Nat.div_add_mod (10 * V + 1) (10 ^ (n + 1))
    have e2 := Nat.div_add_mod V (10 ^ n)
    rw [hd] at e1
    have e3 : 10 ^ (n + 1) * (V / 10 ^ n) = 10 * (10 ^ n * (V / 10 ^ n)) := by rw [Nat.pow_succ, Nat.mul_comm (10 ^ n) 10, Nat.mul_assoc]
    omega
  have hev : ∃ m, 10 ^ n = 2 * m := by
    obtain ⟨k, rfl⟩ : ∃ k, n = k + 1 := ⟨n - 1, by omega⟩
    exact ⟨5 * 10 ^ k, by rw [Nat.pow_succ]; omega⟩
  obtain ⟨m, hm2⟩ := hev
  unfold rV
  rw [hd, hm, Nat.pow_succ]
  have : ((10 ^ n * 10 < 2 * (10 * (V % 10 ^ n) + 1) ∨ (2 * (10 * (V % 10 ^ n) + 1) = 10 ^ n * 10 ∧ (false = true ∨ V / 10 ^ n % 2 = 1))) ↔ (10 ^ n < 2 * (V % 10 ^ n) ∨ (2 * (V % 10 ^ n) = 10 ^ n ∧ (true = true ∨ V / 10 ^ n % 2 = 1)))) := by
    generalize V / 10 ^ n % 2 = o
    generalize V % 10 ^ n = x at *
    rw [hm2]
    simp
    omega
  simp only [this]
theorem rV_thousand {V t n : Nat} (fr : Bool) (h : 1 ≤ n) (ht : t < 1000) : rV (1000 * V + t) fr (n + 3) = rV V (fr || decide (t ≠ 0)) n := by
  have hp : 0 < 10 ^ n := Nat.pow_pos (by decide)
  have hpw : 10 ^ (n + 3) = 1000 * 10 ^ n := by rw [Nat.pow_add, Nat.mul_comm]
  have hd : (1000 * V + t) / 10 ^ (n + 3) = V / 10 ^ n := by
    rw [hpw, ← Nat.div_div_eq_div_mul]
    congr 1
    omega
  have hm : (1000 * V + t) % 10 ^ (n + 3) = 1000 * (V % 10 ^ n) + t := by
    have e1 := Nat.div_add_mod (1000 * V + t) (10 ^ (n + 3))
    have e2 := Nat.div_add_mod V (10 ^ n)
    rw [hd] at e1
    have e3 : 10 ^ (n + 3) * (V / 10 ^ n) = 1000 * (10 ^ n * (V / 10 ^ n)) := by rw [hpw, Nat.mul_assoc]
    omega
  have hev : ∃ m, 10 ^ n = 2 * m := by
    obtain ⟨k, rfl⟩ : ∃ k, n = k + 1 := ⟨n - 1, by omega⟩
    exact ⟨5 * 10 ^ k, by rw [Nat.pow_succ]; omega⟩
  obtain ⟨m, hm2⟩ := hev
  unfold rV
  rw [hd, hm, hpw]
  have : ((1000 * 10 ^ n < 2 * (1000 * (V % 10 ^ n) + t) ∨ (2 * (1000 * (V % 10 ^ n) + t) = 1000 * 10 ^ n ∧ (fr = true ∨ V / 10 ^ n % 2 = 1))) ↔ (10 ^ n < 2 * (V % 10 ^ n) ∨ (2 * (V % 10 ^ n) = 10 ^ n ∧ ((fr || decide (t ≠ 0)) = true ∨ V / 10 ^ n % 2 = 1)))) := by
    generalize V / 10 ^ n % 2 = o
    generalize V % 10 ^ n = x at *
    rw [hm2]
    simp only [Bool.or_eq_true, decide_eq_true_eq]
    constructor
    · rintro (h1 | ⟨h1, h2⟩)
      · by_cases h3 : 2 * m < 2 * x
        · exact Or.inl h3
        · exact Or.inr ⟨by omega, Or.inl (Or.inr (by omega))⟩
      · have : t = 0 := by omega
        exact Or.inr ⟨by omega, by rcases h2 with h2 | h2; exact Or.inl (Or.inl h2); exact Or.inr h2⟩
    · rintro (h1 | ⟨h1, h2⟩)
      · exact Or.inl (by omega)
      · by_cases h3 : t = 0
        · exact Or.inr ⟨by omega, by rcases h2 with (h2 | h2) | h2; exact Or.inl h2; exact absurd h3 h2; exact Or.inr h2⟩
        · exact Or.inl (by omega)
  simp only [this]
/-- what is in form, off the rounded digits -/
def formG (neg : Bool) (V : Nat) (e0 : Int) : Dec × Int :=
  let R := natL V
  let S := stripL R
  let e : Int := e0 + ((R.length : Int) - (S.length : Int))
  if 99 < e + (S.length : Int) - 1 then (dec0, 1) else if e + (S.length : Int) - 1 < -99 then (dec0, 0) else (⟨neg, mkB S, e⟩, 0)
theorem formD_big {neg : Bool} {l : List UInt8} {exp : Int} (hd : digits l) {n : Nat} (h1 : 1 ≤ n) (hl : (natL (vD l)).length = n + 20) : formD neg l exp = formG neg (rV (vD l) false n) (exp + (n : Int)) := by
  have ht := trim_nat hd
  unfold formD formG
  have h0 : ¬ trimL l = [48] := by
    rw [ht]
    intro h
    rw [h] at hl
    simp at hl
  have hc : cutL (trimL l) = natL (rV (vD l) false n) := by
    unfold cutL
    rw [ht, hl, if_pos (by omega), show n + 20 - 20 = n by omega, roundL_val (natL_digits _) h1 (by rw [hl]; omega), natL_val]
  rw [if_neg h0]
  simp only [hc]
  rw [ht, hl, show n + 20 - 20 = n by omega]
theorem natL_thousand {V t : Nat} (hV : 0 < V) (ht : t < 1000) : (natL (1000 * V + t)).length = (natL V).length + 3 := by
  rw [show 1000 * V + t = 10 * (10 * (10 * V + t / 100) + t / 10 % 10) + t % 10 by omega, natL_snoc (by omega) (by omega), natL_snoc (by omega) (by omega), natL_snoc (by omega) (by omega)]
  simp
/-- the two ways to a quotient in form -/
theorem quot_form {neg : Bool} {N B : Nat} (hB : 0 < B) (hbig : 10 ^ 21 ≤ N / B) (e : Int) :
    (if (1000 * N) % B ≠ 0 then formD neg (natL (1000 * N / B) ++ [49]) (e - 4) else formD neg (natL (1000 * N / B)) (e - 3)) =
    (if N % B ≠ 0 then formD neg (natL (N / B) ++ [49]) (e - 1) else formD neg (natL (N / B)) e) := by
  obtain ⟨V, hV⟩ : ∃ V, N / B = V := ⟨_, rfl⟩
  obtain ⟨R, hR⟩ : ∃ R, N % B = R := ⟨_, rfl⟩
  have hRB : R < B := by rw [← hR]; exact Nat.mod_lt _ hB
  have hN : N = B * V + R := by rw [← hV, ← hR]; exact (Nat.div_add_mod N B).symm
  have hq : 1000 * N / B = 1000 * V + 1000 * R / B := by
    rw [hN, show 1000 * (B * V + R) = B * (1000 * V) + 1000 * R by rw [Nat.mul_add, Nat.mul_left_comm], Nat.mul_add_div hB]
  have hr : 1000 * N % B = 1000 * R % B := by
    rw [hN, show 1000 * (B * V + R) = B * (1000 * V) + 1000 * R by rw [Nat.mul_add, Nat.mul_left_comm], Nat.mul_add_mod]
  obtain ⟨t, ht⟩ : ∃ t, 1000 * R / B = t := ⟨_, rfl⟩
  obtain ⟨u, hu⟩ : ∃ u, 1000 * R % B = u := ⟨_, rfl⟩
  have htu : 1000 * R = B * t + u := by rw [← ht, ← hu]; exact (Nat.div_add_mod _ _).symm
  have ht1 : t < 1000 := by
    rw [← ht, Nat.div_lt_iff_lt_mul hB]
    exact (Nat.mul_lt_mul_left (by decide)).2 hRB
  have hV21 : 10 ^ 21 ≤ V := by rw [← hV]; exact hbig
  have hV0 : 0 < V := Nat.lt_of_lt_of_le (by decide) hV21
  have hlen := natL_len_lo hV21
  obtain ⟨n, hn⟩ : ∃ n, (natL V).length = n + 20 := ⟨(natL V).length - 20, by omega⟩
  have hn1 : 1 ≤ n := by omega
  rw [hq, hr, ht, hu, hV, hR]
  have hdone : digits [49] := digits_one
  have one : ∀ W : Nat, 0 < W → natL W ++ [49] = natL (10 * W + 1) := fun W hW => (natL_snoc (d := 1) hW (by decide)).symm
  have l1 : (natL (10 * V + 1)).length = n + 1 + 20 := by rw [natL_snoc hV0 (by decide), List.length_append, hn, List.length_singleton]
  have l2 : (natL (1000 * V + t)).length = n + 3 + 20 := by rw [natL_thousand hV0 ht1, hn]
  have l3 : (natL (10 * (1000 * V + t) + 1)).length = n + 3 + 1 + 20 := by rw [natL_snoc (by omega) (by decide), List.length_append, l2, List.length_singleton]
  have big : ∀ (W m : Nat) (x : Int), 1 ≤ m → (natL W).length = m + 20 → formD neg (natL W) x = formG neg (rV W false m) (x + (m : Int)) := fun W m x h1 h2 => by
    have := formD_big (neg := neg) (exp := x) (natL_digits W) h1 (by rw [natL_val]; exact h2)
    rwa [natL_val] at this
  have hR0 : R ≠ 0 ↔ (u ≠ 0 ∨ t ≠ 0) := by
    constructor
    · intro h
      rcases Nat.eq_zero_or_pos u with h1 | h1
      · right; intro h2; rw [h1, h2] at htu; omega
      · left; omega
    · rintro h rfl
      have e0 : B * t + u = 0 := by omega
      have e1 : u = 0 := by omega
      have e2 : B * t = 0 := by omega
      rcases Nat.mul_eq_zero.1 e2 with h3 | h3
      · omega
      · rcases h with h | h
        · exact h e1
        · exact h h3
  have rhs : (if R ≠ 0 then formD neg (natL V ++ [49]) (e - 1) else formD neg (natL V) e) = formG neg (rV V (decide (R ≠ 0)) n) (e + (n : Int)) := by
    by_cases h : R ≠ 0
    · rw [if_pos h, one V hV0, big _ _ _ (by omega) l1, rV_one hn1, decide_eq_true h]
      congr 1
      omega
    · rw [if_neg h, big _ _ _ hn1 hn, decide_eq_false h]
  rw [rhs]
  by_cases hu0 : u ≠ 0
  · rw [if_pos hu0, one _ (by omega), big _ _ _ (by omega) l3, rV_one (by omega), rV_thousand _ hn1 ht1, decide_eq_true (hR0.2 (Or.inl hu0))]
    simp only [Bool.true_or]
    congr 1
    omega
  · rw [if_neg hu0, big _ _ _ (by omega) l2, rV_thousand _ hn1 ht1, Bool.false_or]
    have : decide (t ≠ 0) = decide (R ≠ 0) := by
      rw [decide_eq_decide, hR0]
      exact ⟨fun h => Or.inr h, fun h => h.resolve_left hu0⟩
    rw [this]
    congr 1
    omega
end Go.Proofs.YtomcoilmpkpoeaaGreatDoor

namespace Go.Proofs.YtomcoilmpkpoeaaGreatDoor
open Go.RowKit
set_option linter.unusedVariables false
set_option linter.unusedSimpArgs false

def numVal (d : Dec) : Val := if decOk d then ⟨1, d, ⟨#[]⟩⟩ else val0



set_option maxHeartbeats 1000000 in
theorem implNumVal {cs : Array Value} {d : Dec} (w : World) (hrd : Rd.rd (Old w) w cs.toList d) :
    Calls Tryz.prog 13 #[.agg cs] w fun e w' => ∃ cs' : Array Value, e = .returned (.agg cs') ∧ Rd.rd (Old w') w' cs'.toList (numVal d) ∧ Below w.heap.size w w' := by
  obtain ⟨hcs, hs, he⟩ := rdDec hrd
  obtain rfl := arr_of_list hcs
  clear hcs hrd
  obtain ⟨b, hb⟩ : ∃ b, decOk d = b := ⟨_, rfl⟩
  have HB := hid hb
  clear hb
  cases b
  · go_enter Tryz.func13, Tryz.ntmps13
    go_wp2_with fail
    refine (implIsDec (d := d) _ (by exact rdDec_mk hs he)).mono ?_
    rintro e w1 ⟨rfl, hb⟩
    rw [HB.out]
    obtain ⟨hc1, hf1⟩ := bcell hb
    have hl : w.heap.size + 1 < w1.heap.size := by have := hb.size; (try simp at this); omega
    have hl' : w.heap.size < w1.heap.size := by omega
    have hbw : Below w.heap.size w w1 := ext_trans (ext_trans (ext_alloc _ _) (ext_alloc _ _)) hb
    go_wp2
    refine bodyPost_ret (v := .agg #[.int .i64 0, .bool false, .string ⟨#[]⟩, .int .i64 0, .string ⟨#[]⟩]) (by simp [results, Tryz.results13, go_sem, hc1, hl, hl']) rfl ⟨_, rfl, ?_, ?_⟩
    · unfold numVal; rw [HB.out]; exact rd_val0
    · repeat' (first | (with_reducible exact hbw) | (with_reducible refine Below.setCell ?_ ?_ _) | (simp; done) | (simp; omega) | omega)
  · go_enter Tryz.func13, Tryz.ntmps13
    go_wp2_with fail
    refine (implIsDec (d := d) _ (by exact rdDec_mk hs he)).mono ?_
    rintro e w1 ⟨rfl, hb⟩
    rw [HB.out]
    obtain ⟨hc1, hf1⟩ := bcell hb
    have hl : w.heap.size + 1 < w1.heap.size := by have := hb.size; (try simp at this); omega
    have hl' : w.heap.size < w1.heap.size := by omega
    have hbw : Below w.heap.size w w1 := ext_trans (ext_trans (ext_alloc _ _) (ext_alloc _ _)) hb
    go_wp2
    refine bodyPost_ret (v := .agg #[.int .i64 1, .bool d.neg, .string d.dig, .int .i64 d.exp, .string ⟨#[]⟩]) (by simp [results, Tryz.results13, go_sem, hc1, hl, hl']) rfl ⟨_, rfl, ?_, ?_⟩
    · unfold numVal; rw [HB.out]; exact rdVal_mk (x := ⟨1, d, ⟨#[]⟩⟩) (show (-9223372036854775808 : Int) ≤ 1 ∧ (1 : Int) ≤ 9223372036854775807 by decide) hs he (show (⟨#[]⟩ : ByteArray).size ≤ 9223372036854775807 by decide)
    · repeat' (first | (with_reducible exact hbw) | (with_reducible refine Below.setCell ?_ ?_ _) | (simp; done) | (simp; omega) | omega)
end Go.Proofs.YtomcoilmpkpoeaaGreatDoor

namespace Go.Proofs.YtomcoilmpkpoeaaGreatDoor
open Go.RowKit
set_option linter.unusedVariables false
set_option linter.unusedSimpArgs false

theorem mant_app {pt : Bool} : ∀ (A r : List UInt8), digits A → mant pt (A ++ r) = ((mant pt r).1 + A.length, (mant pt r).2 + A.length)
  | [], r, _ => by simp
  | c :: A, r, h => by
    rw [List.cons_append, mant_dig (isDig_iff.2 (h c (by simp))), mant_app A r (fun d hd => h d (by simp [hd]))]
    simp only [List.length_cons, Prod.mk.injEq]
    omega
theorem isEx_num {c : UInt8} (h : isEx c = true) : isDig c = false ∧ ¬ c.toNat = 46 ∧ isSg c = false := by
  rw [isEx_iff] at h
  refine ⟨isDig_no (by omega), by omega, isSg_no (by omega) (by omega)⟩
theorem mant_exp {X : List UInt8} {x : Int} (h : isExp X x) (pt : Bool) : mant pt X = (0, 0) := by
  rcases isExp_head h with rfl | ⟨e, r, rfl, he⟩
  · exact mant_nil pt
  · exact mant_no (isEx_num he).1 (fun h' => (isEx_num he).2.1 h'.1)
theorem dgs_all : ∀ {C : List UInt8}, digits C → dgs C = C.length
  | [], _ => rfl
  | c :: C, h => by
    rw [dgs_cons, isDig_iff.2 (h c (by simp)), if_pos rfl, dgs_all (fun d hd => h d (by simp [hd]))]
    rfl
theorem dig_sg {c : UInt8} (h : 48 ≤ c.toNat ∧ c.toNat ≤ 57) : isSg c = false := isSg_no (by omega) (by omega)
theorem dig_blk {c : UInt8} (h : 46 ≤ c.toNat ∧ c.toNat ≤ 57) : isBlk c = false := by
  unfold isBlk
  rw [← Bool.not_eq_true, isBlkN_iff]
  omega
theorem expL_all {X : List UInt8} {x : Int} (h : isExp X x) : expL X = X.length := by
  rcases h with ⟨rfl, _⟩ | ⟨e, sg, C, rfl, he, hsg, hC, hne, _⟩
  · rfl
  · have hd : hd1 isSg (sg ++ C) = sg.length := by
      rcases hsg with rfl | rfl | rfl
      · cases C with
        | nil => exact absurd rfl hne
        | cons c C => rw [List.nil_append, hd1_cons, dig_sg (hC c (by simp))]; rfl
      · rfl
      · rfl
    have hpos : 0 < C.length := List.length_pos_iff.2 hne
    rw [expL_cons, hd, List.drop_left, dgs_all hC, if_pos ⟨he, hpos⟩]
    simp only [List.length_cons, List.length_append]
    omega
/-- how a number's text begins behind its sign -/
theorem body_head {sg A P B X : List UInt8} (h : isNum sg A P B X) : ∃ c r, A ++ (P ++ (B ++ X)) = c :: r ∧ 46 ≤ c.toNat ∧ c.toNat ≤ 57 := by
  obtain ⟨_, hA, hB, hP, hne⟩ := h
  cases A with
  | cons c A => exact ⟨c, A ++ (P ++ (B ++ X)), rfl, by have := hA c (by simp); omega, (hA c (by simp)).2⟩
  | nil =>
    rcases hP with ⟨rfl, rfl⟩ | rfl
    · exact absurd rfl hne
    · exact ⟨46, B ++ X, rfl, by decide, by decide⟩
theorem scan_all {sg A P B X : List UInt8} {x : Int} (hn : isNum sg A P B X) (hX : isExp X x) : scanL (sg ++ (A ++ (P ++ (B ++ X)))) = (sg ++ (A ++ (P ++ (B ++ X)))).length := by
  obtain ⟨c, r, hR, hc1, hc2⟩ := body_head hn
  obtain ⟨hsg, hA, hB, hP, hne⟩ := hn
  have hd : hd1 isSg (sg ++ (A ++ (P ++ (B ++ X)))) = sg.length := by
    rcases hsg with rfl | rfl | rfl
    · rw [List.nil_append, hR, hd1_cons, isSg_no (by omega) (by omega)]; rfl
    · rfl
    · rfl
  have hm : mant false (A ++ (P ++ (B ++ X))) = (A.length + P.length + B.length, A.length + B.length) := by
    rw [mant_app A _ hA]
    rcases hP with ⟨rfl, rfl⟩ | rfl
    · rw [List.nil_append, List.nil_append, mant_exp hX]; simp
    · rw [show ([46] : List UInt8) ++ (B ++ X) = 46 :: (B ++ X) from rfl, mant_pt (by decide), mant_app B _ hB, mant_exp hX]
      simp only [List.length_cons, List.length_nil, Prod.mk.injEq]
      omega
  have hpos : 0 < A.length + B.length := by
    rw [← List.length_append]
    exact List.length_pos_iff.2 hne
  unfold scanL
  rw [hd, List.drop_left, hm, if_neg (show ¬ (A.length + B.length = 0) by omega)]
  have hdr : (sg ++ (A ++ (P ++ (B ++ X)))).drop (sg.length + (A.length + P.length + B.length)) = X := by
    rw [show sg.length + (A.length + P.length + B.length) = (sg ++ (A ++ (P ++ B))).length by simp only [List.length_append]; omega]
    rw [show sg ++ (A ++ (P ++ (B ++ X))) = (sg ++ (A ++ (P ++ B))) ++ X by simp only [List.append_assoc]]
    exact List.drop_left
  show sg.length + (A.length + P.length + B.length) + expL ((sg ++ (A ++ (P ++ (B ++ X)))).drop (sg.length + (A.length + P.length + B.length))) = _
  rw [hdr, expL_all hX]
  simp only [List.length_append]
  omega
theorem sign_unique {sg sg' R R' : List UInt8} (hs : sg = [] ∨ sg = [43] ∨ sg = [45]) (hs' : sg' = [] ∨ sg' = [43] ∨ sg' = [45])
    (hR : ∃ c r, R = c :: r ∧ 46 ≤ c.toNat ∧ c.toNat ≤ 57) (hR' : ∃ c r, R' = c :: r ∧ 46 ≤ c.toNat ∧ c.toNat ≤ 57) (h : sg ++ R = sg' ++ R') : sg = sg' ∧ R = R' := by
  obtain ⟨c, r, rfl, hc, _⟩ := hR
  obtain ⟨c', r', rfl, hc', _⟩ := hR'
  have e43 : (43 : UInt8).toNat = 43 := rfl
  have e45 : (45 : UInt8).toNat = 45 := rfl
  rcases hs with rfl | rfl | rfl <;> rcases hs' with rfl | rfl | rfl <;> simp only [List.nil_append, List.cons_append, List.cons.injEq] at h ⊢
  all_goals first
    | exact ⟨trivial, h⟩
    | exact ⟨rfl, h⟩
    | (obtain ⟨h1, h2⟩ := h; exfalso; first | (subst h1; omega) | (rw [← h1] at hc'; omega) | (rw [h1] at hc; omega) | exact absurd h1 (by decide))
    | (exact ⟨⟨trivial, trivial⟩, h.2⟩)
    | (simp_all)
theorem exp_unique {X : List UInt8} {x x' : Int} (h : isExp X x) (h' : isExp X x') : x = x' := by
  rcases h with ⟨rfl, rfl⟩ | ⟨e, sg, C, rfl, he, hsg, hC, hne, hx⟩
  · rcases h' with ⟨_, rfl⟩ | ⟨e, sg, C, hX, _⟩
    · rfl
    · cases hX
  · rcases h' with ⟨hX, _⟩ | ⟨e', sg', C', hX, he', hsg', hC', hne', hx'⟩
    · cases hX
    · rw [List.cons.injEq] at hX
      obtain ⟨n, hn, _, h1⟩ := capN_exp (e := e) hsg hC hx
      obtain ⟨n', hn', _, h2⟩ := capN_exp (e := e') hsg' hC' hx'
      rw [← hX.2] at hn' h2
      rw [hn] at hn'
      rw [h1, h2, hn']
theorem numR_parts {sg A P B X : List UInt8} {x : Int} (hn : isNum sg A P B X) (hX : isExp X x) : numR (sg ++ (A ++ (P ++ (B ++ X)))) = formD (decide (sg = [45])) (A ++ B) (x - (B.length : Int)) := by
  obtain ⟨l, hl⟩ : ∃ l, sg ++ (A ++ (P ++ (B ++ X))) = l := ⟨_, rfl⟩
  have hsc := scan_all hn hX
  have hhd := body_head hn
  have hne : ¬ scanL l = 0 := by
    rw [← hl, hsc]
    obtain ⟨c, r, hR, _⟩ := hhd
    rw [hR]; simp
  obtain ⟨h1, h2, h3⟩ := numP_fits hne
  have htk : l.take (scanL l) = l := by rw [← hl, hsc]; exact List.take_length
  rw [htk] at h1
  rw [hl]
  obtain ⟨h4, h5⟩ := sign_unique hn.1 h2.1 hhd (body_head h2) (hl.trans h1)
  have h6 := rdL_num hn hX
  have h7 := rdL_num h2 h3
  rw [← h5, h6] at h7
  simp only [Prod.mk.injEq] at h7
  obtain ⟨h8, h9, h10⟩ := h7
  rw [← h10] at h3
  unfold numR
  rw [← h4, ← h8, ← h9, exp_unique hX h3]
theorem strip_zeros (D : List UInt8) : ∀ m, stripL (D ++ zeroL m) = stripL D
  | 0 => by rw [show zeroL 0 = [] from rfl, List.append_nil]
  | m + 1 => by rw [zeroL_succ, ← List.append_assoc, stripL_zero, strip_zeros D m]
theorem strip_ends {D : List UInt8} (h : D.getLast? ≠ some 48) : stripL D = D := by
  rcases List.eq_nil_or_concat D with rfl | ⟨D', c, rfl⟩
  · rfl
  · rw [List.concat_eq_append] at h ⊢
    exact stripL_other D' (fun e => h (by rw [e]; simp))
theorem round_zeros {D : List UInt8} {c : UInt8} {r : List UInt8} (hD : D = c :: r) (h48 : ¬ c = 48) {z n : Nat} (h1 : 1 ≤ n) (hn : n ≤ z) : roundL (D ++ zeroL z) n = D ++ zeroL (z - n) := by
  have hlen : (D ++ zeroL z).length = D.length + z := by rw [List.length_append, zeroL_len]
  have e1 : (D ++ zeroL z).take (D.length + z - n) = D ++ zeroL (z - n) := by
    rw [show D.length + z - n = D.length + (z - n) by omega, List.take_length_add_append, zeroL_take _ _ (by omega)]
  have e2 : (D ++ zeroL z).drop (D.length + z - n) = zeroL n := by
    rw [show D.length + z - n = D.length + (z - n) by omega, List.drop_length_add_append, zeroL_drop, show z - (z - n) = n by omega]
  have e3 : trimL (D ++ zeroL (z - n)) = D ++ zeroL (z - n) := by rw [hD, List.cons_append, trimL_head _ h48]
  unfold roundL
  rw [hlen, if_neg (by omega), e1, e2, e3]
  obtain ⟨m, rfl⟩ : ∃ m, n = m + 1 := ⟨n - 1, by omega⟩
  have e4 : upB (D ++ zeroL (z - (m + 1))) (zeroL (m + 1)) (halfL (m + 1)) = false := by
    have a1 : zeroL (m + 1) = 48 :: zeroL m := by unfold zeroL; rw [List.replicate_succ]
    have a2 : halfL (m + 1) = 53 :: zeroL m := rfl
    have a3 : Op.bytesLess (48 :: zeroL m) (53 :: zeroL m) = true := by
      unfold Op.bytesLess; rfl
    have a4 : ((48 :: zeroL m : List UInt8) == 53 :: zeroL m) = false := by
      rw [beq_eq_false_iff_ne]; intro e; rw [List.cons.injEq] at e; exact absurd e.1 (by decide)
    unfold upB
    rw [a1, a2, a3, a4]
    rfl
  unfold finL
  rw [e4, if_neg (by decide)]
/-- digits of a number in form, noughts around them, put into form -/
theorem formD_back {d : Dec} (h : decOk d = true) (hz : ¬ d.dig.size = 0) (k z : Nat) : formD d.neg (zeroL k ++ (d.dig.data.toList ++ zeroL z)) (d.exp - (z : Int)) = (d, 0) := by
  obtain ⟨neg, dig, exp⟩ := d
  obtain ⟨c, r, hD, h48⟩ := ok_head h hz
  obtain ⟨hs, he1, he2, _⟩ := decOk_facts h hz
  have hlast : dig.data.toList.getLast? ≠ some 48 := by
    unfold decOk at h
    rw [if_neg hz] at h
    simp only [Bool.and_eq_true, decide_eq_true_eq] at h
    exact h.1.2
  simp only at hD hz ⊢
  obtain ⟨D, hDD⟩ : ∃ D, dig.data.toList = D := ⟨_, rfl⟩
  have hsz : dig.size = D.length := by rw [Lib.size_eq, hDD]
  rw [hDD] at hD hlast ⊢
  have hT : trimL (zeroL k ++ (D ++ zeroL z)) = D ++ zeroL z := by rw [trimL_zeros, hD, List.cons_append, trimL_head _ h48]
  have hTl : (D ++ zeroL z).length = D.length + z := by rw [List.length_append, zeroL_len]
  have hn48 : ¬ trimL (zeroL k ++ (D ++ zeroL z)) = [48] := by
    rw [hT, hD]; intro e; rw [List.cons_append, List.cons.injEq] at e; exact h48 e.1
  have hcut : ∃ m, cutL (D ++ zeroL z) = D ++ zeroL m ∧ m + (D.length + z - 20) = z := by
    unfold cutL
    rw [hTl]
    by_cases h20 : 20 < D.length + z
    · refine ⟨z - (D.length + z - 20), ?_, by omega⟩
      rw [if_pos h20]
      exact round_zeros hD h48 (by omega) (by omega)
    · exact ⟨z, by rw [if_neg h20], by omega⟩
  obtain ⟨m, hm, hmz⟩ := hcut
  have hS : stripL (cutL (trimL (zeroL k ++ (D ++ zeroL z)))) = D := by rw [hT, hm, strip_zeros, strip_ends hlast]
  have := formD_in (neg := neg) (exp := exp - (z : Int)) hn48 hS (e := exp) (by rw [hT, hm, hTl, List.length_append, zeroL_len]; omega) (by omega) (by omega)
  rw [this, ← hDD]
  rfl
theorem dat_appN (a b : ByteArray) : (a ++ b).data.toList = a.data.toList ++ b.data.toList := by rw [ByteArray.data_append, Array.toList_append]
def signL (neg : Bool) : List UInt8 := if neg then [45] else []
theorem signB_data (d : Dec) : (signB d).data.toList = signL d.neg := by unfold signB signL; cases d.neg <;> rfl
theorem signL_is (neg : Bool) : (signL neg = [] ∨ signL neg = [43] ∨ signL neg = [45]) ∧ decide (signL neg = [45]) = neg := by cases neg <;> simp [signL]
theorem decT_parts {d : Dec} (h : decOk d = true) (hz : ¬ d.dig.size = 0) :
    ∃ A P B X x k z, (decT d).data.toList = signL d.neg ++ (A ++ (P ++ (B ++ X))) ∧ isNum (signL d.neg) A P B X ∧ isExp X x ∧ A ++ B = zeroL k ++ (d.dig.data.toList ++ zeroL z) ∧ x - (B.length : Int) = d.exp - (z : Int) ∧ (A ++ (P ++ (B ++ X))).length ≤ 300 := by
  have hdig : digits d.dig.data.toList := by
    unfold decOk at h
    rw [if_neg hz] at h
    simp only [Bool.and_eq_true] at h
    exact (natOk_iff.1 h.1.1.1.1).1
  obtain ⟨hs, he1, he2, _⟩ := decOk_facts (neg := d.neg) (dig := d.dig) (exp := d.exp) h hz
  obtain ⟨D, hDD⟩ : ∃ D, d.dig.data.toList = D := ⟨_, rfl⟩
  have hsz : d.dig.size = D.length := by rw [Lib.size_eq, hDD]
  have hsg := (signL_is d.neg).1
  have hDne : D ≠ [] := by intro e; rw [e] at hsz; exact hz hsz
  have hex : ∀ a b, (d.dig.extract a b).data.toList = (D.drop a).take (b - a) := fun a b => by rw [extL, hDD]
  have hl46 : (⟨#[46]⟩ : ByteArray).data.toList = [46] := rfl
  rw [hDD] at hdig ⊢
  unfold decT
  rw [if_neg hz]
  by_cases hh : ¬ (-7 ≤ decP d - 1 ∧ decP d - 1 ≤ 20)
  · rw [if_pos hh]
    unfold decP at hh ⊢
    -- the exponent
    obtain ⟨X, x, hX1, hX2, hX3, hXl⟩ : ∃ X x, ((if d.exp + (d.dig.size : Int) - 1 < 0 then ⟨#[101, 45]⟩ ++ numB (-(d.exp + (d.dig.size : Int) - 1)) else ⟨#[101, 43]⟩ ++ numB (d.exp + (d.dig.size : Int) - 1)) : ByteArray).data.toList = X ∧ isExp X x ∧ x = d.exp + (d.dig.size : Int) - 1 ∧ X.length ≤ 25 := by
      by_cases hneg : d.exp + (d.dig.size : Int) - 1 < 0
      · rw [if_pos hneg]
        obtain ⟨m, hm⟩ : ∃ m : Nat, -(d.exp + (d.dig.size : Int) - 1) = (m : Int) := ⟨(-(d.exp + (d.dig.size : Int) - 1)).toNat, by omega⟩
        have hb : (numB (-(d.exp + (d.dig.size : Int) - 1))).data.toList = natL m := by
          rw [hm]; unfold numB Lib.itoa natL; rw [mkB_data, if_neg (by omega), Int.toNat_natCast]
        refine ⟨101 :: ([45] ++ natL m), -(m : Int), by rw [dat_appN, hb]; rfl, Or.inr ⟨101, [45], natL m, rfl, by decide, Or.inr (Or.inr rfl), natL_digits m, natL_ne m, ?_⟩, by omega, ?_⟩
        · rw [if_pos rfl]
          show _ = -((min 9999 (vD (natL m)) : Nat) : Int)
          rw [natL_val]; omega
        · have := natL_len_pow (v := m) (n := 3) (by omega) (by decide)
          simp only [List.length_cons, List.length_append, List.length_nil]; omega
      · rw [if_neg hneg]
        obtain ⟨m, hm⟩ : ∃ m : Nat, d.exp + (d.dig.size : Int) - 1 = (m : Int) := ⟨(d.exp + (d.dig.size : Int) - 1).toNat, by omega⟩
        have hb : (numB (d.exp + (d.dig.size : Int) - 1)).data.toList = natL m := by
          rw [hm]; unfold numB Lib.itoa natL; rw [mkB_data, if_neg (by omega), Int.toNat_natCast]
        refine ⟨101 :: ([43] ++ natL m), (m : Int), by rw [dat_appN, hb]; rfl, Or.inr ⟨101, [43], natL m, rfl, by decide, Or.inr (Or.inl rfl), natL_digits m, natL_ne m, ?_⟩, by omega, ?_⟩
        · rw [if_neg (by decide)]
          show _ = ((min 9999 (vD (natL m)) : Nat) : Int)
          rw [natL_val]; omega
        · have := natL_len_pow (v := m) (n := 3) (by omega) (by decide)
          simp only [List.length_cons, List.length_append, List.length_nil]; omega
    have e1 : D.take 1 ++ D.drop 1 = D := List.take_append_drop 1 D
    have hd1 : digits (D.take 1) := digits_take hdig 1
    have hd2 : digits (D.drop 1) := fun c hc => hdig c (List.mem_of_mem_drop hc)
    have ht1 : (D.take 1).length = 1 := by rw [List.length_take]; omega
    have hdl : (D.drop 1).length = D.length - 1 := List.length_drop
    by_cases h1 : 1 < d.dig.size
    · refine ⟨D.take 1, [46], D.drop 1, X, x, 0, 0, ?_, ⟨hsg, hd1, hd2, Or.inr rfl, by rw [e1]; exact hDne⟩, hX2, ?_, ?_, ?_⟩
      · rw [if_pos h1, dat_appN, hX1, dat_appN, dat_appN, dat_appN, signB_data, hex, hex, hl46, List.drop_zero, List.take_of_length_le (l := D.drop 1) (by rw [hdl]; omega)]
        simp only [List.append_assoc]
      · rw [e1]; simp [zeroL]
      · rw [hX3, hdl]; omega
      · simp only [List.length_append, ht1, hdl, List.length_cons, List.length_nil]; omega
    · have hD1 : D.length = 1 := by have := List.length_pos_iff.2 hDne; omega
      have hb : D.drop 1 = [] := List.drop_of_length_le (by omega)
      have ht : D.take 1 = D := List.take_of_length_le (by omega)
      refine ⟨D, [], [], X, x, 0, 0, ?_, ⟨hsg, hdig, digits_nil, Or.inl ⟨rfl, rfl⟩, by rw [List.append_nil]; exact hDne⟩, hX2, ?_, ?_, ?_⟩
      · rw [if_neg h1, dat_appN, hX1, dat_appN, signB_data, hex, List.drop_zero, ht]
        simp only [List.append_assoc, List.nil_append]
      · simp [zeroL]
      · rw [hX3, hsz, hD1]; simp
      · simp only [List.length_append, List.length_nil]; omega
  · rw [if_neg hh]
    unfold decP at hh ⊢
    by_cases h0 : 0 ≤ d.exp
    · rw [if_pos h0]
      refine ⟨D ++ zeroL d.exp.toNat, [], [], [], 0, 0, d.exp.toNat, ?_, ⟨hsg, digits_append hdig (digits_zeros _), digits_nil, Or.inl ⟨rfl, rfl⟩, ?_⟩, Or.inl ⟨rfl, rfl⟩, ?_, ?_, ?_⟩
      · rw [dat_appN, dat_appN, signB_data, hDD]
        simp only [List.append_nil, List.append_assoc]
        rfl
      · rw [List.append_nil]; intro e; exact hDne (List.append_eq_nil_iff.1 e).1
      · rw [List.append_nil]; rfl
      · simp only [List.length_nil]; omega
      · simp only [List.length_append, List.length_nil, zeroL_len]; omega
    · rw [if_neg h0]
      by_cases h1 : 0 ≤ d.exp + (d.dig.size : Int) - 1
      · rw [if_pos h1]
        obtain ⟨m, hm⟩ : ∃ m : Nat, d.exp + (d.dig.size : Int) = (m : Int) := ⟨(d.exp + (d.dig.size : Int)).toNat, by omega⟩
        rw [hm, Int.toNat_natCast]
        have e1 : D.take m ++ D.drop m = D := List.take_append_drop m D
        refine ⟨D.take m, [46], D.drop m, [], 0, 0, 0, ?_, ⟨hsg, digits_take hdig m, fun c hc => hdig c (List.mem_of_mem_drop hc), Or.inr rfl, by rw [e1]; exact hDne⟩, Or.inl ⟨rfl, rfl⟩, ?_, ?_, ?_⟩
        · rw [dat_appN, dat_appN, dat_appN, signB_data, hex, hex, hl46, List.drop_zero, Nat.sub_zero, List.take_of_length_le (l := D.drop m) (by rw [List.length_drop]; omega)]
          simp only [List.append_assoc, List.append_nil]
        · rw [e1]; simp [zeroL]
        · rw [List.length_drop]; omega
        · simp only [List.length_append, List.length_nil, List.length_take, List.length_drop, List.length_cons]; omega
      · rw [if_neg h1]
        obtain ⟨m, hm⟩ : ∃ m : Nat, -(d.exp + (d.dig.size : Int)) = (m : Int) := ⟨(-(d.exp + (d.dig.size : Int))).toNat, by omega⟩
        rw [hm, Int.toNat_natCast]
        refine ⟨[48], [46], zeroL m ++ D, [], 0, m + 1, 0, ?_, ⟨hsg, ?_, digits_append (digits_zeros m) hdig, Or.inr rfl, by simp⟩, Or.inl ⟨rfl, rfl⟩, ?_, ?_, ?_⟩
        · rw [dat_appN, dat_appN, dat_appN, signB_data, hDD]
          simp only [List.append_assoc, List.append_nil]
          rfl
        · intro c hc; rw [List.mem_singleton.1 hc]; decide
        · unfold zeroL; rw [List.replicate_succ]; simp
        · rw [List.length_append, zeroL_len]; omega
        · simp only [List.length_append, List.length_nil, zeroL_len, List.length_cons]; omega
end Go.Proofs.YtomcoilmpkpoeaaGreatDoor
