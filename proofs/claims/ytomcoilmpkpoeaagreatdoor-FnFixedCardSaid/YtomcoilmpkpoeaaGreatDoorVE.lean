/-
  What is proved here: impl.natSub returns the difference of two rows of digits. No condition but that the bytes are digits.
  What is proved here: impl.natMul returns the product of two rows of digits. No condition but that the bytes are digits.
  What is proved here: impl.natDiv returns the quotient and the remainder of two rows of digits. The conditions are that the bytes are digits, the divisor in form and not 0.
  What is proved here: spec.l02Div returns the quotient and the remainder of two rows of digits. The conditions are that the bytes are digits and the divisor is not 0.
  What is proved here: spec.l02Mul returns the product of two rows of digits. No condition but that the bytes are digits.
  What is proved here: plain laws on the operations on numbers, and what lies in memory while a function on two numbers runs. No condition.
  What is proved here: a number with fixed digits behind the period, read again, differs by at most half of the last digit (plain laws). No program in sight; no condition.
-/
import Derived.Test.YtomcoilmpkpoeaaGreatDoorVD
import Derived.StillTailTactics
import Derived.Test.YtomcoilmpkpoeaaGreatDoorVValBack
namespace Go.Proofs.YtomcoilmpkpoeaaGreatDoor
open Go.RowKit
set_option linter.unusedVariables false
set_option linter.unusedSimpArgs false

end Go.Proofs.YtomcoilmpkpoeaaGreatDoor

namespace Go.Proofs.YtomcoilmpkpoeaaGreatDoor
open Go.RowKit
set_option linter.unusedVariables false
set_option linter.unusedSimpArgs false

def natVs (S : List Nat) : List Value := S.map fun (n : Nat) => Value.int .i64 (n : Int)
theorem natVs_len (S : List Nat) : (natVs S).length = S.length := by unfold natVs; rw [List.length_map]
theorem natVs_get {w : World} {g : Nat} {S : List Nat} {e : TypeId} {fr : Nat × Nat} (hg : w.heap[g]? = some (.cells (natVs S).toArray e fr)) {m : Nat} (hm : m < S.length) : w.cell? ⟨g, m, none⟩ = some (.int .i64 (gS S m : Int)) := by
  rw [cell_of_block hg]
  unfold natVs gS
  rw [List.getElem?_map, List.getD_eq_getElem?_getD, List.getElem?_eq_getElem hm]
  rfl
theorem natVs_set {w : World} {g : Nat} {S : List Nat} {e : TypeId} (hg : w.heap[g]? = some (.cells (natVs S).toArray e (0, 0))) (m y : Nat) :
    (w.setCell ⟨g, m, none⟩ (.int .i64 (y : Int))).heap[g]? = some (.cells (natVs (S.set m y)).toArray e (0, 0)) := by
  rw [heap_setCell_same w g m _ _ _ hg]
  unfold natVs
  rw [List.setIfInBounds_toArray, List.map_set]
theorem info_intM : (Tryz.prog.info? 3).map (fun i => (i.zero, i.size, i.bytes)) = some (some (.int .i64 0), 1, 8) := by kernel_rfl
theorem made_zeros (w : World) (n : Nat) (e : TypeId) : (w.alloc (.cells (madeCells #[.int .i64 0] n) e)).heap[w.heap.size]? = some (.cells (natVs (List.replicate n 0)).toArray e (0, 0)) := by
  rw [toList_madeCells1, heap_alloc_new]
  unfold natVs
  rw [List.map_replicate]
  rfl
theorem dgA_small {l : List UInt8} (h : digits l) (i : Nat) : dgA l i ≤ 9 := dgA_le h i
/-- the sum at the next place -/
theorem mul_step {la lb : List UInt8} {S : List Nat} {i k n : Nat} (hn : S.length = n) (hik : i + k < n) (h : pvS S n = pv la i * vD lb + dgA la i * 10 ^ i * pv lb k) :
    pvS (S.set (i + k) (gS S (i + k) + dgA la i * dgA lb k)) n = pv la i * vD lb + dgA la i * 10 ^ i * pv lb (k + 1) := by
  rw [pvS_set _ _ _ (by omega), if_pos (by omega), h, pv, Nat.mul_add, Nat.add_assoc]
  congr 2
  rw [Nat.pow_add]
  simp only [Nat.mul_assoc, Nat.mul_comm, Nat.mul_left_comm]
theorem mul_row {la lb : List UInt8} {x i : Nat} (h : x = pv la i * vD lb + dgA la i * 10 ^ i * pv lb lb.length) : x = pv la (i + 1) * vD lb + dgA la (i + 1) * 10 ^ (i + 1) * pv lb 0 := by
  rw [h, pv_len]
  show _ = (pv la i + dgA la i * 10 ^ i) * vD lb + dgA la (i + 1) * 10 ^ (i + 1) * 0
  rw [Nat.mul_zero, Nat.add_zero, Nat.add_mul]
end Go.Proofs.YtomcoilmpkpoeaaGreatDoor

namespace Go.Proofs.YtomcoilmpkpoeaaGreatDoor
open Go.RowKit
set_option linter.unusedVariables false
set_option linter.unusedSimpArgs false

theorem row_next1 {w : World} {g m r : Nat} {A Z : List Value} {e : TypeId} (c : Value) (hg : w.heap[g]? = some (.cells (A ++ Z).toArray e (0, 0))) (hA : A.length = m) (hZ : Z.length = r + 1) :
    ∃ Z', Z'.length = r ∧ (w.setCell ⟨g, m, none⟩ c).heap[g]? = some (.cells ((A ++ [c]) ++ Z').toArray e (0, 0)) := by
  have hsp : Z = Z.take 1 ++ Z.drop 1 := (List.take_append_drop 1 Z).symm
  obtain ⟨h1, _⟩ := setAll_block [c] w g m 0 A (Z.take 1) (Z.drop 1) e (by rw [List.append_assoc, ← hsp]; exact hg) (by omega) (by rw [List.length_take]; simp; omega)
  exact ⟨Z.drop 1, by rw [List.length_drop]; omega, h1⟩
theorem trimB_nat {s : ByteArray} {l : List UInt8} (hl : s.data.toList = l) (hd : digits l) {v : Nat} (hv : vD l = v) : trimB s = mkB (natL v) := by
  unfold trimB
  rw [hl, trim_nat hd, hv]
theorem byteVals_snoc (l : List UInt8) {n : Nat} (h : n < 256) : byteVals (l ++ [UInt8.ofNat n]) = byteVals l ++ [.int .u8 (n : Int)] := by
  unfold byteVals
  rw [List.map_append, List.map_cons, u8_cast h]
  rfl
theorem sgn3_cases (X Y : Nat) : (Y ≤ X ∧ 0 ≤ sgn3 X Y) ∨ (X < Y ∧ sgn3 X Y = -1) := by
  unfold sgn3
  by_cases h : X < Y
  · right; rw [if_pos h]; exact ⟨h, rfl⟩
  · left
    rw [if_neg h]
    refine ⟨by omega, ?_⟩
    split <;> decide
theorem natL_mkB_digits (v : Nat) : digits (mkB (natL v)).data.toList := by rw [mkB_data]; exact natL_digits v
end Go.Proofs.YtomcoilmpkpoeaaGreatDoor

namespace Go.Proofs.YtomcoilmpkpoeaaGreatDoor
open Go.RowKit
set_option linter.unusedVariables false
set_option linter.unusedSimpArgs false

end Go.Proofs.YtomcoilmpkpoeaaGreatDoor

namespace Go.Proofs.YtomcoilmpkpoeaaGreatDoor
open Go.RowKit
set_option linter.unusedVariables false
set_option linter.unusedSimpArgs false

end Go.Proofs.YtomcoilmpkpoeaaGreatDoor

namespace Go.Proofs.YtomcoilmpkpoeaaGreatDoor
open Go.RowKit
set_option linter.unusedVariables false
set_option linter.unusedSimpArgs false

def valZ (d : Dec) : Nat := vD (dgB d.dig).data.toList
def mulD (a b : Dec) : Dec × Int := formD (a.neg != b.neg) (natL (valZ a * valZ b)) (a.exp + b.exp)
def divN (ng : Bool) (N B : Nat) (e : Int) : Dec × Int := if N % B ≠ 0 then formD ng (natL (N / B) ++ [49]) (e - 1) else formD ng (natL (N / B)) e
def divD (a b : Dec) : Dec × Int := if b.dig.size = 0 then (dec0, 2) else divN (a.neg != b.neg) (valZ a * 10 ^ 42) (valZ b) (a.exp - b.exp - 42)
def modD (a b : Dec) : Dec × Int := if b.dig.size = 0 then (dec0, 2) else formD a.neg (natL (valX a (lowE a.exp b.exp) % valX b (lowE a.exp b.exp))) (lowE a.exp b.exp)
def sumF (na nb : Bool) (X Y : Nat) (e : Int) : Dec × Int := if na = nb then formD na (natL (X + Y)) e else if Y ≤ X then formD na (natL (X - Y)) e else formD nb (natL (Y - X)) e
def addD (a b : Dec) : Dec × Int := sumF a.neg b.neg (valX a (lowE a.exp b.exp)) (valX b (lowE a.exp b.exp)) (lowE a.exp b.exp)
def subD (a b : Dec) : Dec × Int := addD a (negD b)
def one1 : Dec := ⟨false, ⟨#[49]⟩, 0⟩
def powG (a : Dec) : Nat → Dec × Int
  | 0 => (a, 0)
  | k + 1 => if (powG a k).2 = 0 then mulD (powG a k).1 a else powG a k
def powD (a : Dec) (n : Int) : Dec × Int :=
  if n = 0 then (one1, 0) else if (powG a (n.natAbs - 1)).2 ≠ 0 then (dec0, (powG a (n.natAbs - 1)).2)
  else if n < 0 then divD one1 (powG a (n.natAbs - 1)).1 else powG a (n.natAbs - 1)
/-- a number that is a whole one of at most 10^18 -/
def wholeN (d : Dec) : Nat := vD d.dig.data.toList * 10 ^ d.exp.toNat
def wholeD (d : Dec) : Int × Bool := if 0 ≤ d.exp ∧ wholeN d ≤ 1000000000000000000 then (if d.neg = true then -(wholeN d : Int) else (wholeN d : Int), true) else (0, false)
def arithD (op : Int) (x y : Dec) : Dec × Int :=
  if op = 1 then addD x y else if op = 2 then subD x y else if op = 3 then mulD x y else if op = 4 then divD x y else if op = 5 then modD x y
  else if (wholeD y).2 = false then (dec0, 3) else if -99 ≤ (wholeD y).1 ∧ (wholeD y).1 ≤ 99 then powD x (wholeD y).1 else (dec0, 3)

theorem dec0_ok : decOk dec0 = true := by show decOk ⟨false, ⟨#[]⟩, 0⟩ = true; rw [decOk_nil]; rfl
theorem one1_ok : decOk one1 = true := by decide
theorem mulD_ok (a b : Dec) : decOk (mulD a b).1 = true := formD_ok (natL_digits _)
theorem divN_ok (ng : Bool) (N B : Nat) (e : Int) : decOk (divN ng N B e).1 = true := by
  unfold divN
  split
  · exact formD_ok (digits_append (natL_digits _) digits_one)
  · exact formD_ok (natL_digits _)
theorem divD_ok (a b : Dec) : decOk (divD a b).1 = true := by
  unfold divD
  split
  · exact dec0_ok
  · exact divN_ok _ _ _ _
theorem modD_ok (a b : Dec) : decOk (modD a b).1 = true := by
  unfold modD
  split
  · exact dec0_ok
  · exact formD_ok (natL_digits _)
theorem sumF_ok (na nb : Bool) (X Y : Nat) (e : Int) : decOk (sumF na nb X Y e).1 = true := by
  unfold sumF
  repeat' split
  all_goals exact formD_ok (natL_digits _)
theorem powG_ok {a : Dec} (h : decOk a = true) : ∀ k, decOk (powG a k).1 = true
  | 0 => h
  | k + 1 => by
    rw [powG]
    split
    · exact mulD_ok _ _
    · exact powG_ok h k
theorem powD_ok {a : Dec} (h : decOk a = true) (n : Int) : decOk (powD a n).1 = true := by
  unfold powD
  split
  · exact one1_ok
  · split
    · exact dec0_ok
    · split
      · exact divD_ok _ _
      · exact powG_ok h _
theorem negD_ok {b : Dec} (h : decOk b = true) : decOk (negD b) = true := by
  unfold negD
  split
  · exact dec0_ok
  · rename_i hz
    obtain ⟨neg, dig, exp⟩ := b
    have hz' : ¬ dig.size = 0 := hz
    unfold decOk at h ⊢
    rw [if_neg hz'] at h ⊢
    exact h
theorem arithD_ok {x y : Dec} (hx : decOk x = true) (op : Int) : decOk (arithD op x y).1 = true := by
  unfold arithD
  repeat' split
  · exact sumF_ok _ _ _ _ _
  · exact sumF_ok _ _ _ _ _
  · exact mulD_ok _ _
  · exact divD_ok _ _
  · exact modD_ok _ _
  · exact dec0_ok
  · exact powD_ok hx _
  · exact dec0_ok
theorem natL_is0 (v : Nat) : natL v = [48] ↔ v = 0 := by
  constructor
  · intro h
    have := natL_val v
    rw [h] at this
    exact this.symm
  · rintro rfl; exact natL_zero
theorem formD_nil (ng : Bool) (e : Int) : formD ng (natL 0) e = (dec0, 0) := formD_zero (by rw [natL_zero]; rfl)
theorem valZ_lt {d : Dec} (h : decOk d = true) : valZ d < 10 ^ 20 := by
  obtain ⟨a1, a2, a3, a4, a5⟩ := ok_facts h
  have h1 := vD_lt a3
  unfold valZ
  refine Nat.lt_of_lt_of_le h1 (Nat.pow_le_pow_right (by decide) ?_)
  rw [← Lib.size_eq]
  unfold dgB
  split
  · decide
  · exact a1
theorem valZ_zero {d : Dec} (h : decOk d = true) : valZ d = 0 ↔ d.dig.size = 0 := val_zero h
/-- the quotient with three digits more -/
theorem div_impl {a b : Dec} (ha : decOk a = true) (hb : decOk b = true) (hz : ¬ b.dig.size = 0) :
    (if (valZ a * 10 ^ 45) % valZ b ≠ 0 then formD (a.neg != b.neg) (natL (valZ a * 10 ^ 45 / valZ b) ++ [49]) (a.exp - b.exp - 46) else formD (a.neg != b.neg) (natL (valZ a * 10 ^ 45 / valZ b)) (a.exp - b.exp - 45)) = divD a b := by
  have hB : 0 < valZ b := by
    have := mt (valZ_zero hb).1 hz
    omega
  have hB2 := valZ_lt hb
  unfold divD divN
  rw [if_neg hz]
  have e : valZ a * 10 ^ 45 = 1000 * (valZ a * 10 ^ 42) := by omega
  rw [e]
  have hN0 : valZ a = 0 → valZ a * 10 ^ 42 = 0 := fun h => by rw [h, Nat.zero_mul]
  have hN1 : ¬ valZ a = 0 → 10 ^ 21 ≤ valZ a * 10 ^ 42 / valZ b := fun h0 => by
    rw [Nat.le_div_iff_mul_le hB]
    have h1 : 10 ^ 21 * valZ b ≤ 10 ^ 21 * 10 ^ 20 := Nat.mul_le_mul_left _ (Nat.le_of_lt hB2)
    have h2 : 1 * 10 ^ 42 ≤ valZ a * 10 ^ 42 := Nat.mul_le_mul_right _ (by omega)
    have h3 : (10 : Nat) ^ 21 * 10 ^ 20 ≤ 1 * 10 ^ 42 := by decide
    exact Nat.le_trans h1 (Nat.le_trans h3 h2)
  generalize valZ a * 10 ^ 42 = N at hN0 hN1 ⊢
  clear e
  by_cases h0 : valZ a = 0
  · obtain rfl := hN0 h0
    simp [formD_nil]
  · have := quot_form (neg := a.neg != b.neg) hB (hN1 h0) (a.exp - b.exp - 42)
    have e4 : a.exp - b.exp - 42 - 4 = a.exp - b.exp - 46 := by omega
    have e3 : a.exp - b.exp - 42 - 3 = a.exp - b.exp - 45 := by omega
    rw [e4, e3] at this
    exact this
/-- two numbers and a result lie in three blocks from w's end on -/
structure Box3 (w wr : World) (na : Bool) (da : ByteArray) (ea : Int) (nb : Bool) (db : ByteArray) (eb : Int) : Prop where
  s0 : wr.cell? ⟨w.heap.size, 0, none⟩ = some (.bool na)
  s1 : wr.cell? ⟨w.heap.size, 1, none⟩ = some (.string da)
  s2 : wr.cell? ⟨w.heap.size, 2, none⟩ = some (.int .i64 ea)
  s3 : wr.cell? ⟨w.heap.size + 1, 0, none⟩ = some (.bool nb)
  s4 : wr.cell? ⟨w.heap.size + 1, 1, none⟩ = some (.string db)
  s5 : wr.cell? ⟨w.heap.size + 1, 2, none⟩ = some (.int .i64 eb)
  s6 : wr.cell? ⟨w.heap.size + 1 + 1, 0, none⟩ = some (.bool false)
  s7 : wr.cell? ⟨w.heap.size + 1 + 1, 1, none⟩ = some (.string ⟨#[]⟩)
  s8 : wr.cell? ⟨w.heap.size + 1 + 1, 2, none⟩ = some (.int .i64 0)
  r0 : wr.frozen? ⟨w.heap.size + 1 + 1, 0, none⟩ = false
  r1 : wr.frozen? ⟨w.heap.size + 1 + 1, 1, none⟩ = false
  r2 : wr.frozen? ⟨w.heap.size + 1 + 1, 2, none⟩ = false
  bw : Below w.heap.size w wr
  lt : w.heap.size + 1 + 1 < wr.heap.size
theorem Box3.call {w wr w2 : World} {na : Bool} {da : ByteArray} {ea : Int} {nb : Bool} {db : ByteArray} {eb : Int} (h : Box3 w wr na da ea nb db eb) (hb : Below wr.heap.size wr w2) : Box3 w w2 na da ea nb db eb :=
  ⟨keeps_cells hb _ _ h.s0, keeps_cells hb _ _ h.s1, keeps_cells hb _ _ h.s2, keeps_cells hb _ _ h.s3, keeps_cells hb _ _ h.s4, keeps_cells hb _ _ h.s5, keeps_cells hb _ _ h.s6, keeps_cells hb _ _ h.s7, keeps_cells hb _ _ h.s8, (hb.frozen (p := ⟨w.heap.size + 1 + 1, 0, none⟩) h.lt).trans h.r0, (hb.frozen (p := ⟨w.heap.size + 1 + 1, 1, none⟩) h.lt).trans h.r1, (hb.frozen (p := ⟨w.heap.size + 1 + 1, 2, none⟩) h.lt).trans h.r2, ext_trans h.bw hb, Nat.lt_of_lt_of_le h.lt hb.size⟩
theorem Box3.drew {w wr : World} {na : Bool} {da : ByteArray} {ea : Int} {nb : Bool} {db : ByteArray} {eb : Int} (h : Box3 w wr na da ea nb db eb) : Box3 w wr.drew na da ea nb db eb :=
  ⟨h.s0, h.s1, h.s2, h.s3, h.s4, h.s5, h.s6, h.s7, h.s8, h.r0, h.r1, h.r2, h.bw.drew, h.lt⟩
theorem box3_start (w : World) (na : Bool) (da : ByteArray) (ea : Int) (nb : Bool) (db : ByteArray) (eb : Int) : Box3 w (((w.alloc (.cells #[.bool na, .string da, .int .i64 ea] 36)).alloc (.cells #[.bool nb, .string db, .int .i64 eb] 36)).alloc (.cells #[.bool false, .string ⟨#[]⟩, .int .i64 0] 36)) na da ea nb db eb := by
  refine ⟨?_, ?_, ?_, ?_, ?_, ?_, ?_, ?_, ?_, ?_, ?_, ?_, ext_trans (ext_trans (ext_alloc _ _) (ext_alloc _ _)) (ext_alloc _ _), by simp⟩
  all_goals go_simp
end Go.Proofs.YtomcoilmpkpoeaaGreatDoor

namespace Go.Proofs.YtomcoilmpkpoeaaGreatDoor
open Go.RowKit
set_option linter.unusedVariables false
set_option linter.unusedSimpArgs false

theorem snocIndF {p : List UInt8 → Prop} (h0 : p []) (hs : ∀ l c, p l → p (l ++ [c])) (l : List UInt8) : p l := by
  have h : ∀ n (l : List UInt8), l.length = n → p l := by
    intro n
    induction n with
    | zero => intro l hl; rw [List.eq_nil_of_length_eq_zero hl]; exact h0
    | succ n ih =>
      intro l hl
      rcases List.eq_nil_or_concat l with rfl | ⟨r, c, rfl⟩
      · cases hl
      · rw [List.concat_eq_append] at hl ⊢
        exact hs r c (ih r (by rw [List.length_append] at hl; simpa using hl))
  exact h _ l rfl
theorem strip_split (l : List UInt8) : ∃ m, l = stripL l ++ zeroL m := by
  refine snocIndF (p := fun l => ∃ m, l = stripL l ++ zeroL m) ⟨0, rfl⟩ (fun l c ih => ?_) l
  show ∃ m, l ++ [c] = stripL (l ++ [c]) ++ zeroL m
  by_cases h : c = 48
  · subst h
    obtain ⟨m, hm⟩ := ih
    refine ⟨m + 1, ?_⟩
    rw [stripL_zero, zeroL_succ, ← List.append_assoc, ← hm]
  · refine ⟨0, ?_⟩
    rw [stripL_other l h]
    simp [zeroL]
theorem vD_shift (l : List UInt8) (m : Nat) : vD (l ++ zeroL m) = vD l * 10 ^ m := by rw [vD_append, vD_zeros, zeroL_len, Nat.add_zero]
/-- digits of at most twenty places in form: their value stays -/
theorem form_exact {neg : Bool} {l : List UInt8} {exp : Int} (hd : digits l) (hl : (trimL l).length ≤ 20) (he : -99 ≤ exp ∧ exp ≤ 70) :
    (vD l = 0 ∧ formD neg l exp = (dec0, 0)) ∨ (¬ vD l = 0 ∧ ∃ x : Dec, formD neg l exp = (x, 0) ∧ decOk x = true ∧ x.neg = neg ∧ ¬ x.dig.size = 0 ∧ exp ≤ x.exp ∧ x.exp ≤ 100 ∧ valX x exp = vD l) := by
  by_cases h0 : trimL l = [48]
  · exact Or.inl ⟨(trim_zero_iff hd).1 h0, formD_zero h0⟩
  · have hv : ¬ vD l = 0 := fun h => h0 ((trim_zero_iff hd).2 h)
    refine Or.inr ⟨hv, ?_⟩
    have hc : cutL (trimL l) = trimL l := by unfold cutL; rw [if_neg (by omega)]
    obtain ⟨m, hm⟩ := strip_split (trimL l)
    obtain ⟨S, hS⟩ : ∃ S, stripL (trimL l) = S := ⟨_, rfl⟩
    rw [hS] at hm
    have hlen : (trimL l).length = S.length + m := by rw [hm, List.length_append, zeroL_len]
    have hSv : vD S * 10 ^ m = vD l := by rw [← vD_trim l, hm, vD_shift]
    have hSne : ¬ S.length = 0 := by
      intro h
      have : S = [] := List.eq_nil_of_length_eq_zero h
      rw [this] at hSv
      exact hv (by rw [← hSv]; exact Nat.zero_mul _)
    have hf := formD_in (neg := neg) (exp := exp) h0 (S := S) (by rw [hc, hS]) (e := exp + (m : Int)) (by rw [hc, hlen]; omega) (by omega) (by omega)
    have hok := formD_ok (neg := neg) (D := l) (exp := exp) hd
    rw [hf] at hok
    refine ⟨_, hf, hok, rfl, by show ¬ (mkB S).size = 0; rw [mkB_size]; exact hSne, by show exp ≤ exp + (m : Int); omega, by show exp + (m : Int) ≤ 100; omega, ?_⟩
    show vD (dgB (mkB S)).data.toList * 10 ^ (exp + (m : Int) - exp).toNat = _
    have e1 : dgB (mkB S) = mkB S := by unfold dgB; rw [if_neg (by rw [mkB_size]; exact hSne)]
    rw [e1, mkB_data, show (exp + (m : Int) - exp).toNat = m by omega, hSv]
theorem valX_low {d : Dec} {e e' : Int} (h1 : e ≤ e') (h2 : e' ≤ d.exp) : valX d e = valX d e' * 10 ^ (e' - e).toNat := by
  unfold valX
  rw [Nat.mul_assoc, ← Nat.pow_add, show (d.exp - e).toNat = (d.exp - e').toNat + (e' - e).toNat by omega]
theorem valX_self (d : Dec) : valX d d.exp = vD (dgB d.dig).data.toList := by
  unfold valX
  rw [Int.sub_self]
  exact Nat.mul_one _
theorem valX_dec0 (e : Int) : valX dec0 e = 0 := by
  unfold valX
  show 0 * _ = 0
  exact Nat.zero_mul _
/-- half of the last digit -/
def halfD (pl : Nat) : Dec := ⟨false, ⟨#[53]⟩, -((pl : Int) + 1)⟩
theorem valX_half {pl : Nat} {e : Int} (h : e ≤ -((pl : Int) + 1)) : valX (halfD pl) e = 5 * 10 ^ (-((pl : Int) + 1) - e).toNat := rfl
/-- a number without its sign -/
def absD (d : Dec) : Dec := ⟨false, d.dig, d.exp⟩
theorem valX_abs (d : Dec) (e : Int) : valX (absD d) e = valX d e := rfl
theorem cmp_le {a b : Dec} (ha : a.neg = false) (hb : b.neg = false) {e : Int} (h1 : e ≤ a.exp) (h2 : e ≤ b.exp) (h : valX a e ≤ valX b e) : cmpD a b ≤ 0 := by
  have hl := lowE_le a.exp b.exp
  have e1 := valX_low (d := a) (e := e) (e' := lowE a.exp b.exp) (by omega) hl.1
  have e2 := valX_low (d := b) (e := e) (e' := lowE a.exp b.exp) (by omega) hl.2.1
  rw [e1, e2] at h
  have h3 := Nat.le_of_mul_le_mul_right h (Nat.pow_pos (by decide))
  unfold cmpD
  rw [ha, hb, if_neg (by simp), if_neg (by simp), if_neg (by simp)]
  unfold sgn3
  split
  · decide
  · split
    · decide
    · exact absurd h3 (by omega)
theorem cmp_zero (pl : Nat) : cmpD (absD dec0) (halfD pl) ≤ 0 :=
  cmp_le (e := -((pl : Int) + 1)) rfl rfl (by show _ ≤ (0 : Int); omega) (Int.le_refl _) (by rw [valX_abs, valX_dec0]; exact Nat.zero_le _)
/-- a difference of two numbers within half of the last digit -/
theorem diff_le {W : Nat} {ng : Bool} {E : Int} {pl n : Nat} (hE : E + (n : Int) = -(pl : Int)) (hn : 1 ≤ n) (hE2 : -90 ≤ E) (hW : 2 * W ≤ 10 ^ n) (hW2 : W < 10 ^ 20) : cmpD (absD (formD ng (natL W) E).1) (halfD pl) ≤ 0 := by
  have hlen : (trimL (natL W)).length ≤ 20 := by rw [natL_trim]; exact natL_len_pow hW2 (by decide)
  rcases form_exact (neg := ng) (exp := E) (natL_digits W) hlen (by omega) with ⟨_, h⟩ | ⟨_, x, h, _, _, _, h1, _, h2⟩
  · rw [h]; exact cmp_zero pl
  · rw [h]
    rw [natL_val] at h2
    refine cmp_le (e := E) rfl rfl h1 (by show E ≤ -((pl : Int) + 1); omega) ?_
    rw [valX_abs, h2, valX_half (by omega)]
    obtain ⟨m, rfl⟩ : ∃ m, n = m + 1 := ⟨n - 1, by omega⟩
    rw [show (-((pl : Int) + 1) - E).toNat = m by omega]
    rw [Nat.pow_succ] at hW
    omega
theorem rV_near (V n : Nat) : 2 * (V - rV V false n * 10 ^ n) ≤ 10 ^ n ∧ 2 * (rV V false n * 10 ^ n - V) ≤ 10 ^ n := by
  have hdm := Nat.div_add_mod V (10 ^ n)
  have hlt := Nat.mod_lt V (show 0 < 10 ^ n from Nat.pow_pos (by decide))
  rw [Nat.mul_comm] at hdm
  unfold rV
  obtain ⟨q, hq⟩ : ∃ q, V / 10 ^ n = q := ⟨_, rfl⟩
  obtain ⟨r, hr⟩ : ∃ r, V % 10 ^ n = r := ⟨_, rfl⟩
  obtain ⟨t, ht⟩ : ∃ t, 10 ^ n = t := ⟨_, rfl⟩
  rw [hq, hr, ht] at hdm
  rw [hr, ht] at hlt
  rw [hq, hr, ht]
  split
  · rename_i h
    rw [Nat.add_mul, Nat.one_mul]
    constructor <;> omega
  · rename_i h
    constructor <;> omega
/-- the digits that stand around the period -/
theorem fixP_digits {r : List UInt8} (h : digits r) (pl : Nat) : digits (fixP r pl) := digits_append (digits_zeros _) h
theorem fixP_val (r : List UInt8) (pl : Nat) : vD (fixP r pl) = vD r := by
  unfold fixP
  rw [vD_append, vD_zeros, Nat.zero_mul, Nat.zero_add]
theorem fixP_len (r : List UInt8) (pl : Nat) : (fixP r pl).length = max (pl + 1) r.length := by
  unfold fixP
  rw [List.length_append, zeroL_len]
  omega
theorem fixS_is (neg : Bool) (r : List UInt8) : fixS neg r = signL (neg && decide (r ≠ [48])) := by
  unfold fixS signL
  by_cases h : r = [48]
  · rw [if_neg (fun h' => h'.2 h)]; simp [h]
  · cases neg
    · simp
    · rw [if_pos ⟨rfl, h⟩]; simp [h]
theorem fixL_parts {neg : Bool} {r : List UInt8} {pl : Nat} (hr : digits r) : ∃ A P B, fixL neg r pl = signL (neg && decide (r ≠ [48])) ++ (A ++ (P ++ (B ++ []))) ∧ isNum (signL (neg && decide (r ≠ [48]))) A P B [] ∧ A ++ B = fixP r pl ∧ B.length = pl := by
  have hs := (signL_is (neg && decide (r ≠ [48]))).1
  have hP := fixP_digits hr pl
  have hl := fixP_len r pl
  unfold fixL
  rw [fixS_is]
  by_cases h0 : pl = 0
  · subst h0
    refine ⟨fixP r 0, [], [], ?_, ⟨hs, hP, digits_nil, Or.inl ⟨rfl, rfl⟩, ?_⟩, List.append_nil _, rfl⟩
    · rw [if_pos rfl]; simp
    · rw [List.append_nil]; intro e; rw [e] at hl; simp at hl; omega
  · rw [if_neg h0]
    obtain ⟨F, hF⟩ : ∃ F, fixP r pl = F := ⟨_, rfl⟩
    rw [hF] at hP hl ⊢
    refine ⟨F.take (F.length - pl), [46], F.drop (F.length - pl), ?_, ⟨hs, digits_take hP _, fun c hc => hP c (List.mem_of_mem_drop hc), Or.inr rfl, ?_⟩, List.take_append_drop _ F, ?_⟩
    · simp
    · rw [List.take_append_drop]; intro e; rw [e] at hl; simp at hl; omega
    · rw [List.length_drop]; omega
theorem fixR_digits {d : Dec} (h : decOk d = true) (b : Int) : digits (fixR d.dig b) := by
  have hd := dgB_digits (neg := d.neg) (dig := d.dig) (exp := d.exp) h
  unfold fixR
  split
  · exact digits_trim (digits_append hd (digits_zeros _))
  · unfold roundL
    split
    · intro c hc; rw [List.mem_singleton.1 hc]; decide
    · unfold finL
      split
      · rw [addL_nat (digits_trim (digits_take hd _)) digits_one]
        exact natL_digits _
      · exact digits_trim (digits_take hd _)
theorem is48 {r : List UInt8} (h : digits r) (ht : trimL r = r) : r = [48] ↔ vD r = 0 := by
  constructor
  · intro e; rw [e]; rfl
  · intro e; rw [← ht]; exact (trim_zero_iff h).2 e
/-- what reading a text with fixed digits gives -/
def readFix (d : Dec) (pl : Nat) : Dec × Int := formD (d.neg && decide (fixR d.dig (d.exp + (pl : Int)) ≠ [48])) (fixP (fixR d.dig (d.exp + (pl : Int))) pl) (0 - (pl : Int))
theorem fix_back {d : Dec} (h : decOk d = true) {pl : Nat} (hp : pl ≤ 8) (he : -12 ≤ d.exp ∧ d.exp ≤ 5) (hs : d.dig.size ≤ 12) :
    ∃ e, readFix d pl = (e, 0) ∧ decOk e = true ∧ (-d.exp ≤ (pl : Int) → e = d) ∧ cmpD (absD (subD d e).1) (halfD pl) ≤ 0 := by
  have hdig := dgB_digits (neg := d.neg) (dig := d.dig) (exp := d.exp) h
  obtain ⟨R, hR⟩ : ∃ R, fixR d.dig (d.exp + (pl : Int)) = R := ⟨_, rfl⟩
  have hRd : digits R := by rw [← hR]; exact fixR_digits h _
  have hRt : trimL R = R := by rw [← hR]; exact fixR_trim _ _
  unfold readFix
  rw [hR]
  by_cases hz : d.dig.size = 0
  · obtain rfl := dec_zero h hz
    have hR0 : vD R = 0 := by
      rw [← hR]
      unfold fixR
      split
      · rw [vD_trim, vD_shift]; exact Nat.zero_mul _
      · rename_i hn
        exact absurd (show (0 : Int) ≤ dec0.exp + (pl : Int) from by show (0 : Int) ≤ 0 + (pl : Int); omega) hn
    have hf : ∀ ng, formD ng (fixP R pl) (0 - (pl : Int)) = (dec0, 0) := fun ng => formD_zero ((trim_zero_iff (fixP_digits hRd pl)).2 (by rw [fixP_val, hR0]))
    refine ⟨dec0, hf _, h, fun _ => rfl, ?_⟩
    have hsub : subD dec0 dec0 = (dec0, 0) := by
      have e0 : negD dec0 = dec0 := by unfold negD; rw [if_pos (by rfl)]
      unfold subD addD sumF
      rw [e0, valX_dec0, if_pos rfl, formD_nil]
    rw [hsub]
    exact cmp_zero pl
  obtain ⟨c, r, hD, h48⟩ := ok_head h hz
  have hdg : dgB d.dig = d.dig := by unfold dgB; rw [if_neg hz]
  rw [hdg] at hdig
  have hnegD : negD d = ⟨!d.neg, d.dig, d.exp⟩ := by unfold negD; rw [if_neg hz]
  by_cases hby : 0 ≤ d.exp + (pl : Int)
  · obtain ⟨z, hz2⟩ : ∃ z : Nat, d.exp + (pl : Int) = (z : Int) := ⟨(d.exp + (pl : Int)).toNat, by omega⟩
    have hRe : R = d.dig.data.toList ++ zeroL z := by
      rw [← hR]
      unfold fixR
      rw [if_pos hby, hdg, hz2, Int.toNat_natCast, hD, List.cons_append, trimL_head _ h48]
    have hne : R ≠ [48] := by
      rw [hRe, hD]; intro e; rw [List.cons_append, List.cons.injEq] at e; exact h48 e.1
    have hf : formD (d.neg && decide (R ≠ [48])) (fixP R pl) (0 - (pl : Int)) = (d, 0) := by
      have := formD_back h hz (pl + 1 - R.length) z
      rw [show (0 : Int) - (pl : Int) = d.exp - (z : Int) by omega, decide_eq_true hne, Bool.and_true]
      unfold fixP
      rw [hRe] at this ⊢
      exact this
    refine ⟨d, hf, h, fun _ => rfl, ?_⟩
    have hsub : subD d d = (dec0, 0) := by
      unfold subD addD sumF
      rw [hnegD]
      simp only
      rw [if_neg (by cases d.neg <;> simp)]
      have ev : valX ⟨!d.neg, d.dig, d.exp⟩ (lowE d.exp d.exp) = valX d (lowE d.exp d.exp) := rfl
      rw [ev, if_pos (Nat.le_refl _), Nat.sub_self, formD_nil]
    rw [hsub]
    exact cmp_zero pl
  · obtain ⟨n, hn⟩ : ∃ n : Nat, -(d.exp + (pl : Int)) = (n : Int) := ⟨(-(d.exp + (pl : Int))).toNat, by omega⟩
    have hn1 : 1 ≤ n := by omega
    obtain ⟨V, hV⟩ : ∃ V, vD d.dig.data.toList = V := ⟨_, rfl⟩
    have hlenD : d.dig.data.toList.length ≤ 12 := by rw [← Lib.size_eq]; exact hs
    have hV12 : V < 10 ^ 12 := by rw [← hV]; exact Nat.lt_of_lt_of_le (vD_lt hdig) (Nat.pow_le_pow_right (by decide) hlenD)
    have hVx : valX d d.exp = V := by rw [valX_self, hdg, hV]
    -- the rounded value
    have hN : ∃ N, vD R = N ∧ 2 * (V - N * 10 ^ n) ≤ 10 ^ n ∧ 2 * (N * 10 ^ n - V) ≤ 10 ^ n ∧ N ≤ V + 1 := by
      have hRr : R = roundL d.dig.data.toList n := by
        rw [← hR]; unfold fixR; rw [if_neg hby, hdg, hn, Int.toNat_natCast]
      by_cases hsh : d.dig.data.toList.length < n
      · refine ⟨0, ?_, ?_, ?_, by omega⟩
        · rw [hRr]; unfold roundL; rw [if_pos hsh]; rfl
        · rw [Nat.zero_mul, Nat.sub_zero]
          have h1 : V < 10 ^ d.dig.data.toList.length := by rw [← hV]; exact vD_lt hdig
          have h2 : 10 ^ d.dig.data.toList.length ≤ 10 ^ (n - 1) := Nat.pow_le_pow_right (by decide) (by omega)
          obtain ⟨m, rfl⟩ : ∃ m, n = m + 1 := ⟨n - 1, by omega⟩
          rw [Nat.add_sub_cancel] at h2
          rw [Nat.pow_succ]
          omega
        · rw [Nat.zero_mul, Nat.zero_sub]; exact Nat.zero_le _
      · have hrv := roundL_val hdig hn1 (by omega)
        rw [hV] at hrv
        have hnear := rV_near V n
        refine ⟨rV V false n, by rw [hRr, hrv, natL_val], hnear.1, hnear.2, ?_⟩
        unfold rV
        have := Nat.div_le_self V (10 ^ n)
        split <;> omega
    obtain ⟨N, hNv, hN1, hN2, hN3⟩ := hN
    have hlenF : (trimL (fixP R pl)).length ≤ 20 := by
      rw [trim_nat (fixP_digits hRd pl), fixP_val, hNv]
      refine natL_len_pow (Nat.lt_of_le_of_lt hN3 ?_) (by decide)
      have : 10 ^ 12 + 1 < 10 ^ 20 := by decide
      omega
    have hsumlow : ∀ (x : Int), d.exp ≤ x → lowE d.exp x = d.exp := fun x hx => by unfold lowE; rw [if_neg (by omega)]
    have h1220 : 10 ^ 12 < 10 ^ 20 := by decide
    by_cases hN0 : N = 0
    · have hf : ∀ ng, formD ng (fixP R pl) (0 - (pl : Int)) = (dec0, 0) := fun ng => formD_zero ((trim_zero_iff (fixP_digits hRd pl)).2 (by rw [fixP_val, hNv, hN0]))
      refine ⟨dec0, hf _, by decide, fun hc => by omega, ?_⟩
      have hsub : ∃ ng, subD d dec0 = formD ng (natL V) d.exp := by
        have e0 : negD dec0 = dec0 := by unfold negD; rw [if_pos (by rfl)]
        unfold subD addD sumF
        rw [e0, hsumlow _ (by show d.exp ≤ (0 : Int); omega), valX_dec0, hVx]
        split
        · exact ⟨_, rfl⟩
        · exact ⟨d.neg, by rw [if_pos (Nat.zero_le _), Nat.sub_zero]⟩
      obtain ⟨ng, hsub⟩ := hsub
      rw [hsub]
      rw [hN0, Nat.zero_mul, Nat.sub_zero] at hN1
      exact diff_le (by omega) hn1 (by omega) hN1 (by omega)
    · have hne : R ≠ [48] := fun e => hN0 (by rw [← hNv]; exact (is48 hRd hRt).1 e)
      have hRv : vD (fixP R pl) = N := by rw [fixP_val, hNv]
      rcases form_exact (neg := d.neg && decide (R ≠ [48])) (exp := 0 - (pl : Int)) (fixP_digits hRd pl) hlenF (by omega) with ⟨h1, _⟩ | ⟨_, e, h1, h2, h3, h4, h5, h6, h7⟩
      · rw [hRv] at h1; exact absurd h1 hN0
      · rw [hRv] at h7
        rw [decide_eq_true hne, Bool.and_true] at h1 h3
        rw [decide_eq_true hne, Bool.and_true]
        refine ⟨e, h1, h2, fun hc => by omega, ?_⟩
        have hne2 : negD e = ⟨!e.neg, e.dig, e.exp⟩ := by unfold negD; rw [if_neg h4]
        have hex : d.exp ≤ e.exp := by omega
        have hXe : valX e d.exp = N * 10 ^ n := by
          rw [valX_low (d := e) (e := d.exp) (e' := 0 - (pl : Int)) (by omega) h5, h7, show (0 - (pl : Int) - d.exp).toNat = n by omega]
        have hsub : ∃ ng W, subD d e = formD ng (natL W) d.exp ∧ 2 * W ≤ 10 ^ n := by
          unfold subD addD sumF
          rw [hne2]
          simp only
          rw [hsumlow _ hex, if_neg (by rw [h3]; cases d.neg <;> simp)]
          have ev : valX ⟨!e.neg, e.dig, e.exp⟩ d.exp = valX e d.exp := rfl
          rw [ev, hXe, hVx]
          split
          · exact ⟨_, _, rfl, hN1⟩
          · exact ⟨_, _, rfl, hN2⟩
        obtain ⟨ng, W, hsub, hW⟩ := hsub
        rw [hsub]
        have hn12 : n ≤ 12 := by omega
        have hp12 : 10 ^ n ≤ 10 ^ 12 := Nat.pow_le_pow_right (by decide) hn12
        exact diff_le (by omega) hn1 (by omega) hW (by omega)
end Go.Proofs.YtomcoilmpkpoeaaGreatDoor
