/-
  What is proved here: plain laws on escapes in strings of JSON. No program in sight; no condition.
-/
import Derived.Test.YtlfkfofeenakhaaDoorJsL
import Derived.Test.YtlfkfofeenakhaaDoorTextS
namespace Go.Proofs.YtlfkfofeenakhaaDoor
open Go.RowKit
set_option linter.unusedVariables false
set_option linter.unusedSimpArgs false

def hexV (c : Nat) : Option Nat := if 48 ≤ c ∧ c ≤ 57 then some (c - 48) else if 97 ≤ c ∧ c ≤ 102 then some (c - 87) else if 65 ≤ c ∧ c ≤ 70 then some (c - 55) else none
theorem hexV_le {c d : Nat} (h : hexV c = some d) : d ≤ 15 := by
  unfold hexV at h
  split at h
  · injection h with h; omega
  · split at h
    · injection h with h; omega
    · split at h
      · injection h with h; omega
      · cases h
/-- so many hexadecimal digits: were they there, the number, the place behind them or of the fault -/
def fourG (L : List UInt8) : Nat → Nat → Nat → Bool × Nat × Nat
  | 0, p, n => (true, n, p)
  | k + 1, p, n => match hexV (gB L p) with | none => (false, 0, p) | some d => fourG L k (p + 1) (16 * n + d)
def fourP (L : List UInt8) (p : Nat) : Bool × Nat × Nat := fourG L 4 p 0
theorem fourG_in (L : List UInt8) : ∀ (k p n : Nat), p ≤ (fourG L k p n).2.2 ∧ (fourG L k p n).2.2 ≤ p + k ∧ (p ≤ L.length → (fourG L k p n).2.2 ≤ L.length) ∧ (fourG L k p n).2.1 + 1 ≤ 16 ^ k * (n + 1)
  | 0, p, n => ⟨Nat.le_refl _, Nat.le_refl _, fun h => h, by show n + 1 ≤ 16 ^ 0 * (n + 1); omega⟩
  | k + 1, p, n => by
    rw [fourG]
    have hpos : 1 ≤ 16 ^ (k + 1) * (n + 1) := Nat.mul_pos (Nat.pow_pos (by decide)) (by omega)
    cases h : hexV (gB L p) with
    | none => exact ⟨Nat.le_refl _, Nat.le_add_right _ _, fun h => h, by show 0 + 1 ≤ _; omega⟩
    | some d =>
      have hd := hexV_le h
      obtain ⟨h1, h2, h3, h4⟩ := fourG_in L k (p + 1) (16 * n + d)
      refine ⟨by show p ≤ (fourG L k (p + 1) (16 * n + d)).2.2; omega, by show (fourG L k (p + 1) (16 * n + d)).2.2 ≤ _; omega, fun hp => h3 ?_, ?_⟩
      · have : p < L.length := gB_lt (fun e => by rw [e] at h; simp [hexV] at h)
        omega
      · refine Nat.le_trans h4 ?_
        rw [Nat.pow_succ, Nat.mul_assoc]
        exact Nat.mul_le_mul_left _ (by omega)
theorem fourP_in (L : List UInt8) (p : Nat) : p ≤ (fourP L p).2.2 ∧ (fourP L p).2.2 ≤ p + 4 ∧ (p ≤ L.length → (fourP L p).2.2 ≤ L.length) ∧ (fourP L p).2.1 ≤ 65535 := by
  obtain ⟨h1, h2, h3, h4⟩ := fourG_in L 4 p 0
  exact ⟨h1, h2, h3, by show (fourG L 4 p 0).2.1 ≤ 65535; omega⟩
/-- the second of two surrogates, behind the first -/
def pairS (L : List UInt8) (n q a : Nat) : Bool × Nat × Nat :=
  if q < L.length ∧ (gB L q ≠ 92 ∨ (q + 1 < L.length ∧ gB L (q + 1) ≠ 117)) then (false, 0, a)
  else if gB L q ≠ 92 then (false, 0, q)
  else if gB L (q + 1) ≠ 117 then (false, 0, q + 1)
  else if (fourP L (q + 2)).1 = false then (false, 0, (fourP L (q + 2)).2.2)
  else if 56320 ≤ (fourP L (q + 2)).2.1 ∧ (fourP L (q + 2)).2.1 ≤ 57343 then (true, 65536 + 1024 * (n - 55296) + (fourP L (q + 2)).2.1 - 56320, (fourP L (q + 2)).2.2)
  else (false, 0, a)
def uniS (L : List UInt8) (p a : Nat) : Bool × Nat × Nat :=
  if (fourP L p).1 = false then (false, 0, (fourP L p).2.2)
  else if 55296 ≤ (fourP L p).2.1 ∧ (fourP L p).2.1 ≤ 56319 then pairS L (fourP L p).2.1 (fourP L p).2.2 a
  else if ptB ((fourP L p).2.1 : Int) = true then (true, (fourP L p).2.1, (fourP L p).2.2) else (false, 0, a)
def escV (c : Nat) : Option Nat := if c = 34 then some 34 else if c = 92 then some 92 else if c = 47 then some 47 else if c = 98 then some 8 else if c = 102 then some 12 else if c = 110 then some 10 else if c = 114 then some 13 else if c = 116 then some 9 else none
/-- what stands behind a backslash: is it right, the code point, the place behind it or of the fault -/
def escS (L : List UInt8) (p a : Nat) : Bool × Nat × Nat :=
  match escV (gB L p) with
  | some v => (true, v, p + 1)
  | none => if gB L p = 117 then uniS L (p + 1) a else if L.length < p + 1 then (false, 0, L.length) else (false, 0, a)
theorem escS_u {L : List UInt8} {p a : Nat} (h : gB L p = 117) : escS L p a = uniS L (p + 1) a := by unfold escS; rw [h]; rfl
theorem pair_pt {n m : Nat} (hn : 55296 ≤ n ∧ n ≤ 56319) (hm : 56320 ≤ m ∧ m ≤ 57343) : isPt (65536 + 1024 * (n - 55296) + m - 56320) := by
  obtain ⟨x, hx⟩ : ∃ x, 65536 + 1024 * (n - 55296) + m - 56320 = x := ⟨_, rfl⟩
  rw [hx]
  unfold isPt
  omega
theorem pairS_in (L : List UInt8) {n q a : Nat} (hn : 55296 ≤ n ∧ n ≤ 56319) (hq : q ≤ L.length) (ha : a ≤ L.length) : (pairS L n q a).2.2 ≤ L.length ∧ ((pairS L n q a).1 = true → q ≤ (pairS L n q a).2.2 ∧ isPt (pairS L n q a).2.1) := by
  unfold pairS
  split
  · exact ⟨ha, fun h => by cases h⟩
  · split
    · exact ⟨hq, fun h => by cases h⟩
    · rename_i h92
      have hq1 : q < L.length := gB_lt (fun e => by rw [e] at h92; exact h92 (by decide))
      split
      · exact ⟨by show q + 1 ≤ _; omega, fun h => by cases h⟩
      · rename_i h117
        have hq2 : q + 1 < L.length := gB_lt (fun e => by rw [e] at h117; exact h117 (by decide))
        obtain ⟨f1, f2, f3, f4⟩ := fourP_in L (q + 2)
        have f5 := f3 (by omega)
        split
        · exact ⟨f5, fun h => by cases h⟩
        · split
          · rename_i hm
            have hpp := pair_pt hn hm
            obtain ⟨x, hx⟩ : ∃ x, 65536 + 1024 * (n - 55296) + (fourP L (q + 2)).2.1 - 56320 = x := ⟨_, rfl⟩
            rw [hx] at hpp ⊢
            exact ⟨f5, fun _ => ⟨Nat.le_trans (Nat.le_add_right _ _) f1, hpp⟩⟩
          · exact ⟨ha, fun h => by cases h⟩
theorem escS_in (L : List UInt8) {p a : Nat} (hp : p ≤ L.length) (ha : a ≤ L.length) : (escS L p a).2.2 ≤ L.length ∧ ((escS L p a).1 = true → p < (escS L p a).2.2 ∧ isPt (escS L p a).2.1) := by
  unfold escS
  cases hv : escV (gB L p) with
  | some v =>
    have hlt : p < L.length := gB_lt (fun e => by rw [e] at hv; simp [escV] at hv)
    refine ⟨by show p + 1 ≤ _; omega, fun _ => ⟨by show p < p + 1; omega, ?_⟩⟩
    show isPt v
    unfold escV at hv
    repeat' split at hv
    all_goals first | (injection hv with hv; subst hv; exact ⟨by decide, by decide, by decide⟩) | cases hv
  | none =>
    dsimp only
    split
    · rename_i h117
      have hlt : p < L.length := gB_lt (fun e => by rw [e] at h117; cases h117)
      obtain ⟨f1, f2, f3, f4⟩ := fourP_in L (p + 1)
      have f5 := f3 (by omega)
      unfold uniS
      split
      · exact ⟨f5, fun h => by cases h⟩
      · split
        · rename_i hs
          have := pairS_in L hs f5 ha
          exact ⟨this.1, fun h => ⟨by have := (this.2 h).1; omega, (this.2 h).2⟩⟩
        · split
          · rename_i hpt
            exact ⟨f5, fun _ => ⟨by show p < (fourP L (p + 1)).2.2; omega, ptB_iff.1 hpt⟩⟩
          · exact ⟨ha, fun h => by cases h⟩
    · split
      · exact ⟨Nat.le_refl _, fun h => by cases h⟩
      · exact ⟨ha, fun h => by cases h⟩
end Go.Proofs.YtlfkfofeenakhaaDoor
