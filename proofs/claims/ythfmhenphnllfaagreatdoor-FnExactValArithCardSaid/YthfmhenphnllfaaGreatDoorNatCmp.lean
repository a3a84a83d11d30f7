/-
  What is proved here: impl.natCmp (with cmp.Compare and cmp.Or at int) compares two rows of digits that have no leading noughts. No condition else.
-/
import Derived.Test.YthfmhenphnllfaaGreatDoorSub
namespace Go.Proofs.YthfmhenphnllfaaGreatDoor
open Go.RowKit
set_option linter.unusedVariables false
set_option linter.unusedSimpArgs false

theorem cmp_same : ∀ {a b : List UInt8}, digits a → digits b → a.length = b.length → Lib.compareBytes a b = sgn3 (vD a) (vD b)
  | [], [], _, _, _ => rfl
  | [], _ :: _, _, _, h => by simp at h
  | _ :: _, [], _, _, h => by simp at h
  | x :: a, y :: b, ha, hb, h => by
    have hl : a.length = b.length := by simpa using h
    have hx := ha x (by simp)
    have hy := hb y (by simp)
    have ha' : digits a := fun c hc => ha c (by simp [hc])
    have hb' : digits b := fun c hc => hb c (by simp [hc])
    have ih := cmp_same ha' hb' hl
    have h1 := vD_lt ha'
    have h2 := vD_lt hb'
    rw [hl] at h1
    rw [Lib.compareBytes]
    unfold sgn3 at ih ⊢
    rw [vD_cons, vD_cons, hl]
    by_cases hlt : x < y
    · have hn : x.toNat < y.toNat := hlt
      have : (x.toNat - 48 + 1) * 10 ^ b.length ≤ (y.toNat - 48) * 10 ^ b.length := Nat.mul_le_mul_right _ (by omega)
      rw [Nat.add_mul, Nat.one_mul] at this
      rw [if_pos hlt, if_pos (by omega)]
    · rw [if_neg hlt]
      by_cases hgt : y < x
      · have hn : y.toNat < x.toNat := hgt
        have : (y.toNat - 48 + 1) * 10 ^ b.length ≤ (x.toNat - 48) * 10 ^ b.length := Nat.mul_le_mul_right _ (by omega)
        rw [Nat.add_mul, Nat.one_mul] at this
        rw [if_pos hgt, if_neg (by omega), if_neg (by omega)]
      · have h3 : ¬ x.toNat < y.toNat := hlt
        have h4 : ¬ y.toNat < x.toNat := hgt
        have e : x.toNat = y.toNat := by omega
        rw [if_neg hgt, ih, e]
        simp only [Nat.add_lt_add_iff_left, Nat.add_left_cancel_iff]
/-- rows without leading noughts: the longer one is the greater -/
theorem cmp_nat {a b : List UInt8} (ha : digits a) (hb : digits b) (hta : trimL a = a) (htb : trimL b = b) :
    sgn3 (vD a) (vD b) = if a.length < b.length then -1 else if b.length < a.length then 1 else Lib.compareBytes a b := by
  by_cases h1 : a.length < b.length
  · have := trim_short ha hb (by rw [hta, htb]; exact h1)
    rw [if_pos h1]
    unfold sgn3
    rw [if_pos this]
  · by_cases h2 : b.length < a.length
    · have := trim_short hb ha (by rw [hta, htb]; exact h2)
      rw [if_neg h1, if_pos h2]
      unfold sgn3
      rw [if_neg (by omega), if_neg (by omega)]
    · rw [if_neg h1, if_neg h2, cmp_same ha hb (by omega)]
theorem isNaNInt (a : Int) (w : World) : Calls Tryz.prog 206 #[.int .i64 a] w fun e w' => e = .returned (.bool false) ∧ w = w' := by
  go_enter Tryz.func206, Tryz.ntmps206
  go_wp2
  go_ret
  exact ⟨end_bool (by simp), rfl⟩
theorem cmpInt (a b : Int) (w : World) : Calls Tryz.prog 168 #[.int .i64 a, .int .i64 b] w fun e w' => e = .returned (.int .i64 (if a < b then -1 else if b < a then 1 else 0)) ∧ w = w' := by
  have CN := hid (fun (a : Int) (w : World) => isNaNInt a w)
  by_cases h1 : a < b
  · have HR := hid (show (if a < b then (-1 : Int) else if b < a then 1 else 0) = -1 by rw [if_pos h1])
    go_enter Tryz.func168, Tryz.ntmps168
    go_wp2_with (go_at_call 206; refine (CN.out _ _).mono ?_; rintro e w1 ⟨rfl, rfl⟩)
    go_ret
    first | (rw [HR.out]; exact ⟨rfl, rfl⟩) | exact ⟨rfl, rfl⟩ | exact ⟨rfl, by first | rfl | trivial⟩
  · by_cases h2 : b < a
    · have HR := hid (show (if a < b then (-1 : Int) else if b < a then 1 else 0) = 1 by rw [if_neg h1, if_pos h2])
      go_enter Tryz.func168, Tryz.ntmps168
      go_wp2_with (go_at_call 206; refine (CN.out _ _).mono ?_; rintro e w1 ⟨rfl, rfl⟩)
      go_ret
      first | (rw [HR.out]; exact ⟨rfl, rfl⟩) | exact ⟨rfl, rfl⟩ | exact ⟨rfl, by first | rfl | trivial⟩
    · have HR := hid (show (if a < b then (-1 : Int) else if b < a then 1 else 0) = 0 by rw [if_neg h1, if_neg h2])
      go_enter Tryz.func168, Tryz.ntmps168
      go_wp2_with (go_at_call 206; refine (CN.out _ _).mono ?_; rintro e w1 ⟨rfl, rfl⟩)
      go_ret
      first | (rw [HR.out]; exact ⟨rfl, rfl⟩) | exact ⟨rfl, rfl⟩ | exact ⟨rfl, by first | rfl | trivial⟩
set_option maxHeartbeats 1000000 in
theorem orInt (a b : Int) (g cap : Nat) (w : World) (h0 : w.cell? ⟨g, 0, none⟩ = some (.int .i64 a)) (h1 : w.cell? ⟨g, 1, none⟩ = some (.int .i64 b)) :
    Calls Tryz.prog 41 #[.slice (some ⟨g, 0, none⟩) 2 cap] w fun e w' => e = .returned (.int .i64 (if a = 0 then b else a)) ∧ w = w' := by
  obtain ⟨R, hR⟩ : ∃ r, (if a = 0 then b else a) = r := ⟨_, rfl⟩
  rw [hR]
  have HR := hid hR
  clear hR
  go_enter Tryz.func41, Tryz.ntmps41
  go_wp2
  go_loopw [8] (fun k wr => ∃ n : Nat, n ≤ 2 ∧ k = .int .i64 (n : Int) ∧ Hid (1 ≤ n → a = 0) ∧ Hid (n = 2 → b = 0) ∧ w = wr) (fun k _ => 2 - (intOf k).toNat)
  case atStart => exact ⟨0, by decide, rfl, hid (fun h => absurd h (by decide)), hid (fun h => absurd h (by decide)), rfl⟩
  case round =>
    obtain ⟨n, hn, rfl, HA, HB, rfl⟩ := hrel
    by_cases hn0 : n = 0
    · subst hn0
      by_cases ha : a = 0
      · have HA0 := hid ha
        have ga : (a != 0) = false := by rw [ha]; rfl
        clear ha
        go_wp2
        go_roundw
        case rel => exact ⟨1, by decide, rfl, hid (fun _ => HA0.out), hid (fun h => absurd h (by decide)), by first | rfl | trivial⟩
        case measure => decide
      · have ga : (a != 0) = true := by rw [bne_iff_ne]; exact ha
        have HRR := hid (show R = a by rw [← HR.out, if_neg ha])
        clear ha
        go_wp2
        go_ret
        rw [HRR.out]
        exact ⟨rfl, by first | rfl | trivial⟩
    · by_cases hn1 : n = 1
      · subst hn1
        have ha := HA.out (Nat.le_refl _)
        by_cases hb : b = 0
        · have HB0 := hid hb
          have gb : (b != 0) = false := by rw [hb]; rfl
          have HA2 := hid ha
          clear hb ha
          go_wp2
          go_roundw
          case rel => exact ⟨2, by decide, rfl, hid (fun _ => HA2.out), hid (fun _ => HB0.out), by first | rfl | trivial⟩
          case measure => decide
        · have gb : (b != 0) = true := by rw [bne_iff_ne]; exact hb
          have HRR := hid (show R = b by rw [← HR.out, if_pos ha])
          clear hb ha
          go_wp2
          go_ret
          rw [HRR.out]
          exact ⟨rfl, by first | rfl | trivial⟩
      · obtain rfl : n = 2 := by omega
        have HRR := hid (show R = 0 by rw [← HR.out, if_pos (HA.out (by decide))]; exact HB.out rfl)
        clear HA HB
        go_wp2
        go_ret
        rw [HRR.out]
        exact ⟨rfl, by first | rfl | trivial⟩
set_option maxHeartbeats 2000000 in
theorem implNatCmp (a b : ByteArray) (w : World) (ha : digits a.data.toList) (hb : digits b.data.toList) (hta : trimL a.data.toList = a.data.toList) (htb : trimL b.data.toList = b.data.toList) :
    Calls Tryz.prog 130 #[.string a, .string b] w fun e w' => e = .returned (.int .i64 (sgn3 (vD a.data.toList) (vD b.data.toList))) ∧ Below w.heap.size w w' := by
  have hcn := cmp_nat ha hb hta htb
  rw [← Lib.size_eq, ← Lib.size_eq] at hcn
  obtain ⟨R, hR⟩ : ∃ r, sgn3 (vD a.data.toList) (vD b.data.toList) = r := ⟨_, rfl⟩
  rw [hR] at hcn ⊢
  obtain ⟨cb, hcb⟩ : ∃ c, Lib.compareBytes a.data.toList b.data.toList = c := ⟨_, rfl⟩
  have CS := hid (fun (w : World) => Tryz.strings_Compare a b w)
  rw [hcb] at CS hcn
  obtain ⟨cl, hcl⟩ : ∃ c : Int, (if (a.size : Int) < (b.size : Int) then (-1 : Int) else if (b.size : Int) < (a.size : Int) then 1 else 0) = c := ⟨_, rfl⟩
  have CC := hid (fun (w : World) => cmpInt (a.size : Int) (b.size : Int) w)
  rw [hcl] at CC
  have HR2 := hid (show (if cl = 0 then cb else cl) = R by
    by_cases h1 : a.size < b.size
    · have e : cl = -1 := by rw [← hcl, if_pos (show (a.size : Int) < (b.size : Int) by omega)]
      rw [hcn, if_pos h1, e, if_neg (by decide)]
    · by_cases h2 : b.size < a.size
      · have e : cl = 1 := by rw [← hcl, if_neg (show ¬ (a.size : Int) < (b.size : Int) by omega), if_pos (show (b.size : Int) < (a.size : Int) by omega)]
        rw [hcn, if_neg h1, if_pos h2, e, if_neg (by decide)]
      · have e : cl = 0 := by rw [← hcl, if_neg (show ¬ (a.size : Int) < (b.size : Int) by omega), if_neg (show ¬ (b.size : Int) < (a.size : Int) by omega)]
        rw [hcn, if_neg h1, if_neg h2, if_pos e])
  have CO := hid (fun (g cap : Nat) (w : World) (h0 : w.cell? ⟨g, 0, none⟩ = some (.int .i64 cl)) (h1 : w.cell? ⟨g, 1, none⟩ = some (.int .i64 cb)) => orInt cl cb g cap w h0 h1)
  rw [HR2.out] at CO
  clear hcn hR hcb hcl ha hb hta htb
  go_enter Tryz.func130, Tryz.ntmps130
  go_wp2_with fail
  refine (CC.out _).mono ?_
  rintro e w1 ⟨rfl, rfl⟩
  go_wp2_with fail
  refine (CS.out _).mono ?_
  rintro e w1 ⟨rfl, rfl⟩
  go_wp2_with fail
  refine (CO.out _ _ _ (by go_simp) (by go_simp)).mono ?_
  rintro e w2 ⟨rfl, rfl⟩
  go_wp2
  go_ret
  exact ⟨rfl, ext_alloc _ _⟩
end Go.Proofs.YthfmhenphnllfaaGreatDoor
