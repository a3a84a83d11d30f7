/-
  What is proved here: spec.DecNeg, spec.l03Sum (without its digits) and impl.decCmp. The conditions are that the numbers are sound.
-/
import Derived.Test.YthfmhenphnllfaaGreatDoorLevel
namespace Go.Proofs.YthfmhenphnllfaaGreatDoor
open Go.RowKit
set_option linter.unusedVariables false
set_option linter.unusedSimpArgs false

def negD (d : Dec) : Dec := if d.dig.size = 0 then dec0 else ⟨!d.neg, d.dig, d.exp⟩
def sumN (na nb : Bool) (X Y : Nat) : Bool := if na = nb then na else if Y ≤ X then na else nb
def sumZ (na nb : Bool) (X Y : Nat) : Bool := if na = nb then decide (X + Y = 0) else decide (X = Y)
def sumD (na nb : Bool) (X Y : Nat) : Dec := if sumZ na nb X Y = true then dec0 else ⟨sumN na nb X Y, ⟨#[49]⟩, 0⟩
/-- what a sound number's digits are -/
theorem ok_facts {d : Dec} (h : decOk d = true) : d.dig.size ≤ 20 ∧ (-200 ≤ d.exp ∧ d.exp ≤ 200) ∧ digits (dgB d.dig).data.toList ∧ ¬ d.dig.data.toList = [48] ∧ (d.dig.size = 0 → d.neg = false ∧ d.exp = 0) := by
  obtain ⟨neg, dig, exp⟩ := d
  have h1 := decOk_small h
  refine ⟨h1.1, by simp only; omega, dgB_digits h, ?_, ?_⟩
  · intro h2
    have hz : ¬ dig.size = 0 := by
      intro h3
      have : dig.data.toList.length = 0 := by rw [← Lib.size_eq]; exact h3
      have h2' : dig.data.toList = [48] := h2
      rw [h2'] at this
      exact absurd this (by decide)
    have h4 := (decOk_facts h hz).2.2.2
    rw [beq_eq_false_iff_ne, Lib.toList_data] at h4
    exact h4 h2
  · intro hz
    obtain rfl := ba_nil (s := dig) hz
    rw [decOk_nil] at h
    simpa using h
/-- the first digit of a sound number is no nought -/
theorem ok_head {d : Dec} (h : decOk d = true) (hz : ¬ d.dig.size = 0) : ∃ c r, d.dig.data.toList = c :: r ∧ ¬ c = 48 := by
  obtain ⟨neg, dig, exp⟩ := d
  have hp : 0 < dig.size := by have : ¬ dig.size = 0 := hz; omega
  rw [decOk_pos (d := ⟨neg, dig, exp⟩) hp] at h
  simp only [Bool.and_eq_true, Bool.not_eq_true', decide_eq_false_iff_not] at h
  refine ⟨dig[0], dig.data.toList.drop 1, ?_, ?_⟩
  · have := drop_get hp
    rw [List.drop_zero] at this
    exact this
  · intro h48
    have h2 := h.1.1.2
    exact h2 (by show (dig[0]'hp).toNat = 48; rw [h48]; rfl)
theorem vD_append (l r : List UInt8) : vD (l ++ r) = vD l * 10 ^ r.length + vD r := by
  have : vD (l ++ r) = valD (vD l) r := by unfold vD valD; rw [List.foldl_append]
  rw [this, valD_add]
  rfl
theorem vD_zeros : ∀ n, vD (zeroL n) = 0
  | 0 => rfl
  | n + 1 => by
    show vD (48 :: zeroL n) = 0
    rw [vD_cons, vD_zeros n]
    simp
theorem levB_list (dig : ByteArray) (n : Nat) : (levB dig n).data.toList = (dgB dig).data.toList ++ zeroL n := by
  unfold levB
  rw [ByteArray.data_append, Array.toList_append]
  rfl
theorem levB_val (dig : ByteArray) (n : Nat) : vD (levB dig n).data.toList = vD (dgB dig).data.toList * 10 ^ n := by
  rw [levB_list, vD_append, vD_zeros, zeroL_len, Nat.add_zero]
theorem shfB_val (dig : ByteArray) (n : Nat) : vD (shfB dig n).data.toList = vD (dgB dig).data.toList * 10 ^ n := by
  unfold shfB
  split
  · rename_i hz
    have e : dgB dig = ⟨#[48]⟩ := by unfold dgB; rw [if_pos hz]
    rw [e]
    have : vD (⟨#[48]⟩ : ByteArray).data.toList = 0 := rfl
    rw [this, Nat.zero_mul]
  · exact levB_val dig n
theorem digits_append_zeros {l : List UInt8} (h : digits l) (n : Nat) : digits (l ++ zeroL n) := digits_append h (digits_zeros n)
theorem shfB_trim {d : Dec} (h : decOk d = true) (n : Nat) : digits (shfB d.dig n).data.toList ∧ trimL (shfB d.dig n).data.toList = (shfB d.dig n).data.toList := by
  by_cases hz : d.dig.size = 0
  · have e : shfB d.dig n = ⟨#[48]⟩ := by unfold shfB; rw [if_pos hz]
    rw [e]
    exact ⟨by intro c hc; rw [List.mem_singleton.1 hc]; decide, rfl⟩
  · have e : shfB d.dig n = levB d.dig n := by unfold shfB levB; rw [if_neg hz]
    have hd : dgB d.dig = d.dig := by unfold dgB; rw [if_neg hz]
    have h1 := (ok_facts h).2.2.1
    obtain ⟨c, r, hc, h48⟩ := ok_head h hz
    rw [e, levB_list]
    refine ⟨digits_append_zeros h1 n, ?_⟩
    rw [hd, hc, List.cons_append, trimL_head _ h48]
theorem val_zero {d : Dec} (h : decOk d = true) : vD (dgB d.dig).data.toList = 0 ↔ d.dig.size = 0 := by
  constructor
  · intro hv
    by_cases hz : d.dig.size = 0
    · exact hz
    · exfalso
      have hd : dgB d.dig = d.dig := by unfold dgB; rw [if_neg hz]
      have h1 := (ok_facts h).2.2.1
      obtain ⟨c, r, hc, h48⟩ := ok_head h hz
      rw [hd] at hv h1
      rw [hc] at hv h1
      have := vD_pos h1 h48
      have : 0 < 10 ^ r.length := Nat.pow_pos (by decide)
      omega
  · intro hz
    have e : dgB d.dig = ⟨#[48]⟩ := by unfold dgB; rw [if_pos hz]
    rw [e]; rfl
/-- the value of a number's digits at an exponent that is not greater -/
def valX (d : Dec) (e : Int) : Nat := vD (dgB d.dig).data.toList * 10 ^ (d.exp - e).toNat
theorem valX_zero {d : Dec} (h : decOk d = true) (e : Int) : valX d e = 0 ↔ d.dig.size = 0 := by
  unfold valX
  rw [← val_zero h]
  constructor
  · intro hv
    rcases Nat.mul_eq_zero.1 hv with h1 | h1
    · exact h1
    · exfalso
      have : 0 < 10 ^ (d.exp - e).toNat := Nat.pow_pos (by decide)
      omega
  · intro hv; rw [hv, Nat.zero_mul]
def cmpD (a b : Dec) : Int :=
  if a.neg = true ∧ b.neg = true then sgn3 (valX b (lowE a.exp b.exp)) (valX a (lowE a.exp b.exp))
  else if a.neg = true then -1 else if b.neg = true then 1
  else sgn3 (valX a (lowE a.exp b.exp)) (valX b (lowE a.exp b.exp))
set_option maxHeartbeats 4000000 in
theorem implDecCmp (a b : Dec) (w : World) (ha : decOk a = true) (hb : decOk b = true) :
    Calls Tryz.prog 92 #[.agg #[.bool a.neg, .string a.dig, .int .i64 a.exp], .agg #[.bool b.neg, .string b.dig, .int .i64 b.exp]] w fun e w' => e = .returned (.int .i64 (cmpD a b)) ∧ Below w.heap.size w w' := by
  obtain ⟨a1, a2, a3, a4, a5⟩ := ok_facts ha
  obtain ⟨b1, b2, b3, b4, b5⟩ := ok_facts hb
  have CA := hid (fun (w : World) => implAligned a.neg b.neg a.dig b.dig a.exp b.exp w (by omega) (by omega) (by omega) (by omega) a4 b4)
  have hv1 := shfB_val a.dig (a.exp - lowE a.exp b.exp).toNat
  have hv2 := shfB_val b.dig (b.exp - lowE a.exp b.exp).toNat
  obtain ⟨p1, p2⟩ := shfB_trim ha (a.exp - lowE a.exp b.exp).toNat
  obtain ⟨p3, p4⟩ := shfB_trim hb (b.exp - lowE a.exp b.exp).toNat
  have hX : vD (dgB a.dig).data.toList * 10 ^ (a.exp - lowE a.exp b.exp).toNat = valX a (lowE a.exp b.exp) := rfl
  have hY : vD (dgB b.dig).data.toList * 10 ^ (b.exp - lowE a.exp b.exp).toNat = valX b (lowE a.exp b.exp) := rfl
  rw [hX] at hv1
  rw [hY] at hv2
  obtain ⟨x, hx⟩ : ∃ x, shfB a.dig (a.exp - lowE a.exp b.exp).toNat = x := ⟨_, rfl⟩
  obtain ⟨y, hy⟩ : ∃ y, shfB b.dig (b.exp - lowE a.exp b.exp).toNat = y := ⟨_, rfl⟩
  rw [hx] at CA hv1 p1 p2
  rw [hy] at CA hv2 p3 p4
  have CXY := hid (fun (w : World) => implNatCmp x y w p1 p3 p2 p4)
  have CYX := hid (fun (w : World) => implNatCmp y x w p3 p1 p4 p2)
  rw [hv1, hv2] at CXY CYX
  obtain ⟨R, hR⟩ : ∃ r, cmpD a b = r := ⟨_, rfl⟩
  rw [hR]
  unfold cmpD at hR
  obtain ⟨na, da, ea⟩ := a
  obtain ⟨nb, db, eb⟩ := b
  dsimp only at *
  clear hv1 hv2 p1 p2 p3 p4 hX hY hx hy a1 a2 a3 a4 a5 b1 b2 b3 b4 b5 ha hb
  cases na
  · cases nb
    · have HR := hid hR.symm
      rw [if_neg (by simp), if_neg (by decide), if_neg (by decide)] at HR
      clear hR
      go_enter Tryz.func92, Tryz.ntmps92
      go_wp2_with fail
      refine (CA.out _).mono ?_
      rintro e w1 ⟨rfl, hb1⟩
      obtain ⟨hc1, hf1⟩ := bcell hb1
      have hbw : Below w.heap.size w w1 := ext_trans (ext_trans (ext_alloc _ _) (ext_alloc _ _)) hb1
      have s0 : w1.cell? ⟨w.heap.size, 0, none⟩ = some (.bool false) := (hc1 _ _ (by first | (simp; done) | (simp; omega))).trans (by go_simp)
      have s1 : w1.cell? ⟨w.heap.size, 1, none⟩ = some (.string da) := (hc1 _ _ (by first | (simp; done) | (simp; omega))).trans (by go_simp)
      have s2 : w1.cell? ⟨w.heap.size, 2, none⟩ = some (.int .i64 ea) := (hc1 _ _ (by first | (simp; done) | (simp; omega))).trans (by go_simp)
      have s3 : w1.cell? ⟨w.heap.size + 1, 0, none⟩ = some (.bool false) := (hc1 _ _ (by first | (simp; done) | (simp; omega))).trans (by go_simp)
      have s4 : w1.cell? ⟨w.heap.size + 1, 1, none⟩ = some (.string db) := (hc1 _ _ (by first | (simp; done) | (simp; omega))).trans (by go_simp)
      have s5 : w1.cell? ⟨w.heap.size + 1, 2, none⟩ = some (.int .i64 eb) := (hc1 _ _ (by first | (simp; done) | (simp; omega))).trans (by go_simp)
      clear hc1 hf1
      go_wp2_with fail
      refine (CXY.out _).mono ?_
      rintro e w2 ⟨rfl, hb2⟩
      go_wp2
      go_ret
      rw [HR.out]
      exact ⟨rfl, ext_trans hbw hb2⟩
    · have HR := hid hR.symm
      rw [if_neg (by simp), if_neg (by decide), if_pos rfl] at HR
      clear hR
      go_enter Tryz.func92, Tryz.ntmps92
      go_wp2_with fail
      refine (CA.out _).mono ?_
      rintro e w1 ⟨rfl, hb1⟩
      obtain ⟨hc1, hf1⟩ := bcell hb1
      have hbw : Below w.heap.size w w1 := ext_trans (ext_trans (ext_alloc _ _) (ext_alloc _ _)) hb1
      have s0 : w1.cell? ⟨w.heap.size, 0, none⟩ = some (.bool false) := (hc1 _ _ (by first | (simp; done) | (simp; omega))).trans (by go_simp)
      have s1 : w1.cell? ⟨w.heap.size, 1, none⟩ = some (.string da) := (hc1 _ _ (by first | (simp; done) | (simp; omega))).trans (by go_simp)
      have s2 : w1.cell? ⟨w.heap.size, 2, none⟩ = some (.int .i64 ea) := (hc1 _ _ (by first | (simp; done) | (simp; omega))).trans (by go_simp)
      have s3 : w1.cell? ⟨w.heap.size + 1, 0, none⟩ = some (.bool true) := (hc1 _ _ (by first | (simp; done) | (simp; omega))).trans (by go_simp)
      have s4 : w1.cell? ⟨w.heap.size + 1, 1, none⟩ = some (.string db) := (hc1 _ _ (by first | (simp; done) | (simp; omega))).trans (by go_simp)
      have s5 : w1.cell? ⟨w.heap.size + 1, 2, none⟩ = some (.int .i64 eb) := (hc1 _ _ (by first | (simp; done) | (simp; omega))).trans (by go_simp)
      clear hc1 hf1
      go_wp2
      go_ret
      rw [HR.out]
      exact ⟨rfl, hbw⟩
  · cases nb
    · have HR := hid hR.symm
      rw [if_neg (by simp), if_pos rfl] at HR
      clear hR
      go_enter Tryz.func92, Tryz.ntmps92
      go_wp2_with fail
      refine (CA.out _).mono ?_
      rintro e w1 ⟨rfl, hb1⟩
      obtain ⟨hc1, hf1⟩ := bcell hb1
      have hbw : Below w.heap.size w w1 := ext_trans (ext_trans (ext_alloc _ _) (ext_alloc _ _)) hb1
      have s0 : w1.cell? ⟨w.heap.size, 0, none⟩ = some (.bool true) := (hc1 _ _ (by first | (simp; done) | (simp; omega))).trans (by go_simp)
      have s1 : w1.cell? ⟨w.heap.size, 1, none⟩ = some (.string da) := (hc1 _ _ (by first | (simp; done) | (simp; omega))).trans (by go_simp)
      have s2 : w1.cell? ⟨w.heap.size, 2, none⟩ = some (.int .i64 ea) := (hc1 _ _ (by first | (simp; done) | (simp; omega))).trans (by go_simp)
      have s3 : w1.cell? ⟨w.heap.size + 1, 0, none⟩ = some (.bool false) := (hc1 _ _ (by first | (simp; done) | (simp; omega))).trans (by go_simp)
      have s4 : w1.cell? ⟨w.heap.size + 1, 1, none⟩ = some (.string db) := (hc1 _ _ (by first | (simp; done) | (simp; omega))).trans (by go_simp)
      have s5 : w1.cell? ⟨w.heap.size + 1, 2, none⟩ = some (.int .i64 eb) := (hc1 _ _ (by first | (simp; done) | (simp; omega))).trans (by go_simp)
      clear hc1 hf1
      go_wp2
      go_ret
      rw [HR.out]
      exact ⟨rfl, hbw⟩
    · have HR := hid hR.symm
      rw [if_pos (by simp)] at HR
      clear hR
      go_enter Tryz.func92, Tryz.ntmps92
      go_wp2_with fail
      refine (CA.out _).mono ?_
      rintro e w1 ⟨rfl, hb1⟩
      obtain ⟨hc1, hf1⟩ := bcell hb1
      have hbw : Below w.heap.size w w1 := ext_trans (ext_trans (ext_alloc _ _) (ext_alloc _ _)) hb1
      have s0 : w1.cell? ⟨w.heap.size, 0, none⟩ = some (.bool true) := (hc1 _ _ (by first | (simp; done) | (simp; omega))).trans (by go_simp)
      have s1 : w1.cell? ⟨w.heap.size, 1, none⟩ = some (.string da) := (hc1 _ _ (by first | (simp; done) | (simp; omega))).trans (by go_simp)
      have s2 : w1.cell? ⟨w.heap.size, 2, none⟩ = some (.int .i64 ea) := (hc1 _ _ (by first | (simp; done) | (simp; omega))).trans (by go_simp)
      have s3 : w1.cell? ⟨w.heap.size + 1, 0, none⟩ = some (.bool true) := (hc1 _ _ (by first | (simp; done) | (simp; omega))).trans (by go_simp)
      have s4 : w1.cell? ⟨w.heap.size + 1, 1, none⟩ = some (.string db) := (hc1 _ _ (by first | (simp; done) | (simp; omega))).trans (by go_simp)
      have s5 : w1.cell? ⟨w.heap.size + 1, 2, none⟩ = some (.int .i64 eb) := (hc1 _ _ (by first | (simp; done) | (simp; omega))).trans (by go_simp)
      clear hc1 hf1
      go_wp2_with fail
      refine (CYX.out _).mono ?_
      rintro e w2 ⟨rfl, hb2⟩
      go_wp2
      go_ret
      rw [HR.out]
      exact ⟨rfl, ext_trans hbw hb2⟩
def decCode (d : Dec) : Int := if d.dig.size = 0 then 0 else if d.neg = true then -1 else 1
theorem negD_same {b : Dec} (hb : decOk b = true) : (negD b).exp = b.exp ∧ (negD b).dig.size = b.dig.size ∧ (negD b).dig = b.dig := by
  unfold negD
  split
  · rename_i h
    have := (ok_facts hb).2.2.2.2 h
    exact ⟨this.2.symm, h.symm, (ba_nil h).symm⟩
  · exact ⟨rfl, rfl, rfl⟩
theorem code_zero : decCode dec0 = 0 := rfl
theorem code_one (n : Bool) : decCode ⟨n, ⟨#[49]⟩, 0⟩ = if n = true then -1 else 1 := rfl
theorem spec_cmp {a b : Dec} (ha : decOk a = true) (hb : decOk b = true) :
    decCode (sumD a.neg (negD b).neg (valX a (lowE a.exp b.exp)) (valX b (lowE a.exp b.exp))) = cmpD a b := by
  have hX := valX_zero ha (lowE a.exp b.exp)
  have hY := valX_zero hb (lowE a.exp b.exp)
  have h1 := (ok_facts ha).2.2.2.2
  have h2 := (ok_facts hb).2.2.2.2
  have hn : (negD b).neg = if b.dig.size = 0 then false else !b.neg := by
    unfold negD
    split <;> rfl
  rw [hn]
  unfold cmpD
  obtain ⟨X, hXe⟩ : ∃ X, valX a (lowE a.exp b.exp) = X := ⟨_, rfl⟩
  obtain ⟨Y, hYe⟩ : ∃ Y, valX b (lowE a.exp b.exp) = Y := ⟨_, rfl⟩
  rw [hXe] at hX ⊢
  rw [hYe] at hY ⊢
  obtain ⟨na, da, ea⟩ := a
  obtain ⟨nb, db, eb⟩ := b
  dsimp only at *
  unfold sumD sumZ sumN sgn3
  by_cases hb0 : db.size = 0
  · have hY0 : Y = 0 := hY.2 hb0
    obtain ⟨rfl, _⟩ := h2 hb0
    rw [if_pos hb0, hY0]
    cases na
    · simp only [if_true, Nat.add_zero, decide_eq_true_eq]
      by_cases hX0 : X = 0
      · rw [if_pos hX0, code_zero]; simp [hX0]
      · rw [if_neg hX0, code_one]; simp [hX0]
    · have ha0 : ¬ da.size = 0 := fun h => by have := (h1 h).1; cases this
      have hX0 : ¬ X = 0 := fun h => ha0 (hX.1 h)
      simp [hX0, code_one]
  · have hY0 : ¬ Y = 0 := fun h => hb0 (hY.1 h)
    rw [if_neg hb0]
    cases na
    · cases nb
      · simp only [Bool.not_false, Bool.false_eq_true, if_false, decide_eq_true_eq]
        by_cases hXY : X = Y
        · rw [if_pos hXY, code_zero]; simp [hXY]
        · rw [if_neg hXY, code_one]
          by_cases hle : Y ≤ X
          · have : ¬ X < Y := by omega
            simp [hle, this, hXY]
          · have : X < Y := by omega
            simp [hle, this]
      · simp [hY0, code_one]
    · have ha0 : ¬ da.size = 0 := fun h => by have := (h1 h).1; cases this
      have hX0 : ¬ X = 0 := fun h => ha0 (hX.1 h)
      cases nb
      · simp [hX0, code_one]
      · simp only [Bool.not_true, Bool.true_eq_false, if_false, decide_eq_true_eq]
        by_cases hXY : X = Y
        · rw [if_pos hXY, code_zero]; simp [hXY]
        · rw [if_neg hXY, code_one]
          by_cases hle : Y ≤ X
          · have h3 : Y < X := by omega
            simp [hle, h3]
          · have h3 : ¬ Y < X := by omega
            have h4 : ¬ Y = X := fun h => hXY h.symm
            simp [hle, h3, h4]
set_option maxHeartbeats 4000000 in
theorem specNegD (b : Dec) (w : World) (hb : decOk b = true) :
    Calls Tryz.prog 69 #[.agg #[.bool b.neg, .string b.dig, .int .i64 b.exp]] w fun e w' => e = .returned (.agg #[.bool (negD b).neg, .string (negD b).dig, .int .i64 (negD b).exp]) ∧ Below w.heap.size w w' := by
  obtain ⟨b1, b2, b3, b4, b5⟩ := ok_facts hb
  have CO : Hid (∀ w, Calls Tryz.prog 67 #[.agg #[.bool b.neg, .string b.dig, .int .i64 b.exp]] w fun e w' => e = .returned (.bool true) ∧ Below w.heap.size w w') := hid (fun w => by
    have h := specDecOk (d := b) (cs := #[.bool b.neg, .string b.dig, .int .i64 b.exp]) w (by exact rdDec_mk (x := b) (by omega) (by omega))
    rw [hb] at h
    exact h)
  obtain ⟨nb, db, eb⟩ := b
  dsimp only at *
  by_cases hz : db.size = 0
  · have HR := hid (show negD ⟨nb, db, eb⟩ = dec0 by unfold negD; rw [if_pos hz])
    have g1 : (db.toList == []) = true := by rw [ba_nil hz, Lib.toList_data]; rfl
    have g2 : db.toList.isEmpty = true := by rw [empty_size, decide_eq_true hz]
    clear hz b5 b4 b3
    go_enter Tryz.func69, Tryz.ntmps69
    go_wp2_with fail
    refine (CO.out _).mono ?_
    rintro e w1 ⟨rfl, hb1⟩
    obtain ⟨hc1, hf1⟩ := bcell hb1
    have hbw : Below w.heap.size w w1 := ext_trans (ext_trans (ext_alloc _ _) (ext_alloc _ _)) hb1
    have hl1 : w.heap.size + 1 < w1.heap.size := by have := hb1.size; (try simp at this); omega
    have s0 : w1.cell? ⟨w.heap.size, 0, none⟩ = some (.bool nb) := (hc1 _ _ (by first | (simp; done) | (simp; omega))).trans (by go_simp)
    have s1 : w1.cell? ⟨w.heap.size, 1, none⟩ = some (.string db) := (hc1 _ _ (by first | (simp; done) | (simp; omega))).trans (by go_simp)
    have s2 : w1.cell? ⟨w.heap.size, 2, none⟩ = some (.int .i64 eb) := (hc1 _ _ (by first | (simp; done) | (simp; omega))).trans (by go_simp)
    have t0 : w1.cell? ⟨w.heap.size + 1, 0, none⟩ = some (.bool false) := (hc1 _ _ (by first | (simp; done) | (simp; omega))).trans (by go_simp)
    have t1 : w1.cell? ⟨w.heap.size + 1, 1, none⟩ = some (.string ⟨#[]⟩) := (hc1 _ _ (by first | (simp; done) | (simp; omega))).trans (by go_simp)
    have t2 : w1.cell? ⟨w.heap.size + 1, 2, none⟩ = some (.int .i64 0) := (hc1 _ _ (by first | (simp; done) | (simp; omega))).trans (by go_simp)
    have r0 : w1.frozen? ⟨w.heap.size + 1, 0, none⟩ = false := (hf1 _ _ (by first | (simp; done) | (simp; omega))).trans (by go_simp)
    have r1 : w1.frozen? ⟨w.heap.size + 1, 1, none⟩ = false := (hf1 _ _ (by first | (simp; done) | (simp; omega))).trans (by go_simp)
    have r2 : w1.frozen? ⟨w.heap.size + 1, 2, none⟩ = false := (hf1 _ _ (by first | (simp; done) | (simp; omega))).trans (by go_simp)
    clear hc1 hf1
    go_wp2
    refine bodyPost_ret (v := .agg #[.bool false, .string ⟨#[]⟩, .int .i64 0]) (by simp [results, Tryz.results69, go_sem, hl1, t0, t1, t2, r0, r1, r2]) rfl ⟨by rw [HR.out]; rfl, ?_⟩
    repeat' (first | (with_reducible exact hbw) | (with_reducible refine Below.setCell ?_ ?_ _) | (simp; done) | (simp; omega) | omega)
  · have HR := hid (show negD ⟨nb, db, eb⟩ = ⟨!nb, db, eb⟩ by unfold negD; rw [if_neg hz])
    have g1 : (db.toList == []) = false := ba_nil_beq hz
    have g2 : db.toList.isEmpty = false := by rw [empty_size, decide_eq_false hz]
    clear hz b5 b4 b3
    go_enter Tryz.func69, Tryz.ntmps69
    go_wp2_with fail
    refine (CO.out _).mono ?_
    rintro e w1 ⟨rfl, hb1⟩
    obtain ⟨hc1, hf1⟩ := bcell hb1
    have hbw : Below w.heap.size w w1 := ext_trans (ext_trans (ext_alloc _ _) (ext_alloc _ _)) hb1
    have hl1 : w.heap.size + 1 < w1.heap.size := by have := hb1.size; (try simp at this); omega
    have s0 : w1.cell? ⟨w.heap.size, 0, none⟩ = some (.bool nb) := (hc1 _ _ (by first | (simp; done) | (simp; omega))).trans (by go_simp)
    have s1 : w1.cell? ⟨w.heap.size, 1, none⟩ = some (.string db) := (hc1 _ _ (by first | (simp; done) | (simp; omega))).trans (by go_simp)
    have s2 : w1.cell? ⟨w.heap.size, 2, none⟩ = some (.int .i64 eb) := (hc1 _ _ (by first | (simp; done) | (simp; omega))).trans (by go_simp)
    have t0 : w1.cell? ⟨w.heap.size + 1, 0, none⟩ = some (.bool false) := (hc1 _ _ (by first | (simp; done) | (simp; omega))).trans (by go_simp)
    have t1 : w1.cell? ⟨w.heap.size + 1, 1, none⟩ = some (.string ⟨#[]⟩) := (hc1 _ _ (by first | (simp; done) | (simp; omega))).trans (by go_simp)
    have t2 : w1.cell? ⟨w.heap.size + 1, 2, none⟩ = some (.int .i64 0) := (hc1 _ _ (by first | (simp; done) | (simp; omega))).trans (by go_simp)
    have r0 : w1.frozen? ⟨w.heap.size + 1, 0, none⟩ = false := (hf1 _ _ (by first | (simp; done) | (simp; omega))).trans (by go_simp)
    have r1 : w1.frozen? ⟨w.heap.size + 1, 1, none⟩ = false := (hf1 _ _ (by first | (simp; done) | (simp; omega))).trans (by go_simp)
    have r2 : w1.frozen? ⟨w.heap.size + 1, 2, none⟩ = false := (hf1 _ _ (by first | (simp; done) | (simp; omega))).trans (by go_simp)
    clear hc1 hf1
    go_wp2
    refine bodyPost_ret (v := .agg #[.bool (!nb), .string db, .int .i64 eb]) (by simp [results, Tryz.results69, go_sem, hl1, t0, t1, t2, r0, r1, r2]) rfl ⟨by rw [HR.out], ?_⟩
    repeat' (first | (with_reducible exact hbw) | (with_reducible refine Below.setCell ?_ ?_ _) | (simp; done) | (simp; omega) | omega)
end Go.Proofs.YthfmhenphnllfaaGreatDoor
