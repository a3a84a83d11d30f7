/-
  What is proved here: plain facts on the text of a number: how far it goes, and its parts. No condition.
-/
import Derived.Test.YtommldonooicjaaDoorRound
import Derived.Test.YtommldonooicjaaDoorValOk
namespace Go.Proofs.YtommldonooicjaaDoor
open Go.RowKit
set_option linter.unusedVariables false
set_option linter.unusedSimpArgs false

def isBlkN (c : Nat) : Bool := c == 32 || c == 9 || c == 10 || c == 13
def isBlk (c : UInt8) : Bool := isBlkN c.toNat
def startL (l : List UInt8) : Nat := (l.takeWhile isBlk).length
def isSg (c : UInt8) : Bool := decide (c.toNat = 43 ∨ c.toNat = 45)
def isEx (c : UInt8) : Bool := decide (c.toNat = 101 ∨ c.toNat = 69)
/-- 1 if the first byte is of the kind, otherwise 0 -/
def hd1 (p : UInt8 → Bool) : List UInt8 → Nat
  | [] => 0
  | c :: _ => if p c then 1 else 0
theorem hd1_cons (p : UInt8 → Bool) (c : UInt8) (r : List UInt8) : hd1 p (c :: r) = if p c then 1 else 0 := rfl
def dgs (l : List UInt8) : Nat := (l.takeWhile isDig).length
theorem dgs_nil : dgs [] = 0 := rfl
theorem dgs_cons (c : UInt8) (r : List UInt8) : dgs (c :: r) = if isDig c then dgs r + 1 else 0 := by
  unfold dgs
  rw [List.takeWhile_cons]
  split <;> rfl
theorem dgs_le (l : List UInt8) : dgs l ≤ l.length := (List.takeWhile_sublist _).length_le
theorem startL_nil : startL [] = 0 := rfl
theorem startL_cons (c : UInt8) (r : List UInt8) : startL (c :: r) = if isBlk c then startL r + 1 else 0 := by
  unfold startL
  rw [List.takeWhile_cons]
  split <;> rfl
theorem startL_le (l : List UInt8) : startL l ≤ l.length := (List.takeWhile_sublist _).length_le
theorem hd1_le (p : UInt8 → Bool) : ∀ l : List UInt8, hd1 p l ≤ 1 ∧ hd1 p l ≤ l.length
  | [] => ⟨Nat.zero_le _, Nat.zero_le _⟩
  | c :: r => by rw [hd1_cons]; split <;> simp
/-- digits with at most one period: how many bytes, how many digits -/
def mant : Bool → List UInt8 → Nat × Nat
  | _, [] => (0, 0)
  | pt, c :: r => if isDig c then ((mant pt r).1 + 1, (mant pt r).2 + 1) else if c.toNat = 46 ∧ pt = false then ((mant true r).1 + 1, (mant true r).2) else (0, 0)
theorem mant_nil (pt : Bool) : mant pt [] = (0, 0) := by unfold mant; rfl
theorem mant_dig {pt : Bool} {c : UInt8} {r : List UInt8} (h : isDig c = true) : mant pt (c :: r) = ((mant pt r).1 + 1, (mant pt r).2 + 1) := by rw [mant, if_pos h]
theorem mant_pt {c : UInt8} {r : List UInt8} (h : c.toNat = 46) : mant false (c :: r) = ((mant true r).1 + 1, (mant true r).2) := by
  have : isDig c = false := by unfold isDig; rw [decide_eq_false_iff_not]; omega
  rw [mant, this, if_neg (by decide), if_pos ⟨h, rfl⟩]
theorem mant_no {pt : Bool} {c : UInt8} {r : List UInt8} (h : isDig c = false) (h2 : ¬ (c.toNat = 46 ∧ pt = false)) : mant pt (c :: r) = (0, 0) := by rw [mant, h, if_neg (by decide), if_neg h2]
theorem mant_le : ∀ (pt : Bool) (l : List UInt8), (mant pt l).1 ≤ l.length ∧ (mant pt l).2 ≤ (mant pt l).1
  | pt, [] => by rw [mant_nil]; exact ⟨Nat.le_refl _, Nat.le_refl _⟩
  | pt, c :: r => by
    have h1 := mant_le pt r
    have h2 := mant_le true r
    by_cases h : isDig c = true
    · rw [mant_dig h]; simp only [List.length_cons]; omega
    · have hf : isDig c = false := by simpa using h
      by_cases hp : c.toNat = 46 ∧ pt = false
      · obtain ⟨hp, rfl⟩ := hp
        rw [mant_pt hp]; simp only [List.length_cons]; omega
      · rw [mant_no hf hp]; exact ⟨Nat.zero_le _, Nat.le_refl _⟩
theorem mant_true : ∀ l : List UInt8, mant true l = (dgs l, dgs l)
  | [] => mant_nil _
  | c :: r => by
    by_cases h : isDig c = true
    · rw [mant_dig h, mant_true r, dgs_cons, if_pos h]
    · have hf : isDig c = false := by simpa using h
      rw [mant_no hf (by simp), dgs_cons, if_neg h]
theorem mant_false : ∀ l : List UInt8, mant false l = (match l.drop (dgs l) with | [] => (dgs l, dgs l) | c :: r => if c.toNat = 46 then (dgs l + 1 + dgs r, dgs l + dgs r) else (dgs l, dgs l))
  | [] => mant_nil _
  | c :: r => by
    by_cases h : isDig c = true
    · rw [mant_dig h, mant_false r, dgs_cons, if_pos h, List.drop_succ_cons]
      cases hd : r.drop (dgs r) with
      | nil => rfl
      | cons x y =>
        dsimp only
        by_cases hx : x.toNat = 46
        · rw [if_pos hx, if_pos hx]; ext <;> dsimp only <;> omega
        · rw [if_neg hx, if_neg hx]
    · have hf : isDig c = false := by simpa using h
      rw [dgs_cons, if_neg h]
      show mant false (c :: r) = if c.toNat = 46 then (0 + 1 + dgs r, 0 + dgs r) else (0, 0)
      by_cases hp : c.toNat = 46
      · rw [mant_pt hp, mant_true, if_pos hp]; ext <;> dsimp only <;> omega
      · rw [mant_no hf (fun h' => hp h'.1), if_neg hp]
/-- the exponent's part, or 0 -/
def expL : List UInt8 → Nat
  | [] => 0
  | c :: r => if isEx c = true ∧ 0 < dgs (r.drop (hd1 isSg r)) then 1 + hd1 isSg r + dgs (r.drop (hd1 isSg r)) else 0
theorem expL_cons (c : UInt8) (r : List UInt8) : expL (c :: r) = if isEx c = true ∧ 0 < dgs (r.drop (hd1 isSg r)) then 1 + hd1 isSg r + dgs (r.drop (hd1 isSg r)) else 0 := rfl
def scanL (l : List UInt8) : Nat :=
  if (mant false (l.drop (hd1 isSg l))).2 = 0 then 0
  else hd1 isSg l + (mant false (l.drop (hd1 isSg l))).1 + expL (l.drop (hd1 isSg l + (mant false (l.drop (hd1 isSg l))).1))
theorem expL_le (l : List UInt8) : expL l ≤ l.length := by
  cases l with
  | nil => exact Nat.le_refl _
  | cons c r =>
    unfold expL
    have h1 := hd1_le isSg r
    have h2 := dgs_le (r.drop (hd1 isSg r))
    rw [List.length_drop] at h2
    simp only [List.length_cons]
    split <;> omega
theorem scanL_le (l : List UInt8) : scanL l ≤ l.length := by
  unfold scanL
  split
  · exact Nat.zero_le _
  · have h1 := hd1_le isSg l
    have h2 := (mant_le false (l.drop (hd1 isSg l))).1
    have h3 := expL_le (l.drop (hd1 isSg l + (mant false (l.drop (hd1 isSg l))).1))
    rw [List.length_drop] at h2 h3
    omega

/-- the text of a number by its parts: sign, digits, period, digits, exponent -/
def isNum (sg A P B X : List UInt8) : Prop :=
  (sg = [] ∨ sg = [43] ∨ sg = [45]) ∧ digits A ∧ digits B ∧ (P = [] ∧ B = [] ∨ P = [46]) ∧ A ++ B ≠ []
def isExp (X : List UInt8) (x : Int) : Prop :=
  (X = [] ∧ x = 0) ∨ ∃ (e : UInt8) (sg C : List UInt8), X = e :: (sg ++ C) ∧ isEx e = true ∧ (sg = [] ∨ sg = [43] ∨ sg = [45]) ∧ digits C ∧ C ≠ [] ∧
    x = if sg = [45] then -((min 9999 (C.foldl (fun n c => 10 * n + (c.toNat - 48)) 0) : Nat) : Int) else ((min 9999 (C.foldl (fun n c => 10 * n + (c.toNat - 48)) 0) : Nat) : Int)
theorem byte_eq {c : UInt8} {n : Nat} (h : c.toNat = n) (hn : n < 256) : c = UInt8.ofNat n := (ofNat_of h).symm
theorem sign_parts : ∀ l : List UInt8, ∃ sg r, l = sg ++ r ∧ sg.length = hd1 isSg l ∧ (sg = [] ∨ sg = [43] ∨ sg = [45])
  | [] => ⟨[], [], rfl, rfl, Or.inl rfl⟩
  | c :: r => by
    by_cases h : isSg c = true
    · refine ⟨[c], r, rfl, by rw [hd1_cons, if_pos h]; rfl, Or.inr ?_⟩
      unfold isSg at h
      rw [decide_eq_true_eq] at h
      rcases h with h | h
      · exact Or.inl (by rw [byte_eq h (by decide)]; rfl)
      · exact Or.inr (by rw [byte_eq h (by decide)]; rfl)
    · exact ⟨[], c :: r, rfl, by rw [hd1_cons, if_neg h]; rfl, Or.inl rfl⟩
theorem digits_nil : digits [] := fun c h => absurd h (by simp)
theorem digits_cons {c : UInt8} {l : List UInt8} (h : isDig c = true) (hl : digits l) : digits (c :: l) := by
  intro d hd
  rcases List.mem_cons.1 hd with rfl | hd
  · exact isDig_iff.1 h
  · exact hl d hd
theorem dgs_parts : ∀ l : List UInt8, ∃ C r, l = C ++ r ∧ C.length = dgs l ∧ digits C
  | [] => ⟨[], [], rfl, rfl, digits_nil⟩
  | c :: r => by
    by_cases h : isDig c = true
    · obtain ⟨C, t, e, hl, hd⟩ := dgs_parts r
      exact ⟨c :: C, t, by rw [e]; rfl, by rw [dgs_cons, if_pos h, List.length_cons, hl], digits_cons h hd⟩
    · exact ⟨[], c :: r, rfl, by rw [dgs_cons, if_neg h]; rfl, digits_nil⟩
theorem mant_parts : ∀ l : List UInt8, ∃ A P B r, l = A ++ (P ++ (B ++ r)) ∧ (mant false l).1 = A.length + P.length + B.length ∧ (mant false l).2 = A.length + B.length ∧ digits A ∧ digits B ∧ (P = [] ∧ B = [] ∨ P = [46])
  | [] => ⟨[], [], [], [], rfl, by rw [mant_nil]; rfl, by rw [mant_nil]; rfl, digits_nil, digits_nil, Or.inl ⟨rfl, rfl⟩⟩
  | c :: r => by
    by_cases h : isDig c = true
    · obtain ⟨A, P, B, t, e, h1, h2, h3, h4, h5⟩ := mant_parts r
      refine ⟨c :: A, P, B, t, by rw [e]; rfl, ?_, ?_, digits_cons h h3, h4, h5⟩
      · rw [mant_dig h, h1]; simp only [List.length_cons]; omega
      · rw [mant_dig h, h2]; simp only [List.length_cons]; omega
    · have hf : isDig c = false := by simpa using h
      by_cases hp : c.toNat = 46
      · obtain ⟨B, t, e, hl, hd⟩ := dgs_parts r
        refine ⟨[], [46], B, t, ?_, ?_, ?_, digits_nil, hd, Or.inr rfl⟩
        · rw [byte_eq hp (by decide), e]; rfl
        · rw [mant_pt hp, mant_true, hl]; simp only [List.length_nil, List.length_cons]; omega
        · rw [mant_pt hp, mant_true, hl]; simp only [List.length_nil]; omega
      · exact ⟨[], [], [], c :: r, rfl, by rw [mant_no hf (fun h' => hp h'.1)]; rfl, by rw [mant_no hf (fun h' => hp h'.1)]; rfl, digits_nil, digits_nil, Or.inl ⟨rfl, rfl⟩⟩
theorem exp_parts (l : List UInt8) : ∃ X r x, l = X ++ r ∧ X.length = expL l ∧ isExp X x := by
  cases l with
  | nil => exact ⟨[], [], 0, rfl, rfl, Or.inl ⟨rfl, rfl⟩⟩
  | cons c r =>
    by_cases h : isEx c = true ∧ 0 < dgs (r.drop (hd1 isSg r))
    · obtain ⟨sg, t, e1, hl1, hs⟩ := sign_parts r
      have ht : r.drop (hd1 isSg r) = t := by rw [← hl1, e1, List.drop_left]
      obtain ⟨C, u, e2, hl2, hd⟩ := dgs_parts t
      refine ⟨c :: (sg ++ C), u, _, ?_, ?_, Or.inr ⟨c, sg, C, rfl, h.1, hs, hd, ?_, rfl⟩⟩
      · rw [e1, e2]; simp
      · rw [expL_cons, if_pos h, ht, ← hl1, ← hl2]; simp; omega
      · rintro rfl
        rw [ht, ← hl2] at h
        exact absurd h.2 (by decide)
    · exact ⟨[], c :: r, 0, rfl, by rw [expL_cons, if_neg h]; rfl, Or.inl ⟨rfl, rfl⟩⟩
/-- what is scanned has the parts of a number -/
theorem scan_parts {l : List UInt8} (h : ¬ scanL l = 0) : ∃ sg A P B X x, l.take (scanL l) = sg ++ (A ++ (P ++ (B ++ X))) ∧ isNum sg A P B X ∧ isExp X x ∧ (A ++ B).length ≤ l.length := by
  obtain ⟨sg, r, e1, hl1, hs⟩ := sign_parts l
  have hr : l.drop (hd1 isSg l) = r := by rw [← hl1, e1, List.drop_left]
  obtain ⟨A, P, B, t, e2, m1, m2, hA, hB, hP⟩ := mant_parts r
  obtain ⟨X, u, x, e3, hl3, hX⟩ := exp_parts t
  have ht : l.drop (hd1 isSg l + (mant false r).1) = t := by
    rw [← List.drop_drop, hr, m1, e2, show A ++ (P ++ (B ++ t)) = (A ++ P ++ B) ++ t by simp]
    rw [List.drop_left' (by simp only [List.length_append])]
  have hs0 : scanL l = if (mant false r).2 = 0 then 0 else hd1 isSg l + (mant false r).1 + expL t := by unfold scanL; rw [hr, ht]
  by_cases hz : (mant false r).2 = 0
  · rw [hs0, if_pos hz] at h; exact absurd rfl h
  rw [if_neg hz] at hs0
  refine ⟨sg, A, P, B, X, x, ?_, ⟨hs, hA, hB, hP, ?_⟩, hX, ?_⟩
  · rw [hs0, ← hl1, m1, ← hl3, e1, e2, e3]
    rw [show sg ++ (A ++ (P ++ (B ++ (X ++ u)))) = (sg ++ (A ++ (P ++ (B ++ X)))) ++ u by simp]
    exact List.take_left' (by simp only [List.length_append]; omega)
  · intro h'
    have := congrArg List.length h'
    rw [List.length_append, ← m2] at this
    exact hz this
  · rw [e1, e2]; simp only [List.length_append]; omega

/-- reading the digits up to the exponent -/
def rdL : Bool → List UInt8 → Nat → List UInt8 → List UInt8 × Nat × List UInt8
  | _, D, n, [] => (D, n, [])
  | b, D, n, c :: r => if isEx c then (D, n, c :: r) else if c.toNat = 46 then rdL true D n r else rdL b (D ++ [c]) (if b then n + 1 else n) r
theorem dig_not {c : UInt8} (h : 48 ≤ c.toNat ∧ c.toNat ≤ 57) : isEx c = false ∧ ¬ c.toNat = 46 := by
  refine ⟨?_, by omega⟩
  unfold isEx
  rw [decide_eq_false_iff_not]
  omega
theorem rdL_digits : ∀ (A : List UInt8) (b : Bool) (D : List UInt8) (n : Nat) (r : List UInt8), digits A → rdL b D n (A ++ r) = rdL b (D ++ A) (if b then n + A.length else n) r
  | [], b, D, n, r, _ => by cases b <;> simp
  | c :: A, b, D, n, r, h => by
    obtain ⟨h1, h2⟩ := dig_not (h c (by simp))
    rw [List.cons_append, rdL, h1, if_neg (by decide), if_neg h2, rdL_digits A _ _ _ _ (fun d hd => h d (by simp [hd])), List.append_assoc]
    cases b
    · simp
    · simp only [if_true, List.length_cons, List.singleton_append]
      rw [show n + 1 + A.length = n + (A.length + 1) by omega]
theorem isExp_head {X : List UInt8} {x : Int} (h : isExp X x) : X = [] ∨ ∃ e r, X = e :: r ∧ isEx e = true := by
  rcases h with ⟨h, _⟩ | ⟨e, sg, C, h, he, _⟩
  · exact Or.inl h
  · exact Or.inr ⟨e, sg ++ C, h, he⟩
theorem rdL_stop {X : List UInt8} {x : Int} (h : isExp X x) (b : Bool) (D : List UInt8) (n : Nat) : rdL b D n X = (D, n, X) := by
  rcases isExp_head h with rfl | ⟨e, r, rfl, he⟩
  · cases b <;> rfl
  · rw [rdL, if_pos he]
theorem rdL_num {sg A P B X : List UInt8} {x : Int} (h : isNum sg A P B X) (hX : isExp X x) : rdL false [] 0 (A ++ (P ++ (B ++ X))) = (A ++ B, B.length, X) := by
  obtain ⟨_, hA, hB, hP, _⟩ := h
  rw [rdL_digits A _ _ _ _ hA]
  rcases hP with ⟨rfl, rfl⟩ | rfl
  · simp only [List.nil_append]
    rw [rdL_stop hX]; simp
  · have e1 : isEx 46 = false := by decide
    rw [show ([46] : List UInt8) ++ (B ++ X) = 46 :: (B ++ X) from rfl, rdL, e1, if_neg (by decide), if_pos (by decide), rdL_digits B _ _ _ _ hB, rdL_stop hX]
    simp
/-- the exponent's digits, never beyond five -/
def capN : Nat → Bool → List UInt8 → Nat × Bool
  | n, m, [] => (n, m)
  | n, m, c :: r => capN (if isDig c = true ∧ n < 10000 then 10 * n + (c.toNat - 48) else n) (m || decide (c.toNat = 45)) r
def valD (n : Nat) (C : List UInt8) : Nat := C.foldl (fun n c => 10 * n + (c.toNat - 48)) n
theorem valD_cons (n : Nat) (c : UInt8) (C : List UInt8) : valD n (c :: C) = valD (10 * n + (c.toNat - 48)) C := by unfold valD; rw [List.foldl_cons]
theorem valD_ge : ∀ (C : List UInt8) (n : Nat), n ≤ valD n C
  | [], n => Nat.le_refl _
  | c :: C, n => by rw [valD_cons]; have := valD_ge C (10 * n + (c.toNat - 48)); omega
theorem capN_digits : ∀ (C : List UInt8) (n k : Nat) (m : Bool), digits C → n < 100010 → (n = k ∨ 10000 ≤ n ∧ 10000 ≤ k) → (capN n m C).2 = m ∧ min 9999 (capN n m C).1 = min 9999 (valD k C) ∧ (capN n m C).1 < 100010
  | [], n, k, m, _, hn, h => by
    rw [capN, show valD k [] = k from rfl]
    exact ⟨rfl, by simp only; omega, hn⟩
  | c :: C, n, k, m, hC, hn, h => by
    have hc := hC c (by simp)
    have h45 : decide (c.toNat = 45) = false := by rw [decide_eq_false_iff_not]; omega
    have hcd : isDig c = true := isDig_iff.2 hc
    rw [valD_cons, capN, h45, Bool.or_false]
    by_cases hlt : n < 10000
    · rw [if_pos ⟨hcd, hlt⟩]
      exact capN_digits C _ _ m (fun d hd => hC d (by simp [hd])) (by omega) (by omega)
    · rw [if_neg (fun h' => hlt h'.2)]
      exact capN_digits C _ _ m (fun d hd => hC d (by simp [hd])) (by omega) (by omega)
/-- what the exponent's loop gives -/
theorem capN_exp {e : UInt8} {sg C : List UInt8} {x : Int} (hs : sg = [] ∨ sg = [43] ∨ sg = [45]) (hC : digits C) (hx : x = if sg = [45] then -((min 9999 (valD 0 C) : Nat) : Int) else ((min 9999 (valD 0 C) : Nat) : Int)) :
    ∃ n, (capN 0 false (sg ++ C)).1 = n ∧ n < 100010 ∧ x = if (capN 0 false (sg ++ C)).2 = true then -((min 9999 n : Nat) : Int) else ((min 9999 n : Nat) : Int) := by
  refine ⟨_, rfl, ?_⟩
  rcases hs with rfl | rfl | rfl
  · obtain ⟨h1, h2, h3⟩ := capN_digits C 0 0 false hC (by decide) (Or.inl rfl)
    rw [List.nil_append, h1, h2, hx, if_neg (by decide), if_neg (by decide)]
    exact ⟨h3, rfl⟩
  · have e1 : capN 0 false ([43] ++ C) = capN 0 false C := by rw [List.cons_append, List.nil_append, capN]; rfl
    obtain ⟨h1, h2, h3⟩ := capN_digits C 0 0 false hC (by decide) (Or.inl rfl)
    rw [e1, h1, h2, hx, if_neg (by decide), if_neg (by decide)]
    exact ⟨h3, rfl⟩
  · have e1 : capN 0 false ([45] ++ C) = capN 0 true C := by rw [List.cons_append, List.nil_append, capN]; rfl
    obtain ⟨h1, h2, h3⟩ := capN_digits C 0 0 true hC (by decide) (Or.inl rfl)
    rw [e1, h1, h2, hx, if_pos rfl, if_pos rfl]
    exact ⟨h3, rfl⟩
theorem valD_add : ∀ (C : List UInt8) (n : Nat), valD n C = n * 10 ^ C.length + valD 0 C
  | [], n => by simp [valD]
  | c :: C, n => by
    rw [valD_cons, valD_add C, valD_cons, valD_add C (10 * 0 + (c.toNat - 48)), List.length_cons, Nat.pow_succ, Nat.add_mul]
    rw [Nat.mul_comm (10 ^ C.length) 10, ← Nat.mul_assoc, Nat.mul_comm n 10, Nat.mul_zero, Nat.zero_add]
    omega
theorem valD_lt : ∀ (C : List UInt8), digits C → valD 0 C < 10 ^ C.length
  | [], _ => by decide
  | c :: C, h => by
    have hc := h c (by simp)
    have ih := valD_lt C (fun d hd => h d (by simp [hd]))
    rw [valD_cons, valD_add, List.length_cons, Nat.pow_succ, Nat.mul_zero, Nat.zero_add]
    have : (c.toNat - 48) * 10 ^ C.length ≤ 9 * 10 ^ C.length := Nat.mul_le_mul_right _ (by omega)
    omega
theorem valD_trim : ∀ (C : List UInt8), valD 0 (trimL C) = valD 0 C
  | [] => rfl
  | c :: C => by
    by_cases h : c = 48
    · rw [h, trimL_zero, valD_trim C]; rfl
    · rw [trimL_head C h]
theorem trimL_cases (C : List UInt8) : trimL C = [48] ∨ ∃ c r, trimL C = c :: r ∧ ¬ c = 48 := by
  induction C with
  | nil => exact Or.inl rfl
  | cons c C ih =>
    by_cases h : c = 48
    · rw [h, trimL_zero]; exact ih
    · rw [trimL_head C h]; exact Or.inr ⟨c, C, rfl, h⟩
theorem valD_long {C : List UInt8} (hC : digits C) (h : 4 < (trimL C).length) : 9999 ≤ valD 0 C := by
  rcases trimL_cases C with h1 | ⟨c, r, h1, h48⟩
  · rw [h1] at h; exact absurd h (by decide)
  · rw [← valD_trim, h1, valD_cons, valD_add]
    have hc : 48 ≤ c.toNat ∧ c.toNat ≤ 57 := digits_trim hC c (by rw [h1]; simp)
    have hn : ¬ c.toNat = 48 := fun h' => h48 (toNat_eq_48.1 h')
    rw [h1, List.length_cons] at h
    have h2 : 10 ^ 4 ≤ 10 ^ r.length := Nat.pow_le_pow_right (by decide) (by omega)
    have h3 : 1 * 10 ^ r.length ≤ (10 * 0 + (c.toNat - 48)) * 10 ^ r.length := Nat.mul_le_mul_right _ (by omega)
    omega
theorem valD_short {C : List UInt8} (hC : digits C) (h : (trimL C).length ≤ 4) : valD 0 C ≤ 9999 := by
  have h1 := valD_lt (trimL C) (digits_trim hC)
  have h2 : 10 ^ (trimL C).length ≤ 10 ^ 4 := Nat.pow_le_pow_right (by decide) h
  rw [valD_trim] at h1
  omega

/-- the digits behind which only noughts follow -/
def stripL (l : List UInt8) : List UInt8 := (l.reverse.dropWhile (· == 48)).reverse
theorem stripL_zero (l : List UInt8) : stripL (l ++ [48]) = stripL l := by
  unfold stripL
  rw [List.reverse_append]
  rfl
theorem stripL_other (l : List UInt8) {c : UInt8} (h : ¬ c = 48) : stripL (l ++ [c]) = l ++ [c] := by
  unfold stripL
  rw [List.reverse_append]
  show (List.dropWhile (· == 48) (c :: l.reverse)).reverse = _
  rw [List.dropWhile_cons_of_neg (by simpa using h)]
  simp
theorem stripL_len (l : List UInt8) : (stripL l).length ≤ l.length := by
  unfold stripL
  rw [List.length_reverse]
  have := (List.dropWhile_sublist (l := l.reverse) (· == 48)).length_le
  rw [List.length_reverse] at this
  exact this
theorem dropWhile_nil : ∀ {l : List UInt8}, l.dropWhile (· == 48) = [] → ∀ c ∈ l, c = 48
  | [], _, c, h => absurd h (by simp)
  | x :: r, h, c, hc => by
    by_cases hx : x = 48
    · rw [hx, List.dropWhile_cons_of_pos (by rfl)] at h
      rcases List.mem_cons.1 hc with rfl | hc
      · exact hx
      · exact dropWhile_nil h c hc
    · rw [List.dropWhile_cons_of_neg (by simpa using hx)] at h
      cases h
theorem stripL_ne {l : List UInt8} (h : ∃ c ∈ l, ¬ c = 48) : stripL l ≠ [] := by
  unfold stripL
  intro h'
  rw [List.reverse_eq_nil_iff] at h'
  obtain ⟨c, hc, hn⟩ := h
  exact hn (dropWhile_nil h' c (List.mem_reverse.2 hc))
/-- the digits of a number, rounded to twenty, and its exponent -/
def cutL (T : List UInt8) : List UInt8 := if 20 < T.length then roundL T (T.length - 20) else T
def formD (neg : Bool) (D : List UInt8) (exp : Int) : Dec × Int :=
  if trimL D = [48] then (dec0, 0)
  else
    let R := cutL (trimL D)
    let S := stripL R
    let e : Int := exp + ((trimL D).length - 20 : Nat) + ((R.length : Int) - (S.length : Int))
    if 99 < e + (S.length : Int) - 1 then (dec0, 1) else if e + (S.length : Int) - 1 < -99 then (dec0, 0) else (⟨neg, mkB S, e⟩, 0)
theorem outA_mem (a b : List UInt8) : ∀ (n k : Nat), k < n → UInt8.ofNat (48 + smA a b k % 10) ∈ outA a b n
  | 0, k, h => absurd h (by omega)
  | n + 1, k, h => by
    rw [outA]
    by_cases hk : k = n
    · rw [hk]; exact List.mem_cons_self
    · exact List.mem_cons_of_mem _ (outA_mem a b n k (by omega))
theorem trimL_mem {l : List UInt8} {c : UInt8} (h : c ∈ l) (hn : ¬ c = 48) : c ∈ trimL l := by
  induction l with
  | nil => exact absurd h (by simp)
  | cons x r ih =>
    by_cases hx : x = 48
    · rw [hx, trimL_zero]
      rcases List.mem_cons.1 h with rfl | h
      · exact absurd hx hn
      · exact ih h
    · rw [trimL_head r hx]; exact h
theorem ofNat_48 {n : Nat} (h : n < 10) (h0 : ¬ n = 0) : ¬ UInt8.ofNat (48 + n) = 48 := by
  intro h'
  have := congrArg UInt8.toNat h'
  rw [ofNat_toNat (by omega)] at this
  have e : (48 : UInt8).toNat = 48 := rfl
  omega
/-- a sum whose first summand has a digit that is no nought has one -/
theorem addL_ne {q : List UInt8} (hq : digits q) (h : ∃ k, k < q.length ∧ ¬ dgA q k = 0) : ∃ c ∈ addL q [49], ¬ c = 48 := by
  obtain ⟨k, hk, hd⟩ := h
  have hd9 := dgA_le hq k
  have d49 := dgA_le digits_one k
  have hc := cyA_le hq digits_one k
  -- the first place that is no nought in q: either its sum is no nought, or it carries
  suffices h : ∃ j, j < max q.length 1 + 1 ∧ ¬ smA q [49] j % 10 = 0 by
    obtain ⟨j, hj, hs⟩ := h
    refine ⟨_, trimL_mem (outA_mem q [49] (max q.length [49].length + 1) j hj) ?_, ?_⟩ <;> exact ofNat_48 (Nat.mod_lt _ (by decide)) hs
  -- walk up from k
  have up : ∀ m j, j + m = q.length → ¬ smA q [49] j = 0 → ∃ j, j < max q.length 1 + 1 ∧ ¬ smA q [49] j % 10 = 0 := by
    intro m
    induction m with
    | zero =>
      intro j hj hs
      by_cases h0 : smA q [49] j % 10 = 0
      · exfalso
        have hc := cyA_le hq digits_one j
        have e : smA q [49] j = dgA q j + dgA [49] j + cyA q [49] j := rfl
        rw [dgA_far (l := q) (by omega), dgA_far (l := [49]) (by simp; omega)] at e
        omega
      · exact ⟨j, by omega, h0⟩
    | succ m ih =>
      intro j hj hs
      by_cases h0 : smA q [49] j % 10 = 0
      · refine ih (j + 1) (by omega) ?_
        have e : smA q [49] (j + 1) = dgA q (j + 1) + dgA [49] (j + 1) + cyA q [49] (j + 1) := rfl
        rw [cyA_succ] at e
        omega
      · exact ⟨j, by omega, h0⟩
  refine up (q.length - k) k (by omega) ?_
  unfold smA
  omega
theorem cutL_ne {D : List UInt8} (hD : digits D) (h : ¬ trimL D = [48]) : ∃ c ∈ cutL (trimL D), ¬ c = 48 := by
  rcases trimL_cases D with h1 | ⟨c, r, h1, h48⟩
  · exact absurd h1 h
  rw [h1]
  have hdg : digits (c :: r) := by rw [← h1]; exact digits_trim hD
  unfold cutL
  split
  · rename_i hl
    unfold roundL
    rw [if_neg (by omega)]
    have e20 : (c :: r).length - ((c :: r).length - 20) = 19 + 1 := by omega
    rw [e20, List.take_succ_cons, trimL_head _ h48]
    have hq : digits (c :: r.take 19) := digits_take hdg 20
    unfold finL
    split
    · refine addL_ne hq ⟨19, by simp only [List.length_cons, List.length_take] at hl ⊢; omega, ?_⟩
      have hlen : (c :: r.take 19).length = 20 := by simp only [List.length_cons, List.length_take] at hl ⊢; omega
      unfold dgA
      rw [List.getElem?_reverse (by omega), hlen]
      show ¬ c.toNat - 48 = 0
      have := hdg c (by simp)
      have : ¬ c.toNat = 48 := fun h' => h48 (toNat_eq_48.1 h')
      omega
    · exact ⟨c, by simp, h48⟩
  · exact ⟨c, by simp, h48⟩
theorem addL_len (a b : List UInt8) : (addL a b).length ≤ max a.length b.length + 2 := by
  unfold addL
  have h := (trimL_len (outA a b (max a.length b.length + 1))).1
  rw [outA_len] at h
  omega
theorem roundL_len {l : List UInt8} {n : Nat} : (roundL l n).length ≤ l.length + 3 := by
  unfold roundL
  split
  · simp
  · unfold finL
    have h1 := (trimL_len (l.take (l.length - n))).1
    rw [List.length_take] at h1
    split
    · have h2 := addL_len (trimL (l.take (l.length - n))) [49]
      rw [show ([49] : List UInt8).length = 1 from rfl] at h2
      omega
    · omega
theorem digits_add (a b : List UInt8) : digits (addL a b) := by
  unfold addL
  apply digits_trim
  generalize max a.length b.length + 1 = n
  induction n with
  | zero => exact digits_nil
  | succ n ih =>
    rw [outA]
    refine digits_cons ?_ ih
    rw [isDig_iff, ofNat_toNat (by have := Nat.mod_lt (smA a b n) (show 10 > 0 by decide); omega)]
    have := Nat.mod_lt (smA a b n) (show 10 > 0 by decide)
    omega
theorem digits_round {l : List UInt8} (h : digits l) (n : Nat) : digits (roundL l n) := by
  unfold roundL
  split
  · intro c hc; rw [List.mem_singleton.1 hc]; decide
  · unfold finL
    split
    · exact digits_add _ _
    · exact digits_trim (digits_take h _)
end Go.Proofs.YtommldonooicjaaDoor
