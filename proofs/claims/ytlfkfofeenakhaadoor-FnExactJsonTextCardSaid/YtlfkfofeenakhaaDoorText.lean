/-
  What is proved here: plain laws on texts as lists of bytes: the code point at the head ('next'), the code points of a text ('runes?'), UTF-8's own decoder of the model beside them. No program in sight; no condition.
-/
import Derived.Lib.MapLaws
import Derived.Lib.ValidU
import Derived.Lib.TrimUEq
import Derived.Lib.Strings
namespace Go.Proofs.YtlfkfofeenakhaaDoor
open Go.Lib

/-- The code point at the head of a text and its width; (0, 0) of none. -/
def next (l : List UInt8) : Nat × Nat := if decodeL l = (65533, 1) ∨ (decodeL l).1 = 0 then (0, 0) else decodeL l

def runesGo : Nat → List UInt8 → Option (List Nat)
  | 0, l => if l = [] then some [] else none
  | n + 1, l => if l = [] then some [] else if (next l).2 = 0 then none else (runesGo n (l.drop (next l).2)).map ((next l).1 :: ·)
def runesAll (l : List UInt8) : Option (List Nat) := runesGo l.length l
def runes? (l : List UInt8) : Option (List Nat) := if l.length ≤ 1000 then runesAll l else none
def textOk (l : List UInt8) : Bool := (runes? l).isSome

theorem decodeL_pos (l : List UInt8) : 1 ≤ (decodeL l).2 := by
  rw [decodeL_N]
  rcases decodeN_shape l.length (l.getD 0 0).toNat (l.getD 1 0).toNat (l.getD 2 0).toNat (l.getD 3 0).toNat with ⟨_, e⟩ | ⟨_, _, _, _, e⟩ | ⟨_, _, _, _, _, _, e⟩ | ⟨_, _, _, _, _, _, _, e⟩ | e
  all_goals (rw [e]; dsimp only; omega)
/-- the four shapes of a code point, or none -/
theorem next_shape (l : List UInt8) :
    ((l.getD 0 0).toNat < 128 ∧ (l.getD 0 0).toNat ≠ 0 ∧ next l = ((l.getD 0 0).toNat, 1)) ∨
    (∃ c, next l = (c, 2) ∧ 128 ≤ c ∧ c < 2048 ∧ 1 < l.length ∧ (l.getD 0 0).toNat = 192 + c / 64 ∧ (l.getD 1 0).toNat = 128 + c % 64) ∨
    (∃ c, next l = (c, 3) ∧ 2048 ≤ c ∧ c < 65536 ∧ (c < 55296 ∨ 57344 ≤ c) ∧ 2 < l.length ∧ (l.getD 0 0).toNat = 224 + c / 4096 ∧ (l.getD 1 0).toNat = 128 + c / 64 % 64 ∧ (l.getD 2 0).toNat = 128 + c % 64) ∨
    (∃ c, next l = (c, 4) ∧ 65536 ≤ c ∧ c ≤ 1114111 ∧ 3 < l.length ∧ (l.getD 0 0).toNat = 240 + c / 262144 ∧ (l.getD 1 0).toNat = 128 + c / 4096 % 64 ∧ (l.getD 2 0).toNat = 128 + c / 64 % 64 ∧ (l.getD 3 0).toNat = 128 + c % 64) ∨
    next l = (0, 0) := by
  have h0 : (l.getD 0 0).toNat < 256 := (l.getD 0 0).toNat_lt
  have h1 : (l.getD 1 0).toNat < 256 := (l.getD 1 0).toNat_lt
  have h2 : (l.getD 2 0).toNat < 256 := (l.getD 2 0).toNat_lt
  have h3 : (l.getD 3 0).toNat < 256 := (l.getD 3 0).toNat_lt
  unfold next
  rw [decodeL_N]
  rcases decodeN_shape l.length (l.getD 0 0).toNat (l.getD 1 0).toNat (l.getD 2 0).toNat (l.getD 3 0).toNat with ⟨_, e⟩ | ⟨_, _, _, _, e⟩ | ⟨_, _, _, _, _, _, e⟩ | ⟨_, _, _, _, _, _, _, e⟩ | e
  · rw [e]
    by_cases hz : (l.getD 0 0).toNat = 0
    · right; right; right; right
      rw [hz]
      simp
    · left
      refine ⟨by omega, hz, ?_⟩
      rw [if_neg]
      simp only [Prod.mk.injEq, not_or]
      omega
  · rw [e]
    right; left
    refine ⟨_, if_neg ?_, by omega, by omega, by omega, by omega, by omega⟩
    simp only [Prod.mk.injEq, not_or]
    omega
  · rw [e]
    right; right; left
    refine ⟨_, if_neg ?_, by omega, by omega, by omega, by omega, by omega, by omega, by omega⟩
    simp only [Prod.mk.injEq, not_or]
    omega
  · rw [e]
    right; right; right; left
    refine ⟨_, if_neg ?_, by omega, by omega, by omega, by omega, by omega, by omega, by omega⟩
    simp only [Prod.mk.injEq, not_or]
    omega
  · rw [e]
    right; right; right; right
    simp
theorem next_nil : next [] = (0, 0) := by decide
theorem next_le (l : List UInt8) : (next l).2 ≤ l.length := by
  cases l with
  | nil => rw [next_nil]; exact Nat.le_refl _
  | cons a r =>
    rcases next_shape (a :: r) with ⟨_, _, e⟩ | ⟨c, e, _, _, h, _⟩ | ⟨c, e, _, _, _, h, _⟩ | ⟨c, e, _, _, h, _⟩ | e
    all_goals (rw [e]; simp at *; try omega)
/-- a code point -/
def isPt (c : Nat) : Prop := 1 ≤ c ∧ c ≤ 1114111 ∧ (c < 55296 ∨ 57344 ≤ c)
theorem next_pt {l : List UInt8} (h : (next l).2 ≠ 0) : isPt (next l).1 := by
  unfold isPt
  rcases next_shape l with ⟨_, _, e⟩ | ⟨c, e, _⟩ | ⟨c, e, _⟩ | ⟨c, e, _⟩ | e
  all_goals (rw [e] at h ⊢; dsimp only at h ⊢; omega)
theorem runesGo_fuel : ∀ (n m : Nat) (l : List UInt8), l.length ≤ n → l.length ≤ m → runesGo n l = runesGo m l
  | 0, m, l, hn, _ => by
    have : l = [] := List.eq_nil_of_length_eq_zero (by omega)
    subst this
    cases m <;> simp [runesGo]
  | n + 1, m, l, hn, hm => by
    cases m with
    | zero =>
      have : l = [] := List.eq_nil_of_length_eq_zero (by omega)
      subst this
      simp [runesGo]
    | succ m =>
      simp only [runesGo]
      by_cases hl : l = []
      · rw [if_pos hl, if_pos hl]
      · rw [if_neg hl, if_neg hl]
        by_cases hz : (next l).2 = 0
        · rw [if_pos hz, if_pos hz]
        · rw [if_neg hz, if_neg hz, runesGo_fuel n m (l.drop (next l).2) (by rw [List.length_drop]; omega) (by rw [List.length_drop]; omega)]
theorem runesAll_nil : runesAll [] = some [] := by simp [runesAll, runesGo]
theorem runesAll_step {l : List UInt8} (hl : l ≠ []) (hz : (next l).2 ≠ 0) : runesAll l = (runesAll (l.drop (next l).2)).map ((next l).1 :: ·) := by
  have hp := List.length_pos_iff.2 hl
  unfold runesAll
  obtain ⟨n, hn⟩ : ∃ n, l.length = n + 1 := ⟨l.length - 1, by omega⟩
  rw [hn]
  simp only [runesGo]
  rw [if_neg hl, if_neg hz, runesGo_fuel n (l.drop (next l).2).length _ (by rw [List.length_drop]; omega) (Nat.le_refl _)]
theorem runesAll_bad {l : List UInt8} (hl : l ≠ []) (hz : (next l).2 = 0) : runesAll l = none := by
  have hp := List.length_pos_iff.2 hl
  unfold runesAll
  obtain ⟨n, hn⟩ : ∃ n, l.length = n + 1 := ⟨l.length - 1, by omega⟩
  rw [hn]
  simp only [runesGo]
  rw [if_neg hl, if_pos hz]
theorem runesAll_len : ∀ (n : Nat) (l : List UInt8) (rs : List Nat), l.length = n → runesAll l = some rs → rs.length ≤ l.length ∧ (∀ c ∈ rs, isPt c) ∧ (l ≠ [] → rs ≠ []) := by
  intro n
  induction n using Nat.strongRecOn with
  | _ n ih =>
    intro l rs hn h
    by_cases hl : l = []
    · subst hl
      rw [runesAll_nil] at h
      cases h
      simp
    · by_cases hz : (next l).2 = 0
      · rw [runesAll_bad hl hz] at h; cases h
      · rw [runesAll_step hl hz] at h
        obtain ⟨r, hr, rfl⟩ := Option.map_eq_some_iff.1 h
        have hp := List.length_pos_iff.2 hl
        have hd : (l.drop (next l).2).length = l.length - (next l).2 := List.length_drop
        obtain ⟨h1, h2, _⟩ := ih _ (by omega) _ r rfl hr
        refine ⟨by simp; omega, ?_, fun _ => by simp⟩
        intro c hc
        rcases List.mem_cons.1 hc with rfl | hc
        · exact next_pt hz
        · exact h2 c hc

/-! ### The model's decoder: 'ValidString, and no byte 0' is 'runesAll' -/
theorem next_of_decode {l : List UInt8} (h1 : decodeL l ≠ (65533, 1)) (h2 : (decodeL l).1 ≠ 0) : next l = decodeL l := if_neg (by simp [h1, h2])
theorem decode_zero {l : List UInt8} (hl : l ≠ []) (h : (decodeL l).1 = 0) : l.head? = some 0 := by
  cases l with
  | nil => exact absurd rfl hl
  | cons a r =>
    rw [decodeL_N] at h
    rcases decodeN_shape (a :: r).length ((a :: r).getD 0 0).toNat ((a :: r).getD 1 0).toNat ((a :: r).getD 2 0).toNat ((a :: r).getD 3 0).toNat with ⟨_, e⟩ | ⟨_, _, _, _, e⟩ | ⟨_, _, _, _, _, _, e⟩ | ⟨_, _, _, _, _, _, _, e⟩ | e
    · rw [e] at h
      simp only [List.getD_cons_zero] at h
      have : a = 0 := UInt8.toNat_inj.1 (by simpa using h)
      simp [this]
    all_goals (rw [e] at h; dsimp only at h; omega)
theorem validGo_runes : ∀ (n : Nat) (l : List UInt8), l.length ≤ n → (validGoD n l = true ∧ (0 : UInt8) ∉ l ↔ (runesGo n l).isSome = true)
  | 0, l, hn => by
    have : l = [] := List.eq_nil_of_length_eq_zero (by omega)
    subst this
    simp [validGoD, runesGo]
  | n + 1, l, hn => by
    by_cases hl : l = []
    · subst hl; simp [validGoD, runesGo]
    · simp only [validGoD, runesGo, if_neg hl]
      by_cases h1 : decodeL l = (65533, 1)
      · have e : next l = (0, 0) := if_pos (Or.inl h1)
        rw [if_pos (by rw [h1]; exact ⟨rfl, rfl⟩), e]
        simp
      · have hne : ¬ ((decodeL l).1 = 65533 ∧ (decodeL l).2 = 1) := fun h => h1 (Prod.ext h.1 h.2)
        rw [if_neg hne]
        by_cases h2 : (decodeL l).1 = 0
        · have e : next l = (0, 0) := if_pos (Or.inr h2)
          have hz := decode_zero hl h2
          rw [e]
          constructor
          · rintro ⟨_, h⟩
            cases l with
            | nil => exact absurd rfl hl
            | cons a r => simp at hz; subst hz; simp at h
          · intro h; simp at h
        · have e := next_of_decode h1 h2
          have hp := decodeL_pos l
          have hle := decodeL_le l hl
          have ih := validGo_runes n (l.drop (decodeL l).2) (by rw [List.length_drop]; omega)
          rw [e, if_neg (by omega), Option.isSome_map, ← ih]
          have key : (0 : UInt8) ∉ l ↔ (0 : UInt8) ∉ l.drop (decodeL l).2 := by
            constructor
            · exact fun h h' => h (List.mem_of_mem_drop h')
            · intro h h'
              rw [← List.take_append_drop (decodeL l).2 l, List.mem_append] at h'
              rcases h' with h' | h'
              · have g0 : (l.getD 0 0).toNat ≠ 0 ∧ ∀ i, i < (decodeL l).2 → (l.getD i 0).toNat ≠ 0 := by
                  have hs := next_shape l
                  rw [e] at hs
                  rcases hs with ⟨ha, hb, he⟩ | ⟨c, he, hc⟩ | ⟨c, he, hc⟩ | ⟨c, he, hc⟩ | he
                  · refine ⟨hb, fun i hi => ?_⟩
                    rw [he] at hi
                    obtain rfl : i = 0 := by simp at hi; exact hi
                    exact hb
                  · refine ⟨by omega, fun i hi => ?_⟩
                    rw [he] at hi
                    have : i = 0 ∨ i = 1 := by simp at hi; omega
                    rcases this with rfl | rfl <;> omega
                  · refine ⟨by omega, fun i hi => ?_⟩
                    rw [he] at hi
                    have : i = 0 ∨ i = 1 ∨ i = 2 := by simp at hi; omega
                    rcases this with rfl | rfl | rfl <;> omega
                  · refine ⟨by omega, fun i hi => ?_⟩
                    rw [he] at hi
                    have : i = 0 ∨ i = 1 ∨ i = 2 ∨ i = 3 := by simp at hi; omega
                    rcases this with rfl | rfl | rfl | rfl <;> omega
                  · rw [he] at hp; simp at hp
                obtain ⟨i, hi, hi'⟩ := List.mem_iff_getElem.1 h'
                rw [List.length_take] at hi
                have := g0.2 i (by omega)
                rw [List.getElem_take] at hi'
                rw [List.getD_eq_getElem?_getD, List.getElem?_eq_getElem (by omega), hi'] at this
                simp at this
              · exact h h'
          rw [key]
theorem valid_runes (l : List UInt8) : (validD l = true ∧ (0 : UInt8) ∉ l) ↔ (runesAll l).isSome = true := validGo_runes l.length l (Nat.le_refl _)

/-! ### A code point's bytes -/
def enc (c : Nat) : List UInt8 :=
  if c < 128 then [UInt8.ofNat c] else if c < 2048 then [UInt8.ofNat (192 + c / 64), UInt8.ofNat (128 + c % 64)]
  else if c < 65536 then [UInt8.ofNat (224 + c / 4096), UInt8.ofNat (128 + c / 64 % 64), UInt8.ofNat (128 + c % 64)]
  else [UInt8.ofNat (240 + c / 262144), UInt8.ofNat (128 + c / 4096 % 64), UInt8.ofNat (128 + c / 64 % 64), UInt8.ofNat (128 + c % 64)]
def texts (rs : List Nat) : List UInt8 := rs.flatMap enc

theorem ofNat_toNat {n : Nat} (h : n < 256) : (UInt8.ofNat n).toNat = n := by
  rw [UInt8.toNat_ofNat']; omega
theorem ofNat_of {a : UInt8} {n : Nat} (h : a.toNat = n) : UInt8.ofNat n = a := by
  subst h; simp
theorem enc_length (c : Nat) : (enc c).length = if c < 128 then 1 else if c < 2048 then 2 else if c < 65536 then 3 else 4 := by
  unfold enc
  repeat' split
  all_goals rfl
theorem enc_pos (c : Nat) : 1 ≤ (enc c).length ∧ (enc c).length ≤ 4 := by
  rw [enc_length]
  repeat' split
  all_goals omega
theorem take_next {l : List UInt8} (h : (next l).2 ≠ 0) : l.take (next l).2 = enc (next l).1 ∧ (enc (next l).1).length = (next l).2 := by
  have hle := next_le l
  have tk : ∀ (n : Nat) (e : List UInt8), e.length = n → n ≤ l.length → (∀ i, i < n → e[i]? = some (l.getD i 0)) → l.take n = e := by
    intro n e he hn hi
    apply List.ext_getElem?
    intro i
    by_cases hin : i < n
    · rw [hi i hin, List.getElem?_take, if_pos hin, List.getElem?_eq_getElem (by omega)]
      simp [List.getD_eq_getElem?_getD, List.getElem?_eq_getElem (show i < l.length by omega)]
    · rw [List.getElem?_eq_none (by rw [List.length_take]; omega), List.getElem?_eq_none (by omega)]
  rcases next_shape l with ⟨h1, h2, e⟩ | ⟨c, e, h1, h2, h3, h4, h5⟩ | ⟨c, e, h1, h2, h2', h3, h4, h5, h6⟩ | ⟨c, e, h1, h2, h3, h4, h5, h6, h7⟩ | e
  · rw [e] at hle ⊢
    have he : enc (l.getD 0 0).toNat = [l.getD 0 0] := by unfold enc; rw [if_pos h1, ofNat_of rfl]
    refine ⟨?_, by dsimp only; rw [he]; rfl⟩
    dsimp only at hle ⊢
    rw [he]
    refine tk 1 _ rfl hle fun i hi => ?_
    obtain rfl : i = 0 := by omega
    rfl
  · rw [e] at hle ⊢
    have he : enc c = [l.getD 0 0, l.getD 1 0] := by unfold enc; rw [if_neg (by omega), if_pos h2, ofNat_of h4, ofNat_of h5]
    refine ⟨?_, by dsimp only; rw [he]; rfl⟩
    dsimp only at hle ⊢
    rw [he]
    refine tk 2 _ rfl hle fun i hi => ?_
    have : i = 0 ∨ i = 1 := by omega
    rcases this with rfl | rfl <;> rfl
  · rw [e] at hle ⊢
    have he : enc c = [l.getD 0 0, l.getD 1 0, l.getD 2 0] := by unfold enc; rw [if_neg (by omega), if_neg (by omega), if_pos h2, ofNat_of h4, ofNat_of h5, ofNat_of h6]
    refine ⟨?_, by dsimp only; rw [he]; rfl⟩
    dsimp only at hle ⊢
    rw [he]
    refine tk 3 _ rfl hle fun i hi => ?_
    have : i = 0 ∨ i = 1 ∨ i = 2 := by omega
    rcases this with rfl | rfl | rfl <;> rfl
  · rw [e] at hle ⊢
    have he : enc c = [l.getD 0 0, l.getD 1 0, l.getD 2 0, l.getD 3 0] := by unfold enc; rw [if_neg (by omega), if_neg (by omega), if_neg (by omega), ofNat_of h4, ofNat_of h5, ofNat_of h6, ofNat_of h7]
    refine ⟨?_, by dsimp only; rw [he]; rfl⟩
    dsimp only at hle ⊢
    rw [he]
    refine tk 4 _ rfl hle fun i hi => ?_
    have : i = 0 ∨ i = 1 ∨ i = 2 ∨ i = 3 := by omega
    rcases this with rfl | rfl | rfl | rfl <;> rfl
  · rw [e] at h; simp at h
theorem decodeN_of {n b0 b1 b2 b3 c w : Nat} (h0 : b0 < 256) (h : (b0 < 128 ∧ c = b0 ∧ w = 1) ∨ (128 ≤ c ∧ c < 2048 ∧ w = 2 ∧ 1 < n ∧ b0 = 192 + c / 64 ∧ b1 = 128 + c % 64) ∨
    (2048 ≤ c ∧ c < 65536 ∧ (c < 55296 ∨ 57344 ≤ c) ∧ w = 3 ∧ 2 < n ∧ b0 = 224 + c / 4096 ∧ b1 = 128 + c / 64 % 64 ∧ b2 = 128 + c % 64) ∨
    (65536 ≤ c ∧ c ≤ 1114111 ∧ w = 4 ∧ 3 < n ∧ b0 = 240 + c / 262144 ∧ b1 = 128 + c / 4096 % 64 ∧ b2 = 128 + c / 64 % 64 ∧ b3 = 128 + c % 64)) : decodeN n b0 b1 b2 b3 = (c, w) := by
  unfold decodeN
  rcases h with ⟨h1, rfl, rfl⟩ | ⟨h1, h2, rfl, h3, h4, h5⟩ | ⟨h1, h2, h2', rfl, h3, h4, h5, h6⟩ | ⟨h1, h2, rfl, h3, h4, h5, h6, h7⟩
  · rw [if_pos h1]
  · rw [if_neg (by omega), if_pos (by omega), if_pos (by omega)]
    congr 1; omega
  · rw [if_neg (by omega), if_neg (by omega), if_pos (by omega), if_pos (by omega)]
    congr 1; omega
  · rw [if_neg (by omega), if_neg (by omega), if_neg (by omega), if_pos (by omega), if_pos (by omega)]
    congr 1; omega
theorem next_enc {c : Nat} (hc : isPt c) (r : List UInt8) : next (enc c ++ r) = (c, (enc c).length) := by
  obtain ⟨c1, c2, c3⟩ := hc
  have hd : decodeL (enc c ++ r) = (c, (enc c).length) := by
    rw [decodeL_N]
    apply decodeN_of (UInt8.toNat_lt _)
    by_cases a1 : c < 128
    · have e : enc c = [UInt8.ofNat c] := by unfold enc; rw [if_pos a1]
      left
      rw [e]
      refine ⟨?_, ?_, rfl⟩
      · show (UInt8.ofNat c).toNat < 128
        rw [ofNat_toNat (by omega)]; exact a1
      · show c = (UInt8.ofNat c).toNat
        rw [ofNat_toNat (by omega)]
    · by_cases a2 : c < 2048
      · have e : enc c = [UInt8.ofNat (192 + c / 64), UInt8.ofNat (128 + c % 64)] := by unfold enc; rw [if_neg a1, if_pos a2]
        right; left
        rw [e]
        exact ⟨by omega, a2, rfl, by simp, ofNat_toNat (by omega), ofNat_toNat (by omega)⟩
      · by_cases a3 : c < 65536
        · have e : enc c = [UInt8.ofNat (224 + c / 4096), UInt8.ofNat (128 + c / 64 % 64), UInt8.ofNat (128 + c % 64)] := by unfold enc; rw [if_neg a1, if_neg a2, if_pos a3]
          right; right; left
          rw [e]
          exact ⟨by omega, a3, c3, rfl, by simp, ofNat_toNat (by omega), ofNat_toNat (by omega), ofNat_toNat (by omega)⟩
        · have e : enc c = [UInt8.ofNat (240 + c / 262144), UInt8.ofNat (128 + c / 4096 % 64), UInt8.ofNat (128 + c / 64 % 64), UInt8.ofNat (128 + c % 64)] := by unfold enc; rw [if_neg a1, if_neg a2, if_neg a3]
          right; right; right
          rw [e]
          exact ⟨by omega, c2, rfl, by simp, ofNat_toNat (by omega), ofNat_toNat (by omega), ofNat_toNat (by omega), ofNat_toNat (by omega)⟩
  rw [next_of_decode]
  · exact hd
  · rw [hd]
    intro h
    simp only [Prod.mk.injEq] at h
    rw [h.1] at h
    simp [enc_length] at h
  · rw [hd]; dsimp only; omega
theorem enc_ne (c : Nat) : enc c ≠ [] := by
  intro h
  have := (enc_pos c).1
  rw [h] at this
  simp at this
theorem runes_texts : ∀ (rs : List Nat), (∀ c ∈ rs, isPt c) → runesAll (texts rs) = some rs
  | [], _ => by simp [texts, runesAll_nil]
  | c :: r, h => by
    have e := next_enc (h c (by simp)) (texts r)
    have ht : texts (c :: r) = enc c ++ texts r := by simp [texts]
    rw [ht, runesAll_step (by simp [enc_ne]) (by rw [e]; have := (enc_pos c).1; dsimp only; omega), e]
    simp only [List.drop_left]
    rw [runes_texts r (fun c hc => h c (by simp [hc]))]
    rfl
theorem texts_runes : ∀ (n : Nat) (l : List UInt8) (rs : List Nat), l.length = n → runesAll l = some rs → texts rs = l := by
  intro n
  induction n using Nat.strongRecOn with
  | _ n ih =>
    intro l rs hn h
    by_cases hl : l = []
    · subst hl
      rw [runesAll_nil] at h
      cases h
      rfl
    · by_cases hz : (next l).2 = 0
      · rw [runesAll_bad hl hz] at h; cases h
      · rw [runesAll_step hl hz] at h
        obtain ⟨r, hr, rfl⟩ := Option.map_eq_some_iff.1 h
        have hp := List.length_pos_iff.2 hl
        have hd : (l.drop (next l).2).length = l.length - (next l).2 := List.length_drop
        have := ih _ (by omega) _ r rfl hr
        have ht : texts ((next l).1 :: r) = enc (next l).1 ++ texts r := by simp [texts]
        rw [ht, this, ← (take_next hz).1, List.take_append_drop]
theorem texts_append (a b : List Nat) : texts (a ++ b) = texts a ++ texts b := by simp [texts]
theorem runesAll_append : ∀ (n : Nat) (a b : List UInt8) (ra : List Nat), a.length = n → runesAll a = some ra → runesAll (a ++ b) = (runesAll b).map (ra ++ ·) := by
  intro n a b ra hn h
  clear hn
  have ha := texts_runes _ a ra rfl h
  have hp := (runesAll_len _ a ra rfl h).2.1
  subst ha
  clear h
  induction ra with
  | nil => simp [texts]
  | cons c r ih =>
    have e := next_enc (hp c (by simp)) (texts r ++ b)
    have ht : texts (c :: r) ++ b = enc c ++ (texts r ++ b) := by simp [texts]
    rw [ht, runesAll_step (by simp [enc_ne]) (by rw [e]; have := (enc_pos c).1; dsimp only; omega), e]
    simp only [List.drop_left]
    rw [ih (fun c hc => hp c (by simp [hc]))]
    cases runesAll b <;> simp

/-! ### The head of a text, reckoned byte by byte -/
instance (c : Nat) : Decidable (isPt c) := by unfold isPt; exact inferInstance
theorem next_none {l : List UInt8} (h1 : ∀ c, next l ≠ (c, 1)) (h2 : ∀ c, next l ≠ (c, 2)) (h3 : ∀ c, next l ≠ (c, 3)) (h4 : ∀ c, next l ≠ (c, 4)) : next l = (0, 0) := by
  rcases next_shape l with ⟨_, _, e⟩ | ⟨c, e, _⟩ | ⟨c, e, _⟩ | ⟨c, e, _⟩ | e
  · exact absurd e (h1 _)
  · exact absurd e (h2 _)
  · exact absurd e (h3 _)
  · exact absurd e (h4 _)
  · exact e
/-- a first byte that begins nothing -/
theorem next_lead {l : List UInt8} (h : 128 ≤ (l.getD 0 0).toNat) (h' : (l.getD 0 0).toNat < 192 ∨ 248 ≤ (l.getD 0 0).toNat) : next l = (0, 0) := by
  rcases next_shape l with ⟨_, _, e⟩ | ⟨c, e, _⟩ | ⟨c, e, _⟩ | ⟨c, e, _⟩ | e
  · omega
  · omega
  · omega
  · omega
  · exact e
/-- the text ends too early, or a byte behind the first is no continuation -/
theorem next_short {l : List UInt8} {n : Nat} (hn : (n = 2 ∧ 192 ≤ (l.getD 0 0).toNat ∧ (l.getD 0 0).toNat ≤ 223) ∨ (n = 3 ∧ 224 ≤ (l.getD 0 0).toNat ∧ (l.getD 0 0).toNat ≤ 239) ∨ (n = 4 ∧ 240 ≤ (l.getD 0 0).toNat ∧ (l.getD 0 0).toNat ≤ 247))
    (h : l.length < n ∨ ∃ j, 1 ≤ j ∧ j < n ∧ ((l.getD j 0).toNat < 128 ∨ 191 < (l.getD j 0).toNat)) : next l = (0, 0) := by
  have bad : ∀ j, j < 4 → ((l.getD j 0).toNat < 128 ∨ 191 < (l.getD j 0).toNat) → 1 ≤ j → j < n → next l = (0, 0) := by
    clear h
    intro j hj hb h1 hjn
    have hj' : j = 1 ∨ j = 2 ∨ j = 3 := by omega
    rcases next_shape l with ⟨_, _, e⟩ | ⟨c, e, _⟩ | ⟨c, e, _⟩ | ⟨c, e, _⟩ | e
    · omega
    · rcases hj' with rfl | rfl | rfl <;> omega
    · rcases hj' with rfl | rfl | rfl <;> omega
    · rcases hj' with rfl | rfl | rfl <;> omega
    · exact e
  rcases h with h | ⟨j, h1, h2, h3⟩
  · rcases next_shape l with ⟨_, _, e⟩ | ⟨c, e, _⟩ | ⟨c, e, _⟩ | ⟨c, e, _⟩ | e
    · omega
    · omega
    · omega
    · omega
    · exact e
  · exact bad j (by omega) h3 h1 h2
theorem next_whole {l : List UInt8} {n c : Nat} (hl : n ≤ l.length)
    (h : (n = 1 ∧ (l.getD 0 0).toNat < 128 ∧ c = (l.getD 0 0).toNat) ∨
      (n = 2 ∧ 192 ≤ (l.getD 0 0).toNat ∧ (l.getD 0 0).toNat ≤ 223 ∧ 128 ≤ (l.getD 1 0).toNat ∧ (l.getD 1 0).toNat ≤ 191 ∧ c = 64 * ((l.getD 0 0).toNat - 192) + ((l.getD 1 0).toNat - 128)) ∨
      (n = 3 ∧ 224 ≤ (l.getD 0 0).toNat ∧ (l.getD 0 0).toNat ≤ 239 ∧ 128 ≤ (l.getD 1 0).toNat ∧ (l.getD 1 0).toNat ≤ 191 ∧ 128 ≤ (l.getD 2 0).toNat ∧ (l.getD 2 0).toNat ≤ 191 ∧ c = 64 * (64 * ((l.getD 0 0).toNat - 224) + ((l.getD 1 0).toNat - 128)) + ((l.getD 2 0).toNat - 128)) ∨
      (n = 4 ∧ 240 ≤ (l.getD 0 0).toNat ∧ (l.getD 0 0).toNat ≤ 247 ∧ 128 ≤ (l.getD 1 0).toNat ∧ (l.getD 1 0).toNat ≤ 191 ∧ 128 ≤ (l.getD 2 0).toNat ∧ (l.getD 2 0).toNat ≤ 191 ∧ 128 ≤ (l.getD 3 0).toNat ∧ (l.getD 3 0).toNat ≤ 191 ∧
        c = 64 * (64 * (64 * ((l.getD 0 0).toNat - 240) + ((l.getD 1 0).toNat - 128)) + ((l.getD 2 0).toNat - 128)) + ((l.getD 3 0).toNat - 128))) :
    next l = if isPt c ∧ (enc c).length = n then (c, n) else (0, 0) := by
  by_cases hg : isPt c ∧ (enc c).length = n
  · rw [if_pos hg]
    obtain ⟨⟨p1, p2, p3⟩, hlen⟩ := hg
    rw [enc_length] at hlen
    rw [next_of_decode]
    · rw [decodeL_N]
      apply decodeN_of (UInt8.toNat_lt _)
      rcases h with ⟨rfl, h⟩ | ⟨rfl, h⟩ | ⟨rfl, h⟩ | ⟨rfl, h⟩
      · left; exact ⟨by omega, by omega, rfl⟩
      · right; left
        have : 128 ≤ c ∧ c < 2048 := by
          split at hlen
          · omega
          · split at hlen
            · omega
            · split at hlen <;> omega
        refine ⟨this.1, this.2, rfl, by omega, by omega, by omega⟩
      · right; right; left
        have : 2048 ≤ c ∧ c < 65536 := by
          split at hlen
          · omega
          · split at hlen
            · omega
            · split at hlen <;> omega
        refine ⟨this.1, this.2, p3, rfl, by omega, by omega, by omega, by omega⟩
      · right; right; right
        have : 65536 ≤ c := by
          split at hlen
          · omega
          · split at hlen
            · omega
            · split at hlen <;> omega
        refine ⟨this, p2, rfl, by omega, by omega, by omega, by omega, by omega⟩
    all_goals
      have hd : decodeL l = (c, n) := by
        rw [decodeL_N]
        apply decodeN_of (UInt8.toNat_lt _)
        rcases h with ⟨rfl, h⟩ | ⟨rfl, h⟩ | ⟨rfl, h⟩ | ⟨rfl, h⟩
        · left; exact ⟨by omega, by omega, rfl⟩
        · right; left
          have : 128 ≤ c ∧ c < 2048 := by
            split at hlen
            · omega
            · split at hlen
              · omega
              · split at hlen <;> omega
          refine ⟨this.1, this.2, rfl, by omega, by omega, by omega⟩
        · right; right; left
          have : 2048 ≤ c ∧ c < 65536 := by
            split at hlen
            · omega
            · split at hlen
              · omega
              · split at hlen <;> omega
          refine ⟨this.1, this.2, p3, rfl, by omega, by omega, by omega, by omega⟩
        · right; right; right
          have : 65536 ≤ c := by
            split at hlen
            · omega
            · split at hlen
              · omega
              · split at hlen <;> omega
          refine ⟨this, p2, rfl, by omega, by omega, by omega, by omega, by omega⟩
      rw [hd]
    · intro he
      simp only [Prod.mk.injEq] at he
      obtain ⟨rfl, rfl⟩ := he
      simp at hlen
    · dsimp only; omega
  · rw [if_neg hg]
    have no : ∀ c' n', next l = (c', n') → n' ≠ 0 → c' = c → n' = n → False := by
      intro c' n' e hn hc hnn
      subst hc hnn
      have h1 := next_pt (l := l) (by rw [e]; exact hn)
      have h2 := (take_next (l := l) (by rw [e]; exact hn)).2
      rw [e] at h1 h2
      exact hg ⟨h1, h2⟩
    rcases next_shape l with ⟨a1, a2, e⟩ | ⟨c', e, a⟩ | ⟨c', e, a⟩ | ⟨c', e, a⟩ | e
    · exact (no _ _ e (by omega) (by omega) (by omega)).elim
    · exact (no _ _ e (by omega) (by omega) (by omega)).elim
    · exact (no _ _ e (by omega) (by omega) (by omega)).elim
    · exact (no _ _ e (by omega) (by omega) (by omega)).elim
    · exact e

/-! ### A list of bytes as a string -/
def mkB (l : List UInt8) : ByteArray := ⟨l.toArray⟩
theorem mkB_data (l : List UInt8) : (mkB l).data.toList = l := rfl
theorem mkB_of (s : ByteArray) : mkB s.data.toList = s := by cases s; simp [mkB]
theorem mkB_append (a b : List UInt8) : mkB a ++ mkB b = mkB (a ++ b) := by
  have : (mkB a ++ mkB b).data.toList = (mkB (a ++ b)).data.toList := by simp [mkB]
  rw [← mkB_of (mkB a ++ mkB b), this, mkB_of]
theorem mkB_size (l : List UInt8) : (mkB l).size = l.length := by rw [Lib.size_eq]; rfl
end Go.Proofs.YtlfkfofeenakhaaDoor
