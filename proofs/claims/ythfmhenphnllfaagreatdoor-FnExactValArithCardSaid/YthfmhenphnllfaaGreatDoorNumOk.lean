/-
  What is proved here: plain laws: the number that is read from a text is sound; the comparison of two texts. No program in sight; no condition.
-/
import Derived.Test.YthfmhenphnllfaaGreatDoorSumS
namespace Go.Proofs.YthfmhenphnllfaaGreatDoor
open Go.RowKit
set_option linter.unusedVariables false
set_option linter.unusedSimpArgs false

theorem trimL_le : ∀ {l : List UInt8}, l ≠ [] → (trimL l).length ≤ l.length
  | [], h => absurd rfl h
  | c :: r, _ => by
    by_cases h : c = 48
    · rw [h, trimL_zero]
      cases r with
      | nil => exact Nat.le_refl _
      | cons d t =>
        have := trimL_le (l := d :: t) (by simp)
        simp only [List.length_cons] at this ⊢
        omega
    · rw [trimL_head r h]; exact Nat.le_refl _
theorem zeroL_snoc (n : Nat) : zeroL (n + 1) = zeroL n ++ [48] := by
  unfold zeroL
  rw [List.replicate_succ']
theorem strip_one : ∀ n, stripL ([49] ++ zeroL n) = [49]
  | 0 => by rw [show ([49] : List UInt8) ++ zeroL 0 = [] ++ [49] from rfl, stripL_other _ (by decide)]; rfl
  | n + 1 => by rw [zeroL_snoc, ← List.append_assoc, stripL_zero, strip_one n]
theorem carry_zeros {q : List UInt8} (hq : digits q) : ∀ k, cyA q [49] (k + 1) = 1 → outA q [49] (k + 1) = zeroL (k + 1)
  | 0, h => by
    have h1 := dgA_le hq 0
    have h2 : dgA [49] 0 = 1 := rfl
    rw [cyA, cyA, h2] at h
    have hs : smA q [49] 0 = 10 := by unfold smA; rw [cyA, h2]; omega
    rw [outA, outA, hs]
    rfl
  | k + 1, h => by
    have h1 := dgA_le hq (k + 1)
    have h2 : dgA [49] (k + 1) = 0 := dgA_far (by simp)
    have h3 := cyA_le hq digits_one (k + 1)
    rw [cyA, h2] at h
    have hc : cyA q [49] (k + 1) = 1 := by omega
    have hs : smA q [49] (k + 1) = 10 := by unfold smA; rw [h2, hc]; omega
    rw [outA, hs, carry_zeros hq k hc]
    rfl
theorem cutL_short {T : List UInt8} (hT : digits T) {c : UInt8} {r : List UInt8} (hc : T = c :: r) (h48 : ¬ c = 48) : (stripL (cutL T)).length ≤ 20 := by
  unfold cutL
  split
  · rename_i hl
    unfold roundL
    rw [if_neg (by omega)]
    have e20 : T.length - (T.length - 20) = 19 + 1 := by omega
    have ht : T.take (19 + 1) = c :: r.take 19 := by rw [hc, List.take_succ_cons]
    have hlen : (c :: r.take 19).length = 20 := by rw [hc] at hl; simp only [List.length_cons, List.length_take] at hl ⊢; omega
    have hq : digits (c :: r.take 19) := by rw [← ht]; exact digits_take hT 20
    rw [e20, ht, trimL_head _ h48]
    unfold finL
    split
    · unfold addL
      rw [hlen]
      show (stripL (trimL (outA (c :: r.take 19) [49] 21))).length ≤ 20
      have h3 := cyA_le hq digits_one 20
      rw [outA]
      by_cases hcy : cyA (c :: r.take 19) [49] 20 = 0
      · have hs : smA (c :: r.take 19) [49] 20 = 0 := by unfold smA; rw [dgA_far (by omega), dgA_far (by simp), hcy]
        rw [hs]
        show (stripL (trimL (48 :: outA (c :: r.take 19) [49] 20))).length ≤ 20
        rw [trimL_zero]
        refine Nat.le_trans (stripL_len _) (Nat.le_trans (trimL_le ?_) ?_)
        · intro h; have := congrArg List.length h; rw [outA_len] at this; exact absurd this (by decide)
        · rw [outA_len]; exact Nat.le_refl _
      · have hcy1 : cyA (c :: r.take 19) [49] 20 = 1 := by omega
        have hs : smA (c :: r.take 19) [49] 20 = 1 := by unfold smA; rw [dgA_far (by omega), dgA_far (by simp), hcy1]
        rw [hs, carry_zeros hq 19 hcy1]
        show (stripL (trimL (49 :: zeroL 20))).length ≤ 20
        rw [trimL_head _ (by decide), show (49 : UInt8) :: zeroL 20 = [49] ++ zeroL 20 from rfl, strip_one]
        decide
    · exact Nat.le_trans (stripL_len _) (by rw [hlen]; exact Nat.le_refl _)
  · exact Nat.le_trans (stripL_len _) (by omega)
theorem dropWhile_head : ∀ l : List UInt8, (l.dropWhile (· == 48)).head? ≠ some 48
  | [] => by simp
  | c :: r => by
    by_cases h : c = 48
    · rw [h, List.dropWhile_cons_of_pos (by rfl)]; exact dropWhile_head r
    · rw [List.dropWhile_cons_of_neg (by simpa using h)]
      simpa using h
theorem strip_last (l : List UInt8) : (stripL l).getLast? ≠ some 48 := by
  unfold stripL
  rw [List.getLast?_reverse]
  exact dropWhile_head _
theorem strip_prefix (l : List UInt8) : ∃ z, l = stripL l ++ z := by
  refine ⟨(l.reverse.takeWhile (· == 48)).reverse, ?_⟩
  unfold stripL
  rw [← List.reverse_append, List.takeWhile_append_dropWhile, List.reverse_reverse]
theorem roundL_trim2 (l : List UInt8) (n : Nat) : trimL (roundL l n) = roundL l n := roundL_trim l n
theorem formD_ok {neg : Bool} {D : List UInt8} {exp : Int} (hD : digits D) : decOk (formD neg D exp).1 = true := by
  have h00 : decOk dec0 = true := by show decOk ⟨false, ⟨#[]⟩, 0⟩ = true; rw [decOk_nil]; rfl
  unfold formD
  split
  · exact h00
  · rename_i h0
    simp only
    split
    · exact h00
    · split
      · exact h00
      · rename_i c1 c2
        have hne := stripL_ne (cutL_ne hD h0)
        have hTd := digits_trim hD
        obtain ⟨c, r, hc, h48⟩ := (trimL_cases D).resolve_left h0
        have hlen := cutL_short hTd hc h48
        have hRd : digits (cutL (trimL D)) := by
          unfold cutL
          split
          · exact digits_round hTd _
          · exact hTd
        have hRt : trimL (cutL (trimL D)) = cutL (trimL D) := by
          unfold cutL
          split
          · exact roundL_trim _ _
          · exact trimL_trim _
        obtain ⟨z, hz⟩ := strip_prefix (cutL (trimL D))
        have hlast := strip_last (cutL (trimL D))
        obtain ⟨S, hS⟩ : ∃ S, stripL (cutL (trimL D)) = S := ⟨_, rfl⟩
        obtain ⟨R, hR⟩ : ∃ R, cutL (trimL D) = R := ⟨_, rfl⟩
        rw [hR] at hS hz hRd hRt hlast
        rw [hR, hS] at hne hlen
        rw [hS] at hz hlast
        rw [hR, hS] at c1 c2
        rw [hR, hS]
        have hSd : digits S := fun x hx => hRd x (by rw [hz]; exact List.mem_append_left _ hx)
        cases S with
        | nil => exact absurd rfl hne
        | cons d t =>
          have hd : ¬ d = 48 := by
            intro hd
            rw [hz, hd, List.cons_append, trimL_zero] at hRt
            have h1 := congrArg List.length hRt
            have h2 : (trimL (t ++ z)).length ≤ (t ++ z).length ∨ t ++ z = [] := by
              by_cases h3 : t ++ z = []
              · exact Or.inr h3
              · exact Or.inl (trimL_le h3)
            rcases h2 with h2 | h2
            · rw [List.length_cons] at h1; omega
            · have ht : t = [] := (List.append_eq_nil_iff.1 h2).1
              rw [ht, hd] at hlast
              exact hlast rfl
          have hsz : (mkB (d :: t)).size = (d :: t).length := mkB_size _
          unfold decOk
          rw [if_neg (by show ¬ (mkB (d :: t)).size = 0; rw [hsz]; simp)]
          simp only [mkB_data, hsz, Bool.and_eq_true, decide_eq_true_eq]
          refine ⟨⟨⟨⟨natOk_iff.2 ⟨hSd, by simp, by omega, Or.inr (by simpa using hd)⟩, hlen⟩, by simpa using hd⟩, decide_eq_true hlast⟩, ?_⟩
          omega
theorem prefixR_ok (s : ByteArray) : decOk (prefixR s).1 = true := by
  have h00 : decOk dec0 = true := by show decOk ⟨false, ⟨#[]⟩, 0⟩ = true; rw [decOk_nil]; rfl
  unfold prefixR
  split
  · exact h00
  · split
    · exact h00
    · rename_i hz
      have h := (numP_fits hz).2.1
      exact formD_ok (digits_append h.2.1 h.2.2.1)
theorem valNumV_ok {v : Val} (hv : valOk v = true) : decOk (valNumV v).1 = true := by
  have h00 : decOk dec0 = true := by show decOk ⟨false, ⟨#[]⟩, 0⟩ = true; rw [decOk_nil]; rfl
  unfold valNumV
  split
  · rename_i h1
    obtain ⟨k, d, t⟩ := v
    obtain rfl : k = 1 := h1
    rw [valOk_1] at hv
    simp only [Bool.and_eq_true] at hv
    exact hv.1
  · split
    · exact prefixR_ok _
    · exact h00
theorem cmp_bytes : ∀ a b : List UInt8, Lib.compareBytes a b = if Op.bytesLess a b = true then -1 else if Op.bytesLess b a = true then 1 else 0
  | [], [] => by simp [Lib.compareBytes, Op.bytesLess]
  | [], _ :: _ => by simp [Lib.compareBytes, Op.bytesLess]
  | _ :: _, [] => by simp [Lib.compareBytes, Op.bytesLess]
  | x :: a, y :: b => by
    have ih := cmp_bytes a b
    rw [Lib.compareBytes, Op.bytesLess, Op.bytesLess]
    by_cases h1 : x < y
    · simp [h1]
    · by_cases h2 : y < x
      · have hne : ¬ x = y := fun h => by rw [h] at h2; exact absurd h2 (by rw [UInt8.lt_iff_toNat_lt]; omega)
        simp [h1, h2, hne]
      · have he : x = y := by
          have h3 : ¬ x.toNat < y.toNat := h1
          have h4 : ¬ y.toNat < x.toNat := h2
          exact UInt8.toNat.inj (by omega)
        subst he
        simp [h1, ih]
noncomputable def cmpV (x y : Val) : Int :=
  if (numericV (soundVal x) && numericV (soundVal y)) = true then cmpD (valNumV (soundVal x)).1 (valNumV (soundVal y)).1
  else Lib.compareBytes (valT x).data.toList (valT y).data.toList
end Go.Proofs.YthfmhenphnllfaaGreatDoor
