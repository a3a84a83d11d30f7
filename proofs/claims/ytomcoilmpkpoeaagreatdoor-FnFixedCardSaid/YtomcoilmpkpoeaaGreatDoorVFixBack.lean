/-
  What is proved here: plain laws for FnFixed: the parts of a text with fixed digits, of half of the last digit. No program in sight; no condition.
-/
import Derived.Test.YtomcoilmpkpoeaaGreatDoorVE
namespace Go.Proofs.YtomcoilmpkpoeaaGreatDoor
open Go.RowKit
set_option linter.unusedVariables false
set_option linter.unusedSimpArgs false

theorem half_ok {pl : Nat} (h : pl ≤ 60) : decOk (halfD pl) = true := by
  unfold decOk halfD
  rw [if_neg (show ¬ (⟨#[53]⟩ : ByteArray).size = 0 by decide)]
  have e1 : natOk (⟨#[53]⟩ : ByteArray).data.toList = true := by decide
  have e2 : decide ((⟨#[53]⟩ : ByteArray).size ≤ 20) = true := by decide
  have e3 : decide ((⟨#[53]⟩ : ByteArray).data.toList.head? ≠ some 48) = true := by decide
  have e4 : decide ((⟨#[53]⟩ : ByteArray).data.toList.getLast? ≠ some 48) = true := by decide
  have e5 : decide (-98 - ((⟨#[53]⟩ : ByteArray).size : Int) ≤ -((pl : Int) + 1) ∧ -((pl : Int) + 1) ≤ 100 - ((⟨#[53]⟩ : ByteArray).size : Int)) = true := decide_eq_true (by
    have : (⟨#[53]⟩ : ByteArray).size = 1 := rfl
    rw [this]; omega)
  show (natOk (⟨#[53]⟩ : ByteArray).data.toList && decide ((⟨#[53]⟩ : ByteArray).size ≤ 20) && decide ((⟨#[53]⟩ : ByteArray).data.toList.head? ≠ some 48) && decide ((⟨#[53]⟩ : ByteArray).data.toList.getLast? ≠ some 48) && decide (-98 - ((⟨#[53]⟩ : ByteArray).size : Int) ≤ -((pl : Int) + 1) ∧ -((pl : Int) + 1) ≤ 100 - ((⟨#[53]⟩ : ByteArray).size : Int))) = true
  rw [e1, e2, e3, e4, e5]
  rfl
theorem half_parts {pl : Nat} (h : pl ≤ 60) : ∃ X : List UInt8, ((⟨#[53, 101, 45]⟩ : ByteArray) ++ numB ((pl : Int) + 1)).data.toList = [] ++ ([53] ++ ([] ++ ([] ++ X))) ∧ isNum [] [53] [] [] X ∧ isExp X (-((pl : Int) + 1)) ∧ ((⟨#[53, 101, 45]⟩ : ByteArray) ++ numB ((pl : Int) + 1)).size ≤ 1000 ∧ formD (decide (([] : List UInt8) = [45])) ([53] ++ []) (-((pl : Int) + 1) - (([] : List UInt8).length : Int)) = (halfD pl, 0) := by
  have hb : (numB ((pl : Int) + 1)).data.toList = natL (pl + 1) := by
    unfold numB Lib.itoa natL
    rw [mkB_data, if_neg (by omega), show ((pl : Int) + 1).toNat = pl + 1 by omega]
  have hlen := natL_len_pow (v := pl + 1) (n := 3) (by omega) (by decide)
  refine ⟨101 :: ([45] ++ natL (pl + 1)), by rw [dat_appN, hb]; rfl, ⟨Or.inl rfl, ?_, digits_nil, Or.inl ⟨rfl, rfl⟩, by simp⟩, Or.inr ⟨101, [45], natL (pl + 1), rfl, by decide, Or.inr (Or.inr rfl), natL_digits _, natL_ne _, ?_⟩, ?_, ?_⟩
  · intro c hc; rw [List.mem_singleton.1 hc]; decide
  · rw [if_pos rfl]
    show _ = -((min 9999 (vD (natL (pl + 1))) : Nat) : Int)
    rw [natL_val]; omega
  · rw [Lib.size_eq, dat_appN, hb, List.length_append]
    have : (⟨#[53, 101, 45]⟩ : ByteArray).data.toList.length = 3 := rfl
    omega
  · have := formD_back (d := halfD pl) (half_ok h) (show ¬ (⟨#[53]⟩ : ByteArray).size = 0 by decide) 0 0
    rw [show (halfD pl).exp - ((0 : Nat) : Int) = -((pl : Int) + 1) - (([] : List UInt8).length : Int) by show -((pl : Int) + 1) - ((0 : Nat) : Int) = -((pl : Int) + 1) - ((0 : Nat) : Int); rfl] at this
    exact this
theorem abs_ok {d : Dec} (h : decOk d = true) : decOk (absD d) = true := by
  by_cases hz : d.dig.size = 0
  · obtain rfl := dec_zero h hz
    exact h
  · unfold decOk at h ⊢
    rw [if_neg hz] at h
    rw [if_neg (show ¬ (absD d).dig.size = 0 from hz)]
    exact h
theorem sub_ok (a b : Dec) : decOk (subD a b).1 = true := by
  unfold subD addD sumF
  split
  · exact formD_ok (natL_digits _)
  · split <;> exact formD_ok (natL_digits _)
theorem fix_parts {d : Dec} (h : decOk d = true) {pl : Nat} (hp : pl ≤ 60) (he : -12 ≤ d.exp ∧ d.exp ≤ 5) : ∃ sg A P B, (fixT d (pl : Int)).data.toList = sg ++ (A ++ (P ++ (B ++ []))) ∧ isNum sg A P B [] ∧ formD (decide (sg = [45])) (A ++ B) (0 - (B.length : Int)) = readFix d pl ∧ (fixT d (pl : Int)).size ≤ 1000 := by
  have hs : d.dig.size ≤ 20 := (ok_facts h).1
  obtain ⟨hl1, hl2⟩ := fixR_len hs (by' := d.exp + (pl : Int)) (by omega)
  have hRd := fixR_digits h (d.exp + (pl : Int))
  have e : fixT d (pl : Int) = mkB (fixL d.neg (fixR d.dig (d.exp + (pl : Int))) pl) := by
    unfold fixT
    rw [if_pos ⟨h, by omega, by omega⟩, Int.toNat_natCast]
  obtain ⟨A, P, B, h1, h2, h3, h4⟩ := fixL_parts (neg := d.neg) (pl := pl) hRd
  refine ⟨_, A, P, B, by rw [e, mkB_data, h1], h2, ?_, ?_⟩
  · rw [(signL_is _).2, h3, h4]
    rfl
  · rw [e, mkB_size, h1]
    have hA : A.length + B.length = max (pl + 1) (fixR d.dig (d.exp + (pl : Int))).length := by rw [← fixP_len, ← h3, List.length_append]
    have hP : P.length ≤ 1 := by rcases h2.2.2.2.1 with ⟨rfl, _⟩ | rfl <;> simp
    have hS : (signL (d.neg && decide (fixR d.dig (d.exp + (pl : Int)) ≠ [48]))).length ≤ 1 := by unfold signL; split <;> simp
    simp only [List.length_append, List.length_nil]
    omega
theorem fixT_no {d : Dec} {pl : Int} (h : ¬ (decOk d = true ∧ 0 ≤ pl ∧ pl ≤ 60)) : fixT d pl = ⟨#[]⟩ := by unfold fixT; rw [if_neg h]
end Go.Proofs.YtomcoilmpkpoeaaGreatDoor
