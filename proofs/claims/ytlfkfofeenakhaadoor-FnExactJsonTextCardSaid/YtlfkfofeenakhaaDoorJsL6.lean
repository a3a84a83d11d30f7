/-
  What is proved here: plain law on JSON: a line that is read as one number whose text is the line is a number. No program in sight; no condition.
-/
import Derived.Test.YtlfkfofeenakhaaDoorJsL5
import Derived.Test.YtlfkfofeenakhaaDoorJsI1
namespace Go.Proofs.YtlfkfofeenakhaaDoor
open Go.RowKit
set_option linter.unusedVariables false
set_option linter.unusedSimpArgs false

/-- a reading's last node bears no kind of number -/
def LastK (r : JR) : Prop := ∀ kid j b ns, r = .ok kid j b ns → ∃ n0 ns0, ns = ns0 ++ [n0] ∧ n0.kind ≠ 4
theorem lastK_er {c q : Nat} : LastK (.er c q) := fun _ _ _ _ h => by cases h
theorem lastK_put {n : JNode} {j b : Nat} {ns : List JNode} (h : n.kind ≠ 4) : LastK (putN n j b ns) := by
  intro kid j' b' ns' e
  unfold putN at e
  injection e with e1 e2 e3 e4
  exact ⟨n, ns, e4.symm, h⟩
theorem kind67 (o : Nat) (keys : List ByteArray) (kids : List Int) : (JNode.mk (if o = 123 then 7 else 6) ⟨#[]⟩ keys kids).kind ≠ 4 := by
  show (if o = 123 then (7 : Int) else 6) ≠ 4
  split <;> decide
theorem grpN_last {L : List UInt8} {o e : Nat} {nxt : Nat → Nat → List JNode → List ByteArray → List Int → JR} {r : JR} {keys : List ByteArray} {kids : List Int} (h : ∀ q b ns ks ds, LastK (nxt q b ns ks ds)) : LastK (grpN L o e nxt r keys kids) := by
  unfold grpN
  cases r with
  | er c q => exact lastK_er
  | ok kid j b ns =>
    dsimp only
    split
    · exact lastK_put (kind67 _ _ _)
    · split
      · exact h _ _ _ _ _
      · exact lastK_er
theorem grpG_last {L : List UInt8} {val : Nat → Nat → List JNode → JR} {o e : Nat} : ∀ (f q b : Nat) (ns : List JNode) (keys : List ByteArray) (kids : List Int), LastK (grpG L val o e f q b ns keys kids)
  | 0, q, b, ns, keys, kids => by rw [grpG]; exact lastK_er
  | f + 1, q, b, ns, keys, kids => by
    rw [grpG]
    repeat' split
    all_goals first | exact lastK_er | exact grpN_last (fun q1 b1 ns1 ks ds => grpG_last f q1 b1 ns1 ks ds)
theorem grpB_last {L : List UInt8} {val : Nat → Nat → List JNode → JR} {o p b : Nat} {ns : List JNode} : LastK (grpB L val o p b ns) := by
  unfold grpB
  split
  · exact lastK_put (kind67 _ _ _)
  · exact grpG_last _ _ _ _ _ _
theorem grpL_last {L : List UInt8} (v : Nat) {o p b : Nat} {ns : List JNode} : LastK (grpL L v o p b ns) := by
  cases v with
  | zero => rw [grpL]; exact lastK_er
  | succ v => rw [grpL]; exact grpB_last
theorem num_first {L : List UInt8} (h : (numJ L 0).1 = true) : gB L 0 = 45 ∨ dgB (gB L 0) = true := by
  by_cases h45 : gB L 0 = 45
  · exact Or.inl h45
  · refine Or.inr ?_
    cases hb : dgB (gB L 0) with
    | true => rfl
    | false =>
      have h0 : gB L 0 ≠ 48 := fun e => by rw [e] at hb; revert hb; decide
      have hs : sgP L 0 = 0 := by unfold sgP; rw [if_neg h45]
      have hi : intP L (sgP L 0) = (false, 0) := by
        rw [hs]
        unfold intP
        rw [if_neg h0, if_pos (dgE_no.2 hb)]
      unfold numJ at h
      rw [hi] at h
      cases h
theorem jrd_num (s : ByteArray) : (∃ n, jrdP s = ([n], 0, 0) ∧ n.kind = 4 ∧ n.text = s) ↔ numB s = true := by
  obtain ⟨L, hL⟩ : ∃ L, s.data.toList = L := ⟨_, rfl⟩
  have hsz : s.size = L.length := by rw [← hL, Lib.size_eq]
  have hmk : ∀ M, mkB M = s ↔ M = L := by
    intro M
    rw [← hL]
    constructor
    · intro e; rw [← e]; rfl
    · intro e; rw [e]; rfl
  unfold jrdP numB
  rw [hL, hsz]
  cases hok : okText s with
  | false =>
    rw [if_neg (by decide)]
    constructor
    · rintro ⟨n, h, _⟩; cases h
    · intro h; cases h
  | true =>
    rw [if_pos rfl, Bool.true_and, Bool.and_eq_true, decide_eq_true_iff]
    constructor
    · rintro ⟨n, h, hk, ht⟩
      have hsk := skB_in L (p := 0) (Nat.zero_le _)
      obtain ⟨p, hp⟩ : ∃ p, skB L 0 = p := ⟨_, rfl⟩
      rw [hp] at h hsk
      have key : ∀ kid j b ns, valG L (grpL L 8) p 0 [] = .ok kid j b ns → ns = [n] → (numJ L 0).1 = true ∧ (numJ L 0).2 = L.length := by
        intro kid j b ns hv hn
        subst hn
        have nk : ∀ m : JNode, m.kind ≠ 4 → ∀ j b, putN m j b [] = .ok kid j b [n] → False := by
          intro m hm j b e
          unfold putN at e
          injection e with e1 e2 e3 e4
          rw [List.nil_append] at e4
          injection e4 with e5
          rw [e5] at hm
          exact hm hk
        have nl : ∀ r, LastK r → r = .ok kid j b [n] → False := by
          intro r hr e
          obtain ⟨n0, ns0, h1, h2⟩ := hr _ _ _ _ e
          have h3 := congrArg List.getLast? h1
          simp at h3
          rw [← h3] at h2
          exact h2 hk
        unfold valG at hv
        by_cases hiv : isVal (gB L p) = false
        · rw [if_pos hiv] at hv; cases hv
        rw [if_neg hiv, if_neg (by decide)] at hv
        have hlt : p < L.length := gB_lt (fun e => by rw [e] at hiv; exact hiv rfl)
        have wk : ∀ wd (k : Int) b0, k ≠ 4 → LastK (wordR L p wd k b0 []) := by
          intro wd k b0 hk0
          unfold wordR
          split
          · exact lastK_put hk0
          · exact lastK_er
        split at hv
        · exact (nl _ (wk _ _ _ (by decide)) hv).elim
        · split at hv
          · exact (nl _ (wk _ _ _ (by decide)) hv).elim
          · split at hv
            · exact (nl _ (wk _ _ _ (by decide)) hv).elim
            · split at hv
              · split at hv
                · exact (nl _ (lastK_put (show (5 : Int) ≠ 4 by decide)) hv).elim
                · cases hv
              · split at hv
                · exact (nl _ (grpL_last 8) hv).elim
                · split at hv
                  · rename_i hnum
                    unfold putN at hv
                    injection hv with e1 e2 e3 e4
                    rw [List.nil_append] at e4
                    injection e4 with e5
                    have e6 : mkB ((L.drop p).take ((numJ L p).2 - p)) = s := by rw [← ht, ← e5]
                    rw [hmk] at e6
                    have e7 := congrArg List.length e6
                    rw [List.length_take, List.length_drop] at e7
                    have hp0 : p = 0 := by omega
                    subst hp0
                    have h8 := numJ_fw hnum
                    exact ⟨hnum, by omega⟩
                  · cases hv
      cases hv : valG L (grpL L 8) p 0 [] with
      | er c q => rw [hv] at h; cases h
      | ok kid j b ns =>
        rw [hv] at h
        dsimp only at h
        split at h
        · cases h
        · injection h with h1 h2
          exact key _ _ _ _ hv h1
    · rintro ⟨h1, h2⟩
      have hf := num_first h1
      obtain ⟨c, hc⟩ : ∃ c, gB L 0 = c := ⟨_, rfl⟩
      rw [hc] at hf
      have hc2 : c = 45 ∨ (48 ≤ c ∧ c ≤ 57) := hf.imp id (fun h => by simpa [dgB] using h)
      have hbl : blB (gB L 0) = false := by
        rw [hc]
        unfold blB
        simp only [Bool.or_eq_false_iff, beq_eq_false_iff_ne]
        omega
      have hs0 : skB L 0 = 0 := runE_stop hbl
      have hiv : ¬ isVal (gB L 0) = false := by
        rw [hc]
        unfold isVal
        rcases hf with rfl | h
        · decide
        · rw [h]; simp
      refine ⟨⟨4, mkB ((L.drop 0).take ((numJ L 0).2 - 0)), [], []⟩, ?_, rfl, ?_⟩
      · rw [hs0]
        have hv : valG L (grpL L 8) 0 0 [] = putN ⟨4, mkB ((L.drop 0).take ((numJ L 0).2 - 0)), [], []⟩ (numJ L 0).2 (0 + 1) [] := by
          unfold valG
          rw [if_neg hiv, if_neg (by decide), hc, if_neg (by omega), if_neg (by omega), if_neg (by omega), if_neg (by omega), if_neg (by omega), if_pos h1]
        rw [hv]
        unfold putN
        dsimp only
        rw [h2, show skB L L.length = L.length from runE_far (Nat.le_refl _), if_neg (Nat.lt_irrefl _)]
        rfl
      · show mkB ((L.drop 0).take ((numJ L 0).2 - 0)) = s
        rw [hmk, h2, Nat.sub_zero, List.drop_zero, List.take_length]
end Go.Proofs.YtlfkfofeenakhaaDoor
