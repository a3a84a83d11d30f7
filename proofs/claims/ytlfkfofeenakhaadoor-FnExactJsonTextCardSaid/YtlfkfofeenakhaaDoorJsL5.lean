/-
  What is proved here: plain laws on JSON: a reading goes on and counts its nodes. No program in sight; no condition.
-/
import Derived.Test.YtlfkfofeenakhaaDoorJsL4
namespace Go.Proofs.YtlfkfofeenakhaaDoor
open Go.RowKit
set_option linter.unusedVariables false
set_option linter.unusedSimpArgs false

def Okv (L : List UInt8) (p k b : Nat) (ns : List JNode) (r : JR) : Prop :=
  ∀ kid j b' ns', r = .ok kid j b' ns' → p < j ∧ j ≤ L.length ∧ kid < ns'.length ∧ ns.length < ns'.length ∧ b' ≤ 200 ∧ b ≤ b' ∧ ns'.length + b ≤ ns.length + b' + k
def FwV (L : List UInt8) (val : Nat → Nat → List JNode → JR) : Prop := ∀ p b ns, p ≤ L.length → b ≤ 200 → Okv L p 0 b ns (val p b ns)
def FwG (L : List UInt8) (grp : Nat → Nat → Nat → List JNode → JR) : Prop := ∀ o p b ns, (o = 91 ∨ o = 123) → p < L.length → b ≤ 200 → Okv L p 1 b ns (grp o p b ns)
theorem okv_er {L : List UInt8} {p k b : Nat} {ns : List JNode} {c q : Nat} : Okv L p k b ns (.er c q) := fun _ _ _ _ h => by cases h
theorem okv_put {L : List UInt8} {p k b b1 : Nat} {ns : List JNode} {n : JNode} {j : Nat} (h1 : p < j) (h2 : j ≤ L.length) (h3 : b1 ≤ 200) (h4 : b + 1 ≤ b1 + k) (h5 : b ≤ b1) : Okv L p k b ns (putN n j b1 ns) := by
  intro kid j' b' ns' h
  unfold putN at h
  injection h with e1 e2 e3 e4
  subst e1; subst e2; subst e3; subst e4
  rw [List.length_append, List.length_cons, List.length_nil]
  exact ⟨h1, h2, by omega, by omega, h3, h5, by omega⟩
theorem skB_in (L : List UInt8) {p : Nat} (h : p ≤ L.length) : p ≤ skB L p ∧ skB L p ≤ L.length := ⟨runE_le _ _ _, runE_len h⟩
theorem numJ_fw {L : List UInt8} {p : Nat} (h : (numJ L p).1 = true) : p < (numJ L p).2 ∧ (numJ L p).2 ≤ L.length := by
  have hrun : ∀ q, q ≤ dgE L q ∧ (q ≤ L.length → dgE L q ≤ L.length) := fun q => ⟨runE_le _ _ _, runE_len⟩
  have hat : ∀ q, gB L q ≠ 0 → q < L.length := fun q h => gB_lt h
  have hdg : ∀ q, dgE L q ≠ q → q < L.length := fun q h => by
    rcases Nat.lt_or_ge q L.length with h1 | h1
    · exact h1
    · exact absurd (runE_far h1) h
  have h1 : p ≤ sgP L p := by unfold sgP; split <;> omega
  have h2 : (intP L (sgP L p)).1 = true → sgP L p < (intP L (sgP L p)).2 ∧ (intP L (sgP L p)).2 ≤ L.length := by
    obtain ⟨r1, r2⟩ := hrun (sgP L p)
    unfold intP
    split
    · rename_i hh
      have := hat (sgP L p) (by omega)
      exact fun _ => ⟨by show sgP L p < sgP L p + 1; omega, by show sgP L p + 1 ≤ _; omega⟩
    · split
      · exact fun h => by cases h
      · rename_i hh hne
        have := hdg _ hne
        exact fun _ => ⟨by show sgP L p < dgE L (sgP L p); omega, r2 (by omega)⟩
  unfold numJ at h ⊢
  by_cases hi : (intP L (sgP L p)).1 = false
  · rw [if_pos hi] at h; rw [hi] at h; cases h
  rw [if_neg hi] at h ⊢
  obtain ⟨i1, i2⟩ := h2 (by simpa using hi)
  obtain ⟨a, ha⟩ : ∃ a, (intP L (sgP L p)).2 = a := ⟨_, rfl⟩
  rw [ha] at h i1 i2 ⊢
  have h3 : a ≤ (frP L a).2 ∧ (frP L a).2 ≤ L.length := by
    obtain ⟨r1, r2⟩ := hrun (a + 1)
    unfold frP
    split
    · rename_i hh
      have := hat a (by omega)
      split
      · exact ⟨by show a ≤ a + 1; omega, by show a + 1 ≤ _; omega⟩
      · exact ⟨by show a ≤ dgE L (a + 1); omega, r2 (by omega)⟩
    · exact ⟨Nat.le_refl _, i2⟩
  by_cases hf : (frP L a).1 = false
  · rw [if_pos hf] at h; rw [hf] at h; cases h
  rw [if_neg hf] at h ⊢
  obtain ⟨c, hc⟩ : ∃ c, (frP L a).2 = c := ⟨_, rfl⟩
  rw [hc] at h h3 ⊢
  have h4 : c ≤ (exP L c).2 ∧ (exP L c).2 ≤ L.length := by
    unfold exP
    split
    · rename_i hh
      have hcl := hat c (by omega)
      have hsg : c + 1 ≤ sg2 L (c + 1) ∧ sg2 L (c + 1) ≤ L.length := by
        unfold sg2
        split
        · rename_i h5
          have := hat (c + 1) (by omega)
          omega
        · omega
      obtain ⟨r1, r2⟩ := hrun (sg2 L (c + 1))
      split
      · exact ⟨by show c ≤ sg2 L (c + 1); omega, hsg.2⟩
      · exact ⟨by show c ≤ dgE L (sg2 L (c + 1)); omega, r2 hsg.2⟩
    · exact ⟨Nat.le_refl _, by show c ≤ _; omega⟩
  exact ⟨by omega, h4.2⟩
theorem word_fw {L : List UInt8} {p b : Nat} {wd : List Nat} {k : Int} {ns : List JNode} (hw : ∀ c ∈ wd, c ≠ 0) (hl : 1 ≤ wd.length) (hp : p ≤ L.length) (hb : b + 1 ≤ 200) : Okv L p 0 b ns (wordR L p wd k (b + 1) ns) := by
  unfold wordR
  have h := wordE_in L wd p hw hp
  split
  · rename_i hh
    exact okv_put (by rw [h.2.2 hh]; omega) h.2.1 hb (by omega) (by omega)
  · exact okv_er
theorem valG_fw {L : List UInt8} {grp : Nat → Nat → Nat → List JNode → JR} (hg : FwG L grp) : FwV L (valG L grp) := by
  intro p b ns hp hb
  unfold valG
  by_cases hv : isVal (gB L p) = false
  · rw [if_pos hv]; exact okv_er
  rw [if_neg hv]
  have hlt : p < L.length := gB_lt (fun e => by rw [e] at hv; exact hv rfl)
  by_cases h2 : b = 200
  · rw [if_pos h2]; exact okv_er
  rw [if_neg h2]
  split
  · exact word_fw (by decide) (by decide) hp (by omega)
  · split
    · exact word_fw (by decide) (by decide) hp (by omega)
    · split
      · exact word_fw (by decide) (by decide) hp (by omega)
      · split
        · split
          · rename_i hs
            have h3 := strP_in hlt
            exact okv_put (by have := (h3.2 hs).1; omega) h3.1 (by omega) (by omega) (by omega)
          · exact okv_er
        · split
          · rename_i ho
            intro kid j b' ns' h
            obtain ⟨g1, g2, g3, g4, g5, g6, g7⟩ := hg _ p (b + 1) ns ho hlt (by omega) kid j b' ns' h
            exact ⟨g1, g2, g3, g4, g5, by omega, by omega⟩
          · split
            · rename_i hm
              have h3 := numJ_fw hm
              exact okv_put h3.1 h3.2 (by omega) (by omega) (by omega)
            · exact okv_er
theorem grpN_fw {L : List UInt8} {o e p b : Nat} {ns : List JNode} {nxt : Nat → Nat → List JNode → List ByteArray → List Int → JR} {r : JR} {keys : List ByteArray} {kids : List Int} (he : e ≠ 0) (hr : Okv L p 0 b ns r)
    (hx : ∀ q b1 ns1 ks ds, p < q → q ≤ L.length → b1 ≤ 200 → Okv L q 1 b1 ns1 (nxt q b1 ns1 ks ds)) : Okv L p 1 b ns (grpN L o e nxt r keys kids) := by
  unfold grpN
  cases r with
  | er c q => exact okv_er
  | ok kid j b1 ns1 =>
    obtain ⟨h1, h2, h3, h4, h5, h6, h7⟩ := hr kid j b1 ns1 rfl
    have hs := skB_in L h2
    dsimp only
    split
    · rename_i hh
      have := gB_lt (L := L) (i := skB L j) (by rw [hh]; exact he)
      intro kid' j' b' ns' h
      unfold putN at h
      injection h with e1 e2 e3 e4
      subst e1; subst e2; subst e3; subst e4
      rw [List.length_append, List.length_cons, List.length_nil]
      exact ⟨by omega, by omega, by omega, by omega, h5, h6, by omega⟩
    · split
      · rename_i hh
        have := gB_lt (L := L) (i := skB L j) (by omega)
        have hs2 := skB_in L (p := skB L j + 1) (by omega)
        intro kid' j' b' ns' h
        obtain ⟨g1, g2, g3, g4, g5, g6, g7⟩ := hx _ _ _ _ _ (by omega) hs2.2 h5 kid' j' b' ns' h
        exact ⟨by omega, g2, g3, by omega, g5, by omega, by omega⟩
      · exact okv_er
theorem grpG_fw {L : List UInt8} {val : Nat → Nat → List JNode → JR} {o e : Nat} (he : e ≠ 0) (hv : FwV L val) : ∀ (f q b : Nat) (ns : List JNode) (keys : List ByteArray) (kids : List Int), q ≤ L.length → b ≤ 200 → Okv L q 1 b ns (grpG L val o e f q b ns keys kids)
  | 0, q, b, ns, keys, kids, _, _ => by rw [grpG]; exact okv_er
  | f + 1, q, b, ns, keys, kids, hq, hb => by
    rw [grpG]
    by_cases ho : o = 123
    · rw [if_pos ho]
      by_cases h34 : gB L q ≠ 34
      · rw [if_pos h34]; exact okv_er
      rw [if_neg h34]
      have hlt : q < L.length := gB_lt (by omega)
      by_cases hs : (strP L q).1 = false
      · rw [if_pos hs]; exact okv_er
      rw [if_neg hs]
      have h3 := strP_in hlt
      have h4 := (h3.2 (by simpa using hs)).1
      by_cases hk : hasK keys (strP L q).2.2 = true
      · rw [if_pos hk]; exact okv_er
      rw [if_neg hk]
      have hs1 := skB_in L h3.1
      by_cases hc : gB L (skB L (strP L q).2.1) ≠ 58
      · rw [if_pos hc]; exact okv_er
      rw [if_neg hc]
      have hl2 := gB_lt (L := L) (i := skB L (strP L q).2.1) (by omega)
      have hs2 := skB_in L (p := skB L (strP L q).2.1 + 1) (by omega)
      intro kid j b' ns' h
      obtain ⟨g1, g2, g3, g4, g5, g6, g7⟩ := grpN_fw he (hv _ b ns hs2.2 hb) (fun q1 b1 ns1 ks ds _ h2 h3 => grpG_fw he hv f q1 b1 ns1 ks ds h2 h3) kid j b' ns' h
      exact ⟨by omega, g2, g3, g4, g5, g6, g7⟩
    · rw [if_neg ho]
      exact grpN_fw he (hv _ b ns hq hb) (fun q1 b1 ns1 ks ds _ h2 h3 => grpG_fw he hv f q1 b1 ns1 ks ds h2 h3)
theorem endOf_ne (o : Nat) : endOf o ≠ 0 := by unfold endOf; split <;> decide
theorem grpB_fw {L : List UInt8} {val : Nat → Nat → List JNode → JR} (hv : FwV L val) : FwG L (grpB L val) := by
  intro o p b ns ho hp hb
  unfold grpB
  have hs := skB_in L (p := p + 1) hp
  split
  · rename_i hh
    have := gB_lt (L := L) (i := skB L (p + 1)) (by rw [hh]; exact endOf_ne o)
    exact okv_put (by omega) (by omega) hb (by omega) (by omega)
  · intro kid j b' ns' h
    obtain ⟨g1, g2, g3, g4, g5, g6, g7⟩ := grpG_fw (endOf_ne o) hv _ _ b ns [] [] hs.2 hb kid j b' ns' h
    exact ⟨by omega, g2, g3, g4, g5, g6, g7⟩
theorem grpL_fw (L : List UInt8) : ∀ v, FwG L (grpL L v)
  | 0 => fun o p b ns _ _ _ => by rw [grpL]; exact okv_er
  | v + 1 => fun o p b ns ho hp hb => by rw [grpL]; exact grpB_fw (valG_fw (grpL_fw L v)) o p b ns ho hp hb
end Go.Proofs.YtlfkfofeenakhaaDoor
