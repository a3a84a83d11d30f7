/-
  What is proved here: plain laws on JSON: a string's text is a text, no longer than what it was read from, and is read again. No program in sight; no condition.
-/
import Derived.Test.YtlfkfofeenakhaaDoorJsL5
import Derived.Test.YtlfkfofeenakhaaDoorTextOf
namespace Go.Proofs.YtlfkfofeenakhaaDoor
open Go.RowKit
set_option linter.unusedVariables false
set_option linter.unusedSimpArgs false

def okL (l : List UInt8) : Prop := (runesAll l).isSome = true
theorem okL_nil : okL [] := by unfold okL; rw [runesAll_nil]; rfl
theorem okL_texts {l : List UInt8} : okL l ↔ ∃ rs : List Nat, (∀ c ∈ rs, isPt c) ∧ texts rs = l := by
  unfold okL
  constructor
  · intro h
    cases hr : runesAll l with
    | none => rw [hr] at h; cases h
    | some rs => exact ⟨rs, (runesAll_len _ _ _ rfl hr).2.1, texts_runes _ _ _ rfl hr⟩
  · rintro ⟨rs, h1, rfl⟩
    rw [runes_texts rs h1]; rfl
theorem okL_app {a b : List UInt8} (ha : okL a) (hb : okL b) : okL (a ++ b) := by
  obtain ⟨ra, h1, rfl⟩ := okL_texts.1 ha
  obtain ⟨rb, h2, rfl⟩ := okL_texts.1 hb
  refine okL_texts.2 ⟨ra ++ rb, fun c hc => ?_, texts_append ra rb⟩
  rcases List.mem_append.1 hc with h | h
  · exact h1 c h
  · exact h2 c h
theorem okL_enc {c : Nat} (h : isPt c) : okL (enc c) := okL_texts.2 ⟨[c], fun x hx => by rw [List.mem_singleton.1 hx]; exact h, by simp [texts]⟩
theorem okL_one {c : UInt8} (h : 1 ≤ c.toNat ∧ c.toNat < 128) : okL [c] := by
  refine okL_texts.2 ⟨[c.toNat], fun x hx => ?_, ?_⟩
  · rw [List.mem_singleton.1 hx]; exact ⟨h.1, by omega, by omega⟩
  · show enc c.toNat ++ [] = [c]
    unfold enc
    rw [if_pos h.2, UInt8.ofNat_toNat]; rfl
theorem textOk_okL {l : List UInt8} (h : textOk l = true) : okL l ∧ l.length ≤ 1000 := by
  unfold textOk runes? at h
  split at h
  · exact ⟨h, by assumption⟩
  · cases h
theorem okL_textOk {l : List UInt8} (h : okL l) (hl : l.length ≤ 1000) : textOk l = true := by
  unfold textOk runes?
  rw [if_pos hl]
  exact h
theorem ofNatT {n : Nat} (h : n < 256) : (UInt8.ofNat n).toNat = n := by rw [UInt8.toNat_ofNat']; omega
theorem enc_lowC {c : Nat} (h : c < 128) : enc c = [UInt8.ofNat c] := by unfold enc; rw [if_pos h]
theorem enc_highC {c : Nat} (h : ¬ c < 128) (hp : isPt c) : ∀ x ∈ enc c, 128 ≤ x.toNat := by
  intro x hx
  have hb : c < 1114112 := by have := hp.2; omega
  unfold enc at hx
  rw [if_neg h] at hx
  split at hx
  · simp only [List.mem_cons, List.not_mem_nil, or_false] at hx
    rcases hx with rfl | rfl <;> (rw [ofNatT (by omega)]; omega)
  · split at hx
    · simp only [List.mem_cons, List.not_mem_nil, or_false] at hx
      rcases hx with rfl | rfl | rfl <;> (rw [ofNatT (by omega)]; omega)
    · simp only [List.mem_cons, List.not_mem_nil, or_false] at hx
      rcases hx with rfl | rfl | rfl | rfl <;> (rw [ofNatT (by omega)]; omega)
/-- behind a low byte of a text a text follows -/
theorem okL_low {c : UInt8} {r : List UInt8} (h : okL (c :: r)) (hc : c.toNat < 128) : okL r ∧ 1 ≤ c.toNat := by
  obtain ⟨rs, h1, h2⟩ := okL_texts.1 h
  cases rs with
  | nil => simp [texts] at h2
  | cons x rs =>
    have hx := h1 x (by simp)
    have e : texts (x :: rs) = enc x ++ texts rs := by simp [texts]
    rw [e] at h2
    by_cases hl : x < 128
    · rw [enc_lowC hl] at h2
      injection h2 with h3 h4
      refine ⟨okL_texts.2 ⟨rs, fun y hy => h1 y (by simp [hy]), h4⟩, ?_⟩
      rw [← h3, ofNatT (by omega)]
      exact hx.1
    · exfalso
      have hn := (enc_pos x).1
      cases he : enc x with
      | nil => rw [he] at hn; simp at hn
      | cons y l =>
        rw [he] at h2
        injection h2 with h3 h4
        have := enc_highC hl hx y (by rw [he]; simp)
        rw [h3] at this
        omega
/-- a text begins with a low byte, or with a code point of high ones -/
theorem okL_split {c : UInt8} {r : List UInt8} (h : okL (c :: r)) (hc : ¬ c.toNat < 128) : ∃ x r', isPt x ∧ ¬ x < 128 ∧ c :: r = enc x ++ r' ∧ okL r' := by
  obtain ⟨rs, h1, h2⟩ := okL_texts.1 h
  cases rs with
  | nil => simp [texts] at h2
  | cons x rs =>
    have hx := h1 x (by simp)
    have e : texts (x :: rs) = enc x ++ texts rs := by simp [texts]
    rw [e] at h2
    refine ⟨x, texts rs, hx, fun hl => ?_, h2.symm, okL_texts.2 ⟨rs, fun y hy => h1 y (by simp [hy]), rfl⟩⟩
    rw [enc_lowC hl] at h2
    injection h2 with h3 h4
    rw [← h3, ofNatT (by omega)] at hc
    exact hc hl
/-- where a low byte stands a text begins -/
theorem okL_at : ∀ (n : Nat) (L : List UInt8) (p : Nat), L.length = n → okL L → p < L.length → gB L p < 128 → okL (L.drop p) := by
  intro n
  induction n using Nat.strongRecOn with
  | _ n ih =>
    intro L p hn hok hp hlow
    cases L with
    | nil => simp at hp
    | cons c r =>
      cases p with
      | zero => exact hok
      | succ p =>
        simp only [List.length_cons] at hp hn
        by_cases hc : c.toNat < 128
        · have h1 := (okL_low hok hc).1
          have h2 : gB (c :: r) (p + 1) = gB r p := by unfold gB; rw [List.getD_cons_succ]
          rw [h2] at hlow
          exact ih r.length (by omega) r p rfl h1 (by omega) hlow
        · obtain ⟨x, r', hx, hxl, he, hok'⟩ := okL_split hok hc
          have hlen : (enc x).length + r'.length = r.length + 1 := by rw [← List.length_append, ← he, List.length_cons]
          have hpos := (enc_pos x).1
          rw [he] at hlow ⊢
          by_cases hq : p + 1 < (enc x).length
          · exfalso
            have h3 : gB (enc x ++ r') (p + 1) = ((enc x)[p + 1]).toNat := by
              rw [gB_at (by rw [List.length_append]; omega), List.getElem_append_left hq]
            have := enc_highC hxl hx _ (List.getElem_mem hq)
            omega
          · obtain ⟨q, hqq⟩ : ∃ q, p + 1 = (enc x).length + q := ⟨p + 1 - (enc x).length, by omega⟩
            rw [hqq] at hlow ⊢
            have h3 : gB (enc x ++ r') ((enc x).length + q) = gB r' q := by
              unfold gB
              rw [List.getD_eq_getElem?_getD, List.getElem?_append_right (by omega), ← List.getD_eq_getElem?_getD]
              congr 2
              omega
            rw [h3] at hlow
            rw [← List.drop_drop, List.drop_left]
            exact ih r'.length (by omega) r' q rfl hok' (by omega) hlow
/-- what stands at a place -/
theorem gB_drop {L : List UInt8} {q : Nat} {c : UInt8} {r : List UInt8} (h : L.drop q = c :: r) : gB L q = c.toNat ∧ L.drop (q + 1) = r ∧ q < L.length ∧ L.getD q 0 = c := by
  have hlt : q < L.length := by
    rcases Nat.lt_or_ge q L.length with h1 | h1
    · exact h1
    · rw [List.drop_eq_nil_of_le h1] at h; cases h
  rw [List.drop_eq_getElem_cons hlt] at h
  injection h with h1 h2
  refine ⟨by rw [gB_at hlt, h1], h2, hlt, ?_⟩
  rw [List.getD_eq_getElem?_getD, List.getElem?_eq_getElem hlt, h1]; rfl
theorem drop_cons {L : List UInt8} {q : Nat} (h : q < L.length) : ∃ c, L.drop q = c :: L.drop (q + 1) ∧ gB L q = c.toNat ∧ L.getD q 0 = c := by
  refine ⟨L[q], List.drop_eq_getElem_cons h, gB_at h, ?_⟩
  rw [List.getD_eq_getElem?_getD, List.getElem?_eq_getElem h]; rfl
theorem okL_step {L : List UInt8} {q : Nat} (h : okL (L.drop q)) (h0 : gB L q ≠ 0) (h1 : gB L q < 128) : okL (L.drop (q + 1)) := by
  obtain ⟨c, e1, e2, _⟩ := drop_cons (gB_lt h0)
  rw [e1] at h
  exact (okL_low h (by omega)).1
theorem hexV_low {c d : Nat} (h : hexV c = some d) : c ≠ 0 ∧ c < 128 := by
  unfold hexV at h
  split at h
  · omega
  · split at h
    · omega
    · split at h
      · omega
      · cases h
theorem fourG_ok (L : List UInt8) : ∀ (k p n : Nat), (fourG L k p n).1 = true → (fourG L k p n).2.2 = p + k ∧ (okL (L.drop p) → okL (L.drop (p + k)))
  | 0, p, n, _ => ⟨rfl, fun h => h⟩
  | k + 1, p, n, h => by
    rw [fourG] at h ⊢
    cases hv : hexV (gB L p) with
    | none => rw [hv] at h; cases h
    | some d =>
      rw [hv] at h
      obtain ⟨h1, h2⟩ := fourG_ok L k (p + 1) (16 * n + d) h
      have hl := hexV_low hv
      refine ⟨by show (fourG L k (p + 1) (16 * n + d)).2.2 = _; rw [h1]; omega, fun ho => ?_⟩
      have := h2 (okL_step ho hl.1 hl.2)
      rwa [show p + 1 + k = p + (k + 1) by omega] at this
theorem fourP_ok {L : List UInt8} {p : Nat} (h : (fourP L p).1 = true) : (fourP L p).2.2 = p + 4 ∧ (okL (L.drop p) → okL (L.drop (p + 4))) := fourG_ok L 4 p 0 h
theorem escV_low {c v : Nat} (h : escV c = some v) : c ≠ 0 ∧ c < 128 := by
  unfold escV at h
  repeat' split at h
  all_goals first | omega | cases h
/-- a byte as it is written in a string -/
def hx (d : Nat) : UInt8 := if d < 10 then UInt8.ofNat (48 + d) else UInt8.ofNat (87 + d)
def escT (c : UInt8) : List UInt8 :=
  if c = 34 then [92, 34] else if c = 92 then [92, 92] else if c = 8 then [92, 98] else if c = 12 then [92, 102] else if c = 10 then [92, 110] else if c = 13 then [92, 114] else if c = 9 then [92, 116]
  else if c.toNat < 32 then [92, 117, 48, 48, hx (c.toNat / 16), hx (c.toNat % 16)] else [c]
def quoT (l : List UInt8) : List UInt8 := 34 :: (l.flatMap escT ++ [34])
theorem escT_len (c : UInt8) : 1 ≤ (escT c).length ∧ (escT c).length ≤ 6 := by
  unfold escT
  repeat' split
  all_goals simp
theorem escT_raw {c : UInt8} (h : 32 ≤ c.toNat) (h1 : c.toNat ≠ 34) (h2 : c.toNat ≠ 92) : escT c = [c] := by
  have n : ∀ k : UInt8, k.toNat ≠ c.toNat → ¬ c = k := fun k hk e => hk (by rw [e])
  unfold escT
  rw [if_neg (n 34 (by rw [show (34 : UInt8).toNat = 34 from rfl]; omega)), if_neg (n 92 (by rw [show (92 : UInt8).toNat = 92 from rfl]; omega)), if_neg (n 8 (by rw [show (8 : UInt8).toNat = 8 from rfl]; omega)), if_neg (n 12 (by rw [show (12 : UInt8).toNat = 12 from rfl]; omega)), if_neg (n 10 (by rw [show (10 : UInt8).toNat = 10 from rfl]; omega)), if_neg (n 13 (by rw [show (13 : UInt8).toNat = 13 from rfl]; omega)), if_neg (n 9 (by rw [show (9 : UInt8).toNat = 9 from rfl]; omega)), if_neg (by omega)]
theorem flat_raw : ∀ {l : List UInt8}, (∀ c ∈ l, 128 ≤ c.toNat) → l.flatMap escT = l
  | [], _ => rfl
  | c :: l, h => by
    have hc := h c (by simp)
    rw [List.flatMap_cons, escT_raw (by omega) (by omega) (by omega), flat_raw (fun x hx => h x (by simp [hx]))]
    rfl
theorem escT_enc {v : Nat} (hp : isPt v) : ((enc v).flatMap escT).length ≤ 6 := by
  by_cases h : v < 128
  · rw [enc_lowC h]
    simp only [List.flatMap_cons, List.flatMap_nil, List.append_nil]
    exact (escT_len _).2
  · rw [flat_raw (enc_highC h hp)]
    have := (enc_pos v).2
    omega
theorem escS_ok {L : List UInt8} {p a : Nat} (h : (escS L p a).1 = true) : (okL (L.drop p) → okL (L.drop (escS L p a).2.2)) ∧ ((enc (escS L p a).2.1).flatMap escT).length + p ≤ (escS L p a).2.2 + 1 ∧ isPt (escS L p a).2.1 := by
  unfold escS at h ⊢
  cases hv : escV (gB L p) with
  | some v =>
    have hl := escV_low hv
    refine ⟨fun ho => okL_step ho hl.1 hl.2, ?_, ?_⟩
    · show ((enc v).flatMap escT).length + p ≤ p + 1 + 1
      have : ((enc v).flatMap escT).length ≤ 2 := by
        unfold escV at hv
        repeat' split at hv
        all_goals first | (injection hv with hv; subst hv; decide) | cases hv
      omega
    · show isPt v
      unfold escV at hv
      repeat' split at hv
      all_goals first | (injection hv with hv; subst hv; exact ⟨by decide, by decide, by decide⟩) | cases hv
  | none =>
    rw [hv] at h
    dsimp only at h ⊢
    by_cases h117 : gB L p = 117
    · rw [if_pos h117] at h ⊢
      unfold uniS at h ⊢
      by_cases hf : (fourP L (p + 1)).1 = false
      · rw [if_pos hf] at h; cases h
      rw [if_neg hf] at h ⊢
      obtain ⟨f1, f2⟩ := fourP_ok (L := L) (p := p + 1) (by simpa using hf)
      rw [f1] at h ⊢
      by_cases hs : 55296 ≤ (fourP L (p + 1)).2.1 ∧ (fourP L (p + 1)).2.1 ≤ 56319
      · rw [if_pos hs] at h ⊢
        unfold pairS at h ⊢
        split at h
        · cases h
        rename_i c1
        rw [if_neg c1]
        split at h
        · cases h
        rename_i c2
        rw [if_neg c2]
        split at h
        · cases h
        rename_i c3
        rw [if_neg c3]
        split at h
        · cases h
        rename_i c4
        rw [if_neg c4]
        obtain ⟨g1, g2⟩ := fourP_ok (L := L) (p := p + 1 + 4 + 2) (by simpa using c4)
        rw [g1] at h ⊢
        split at h
        · rename_i c5
          rw [if_pos c5]
          have hpp := pair_pt hs c5
          obtain ⟨v, hv2⟩ : ∃ v, 65536 + 1024 * ((fourP L (p + 1)).2.1 - 55296) + (fourP L (p + 1 + 4 + 2)).2.1 - 56320 = v := ⟨_, rfl⟩
          rw [hv2] at hpp ⊢
          refine ⟨fun ho => ?_, ?_, hpp⟩
          · have o1 := f2 (okL_step ho (by omega) (by omega))
            have o2 := okL_step o1 (by omega) (by omega)
            have o3 := okL_step o2 (by omega) (by omega)
            exact g2 o3
          · show ((enc v).flatMap escT).length + p ≤ p + 1 + 4 + 2 + 4 + 1
            have := escT_enc hpp
            omega
        · cases h
      · rw [if_neg hs] at h ⊢
        split at h
        · rename_i hpt
          rw [if_pos hpt]
          have hpp := ptB_iff.1 hpt
          refine ⟨fun ho => f2 (okL_step ho (by omega) (by omega)), ?_, hpp⟩
          show ((enc (fourP L (p + 1)).2.1).flatMap escT).length + p ≤ p + 1 + 4 + 1
          have := escT_enc hpp
          omega
        · cases h
    · rw [if_neg h117] at h
      split at h
      · cases h
      · cases h
/-- a run of high bytes is taken as it is -/
theorem strG_high (L : List UInt8) : ∀ (bs : List UInt8) (f q : Nat) (out tl : List UInt8), (∀ x ∈ bs, 128 ≤ x.toNat) → L.drop q = bs ++ tl → (strG L f q out).1 = true → ∃ f', f = f' + bs.length ∧ strG L f q out = strG L f' (q + bs.length) (out ++ bs)
  | [], f, q, out, tl, _, _, _ => ⟨f, rfl, by simp⟩
  | b :: bs, 0, q, out, tl, _, _, h => by rw [strG] at h; cases h
  | b :: bs, f + 1, q, out, tl, hb, hd, h => by
    obtain ⟨e1, e2, e3, e4⟩ := gB_drop (r := bs ++ tl) hd
    have hb0 := hb b (by simp)
    have hst : strG L (f + 1) q out = strG L f (q + 1) (out ++ [b]) := by
      rw [strG, if_neg (by omega), if_neg (by omega), if_neg (by omega), e4]
    rw [hst] at h ⊢
    obtain ⟨f', h1, h2⟩ := strG_high L bs f (q + 1) (out ++ [b]) tl (fun x hx => hb x (by simp [hx])) e2 h
    refine ⟨f', by rw [h1, List.length_cons]; omega, ?_⟩
    rw [h2, List.length_cons, List.append_assoc]
    congr 1
    omega
theorem strG_ok (L : List UInt8) : ∀ (n f q : Nat) (out : List UInt8), f = n → okL (L.drop q) → okL out → (strG L f q out).1 = true → okL (strG L f q out).2.2 ∧ okL (L.drop (strG L f q out).2.1) ∧ ((strG L f q out).2.2.flatMap escT).length + q + 1 ≤ (out.flatMap escT).length + (strG L f q out).2.1 := by
  intro n
  induction n using Nat.strongRecOn with
  | _ n ih =>
    intro f q out hn hq ho h
    cases f with
    | zero => rw [strG] at h; cases h
    | succ f =>
      rw [strG] at h ⊢
      split at h
      · cases h
      rename_i h1
      rw [if_neg h1]
      have hlt : q < L.length := by omega
      split at h
      · rename_i h34
        rw [if_pos h34]
        exact ⟨ho, okL_step hq (by omega) (by omega), by show (out.flatMap escT).length + q + 1 ≤ _ + (q + 1); omega⟩
      rename_i h34
      rw [if_neg h34]
      split at h
      · rename_i h92
        rw [if_pos h92]
        split at h
        · cases h
        rename_i he
        rw [if_neg he]
        obtain ⟨s1, s2, s3⟩ := escS_ok (L := L) (p := q + 1) (a := q) (by simpa using he)
        obtain ⟨i1, i2, i3⟩ := ih f (by omega) f _ _ rfl (s1 (okL_step hq (by omega) (by omega))) (okL_app ho (okL_enc s3)) h
        refine ⟨i1, i2, ?_⟩
        rw [List.flatMap_append, List.length_append] at i3
        omega
      · rename_i h92
        rw [if_neg h92]
        obtain ⟨c, e1, e2, e3⟩ := drop_cons hlt
        by_cases hc : c.toNat < 128
        · have ho1 : okL (out ++ [c]) := okL_app ho (okL_one ⟨by omega, hc⟩)
          rw [e3] at h ⊢
          obtain ⟨i1, i2, i3⟩ := ih f (by omega) f _ _ rfl (okL_step hq (by omega) (by omega)) ho1 h
          refine ⟨i1, i2, ?_⟩
          rw [List.flatMap_append, List.length_append] at i3
          have : ([c].flatMap escT).length = 1 := by
            simp only [List.flatMap_cons, List.flatMap_nil, List.append_nil]
            rw [escT_raw (by omega) (by omega) (by omega)]; rfl
          omega
        · rw [e1] at hq
          obtain ⟨x, r', hx, hxl, he, hok'⟩ := okL_split hq hc
          have hst : strG L (f + 1) q out = strG L f (q + 1) (out ++ [L.getD q 0]) := by
            rw [strG, if_neg h1, if_neg h34, if_neg h92]
          rw [← hst] at h ⊢
          obtain ⟨f', f1, f2⟩ := strG_high L (enc x) (f + 1) q out r' (enc_highC hxl hx) (e1.trans he) h
          have hpos := (enc_pos x).1
          rw [f2] at h ⊢
          have hdr : L.drop (q + (enc x).length) = r' := by rw [← List.drop_drop, e1, he, List.drop_left]
          obtain ⟨i1, i2, i3⟩ := ih f' (by omega) f' _ _ rfl (by rw [hdr]; exact hok') (okL_app ho (okL_enc hx)) h
          refine ⟨i1, i2, ?_⟩
          rw [List.flatMap_append, List.length_append, flat_raw (enc_highC hxl hx)] at i3
          omega
/-- a string's text, as it was read -/
theorem strP_ok {L : List UInt8} {p : Nat} (hL : okL L) (h34 : gB L p = 34) (h : (strP L p).1 = true) : okL (strP L p).2.2 ∧ (quoT (strP L p).2.2).length + p ≤ (strP L p).2.1 := by
  have hlt : p < L.length := gB_lt (by omega)
  have h1 := okL_step (okL_at _ L p rfl hL hlt (by omega)) (by omega) (by omega)
  obtain ⟨i1, _, i3⟩ := strG_ok L _ (L.length + 1) (p + 1) [] rfl h1 okL_nil h
  refine ⟨i1, ?_⟩
  have e0 : (([] : List UInt8).flatMap escT).length = 0 := rfl
  unfold quoT
  rw [List.length_cons, List.length_append, List.length_cons, List.length_nil]
  show (((strG L (L.length + 1) (p + 1) []).2.2.flatMap escT).length + (0 + 1) + 1) + p ≤ (strG L (L.length + 1) (p + 1) []).2.1
  omega
theorem hx_hex : ∀ d : Nat, d < 16 → hexV (hx d).toNat = some d := by decide
/-- what an escaped byte reads as -/
theorem escT_cases (c : UInt8) (h0 : c ≠ 0) : (32 ≤ c.toNat ∧ c.toNat ≠ 34 ∧ c.toNat ≠ 92 ∧ escT c = [c]) ∨ (∃ x : UInt8, escT c = [92, x] ∧ escV x.toNat = some c.toNat) ∨ (c.toNat < 32 ∧ escT c = [92, 117, 48, 48, hx (c.toNat / 16), hx (c.toNat % 16)]) := by
  unfold escT
  by_cases h1 : c = 34
  · subst h1; exact Or.inr (Or.inl ⟨34, rfl, rfl⟩)
  rw [if_neg h1]
  by_cases h2 : c = 92
  · subst h2; exact Or.inr (Or.inl ⟨92, rfl, rfl⟩)
  rw [if_neg h2]
  by_cases h3 : c = 8
  · subst h3; exact Or.inr (Or.inl ⟨98, rfl, rfl⟩)
  rw [if_neg h3]
  by_cases h4 : c = 12
  · subst h4; exact Or.inr (Or.inl ⟨102, rfl, rfl⟩)
  rw [if_neg h4]
  by_cases h5 : c = 10
  · subst h5; exact Or.inr (Or.inl ⟨110, rfl, rfl⟩)
  rw [if_neg h5]
  by_cases h6 : c = 13
  · subst h6; exact Or.inr (Or.inl ⟨114, rfl, rfl⟩)
  rw [if_neg h6]
  by_cases h7 : c = 9
  · subst h7; exact Or.inr (Or.inl ⟨116, rfl, rfl⟩)
  rw [if_neg h7]
  by_cases h8 : c.toNat < 32
  · rw [if_pos h8]; exact Or.inr (Or.inr ⟨h8, rfl⟩)
  · rw [if_neg h8]
    have n : ∀ k : UInt8, ¬ c = k → c.toNat ≠ k.toNat := fun k hk e => hk (UInt8.toNat_inj.1 e)
    exact Or.inl ⟨by omega, n 34 h1, n 92 h2, rfl⟩
theorem strG_back (L : List UInt8) : ∀ (o : List UInt8) (f q : Nat) (out rest : List UInt8), (∀ c ∈ o, c ≠ 0) → L.drop q = o.flatMap escT ++ 34 :: rest → o.length < f → strG L f q out = (true, q + (o.flatMap escT).length + 1, out ++ o)
  | [], 0, q, out, rest, _, _, hf => by simp at hf
  | [], f + 1, q, out, rest, _, hd, _ => by
    obtain ⟨e1, e2, e3, e4⟩ := gB_drop (r := rest) hd
    rw [strG, if_neg (by rw [e1]; simp; omega), if_pos (by rw [e1]; rfl)]
    simp
  | c :: o, 0, q, out, rest, _, _, hf => by simp at hf
  | c :: o, f + 1, q, out, rest, h0, hd, hf => by
    rw [List.flatMap_cons, List.append_assoc] at hd
    have hc0 := h0 c (by simp)
    have ho0 : ∀ x ∈ o, x ≠ 0 := fun x hx => h0 x (by simp [hx])
    simp only [List.length_cons] at hf
    have fin : ∀ n, strG L (f + 1) q out = strG L f (q + n) (out ++ [c]) → (escT c).length = n → L.drop (q + n) = o.flatMap escT ++ 34 :: rest → strG L (f + 1) q out = (true, q + ((c :: o).flatMap escT).length + 1, out ++ c :: o) := by
      intro n e1 e2 e3
      rw [e1, strG_back L o f (q + n) (out ++ [c]) rest ho0 e3 (by omega), List.flatMap_cons, List.length_append, e2]
      simp
      omega
    rcases escT_cases c hc0 with ⟨a1, a2, a3, a4⟩ | ⟨x, a1, a2⟩ | ⟨a1, a2⟩
    · rw [a4] at hd
      obtain ⟨e1, e2, e3, e4⟩ := gB_drop (r := o.flatMap escT ++ 34 :: rest) hd
      refine fin 1 ?_ (by rw [a4]; rfl) e2
      rw [strG, if_neg (by omega), if_neg (by omega), if_neg (by omega), e4]
    · rw [a1] at hd
      obtain ⟨e1, e2, e3, e4⟩ := gB_drop (r := x :: (o.flatMap escT ++ 34 :: rest)) hd
      obtain ⟨g1, g2, g3, g4⟩ := gB_drop e2
      refine fin 2 ?_ (by rw [a1]; rfl) g2
      have hes : escS L (q + 1) q = (true, c.toNat, q + 2) := by unfold escS; rw [g1, a2]
      have hlow : c.toNat < 128 := by
        unfold escV at a2
        repeat' split at a2
        all_goals first | (injection a2 with a2; omega) | cases a2
      have h92 : gB L q = 92 := e1
      rw [strG, if_neg (by omega), if_neg (by omega), if_pos h92, hes, if_neg (by simp), show enc (true, c.toNat, q + 2).2.1 = [c] by rw [show (true, c.toNat, q + 2).2.1 = c.toNat from rfl, enc_lowC hlow, UInt8.ofNat_toNat]]
    · rw [a2] at hd
      obtain ⟨b1, c1, l1, _⟩ := gB_drop (r := 117 :: 48 :: 48 :: hx (c.toNat / 16) :: hx (c.toNat % 16) :: (o.flatMap escT ++ 34 :: rest)) hd
      obtain ⟨b2, c2, l2, _⟩ := gB_drop c1
      obtain ⟨b3, c3, l3, _⟩ := gB_drop c2
      obtain ⟨b4, c4, l4, _⟩ := gB_drop c3
      obtain ⟨b5, c5, l5, _⟩ := gB_drop c4
      obtain ⟨b6, c6, l6, _⟩ := gB_drop c5
      refine fin 6 ?_ (by rw [a2]; rfl) c6
      have hcn : 1 ≤ c.toNat := by
        rcases Nat.eq_zero_or_pos c.toNat with h | h
        · exact absurd (UInt8.toNat_inj.1 (show c.toNat = (0 : UInt8).toNat from h)) hc0
        · exact h
      have hf4 : fourP L (q + 2) = (true, c.toNat, q + 6) := by
        unfold fourP
        rw [fourG, b3, show hexV (48 : UInt8).toNat = some 0 from rfl]
        dsimp only
        rw [fourG, b4, show hexV (48 : UInt8).toNat = some 0 from rfl]
        dsimp only
        rw [fourG, b5, hx_hex _ (by omega)]
        dsimp only
        rw [fourG, b6, hx_hex _ (by omega)]
        dsimp only
        rw [fourG]
        refine Prod.ext rfl (Prod.ext ?_ rfl)
        show 16 * (16 * (16 * (16 * 0 + 0) + 0) + c.toNat / 16) + c.toNat % 16 = c.toNat
        omega
      have hes : escS L (q + 1) q = (true, c.toNat, q + 6) := by
        have h117 : gB L (q + 1) = 117 := b2
        rw [escS_u h117]
        unfold uniS
        rw [show q + 1 + 1 = q + 2 from rfl, hf4]
        dsimp only
        rw [if_neg (by simp), if_neg (by omega), if_pos (ptB_iff.2 ⟨hcn, by omega, by omega⟩)]
      have h92 : gB L q = 92 := b1
      rw [strG, if_neg (by omega), if_neg (by omega), if_pos h92, hes, if_neg (by simp), show enc (true, c.toNat, q + 6).2.1 = [c] by rw [show (true, c.toNat, q + 6).2.1 = c.toNat from rfl, enc_lowC (by omega), UInt8.ofNat_toNat]]
theorem okL_ne0 {l : List UInt8} (h : okL l) : ∀ c ∈ l, c ≠ 0 := by
  obtain ⟨rs, h1, rfl⟩ := okL_texts.1 h
  intro c hc e
  unfold texts at hc
  obtain ⟨x, hx, hcx⟩ := List.mem_flatMap.1 hc
  have hp := h1 x hx
  by_cases hl : x < 128
  · rw [enc_lowC hl, List.mem_singleton] at hcx
    have := ofNatT (n := x) (by omega)
    rw [← hcx, e] at this
    have h0 : (0 : UInt8).toNat = 0 := rfl
    have := hp.1
    omega
  · have := enc_highC hl hp c hcx
    rw [e] at this
    exact absurd this (by decide)
theorem escT_grow : ∀ (o : List UInt8), o.length ≤ (o.flatMap escT).length
  | [] => Nat.le_refl _
  | c :: o => by
    rw [List.flatMap_cons, List.length_append, List.length_cons]
    have := escT_grow o
    have := (escT_len c).1
    omega
theorem strP_back {L : List UInt8} {p : Nat} {o rest : List UInt8} (ho : okL o) (hd : L.drop p = quoT o ++ rest) : strP L p = (true, p + (quoT o).length, o) := by
  unfold quoT at hd
  obtain ⟨e1, e2, e3, e4⟩ := gB_drop (r := o.flatMap escT ++ [34] ++ rest) hd
  have hlen := congrArg List.length hd
  rw [List.length_drop] at hlen
  simp only [List.length_append, List.length_cons, List.length_nil] at hlen
  have hg := escT_grow o
  have h := strG_back L o (L.length + 1) (p + 1) [] rest (okL_ne0 ho) (by rw [e2, List.append_assoc]; rfl) (by omega)
  unfold strP
  rw [h]
  refine Prod.ext rfl (Prod.ext ?_ (List.nil_append _))
  unfold quoT
  simp only [List.length_append, List.length_cons, List.length_nil]
  omega
end Go.Proofs.YtlfkfofeenakhaaDoor
