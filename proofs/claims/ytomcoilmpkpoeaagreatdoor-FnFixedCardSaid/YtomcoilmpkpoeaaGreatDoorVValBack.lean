/-
  What is proved here: a number as a value has the text of the number, and that text is the number (plain laws). No program in sight; no condition.
-/
import Derived.Test.YtomcoilmpkpoeaaGreatDoorVD
import Derived.Test.YtomcoilmpkpoeaaGreatDoorVValCmp
namespace Go.Proofs.YtomcoilmpkpoeaaGreatDoor
open Go.RowKit
set_option linter.unusedVariables false
set_option linter.unusedSimpArgs false

theorem texts_ascii : ∀ (l : List UInt8), (∀ b ∈ l, 1 ≤ b.toNat ∧ b.toNat < 128) → texts (l.map UInt8.toNat) = l
  | [], _ => rfl
  | b :: l, h => by
    obtain ⟨h1, h2⟩ := h b (by simp)
    have e : enc b.toNat = [b] := by
      unfold enc
      rw [if_pos h2, UInt8.ofNat_toNat]
    have ih := texts_ascii l (fun c hc => h c (by simp [hc]))
    unfold texts at ih ⊢
    rw [List.map_cons, List.flatMap_cons, ih, e]
    rfl
theorem textOk_ascii {l : List UInt8} (hl : l.length ≤ 1000) (h : ∀ b ∈ l, 1 ≤ b.toNat ∧ b.toNat < 128) : textOk l = true := by
  have h1 := runes_texts (l.map UInt8.toNat) (fun c hc => by
    obtain ⟨b, hb, rfl⟩ := List.mem_map.1 hc
    obtain ⟨h1, h2⟩ := h b hb
    refine ⟨h1, ?_, ?_⟩ <;> omega)
  rw [texts_ascii l h] at h1
  exact (runes_some hl h1).2
theorem num_bytes {sg A P B X : List UInt8} {x : Int} (hn : isNum sg A P B X) (hX : isExp X x) : ∀ b ∈ sg ++ (A ++ (P ++ (B ++ X))), 43 ≤ b.toNat ∧ b.toNat ≤ 101 := by
  obtain ⟨hsg, hA, hB, hP, _⟩ := hn
  have hs : ∀ b ∈ sg, 43 ≤ b.toNat ∧ b.toNat ≤ 101 := by
    intro b hb
    rcases hsg with rfl | rfl | rfl
    · cases hb
    · rw [List.mem_singleton.1 hb]; decide
    · rw [List.mem_singleton.1 hb]; decide
  have hp : ∀ b ∈ P, 43 ≤ b.toNat ∧ b.toNat ≤ 101 := by
    intro b hb
    rcases hP with ⟨rfl, _⟩ | rfl
    · cases hb
    · rw [List.mem_singleton.1 hb]; decide
  have hx : ∀ b ∈ X, 43 ≤ b.toNat ∧ b.toNat ≤ 101 := by
    intro b hb
    rcases hX with ⟨rfl, _⟩ | ⟨e, sg', C, rfl, he, hsg', hC, _⟩
    · cases hb
    · rw [isEx_iff] at he
      rcases List.mem_cons.1 hb with rfl | hb
      · omega
      · rcases List.mem_append.1 hb with hb | hb
        · rcases hsg' with rfl | rfl | rfl
          · cases hb
          · rw [List.mem_singleton.1 hb]; decide
          · rw [List.mem_singleton.1 hb]; decide
        · have := hC b hb; omega
  intro b hb
  simp only [List.mem_append] at hb
  rcases hb with hb | hb | hb | hb | hb
  · exact hs b hb
  · have := hA b hb; omega
  · exact hp b hb
  · have := hB b hb; omega
  · exact hx b hb
/-- a text that is a number's and nothing else -/
theorem parts_back {s : ByteArray} {sg A P B X : List UInt8} {x : Int} {d : Dec} {c : Int} (hs : s.data.toList = sg ++ (A ++ (P ++ (B ++ X)))) (hn : isNum sg A P B X) (hX : isExp X x) (hl : s.size ≤ 1000)
    (hf : formD (decide (sg = [45])) (A ++ B) (x - (B.length : Int)) = (d, c)) : okText s = true ∧ prefixR s = (d, c) ∧ (c = 0 → looksB s = true) := by
  have hby := num_bytes hn hX
  have hsc := scan_all hn hX
  have hR := numR_parts hn hX
  have hhd := body_head hn
  have hok : okText s = true := by
    unfold okText
    rw [hs]
    refine textOk_ascii (by rw [← hs, ← Lib.size_eq]; exact hl) (fun b hb => ?_)
    have := hby b hb
    omega
  have hst : startL s.data.toList = 0 := by
    rw [hs]
    obtain ⟨c, r, hr, h1, h2⟩ := hhd
    rw [hr]
    have hb : isBlk c = false := dig_blk ⟨h1, h2⟩
    rcases hn.1 with rfl | rfl | rfl
    · rw [List.nil_append, startL_cons, hb]; rfl
    · rfl
    · rfl
  have hbody : bodyL s = s.data.toList := by unfold bodyL; rw [hst, List.drop_zero]
  have hne : ¬ scanL (bodyL s) = 0 := by
    rw [hbody, hs, hsc]
    obtain ⟨c, r, hr, _⟩ := hhd
    rw [hr]; simp
  have hP : prefixR s = (d, c) := by
    unfold prefixR
    rw [hok, if_neg (by decide), if_neg hne, hbody, hs, hR, hf]
  refine ⟨hok, hP, fun hc => ?_⟩
  have htail : tailL s = [] := by
    unfold tailL
    rw [hbody, hst, Nat.zero_add, hs, hsc, List.drop_length]
  unfold looksB
  rw [hok, decide_eq_false hne, htail, hP, hc]
  rfl
theorem dec_zero {d : Dec} (h : decOk d = true) (hz : d.dig.size = 0) : d = dec0 := by
  obtain ⟨neg, dig, exp⟩ := d
  simp only at hz
  obtain rfl := ba_nil hz
  rw [decOk_nil] at h
  simp only [Bool.and_eq_true, Bool.not_eq_true', decide_eq_true_eq] at h
  obtain ⟨rfl, rfl⟩ := h
  rfl
theorem num_back {d : Dec} (h : decOk d = true) : okText (decT d) = true ∧ prefixR (decT d) = (d, 0) ∧ looksB (decT d) = true := by
  by_cases hz : d.dig.size = 0
  · obtain rfl := dec_zero h hz
    have hd : digits [48] := by intro c hc; rw [List.mem_singleton.1 hc]; decide
    have h1 := parts_back (s := ⟨#[48]⟩) (sg := []) (A := [48]) (P := []) (B := []) (X := []) (x := 0) (d := dec0) (c := 0) rfl ⟨Or.inl rfl, hd, digits_nil, Or.inl ⟨rfl, rfl⟩, by simp⟩ (Or.inl ⟨rfl, rfl⟩) (by decide) (formD_zero (by rfl))
    have e : decT dec0 = ⟨#[48]⟩ := by unfold decT; rw [if_pos (by rfl)]
    rw [e]
    exact ⟨h1.1, h1.2.1, h1.2.2 rfl⟩
  · obtain ⟨A, P, B, X, x, k, z, h1, h2, h3, h4, h5, h6⟩ := decT_parts h hz
    have hf := formD_back h hz k z
    rw [← h4, ← h5] at hf
    have hlen : (decT d).size ≤ 1000 := by
      rw [Lib.size_eq, h1, List.length_append]
      have : (signL d.neg).length ≤ 1 := by unfold signL; split <;> simp
      omega
    have h7 := parts_back h1 h2 h3 hlen (d := d) (c := 0) (by rw [(signL_is d.neg).2]; exact hf)
    exact ⟨h7.1, h7.2.1, h7.2.2 rfl⟩
/-- a number as it was read -/
def inputVal (s : ByteArray) : Val := ⟨3, dec0, s⟩
theorem numVal_ok {d : Dec} (h : decOk d = true) : numVal d = ⟨1, d, ⟨#[]⟩⟩ ∧ soundVal (numVal d) = numVal d := by
  have e : numVal d = ⟨1, d, ⟨#[]⟩⟩ := by unfold numVal; rw [if_pos h]
  refine ⟨e, sound_of ?_⟩
  have e2 : (⟨#[]⟩ : ByteArray).toList = [] := by rw [Lib.toList_data]
  rw [e, valOk_1, h, e2]
  rfl
theorem numVal_no {d : Dec} (h : decOk d = false) : numVal d = val0 := by unfold numVal; rw [h]; rfl
theorem valT_num {d : Dec} (h : decOk d = true) : valT (numVal d) = decT d := by
  obtain ⟨h1, h2⟩ := numVal_ok h
  unfold valT
  rw [h2, h1, if_pos rfl]
  unfold decTx
  rw [if_pos h]
theorem decTx_ok {d : Dec} (h : decOk d = true) : decTx d = decT d := by unfold decTx; rw [if_pos h]
theorem text_back {d : Dec} (h : decOk d = true) : valNumR (textVal (decT d)) = (d, 0) := by
  obtain ⟨h1, h2, h3⟩ := num_back h
  have e : textVal (decT d) = ⟨2, dec0, decT d⟩ := by unfold textVal; rw [if_pos h1]
  have hs : soundVal ⟨2, dec0, decT d⟩ = ⟨2, dec0, decT d⟩ := sound_of (by rw [valOk_2, isDec0_dec0, h1]; rfl)
  unfold valNumR
  rw [e, hs]
  unfold valNumV
  rw [if_neg (by simp), if_pos (by simp)]
  exact h2
theorem sound_input {d : Dec} (h : decOk d = true) : soundVal (inputVal (decT d)) = inputVal (decT d) := sound_of (by
  unfold inputVal
  rw [valOk_3, isDec0_dec0, (num_back h).1]; rfl)
theorem input_back {d : Dec} (h : decOk d = true) : valNumR (inputVal (decT d)) = (d, 0) := by
  obtain ⟨h1, h2, h3⟩ := num_back h
  unfold valNumR
  rw [sound_input h]
  unfold valNumV inputVal
  rw [if_neg (by simp), if_pos (by simp)]
  exact h2
theorem sgn3_same (n : Nat) : sgn3 n n = 0 := by unfold sgn3; simp
theorem cmpD_same (d : Dec) : cmpD d d = 0 := by
  unfold cmpD
  simp only [sgn3_same]
  cases d.neg <;> simp
theorem valNumV_num {d : Dec} (h : decOk d = true) : valNumV (soundVal (numVal d)) = (d, 0) := by
  obtain ⟨h1, h2⟩ := numVal_ok h
  rw [h2, h1]
  unfold valNumV
  rw [if_pos rfl]
theorem cmp_self {d : Dec} (h : decOk d = true) : cmpV (numVal d) (numVal d) = 0 := by
  unfold cmpV
  have hn : numericV (soundVal (numVal d)) = true := by
    obtain ⟨h1, h2⟩ := numVal_ok h
    rw [h2, h1]; unfold numericV; simp
  rw [hn, if_pos (by decide), valNumV_num h]
  exact cmpD_same d
theorem cmp_input {d : Dec} (h : decOk d = true) : cmpV (numVal d) (inputVal (decT d)) = 0 := by
  unfold cmpV
  have hn : numericV (soundVal (numVal d)) = true := by
    obtain ⟨h1, h2⟩ := numVal_ok h
    rw [h2, h1]; unfold numericV; simp
  have hm : numericV (soundVal (inputVal (decT d))) = true := by
    rw [sound_input h]; unfold numericV inputVal
    simp [(num_back h).2.2]
  have hv := input_back h
  unfold valNumR at hv
  rw [hn, hm, if_pos (by decide), valNumV_num h, hv]
  exact cmpD_same d
theorem truth_num {d : Dec} (h : decOk d = true) : truthR (numVal d) = !decide (d.dig.size = 0) := by
  obtain ⟨h1, h2⟩ := numVal_ok h
  unfold truthR truthV
  rw [valNumV_num h]
  have hn : numericV (soundVal (numVal d)) = true := by
    rw [h2, h1]; unfold numericV; simp
  rw [hn, if_pos rfl]
end Go.Proofs.YtomcoilmpkpoeaaGreatDoor
