/-
  What is proved here: plain laws on the words of a text (between blanks): over bytes, over code points, and as the library's FieldsFunc finds them. No program in sight; no condition.
-/
import Derived.Test.YtojonbdkijnbnaaDoorText
import Derived.Lib.FieldsP
import Derived.Lib.Join
namespace Go.Proofs.YtojonbdkijnbnaaDoor
open Go.Lib
set_option linter.unusedVariables false
set_option linter.unusedSimpArgs false

/-- the words of a list between the elements that p holds of; 'cur' is what the word has so far -/
def wordsG {α : Type} (p : α → Bool) : List α → List α → List (List α)
  | [], [] => []
  | [], c :: cs => [c :: cs]
  | b :: l, cur => if p b then (match cur with | [] => wordsG p l [] | c :: cs => (c :: cs) :: wordsG p l []) else wordsG p l (cur ++ [b])
def isBl (b : UInt8) : Bool := b == 32 || b == 9 || b == 10 || b == 13
def isBlN (c : Nat) : Bool := c == 32 || c == 9 || c == 10 || c == 13
def words (l : List UInt8) : List (List UInt8) := wordsG isBl l []
theorem wordsG_end {α : Type} {p : α → Bool} {cur : List α} (h : cur ≠ []) : wordsG p [] cur = [cur] := by
  cases cur with
  | nil => exact absurd rfl h
  | cons a b => rfl
theorem wordsG_blank0 {α : Type} {p : α → Bool} {b : α} {l : List α} (h : p b = true) : wordsG p (b :: l) [] = wordsG p l [] := by
  simp [wordsG, h]
theorem wordsG_blank {α : Type} {p : α → Bool} {b : α} {l cur : List α} (h : p b = true) (hc : cur ≠ []) : wordsG p (b :: l) cur = cur :: wordsG p l [] := by
  cases cur with
  | nil => exact absurd rfl hc
  | cons a c => simp [wordsG, h]
theorem wordsG_in {α : Type} {p : α → Bool} {b : α} {l cur : List α} (h : p b = false) : wordsG p (b :: l) cur = wordsG p l (cur ++ [b]) := by
  cases cur <;> simp [wordsG, h]
theorem wordsG_run {α : Type} {p : α → Bool} : ∀ (a : List α) {r cur : List α}, (∀ x ∈ a, p x = false) → wordsG p (a ++ r) cur = wordsG p r (cur ++ a)
  | [], r, cur, _ => by simp
  | x :: a, r, cur, h => by
    rw [List.cons_append, wordsG_in (h x (by simp)), wordsG_run a (fun y hy => h y (by simp [hy]))]
    simp
theorem wordsG_mem {α : Type} {p : α → Bool} : ∀ (l cur : List α), (∀ x ∈ cur, p x = false) → ∀ w ∈ wordsG p l cur, w ≠ [] ∧ (∀ x ∈ w, p x = false ∧ (x ∈ l ∨ x ∈ cur))
  | [], cur, h, w, hw => by
    by_cases hc : cur = []
    · subst hc; simp [wordsG] at hw
    · rw [wordsG_end hc] at hw
      simp at hw
      subst hw
      exact ⟨hc, fun x hx => ⟨h x hx, Or.inr hx⟩⟩
  | b :: l, cur, h, w, hw => by
    by_cases hb : p b = true
    · by_cases hc : cur = []
      · subst hc
        rw [wordsG_blank0 hb] at hw
        obtain ⟨h1, h2⟩ := wordsG_mem l [] (by simp) w hw
        refine ⟨h1, fun x hx => ⟨(h2 x hx).1, ?_⟩⟩
        rcases (h2 x hx).2 with h3 | h3
        · exact Or.inl (by simp [h3])
        · simp at h3
      · rw [wordsG_blank hb hc] at hw
        rcases List.mem_cons.1 hw with rfl | hw
        · exact ⟨hc, fun x hx => ⟨h x hx, Or.inr hx⟩⟩
        · obtain ⟨h1, h2⟩ := wordsG_mem l [] (by simp) w hw
          refine ⟨h1, fun x hx => ⟨(h2 x hx).1, ?_⟩⟩
          rcases (h2 x hx).2 with h3 | h3
          · exact Or.inl (by simp [h3])
          · simp at h3
    · have hb' : p b = false := by simpa using hb
      rw [wordsG_in hb'] at hw
      obtain ⟨h1, h2⟩ := wordsG_mem l (cur ++ [b]) (by
        intro x hx
        rcases List.mem_append.1 hx with h3 | h3
        · exact h x h3
        · simp at h3; subst h3; exact hb') w hw
      refine ⟨h1, fun x hx => ⟨(h2 x hx).1, ?_⟩⟩
      rcases (h2 x hx).2 with h3 | h3
      · exact Or.inl (by simp [h3])
      · rcases List.mem_append.1 h3 with h4 | h4
        · exact Or.inr h4
        · exact Or.inl (by simp at h4; simp [h4])
theorem join_cons2 (x : List UInt8) (sep : List UInt8) {ws : List (List UInt8)} (h : ws ≠ []) : join (x :: ws) sep = x ++ (sep ++ join ws sep) := by
  cases ws with
  | nil => exact absurd rfl h
  | cons y ys => simp [join, List.intercalate, List.intersperse]
theorem words_join {b : UInt8} (hb : isBl b = true) : ∀ ws : List (List UInt8), (∀ w ∈ ws, w ≠ [] ∧ ∀ x ∈ w, isBl x = false) → words (join ws [b]) = ws
  | [], _ => by simp [join_nil, words, wordsG]
  | [w], h => by
    obtain ⟨h1, h2⟩ := h w (by simp)
    unfold words
    rw [join_one]
    have := wordsG_run (p := isBl) w (r := []) (cur := []) h2
    rw [List.append_nil, List.nil_append] at this
    rw [this, wordsG_end h1]
  | w :: v :: ws, h => by
    obtain ⟨h1, h2⟩ := h w (by simp)
    have ih := words_join hb (v :: ws) (fun x hx => h x (List.mem_cons_of_mem _ hx))
    unfold words at ih ⊢
    rw [join_cons2 w [b] (by simp), wordsG_run w h2, List.nil_append, List.cons_append, List.nil_append, wordsG_blank hb h1, ih]
theorem join_len : ∀ (l cur : List UInt8), (join (wordsG isBl l cur) [32]).length ≤ cur.length + l.length
  | [], cur => by
    by_cases hc : cur = []
    · subst hc; simp [wordsG, join_nil]
    · rw [wordsG_end hc, join_one]; simp
  | b :: l, cur => by
    by_cases hb : isBl b = true
    · by_cases hc : cur = []
      · subst hc
        rw [wordsG_blank0 hb]
        have := join_len l []
        simp only [List.length_nil, List.length_cons] at *
        omega
      · rw [wordsG_blank hb hc]
        have := join_len l []
        by_cases hn : wordsG isBl l [] = []
        · rw [hn, join_one]; simp
        · rw [join_cons2 _ _ hn]
          simp only [List.length_nil, List.length_cons, List.length_append] at *
          omega
    · have hb' : isBl b = false := by simpa using hb
      rw [wordsG_in hb']
      have := join_len l (cur ++ [b])
      simp only [List.length_cons, List.length_append, List.length_nil] at *
      omega
theorem isBl_ofNat {c : Nat} (h : c < 256) : isBl (UInt8.ofNat c) = isBlN c := by
  have e : ∀ k : Nat, k < 256 → (UInt8.ofNat c == UInt8.ofNat k) = (c == k) := by
    intro k hk
    by_cases hck : c = k
    · subst hck; simp
    · have hne : UInt8.ofNat c ≠ UInt8.ofNat k := by
        intro h1
        have := congrArg UInt8.toNat h1
        rw [ofNat_toNat h, ofNat_toNat hk] at this
        exact hck this
      rw [beq_eq_false_iff_ne.2 hne, beq_eq_false_iff_ne.2 hck]
  have e1 := e 32 (by omega)
  have e2 := e 9 (by omega)
  have e3 := e 10 (by omega)
  have e4 := e 13 (by omega)
  unfold isBl isBlN
  rw [← e1, ← e2, ← e3, ← e4]
  rfl
theorem isBl_high {x : UInt8} (h : 128 ≤ x.toNat) : isBl x = false := by
  have : isBlN x.toNat = false := by
    unfold isBlN
    simp only [Bool.or_eq_false_iff, beq_eq_false_iff_ne]
    omega
  rw [← this, ← isBl_ofNat (x.toNat_lt), ofNat_of rfl]
theorem enc_blank {c : Nat} (h : isBlN c = true) : ∃ x, enc c = [x] ∧ isBl x = true := by
  have hc : c < 128 := by
    unfold isBlN at h
    simp only [Bool.or_eq_true, beq_iff_eq] at h
    omega
  refine ⟨UInt8.ofNat c, by unfold enc; rw [if_pos hc], ?_⟩
  rw [isBl_ofNat (by omega)]; exact h
theorem enc_word {c : Nat} (hp : isPt c) (h : isBlN c = false) : ∀ x ∈ enc c, isBl x = false := by
  obtain ⟨h1, h2, h3⟩ := hp
  unfold enc
  split
  · intro x hx
    simp only [List.mem_cons, List.not_mem_nil, or_false] at hx
    subst hx
    rw [isBl_ofNat (by omega)]; exact h
  · split
    · intro x hx
      simp only [List.mem_cons, List.not_mem_nil, or_false] at hx
      rcases hx with rfl | rfl <;> (apply isBl_high; rw [ofNat_toNat (by omega)]; omega)
    · split
      · intro x hx
        simp only [List.mem_cons, List.not_mem_nil, or_false] at hx
        rcases hx with rfl | rfl | rfl <;> (apply isBl_high; rw [ofNat_toNat (by omega)]; omega)
      · intro x hx
        simp only [List.mem_cons, List.not_mem_nil, or_false] at hx
        rcases hx with rfl | rfl | rfl | rfl <;> (apply isBl_high; rw [ofNat_toNat (by omega)]; omega)
theorem texts_ne {cur : List Nat} (h : cur ≠ []) : texts cur ≠ [] := by
  cases cur with
  | nil => exact absurd rfl h
  | cons a b =>
    intro h1
    have h2 : enc a ++ texts b = [] := h1
    have h3 := (List.append_eq_nil_iff.1 h2).1
    have := enc_pos a
    rw [h3] at this
    simp at this
theorem words_texts : ∀ (rs cur : List Nat), (∀ c ∈ rs, isPt c) → wordsG isBl (texts rs) (texts cur) = (wordsG isBlN rs cur).map texts
  | [], cur, _ => by
    by_cases hc : cur = []
    · subst hc; simp [texts, wordsG]
    · rw [wordsG_end hc, show texts ([] : List Nat) = [] from rfl, wordsG_end (texts_ne hc)]; rfl
  | c :: rs, cur, h => by
    have ih := fun cur => words_texts rs cur (fun x hx => h x (by simp [hx]))
    have e : texts (c :: rs) = enc c ++ texts rs := by simp [texts]
    rw [e]
    by_cases hb : isBlN c = true
    · obtain ⟨x, hx, hxb⟩ := enc_blank hb
      rw [hx, List.cons_append, List.nil_append]
      have ih0 := ih []
      rw [show texts ([] : List Nat) = [] from rfl] at ih0
      by_cases hc : cur = []
      · subst hc
        rw [show texts ([] : List Nat) = [] from rfl, wordsG_blank0 hxb, wordsG_blank0 hb, ih0]
      · rw [wordsG_blank hxb (texts_ne hc), wordsG_blank hb hc, ih0]; rfl
    · have hb' : isBlN c = false := by simpa using hb
      rw [wordsG_run _ (enc_word (h c (by simp)) hb'), wordsG_in hb', ← ih]
      congr 1
      simp [texts]
theorem word_len {α : Type} {p : α → Bool} : ∀ (l cur : List α), ∀ w ∈ wordsG p l cur, w.length ≤ cur.length + l.length
  | [], cur, w, hw => by
    by_cases hc : cur = []
    · subst hc; simp [wordsG] at hw
    · rw [wordsG_end hc] at hw
      simp at hw
      subst hw
      omega
  | b :: l, cur, w, hw => by
    by_cases hb : p b = true
    · by_cases hc : cur = []
      · subst hc
        rw [wordsG_blank0 hb] at hw
        have := word_len l [] w hw
        simp only [List.length_cons, List.length_nil] at *
        omega
      · rw [wordsG_blank hb hc] at hw
        rcases List.mem_cons.1 hw with rfl | hw
        · omega
        · have := word_len l [] w hw
          simp only [List.length_cons, List.length_nil] at *
          omega
    · have hb' : p b = false := by simpa using hb
      rw [wordsG_in hb'] at hw
      have := word_len l (cur ++ [b]) w hw
      simp only [List.length_cons, List.length_append, List.length_nil] at *
      omega
theorem runes_sp (l : List UInt8) : runesAll ([32] ++ l) = (runesAll l).map ([32] ++ ·) := by
  have h : runesAll [32] = some [32] := by
    have := runes_texts [32] (by intro c hc; simp at hc; subst hc; exact ⟨by omega, by omega, by omega⟩)
    exact this
  exact runesAll_append 1 [32] l [32] rfl h
theorem runes_join : ∀ vs : List (List Nat), (∀ v ∈ vs, ∀ c ∈ v, isPt c) → (runesAll (join (vs.map texts) [32])).isSome = true
  | [], _ => by simp [join_nil, runesAll_nil]
  | [v], h => by
    rw [List.map_cons, List.map_nil, join_one, runes_texts v (h v (by simp))]; rfl
  | v :: u :: vs, h => by
    have ih := runes_join (u :: vs) (fun x hx => h x (List.mem_cons_of_mem _ hx))
    rw [List.map_cons, join_cons2 _ _ (by simp), runesAll_append _ _ _ _ rfl (runes_texts v (h v (by simp))), runes_sp]
    simpa using ih
theorem textOk_of {l : List UInt8} (h : l.length ≤ 1000) (hr : (runesAll l).isSome = true) : textOk l = true := by
  unfold textOk runes?
  rw [if_pos h]; exact hr
theorem textOk_all {l : List UInt8} (h : textOk l = true) : l.length ≤ 1000 ∧ ∃ rs, runesAll l = some rs := by
  unfold textOk runes? at h
  by_cases hl : l.length ≤ 1000
  · rw [if_pos hl] at h
    exact ⟨hl, Option.isSome_iff_exists.1 h⟩
  · rw [if_neg hl] at h
    simp at h
/-- a text's words are texts; so are they joined; no longer than the text -/
theorem words_ok {l : List UInt8} (h : textOk l = true) : (∀ w ∈ words l, w ≠ [] ∧ textOk w = true ∧ ∀ x ∈ w, isBl x = false) ∧ textOk (join (words l) [32]) = true ∧ (join (words l) [32]).length ≤ l.length ∧ words (join (words l) [32]) = words l := by
  obtain ⟨hl, rs, hr⟩ := textOk_all h
  have hpt := (runesAll_len _ _ _ rfl hr).2.1
  have htx := texts_runes _ _ _ rfl hr
  have hw : words l = (wordsG isBlN rs []).map texts := by
    rw [← htx]
    exact words_texts rs [] hpt
  have hmem := fun w (hw : w ∈ words l) => wordsG_mem (p := isBl) l [] (by simp) w hw
  have hvs : ∀ v ∈ wordsG isBlN rs [], ∀ c ∈ v, isPt c := by
    intro v hv c hc
    rcases ((wordsG_mem rs [] (by simp) v hv).2 c hc).2 with h1 | h1
    · exact hpt c h1
    · simp at h1
  have hjl : (join (words l) [32]).length ≤ l.length := by
    have := join_len l []
    simpa [words] using this
  refine ⟨fun w hw1 => ⟨(hmem w hw1).1, ?_, fun x hx => ((hmem w hw1).2 x hx).1⟩, ?_, hjl, ?_⟩
  · have hlen := word_len l [] w hw1
    rw [hw] at hw1
    obtain ⟨v, hv, rfl⟩ := List.mem_map.1 hw1
    exact textOk_of (by simp at hlen; omega) (by rw [runes_texts v (hvs v hv)]; rfl)
  · exact textOk_of (by omega) (by rw [hw]; exact runes_join _ hvs)
  · exact words_join (by decide) _ (fun w hw1 => ⟨(hmem w hw1).1, fun x hx => ((hmem w hw1).2 x hx).1⟩)

/-! ### The library's FieldsFunc -/
theorem next_dec {l : List UInt8} (h : (runesAll l).isSome = true) (hl : l ≠ []) : next l = decodeL l ∧ (decodeL l).2 ≠ 0 := by
  by_cases hz : (next l).2 = 0
  · rw [runesAll_bad hl hz] at h; cases h
  · have : next l = decodeL l := by
      unfold next at hz ⊢
      split
      · rename_i h1; rw [if_pos h1] at hz; exact absurd rfl hz
      · rfl
    exact ⟨this, this ▸ hz⟩

def headB (s : ByteArray) (pos : Nat) : Option Nat → List UInt8
  | none => []
  | some a => (s.data.toList.drop a).take (pos - a)
theorem ext_list (s : ByteArray) (a b : Nat) : (s.extract a b).data.toList = (s.data.toList.drop a).take (b - a) := by
  rw [ByteArray.data_extract, Array.toList_extract]
theorem ext_mkB (s : ByteArray) (a b : Nat) : s.extract a b = mkB ((s.data.toList.drop a).take (b - a)) := by
  rw [← ext_list, mkB_of]
theorem fields_go (s : ByteArray) : ∀ (f pos : Nat) (st : Option Nat) (acc : List (Nat × Nat)), s.size ≤ pos + f → pos ≤ s.size → (runesAll (s.data.toList.drop pos)).isSome = true → (∀ a, st = some a → a < pos) →
    (closeSpans s (spansFromP isBlN s f pos st acc)).map (fun x => s.extract x.1 x.2) = acc.map (fun x => s.extract x.1 x.2) ++ (wordsG isBl (s.data.toList.drop pos) (headB s pos st)).map mkB := by
  intro f
  induction f with
  | zero =>
    intro pos st acc hf hp hr hst
    have hd : s.data.toList.drop pos = [] := List.drop_eq_nil_of_le (by rw [← Lib.size_eq]; omega)
    rw [hd]
    cases st with
    | none => simp [spansFromP, closeSpans, headB, wordsG]
    | some a =>
      have ha := hst a rfl
      have hne : headB s pos (some a) ≠ [] := by
        intro h
        have := congrArg List.length h
        simp only [headB, List.length_take, List.length_drop, List.length_nil, ← Lib.size_eq] at this
        omega
      rw [wordsG_end hne]
      have hps : pos = s.size := by omega
      simp [spansFromP, closeSpans, headB, ext_mkB, hps]
  | succ f ih =>
    intro pos st acc hf hp hr hst
    by_cases hlt : pos < s.size
    · obtain ⟨l, hl⟩ : ∃ l, s.data.toList.drop pos = l := ⟨_, rfl⟩
      have hne : l ≠ [] := by
        intro h
        have := congrArg List.length hl
        rw [h, List.length_drop, ← Lib.size_eq] at this
        simp at this
        omega
      have hdl := decodeL_drop s pos
      rw [hl] at hdl hr ⊢
      obtain ⟨hnd, hnz⟩ := next_dec hr hne
      have hnz' : (next l).2 ≠ 0 := by rw [hnd]; exact hnz
      obtain ⟨htk, hel⟩ := take_next hnz'
      have hpt := next_pt hnz'
      have hstep := runesAll_step hne hnz'
      have hnl := next_le l
      obtain ⟨c, hc⟩ : ∃ c, (next l).1 = c := ⟨_, rfl⟩
      obtain ⟨n, hn⟩ : ∃ n, (next l).2 = n := ⟨_, rfl⟩
      have hde : Utf8.decode s pos = (c, n) := by rw [← hdl, ← hnd, ← hc, ← hn]
      rw [hc, hn] at htk hstep
      rw [hc] at hpt
      rw [hn] at hnz' hnl
      rw [hc, hn] at hel
      have hll : l.length = s.size - pos := by rw [← hl, List.length_drop, ← Lib.size_eq]
      have hr2 : (runesAll (s.data.toList.drop (pos + n))).isSome = true := by
        rw [← List.drop_drop, hl]
        rw [hstep] at hr
        simpa using hr
      have hsplit : l = enc c ++ s.data.toList.drop (pos + n) := by
        rw [← List.drop_drop, hl, ← htk, List.take_append_drop]
      have hnew : ∀ a, a ≤ pos → (s.data.toList.drop a).take (pos + n - a) = (s.data.toList.drop a).take (pos - a) ++ enc c := by
        intro a ha
        rw [show pos + n - a = (pos - a) + n by omega, List.take_add, List.drop_drop, show a + (pos - a) = pos by omega, hl, htk]
      unfold spansFromP
      rw [if_pos hlt, hde]
      by_cases hb : isBlN c = true
      · obtain ⟨x, hx, hxb⟩ := enc_blank hb
        simp only [hb, if_true]
        rw [hsplit, hx, List.cons_append, List.nil_append]
        cases st with
        | none =>
          simp only [headB]
          rw [wordsG_blank0 hxb]
          have := ih (pos + n) none acc (by omega) (by omega) hr2 (by intro a h; cases h)
          simpa [headB] using this
        | some a =>
          have ha := hst a rfl
          have hne2 : headB s pos (some a) ≠ [] := by
            intro h
            have := congrArg List.length h
            simp only [headB, List.length_take, List.length_drop, List.length_nil, ← Lib.size_eq] at this
            omega
          rw [wordsG_blank hxb hne2]
          have := ih (pos + n) none (acc ++ [(a, pos)]) (by omega) (by omega) hr2 (by intro a h; cases h)
          simp only [headB] at this ⊢
          rw [this, List.map_append]
          simp [ext_mkB]
      · have hb' : isBlN c = false := by simpa using hb
        simp only [hb', Bool.false_eq_true, if_false]
        rw [hsplit, wordsG_run _ (enc_word hpt hb')]
        cases st with
        | none =>
          have := ih (pos + n) (some pos) acc (by omega) (by omega) hr2 (by intro a h; cases h; omega)
          simp only [headB] at this ⊢
          rw [this, hnew pos (Nat.le_refl _)]
          simp
        | some a =>
          have ha := hst a rfl
          have := ih (pos + n) (some a) acc (by omega) (by omega) hr2 (by intro a' h; cases h; omega)
          simp only [headB] at this ⊢
          rw [this, hnew a (by omega)]
    · have hd : s.data.toList.drop pos = [] := List.drop_eq_nil_of_le (by rw [← Lib.size_eq]; omega)
      rw [hd, spansFromP_end _ _ _ _ _ _ hlt]
      cases st with
      | none => simp [closeSpans, headB, wordsG]
      | some a =>
        have ha := hst a rfl
        have hne : headB s pos (some a) ≠ [] := by
          intro h
          have := congrArg List.length h
          simp only [headB, List.length_take, List.length_drop, List.length_nil, ← Lib.size_eq] at this
          omega
        rw [wordsG_end hne]
        have hps : pos = s.size := by omega
        simp [closeSpans, headB, ext_mkB, hps]
theorem fields_words {s : ByteArray} (h : textOk s.data.toList = true) : goFieldsP isBlN s = (words s.data.toList).map mkB := by
  obtain ⟨_, rs, hr⟩ := textOk_all h
  have := fields_go s s.size 0 none [] (by omega) (Nat.zero_le _) (by rw [List.drop_zero, hr]; rfl) (by intro a h; cases h)
  simpa [goFieldsP, spansOfP, headB, words] using this
end Go.Proofs.YtojonbdkijnbnaaDoor
