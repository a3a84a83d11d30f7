/-
  What is proved here: plain laws on the names of classes in a pattern: their bytes, and where they end. No program in sight; no condition.
-/
import Derived.Test.YtkmkencodcfloaaGreatDoorRxAdd
import Derived.Test.YtkmkencodcfloaaGreatDoorText
import Derived.Laws.Runes
namespace Go.Proofs.YtkmkencodcfloaaGreatDoor
open Go.RowKit
set_option linter.unusedVariables false
set_option linter.unusedSimpArgs false

def encN (x : Nat) : ByteArray := if x < 0x80 then ⟨#[UInt8.ofNat x]⟩ else if x < 0x800 then ⟨#[UInt8.ofNat (0xC0 + x / 64), UInt8.ofNat (0x80 + x % 64)]⟩ else if x < 0x10000 then ⟨#[UInt8.ofNat (0xE0 + x / 4096), UInt8.ofNat (0x80 + x / 64 % 64), UInt8.ofNat (0x80 + x % 64)]⟩ else ⟨#[UInt8.ofNat (0xF0 + x / 262144), UInt8.ofNat (0x80 + x / 4096 % 64), UInt8.ofNat (0x80 + x / 64 % 64), UInt8.ofNat (0x80 + x % 64)]⟩
theorem encode_eq (r : Int) : Utf8.encode r = encN (if Utf8.valid r then r.toNat else Utf8.runeError) := rfl
theorem encN_low {x : Nat} (h : x < 128) : (encN x).data.toList = [UInt8.ofNat x] := by
  unfold encN
  rw [if_pos h]
theorem encN_len (x : Nat) : 1 ≤ (encN x).data.toList.length ∧ (encN x).data.toList.length ≤ 4 := by
  unfold encN
  repeat' split
  all_goals simp
theorem encN_high {x : Nat} (h1 : 128 ≤ x) (h2 : x ≤ 1114111) : ∃ b r, (encN x).data.toList = b :: r ∧ 128 ≤ b.toNat := by
  unfold encN
  rw [if_neg (by omega)]
  split
  · exact ⟨_, _, rfl, by rw [UInt8.toNat_ofNat']; omega⟩
  · split
    · exact ⟨_, _, rfl, by rw [UInt8.toNat_ofNat']; omega⟩
    · exact ⟨_, _, rfl, by rw [UInt8.toNat_ofNat']; omega⟩
/-- (a name of its own: the kernel would run the projections of what is encoded) -/
def blist (b : ByteArray) : List UInt8 := b.data.toList
theorem blist_mk (b : ByteArray) : b = mkB (blist b) := (mkB_of b).symm
def encU (c : Nat) : List UInt8 := blist (Utf8.encode (c : Int))
theorem encU_mk (c : Nat) : Utf8.encode (c : Int) = mkB (encU c) := blist_mk _
theorem blist_low {x : Nat} (h : x < 128) : blist (encN x) = [UInt8.ofNat x] := encN_low h
theorem blist_len (x : Nat) : 1 ≤ (blist (encN x)).length ∧ (blist (encN x)).length ≤ 4 := encN_len x
theorem blist_high {x : Nat} (h1 : 128 ≤ x) (h2 : x ≤ 1114111) : ∃ b r, blist (encN x) = b :: r ∧ 128 ≤ b.toNat := encN_high h1 h2
theorem encU_eq (c : Nat) : encU c = blist (encN (if Utf8.valid (c : Int) then (c : Int).toNat else Utf8.runeError)) := congrArg blist (encode_eq _)
theorem encU_low {c : Nat} (h : c < 128) : encU c = [UInt8.ofNat c] := by
  have hv : Utf8.valid (c : Int) = true := by rw [validRune_eq]; unfold validRune; exact decide_eq_true (Or.inl ⟨by omega, by omega⟩)
  rw [encU_eq, hv, if_pos rfl, Int.toNat_natCast]
  exact blist_low h
theorem encU_len (c : Nat) : 1 ≤ (encU c).length ∧ (encU c).length ≤ 4 := by
  rw [encU_eq]
  exact blist_len _
theorem runeErr_eq : Utf8.runeError = 65533 := rfl
theorem encU_high {c : Nat} (h : 128 ≤ c) : ∃ b r, encU c = b :: r ∧ 128 ≤ b.toNat := by
  rw [encU_eq]
  by_cases hv : Utf8.valid (c : Int) = true
  · rw [if_pos hv, Int.toNat_natCast]
    rw [validRune_eq] at hv
    unfold validRune at hv
    exact blist_high h (by have := of_decide_eq_true hv; omega)
  · rw [if_neg hv, runeErr_eq]
    exact blist_high (by omega) (by omega)
/-- a name's bytes -/
def nameB (acc : List Nat) : List UInt8 := acc.flatMap encU
theorem nameB_app (acc : List Nat) (c : Nat) : nameB (acc ++ [c]) = nameB acc ++ encU c := by simp [nameB]
theorem nameB_len (acc : List Nat) : (nameB acc).length ≤ 4 * acc.length := by
  induction acc with
  | nil => simp [nameB]
  | cons c r ih =>
    have h1 := (encU_len c).2
    have h2 : nameB (c :: r) = encU c ++ nameB r := by simp [nameB]
    rw [h2, List.length_append, List.length_cons]; omega
theorem nameB_lit (acc t : List Nat) (ht : ∀ c ∈ t, c < 128) : nameB acc = t.map UInt8.ofNat ↔ acc = t := by
  constructor
  · intro h
    induction acc generalizing t with
    | nil => cases t with
      | nil => rfl
      | cons a b => simp [nameB] at h
    | cons c r ih =>
      have h2 : nameB (c :: r) = encU c ++ nameB r := by simp [nameB]
      rw [h2] at h
      cases t with
      | nil =>
        have := (encU_len c).1
        simp at h
        rw [h.1] at this; simp at this
      | cons a b =>
        have ha := ht a (by simp)
        by_cases hc : c < 128
        · rw [encU_low hc] at h
          simp only [List.map_cons, List.cons_append, List.nil_append, List.cons.injEq] at h
          have e : c = a := by
            have := congrArg UInt8.toNat h.1
            rw [UInt8.toNat_ofNat', UInt8.toNat_ofNat'] at this; omega
          rw [e, ih b (fun c hc => ht c (by simp [hc])) h.2]
        · obtain ⟨x, y, e, hx⟩ := encU_high (c := c) (by omega)
          rw [e] at h
          simp only [List.map_cons, List.cons_append, List.cons.injEq] at h
          have := congrArg UInt8.toNat h.1
          rw [UInt8.toNat_ofNat'] at this; omega
  · rintro rfl
    induction acc with
    | nil => rfl
    | cons c r ih =>
      have h2 : nameB (c :: r) = encU c ++ nameB r := by simp [nameB]
      rw [h2, encU_low (ht c (by simp)), ih (fun c hc => ht c (by simp [hc]))]; rfl
theorem nameB_is (acc t : List Nat) (s : ByteArray) (hs : s.data.toList = t.map UInt8.ofNat) (ht : ∀ c ∈ t, c < 128) : ((mkB (nameB acc)).toList == s.toList) = decide (acc = t) := by
  rw [Lib.toList_data, Lib.toList_data, hs, mkB_data, Bool.eq_iff_iff]
  simp only [beq_iff_eq, decide_eq_true_eq]
  exact nameB_lit acc t ht

/-! ### Where a name ends -/
def clsEnd (l : List Nat) (j : Nat) : Bool := decide (gN l j = 58) && decide (gN l (j + 1) = 93)
/-- the first place from j on where a name ends -/
def clsAt (l : List Nat) : Nat → Nat → Option Nat
  | 0, _ => none
  | f + 1, j => if clsEnd l j = true then some j else if l.length ≤ j then none else clsAt l f (j + 1)
/-- a class off the place of its name -/
def clsR (l : List Nat) (i : Nat) : IR := match clsAt l (l.length + 1 - i) i with
  | none => .er 4 0
  | some k => if classOf ((l.drop i).take (k - i)) = [] then .er 4 0 else .ok (classOf ((l.drop i).take (k - i))) (k + 2)
theorem clsAt_some {l : List Nat} {f j k : Nat} (h : clsAt l f j = some k) : j ≤ k ∧ clsEnd l k = true ∧ ∀ m, j ≤ m → m < k → clsEnd l m = false := by
  induction f generalizing j with
  | zero => simp [clsAt] at h
  | succ f ih =>
    unfold clsAt at h
    split at h
    · rename_i h1
      cases h
      exact ⟨Nat.le_refl _, h1, fun m _ _ => by omega⟩
    · rename_i h1
      split at h
      · simp at h
      · obtain ⟨a, b, c⟩ := ih h
        refine ⟨by omega, b, fun m h2 h3 => ?_⟩
        by_cases e : m = j
        · subst e; simpa using h1
        · exact c m (by omega) h3
theorem clsAt_none {l : List Nat} {f j : Nat} (h : clsAt l f j = none) (hf : l.length + 1 ≤ f + j) : ∀ m, j ≤ m → clsEnd l m = false := by
  induction f generalizing j with
  | zero =>
    intro m hm
    unfold clsEnd
    rw [gN_end (by omega)]; rfl
  | succ f ih =>
    unfold clsAt at h
    split at h
    · simp at h
    · rename_i h1
      intro m hm
      by_cases e : m = j
      · subst e; simpa using h1
      · split at h
        · unfold clsEnd
          rw [gN_end (by omega)]; rfl
        · exact ih h (by omega) m (by omega)
theorem classOf_mem {nm : List Nat} (h : 58 ∈ nm) : classOf nm = [] := by
  unfold classOf
  repeat' split
  all_goals first | rfl | (exfalso; subst nm; revert h; decide) | (exfalso; rename_i e; rw [e] at h; revert h; decide)
theorem takeWhile_lt {p : Nat → Bool} {l : List Nat} (h : (l.takeWhile p).length < l.length) : p (gN l (l.takeWhile p).length) = false := by
  induction l with
  | nil => simp at h
  | cons a r ih =>
    by_cases ha : p a = true
    · rw [List.takeWhile_cons_of_pos ha] at h ⊢
      simp only [List.length_cons] at h ⊢
      have := ih (by omega)
      unfold gN at this ⊢
      simpa using this
    · rw [List.takeWhile_cons_of_neg ha]
      simpa [gN] using ha
theorem takeWhile_pt {p : Nat → Bool} {l : List Nat} {m : Nat} (h : m < (l.takeWhile p).length) : p (gN l m) = true := by
  induction l generalizing m with
  | nil => simp at h
  | cons a r ih =>
    by_cases ha : p a = true
    · rw [List.takeWhile_cons_of_pos ha] at h
      cases m with
      | zero => simpa [gN] using ha
      | succ m => simpa [gN] using ih (m := m) (by simpa using h)
    · rw [List.takeWhile_cons_of_neg ha] at h; simp at h
theorem gN_drop (l : List Nat) (i m : Nat) : gN (l.drop i) m = gN l (i + m) := by
  unfold gN
  rw [List.getD_eq_getElem?_getD, List.getD_eq_getElem?_getD, List.getElem?_drop]
theorem takeWhile_take (p : Nat → Bool) (l : List Nat) : l.takeWhile p = l.take (l.takeWhile p).length := by
  induction l with
  | nil => rfl
  | cons a r ih =>
    by_cases ha : p a = true
    · rw [List.takeWhile_cons_of_pos ha, List.length_cons, List.take_succ_cons, ← ih]
    · rw [List.takeWhile_cons_of_neg ha]; rfl
theorem clsR_item {l : List Nat} {i : Nat} (h : gN l i = 91 ∧ gN l (i + 1) = 58) : itemAt l i = clsR l (i + 2) := by
  unfold itemAt
  rw [if_pos h]
  clear h
  generalize i + 2 = j
  unfold clsR
  have hd : (nameAtC l j).length ≤ l.length - j := by
    unfold nameAtC
    exact Nat.le_trans (List.Sublist.length_le (List.takeWhile_sublist _)) (by rw [List.length_drop]; exact Nat.le_refl _)
  have hin : ∀ m, j ≤ m → m < j + (nameAtC l j).length → gN l m ≠ 58 := by
    intro m h1 h2 h3
    have h4 := takeWhile_pt (p := fun c => c != 58) (l := l.drop j) (m := m - j) (by show _ < (nameAtC l j).length; omega)
    rw [gN_drop, show j + (m - j) = m by omega, h3] at h4
    simp at h4
  have hst : (nameAtC l j).length < l.length - j → gN l (j + (nameAtC l j).length) = 58 := by
    intro h1
    have h4 := takeWhile_lt (p := fun c => c != 58) (l := l.drop j) (by show (nameAtC l j).length < _; rw [List.length_drop]; exact h1)
    rw [gN_drop] at h4
    change (gN l (j + (nameAtC l j).length) != 58) = false at h4
    simpa using h4
  cases hk : clsAt l (l.length + 1 - j) j with
  | none =>
    have hn := clsAt_none hk (by omega)
    rw [if_pos]
    right
    intro ⟨h1, h2⟩
    have := hn (j + (nameAtC l j).length) (by omega)
    unfold clsEnd at this
    rw [h1, h2] at this
    simp at this
  | some k =>
    obtain ⟨a, b, c⟩ := clsAt_some hk
    have b2 : gN l k = 58 ∧ gN l (k + 1) = 93 := by unfold clsEnd at b; simpa using b
    have hkl : k < l.length := gN_lt (by omega)
    have hle : j + (nameAtC l j).length ≤ k := by
      rcases Nat.lt_or_ge k (j + (nameAtC l j).length) with h1 | h1
      · exact absurd b2.1 (hin k a h1)
      · exact h1
    by_cases he : j + (nameAtC l j).length = k
    · have hnm : nameAtC l j = (l.drop j).take (k - j) := by
        unfold nameAtC at he ⊢
        rw [takeWhile_take, show ((l.drop j).takeWhile (fun c => c != 58)).length = k - j by omega]
      rw [he, hnm]
      by_cases h0 : classOf ((l.drop j).take (k - j)) = []
      · rw [if_pos (Or.inl h0)]; simp only [h0, if_true]
      · rw [if_neg (by simp only [not_or, Decidable.not_not]; exact ⟨h0, b2⟩)]; simp only [h0, if_false]
    · have h58 := hst (by omega)
      have hmem : (58 : Nat) ∈ (l.drop j).take (k - j) := by
        have hlt : (nameAtC l j).length < ((l.drop j).take (k - j)).length := by rw [List.length_take, List.length_drop]; omega
        have : ((l.drop j).take (k - j))[(nameAtC l j).length] = 58 := by
          rw [List.getElem_take, List.getElem_drop, ← gN_at, h58]
        rw [← this]
        exact List.getElem_mem _
      simp only [classOf_mem hmem, if_true]
      rw [if_pos]
      right
      intro ⟨_, h2⟩
      have := c (j + (nameAtC l j).length) (by omega) (by omega)
      unfold clsEnd at this
      rw [h58, h2] at this
      simp at this
end Go.Proofs.YtkmkencodcfloaaGreatDoor
