/-
  What is proved here: the reference's texts: l01Point, l01Bytes, l01Next, Runes, TextOk. No condition.
-/
import Derived.Test.YtlfkfofeenakhaaDoorText
import Derived.Test.YtlfkfofeenakhaaDoorWithin
import Derived.Test.YtlfkfofeenakhaaDoorStr
namespace Go.Proofs.YtlfkfofeenakhaaDoor
open Go.RowKit
set_option linter.unusedVariables false
set_option linter.unusedSimpArgs false

theorem u8_cast {n : Nat} (h : n < 256) : ((UInt8.ofNat n).toNat : Int) = (n : Int) := by rw [ofNat_toNat h]
theorem u8_val {n : Nat} {x : Int} (h : n < 256) (hx : x = (n : Int)) : Value.int .u8 x = .int .u8 ((UInt8.ofNat n).toNat : Int) := by rw [u8_cast h, hx]
def byteVals (l : List UInt8) : List Value := l.map fun b => .int .u8 (b.toNat : Int)
theorem byteVals_length (l : List UInt8) : (byteVals l).length = l.length := by simp [byteVals]
/-- a code point, as a test -/
def ptB (c : Int) : Bool := decide (1 ≤ c ∧ c ≤ 1114111) && !decide (55296 ≤ c ∧ c ≤ 57343)
theorem ptB_iff {c : Nat} : ptB (c : Int) = true ↔ isPt c := by
  unfold ptB isPt
  simp
  omega

theorem specPoint (c : Int) (w : World) : Calls Tryd.prog 134 #[.int .i64 c] w fun e w' => e = .returned (.bool (ptB c)) ∧ w = w' := by
  by_cases h1 : 1 ≤ c ∧ c ≤ 1114111
  · have b1 : inB 1 c 1114111 = true := inB_true h1
    by_cases h2 : 55296 ≤ c ∧ c ≤ 57343
    · have b2 : inB 55296 c 57343 = true := inB_true h2
      have hr := hid (show ptB c = false by unfold ptB; simp [h1, h2])
      clear h1 h2
      go_enter Tryd.func134, Tryd.ntmps134
      go_wp2_with (go_at_call 133; refine (between_any _ _ _ _).mono ?_; rintro e w1 ⟨rfl, rfl⟩)
      go_ret
      exact ⟨end_bool hr.out.symm, rfl⟩
    · have b2 : inB 55296 c 57343 = false := inB_false h2
      have hr := hid (show ptB c = true by unfold ptB; rw [decide_eq_true h1, decide_eq_false h2]; rfl)
      clear h1 h2
      go_enter Tryd.func134, Tryd.ntmps134
      go_wp2_with (go_at_call 133; refine (between_any _ _ _ _).mono ?_; rintro e w1 ⟨rfl, rfl⟩)
      go_ret
      exact ⟨end_bool hr.out.symm, rfl⟩
  · have b1 : inB 1 c 1114111 = false := inB_false h1
    have hr := hid (show ptB c = false by unfold ptB; rw [decide_eq_false h1]; rfl)
    clear h1
    go_enter Tryd.func134, Tryd.ntmps134
    go_wp2_with (go_at_call 133; refine (between_any _ _ _ _).mono ?_; rintro e w1 ⟨rfl, rfl⟩)
    go_ret
    exact ⟨end_bool hr.out.symm, rfl⟩

set_option maxHeartbeats 1000000 in
theorem specBytes (c : Nat) (h1 : 1 ≤ c) (h2 : c ≤ 1114111) (w : World) :
    Calls Tryd.prog 104 #[.int .i64 c] w fun e w' => e = .returned (.slice (some ⟨w.heap.size, 0, none⟩) (enc c).length (enc c).length) ∧ w' = w.alloc (.cells (byteVals (enc c)).toArray 5) := by
  by_cases a1 : c < 128
  · have e : enc c = [UInt8.ofNat c] := by unfold enc; rw [if_pos a1]
    have E := hid e
    have t1 : (c : Int) < 128 := by omega
    clear e
    go_enter Tryd.func104, Tryd.ntmps104
    go_wp2
    go_ret
    rw [E.out]
    refine ⟨rfl, ?_⟩
    rw [u8_val (n := c) (x := (c : Int)) (by omega) rfl]
    rfl
  · by_cases a2 : c < 2048
    · have e : enc c = [UInt8.ofNat (192 + c / 64), UInt8.ofNat (128 + c % 64)] := by unfold enc; rw [if_neg a1, if_pos a2]
      have E := hid e
      have t1 : ¬ (c : Int) < 128 := by omega
      have t2 : (c : Int) < 2048 := by omega
      clear e
      go_enter Tryd.func104, Tryd.ntmps104
      go_wp2
      go_ret
      rw [E.out]
      refine ⟨rfl, ?_⟩
      rw [u8_val (n := 192 + c / 64) (x := 192 + (c : Int) / 64) (by omega) (by omega), u8_val (n := 128 + c % 64) (x := 128 + (c : Int) % 64) (by omega) (by omega)]
      rfl
    · by_cases a3 : c < 65536
      · have e : enc c = [UInt8.ofNat (224 + c / 4096), UInt8.ofNat (128 + c / 64 % 64), UInt8.ofNat (128 + c % 64)] := by unfold enc; rw [if_neg a1, if_neg a2, if_pos a3]
        have E := hid e
        have t1 : ¬ (c : Int) < 128 := by omega
        have t2 : ¬ (c : Int) < 2048 := by omega
        have t3 : (c : Int) < 65536 := by omega
        clear e
        go_enter Tryd.func104, Tryd.ntmps104
        go_wp2
        go_ret
        rw [E.out]
        refine ⟨rfl, ?_⟩
        rw [u8_val (n := 224 + c / 4096) (x := 224 + (c : Int) / 4096) (by omega) (by omega), u8_val (n := 128 + c / 64 % 64) (x := 128 + (c : Int) / 64 % 64) (by omega) (by omega), u8_val (n := 128 + c % 64) (x := 128 + (c : Int) % 64) (by omega) (by omega)]
        rfl
      · have e : enc c = [UInt8.ofNat (240 + c / 262144), UInt8.ofNat (128 + c / 4096 % 64), UInt8.ofNat (128 + c / 64 % 64), UInt8.ofNat (128 + c % 64)] := by unfold enc; rw [if_neg a1, if_neg a2, if_neg a3]
        have E := hid e
        have t1 : ¬ (c : Int) < 128 := by omega
        have t2 : ¬ (c : Int) < 2048 := by omega
        have t3 : ¬ (c : Int) < 65536 := by omega
        clear e
        go_enter Tryd.func104, Tryd.ntmps104
        go_wp2
        go_ret
        rw [E.out]
        refine ⟨rfl, ?_⟩
        rw [u8_val (n := 240 + c / 262144) (x := 240 + (c : Int) / 262144) (by omega) (by omega), u8_val (n := 128 + c / 4096 % 64) (x := 128 + (c : Int) / 4096 % 64) (by omega) (by omega), u8_val (n := 128 + c / 64 % 64) (x := 128 + (c : Int) / 64 % 64) (by omega) (by omega), u8_val (n := 128 + c % 64) (x := 128 + (c : Int) % 64) (by omega) (by omega)]
        rfl

/-! ### The loop of l01Next: the continuations -/
/-- the code point as far as the first k bytes tell it -/
def foldC (l : List UInt8) (c0 : Nat) : Nat → Nat
  | 0 => c0
  | k + 1 => 64 * foldC l c0 k + ((l.getD (k + 1) 0).toNat - 128)
def contTo (l : List UInt8) (k : Nat) : Prop := ∀ j, 1 ≤ j → j ≤ k → 128 ≤ (l.getD j 0).toNat ∧ (l.getD j 0).toNat ≤ 191
theorem foldC_1 (l : List UInt8) (c0 : Nat) : foldC l c0 1 = 64 * c0 + ((l.getD 1 0).toNat - 128) := rfl
theorem foldC_2 (l : List UInt8) (c0 : Nat) : foldC l c0 2 = 64 * (64 * c0 + ((l.getD 1 0).toNat - 128)) + ((l.getD 2 0).toNat - 128) := rfl
theorem foldC_3 (l : List UInt8) (c0 : Nat) : foldC l c0 3 = 64 * (64 * (64 * c0 + ((l.getD 1 0).toNat - 128)) + ((l.getD 2 0).toNat - 128)) + ((l.getD 3 0).toNat - 128) := rfl
theorem foldC_le {l : List UInt8} {c0 : Nat} (h0 : c0 < 128) : ∀ k, k ≤ 3 → foldC l c0 k < 100000000 := by
  intro k hk
  have b1 : (l.getD 1 0).toNat < 256 := UInt8.toNat_lt _
  have b2 : (l.getD 2 0).toNat < 256 := UInt8.toNat_lt _
  have b3 : (l.getD 3 0).toNat < 256 := UInt8.toNat_lt _
  have hk' : k = 0 ∨ k = 1 ∨ k = 2 ∨ k = 3 := by omega
  rcases hk' with rfl | rfl | rfl | rfl
  · have : foldC l c0 0 = c0 := rfl
    omega
  · rw [foldC_1]; omega
  · rw [foldC_2]; omega
  · rw [foldC_3]; omega

theorem getD_drop_get (s : ByteArray) (at' j : Nat) (h : at' + j < s.size) : (s.data.toList.drop at').getD j 0 = s[at' + j] := by
  rw [List.getD_eq_getElem?_getD, List.getElem?_drop, List.getElem?_eq_getElem (by rw [← Lib.size_eq]; exact h)]
  rfl
theorem next_at {l : List UInt8} {n c0 : Nat} (hl : n ≤ l.length)
    (hn : (n = 1 ∧ (l.getD 0 0).toNat < 128 ∧ c0 = (l.getD 0 0).toNat) ∨ (n = 2 ∧ 192 ≤ (l.getD 0 0).toNat ∧ (l.getD 0 0).toNat ≤ 223 ∧ c0 = (l.getD 0 0).toNat - 192) ∨
      (n = 3 ∧ 224 ≤ (l.getD 0 0).toNat ∧ (l.getD 0 0).toNat ≤ 239 ∧ c0 = (l.getD 0 0).toNat - 224) ∨ (n = 4 ∧ 240 ≤ (l.getD 0 0).toNat ∧ (l.getD 0 0).toNat ≤ 247 ∧ c0 = (l.getD 0 0).toNat - 240)) (hc : contTo l (n - 1)) :
    next l = if isPt (foldC l c0 (n - 1)) ∧ (enc (foldC l c0 (n - 1))).length = n then (foldC l c0 (n - 1), n) else (0, 0) := by
  apply next_whole hl
  rcases hn with ⟨rfl, h⟩ | ⟨rfl, h⟩ | ⟨rfl, h⟩ | ⟨rfl, h⟩
  · left; exact ⟨rfl, h.1, h.2⟩
  · right; left
    have h1 := hc 1 (by omega) (by omega)
    exact ⟨rfl, h.1, h.2.1, h1.1, h1.2, by rw [h.2.2, ← foldC_1]⟩
  · right; right; left
    have h1 := hc 1 (by omega) (by omega)
    have h2 := hc 2 (by omega) (by omega)
    exact ⟨rfl, h.1, h.2.1, h1.1, h1.2, h2.1, h2.2, by rw [h.2.2, ← foldC_2]⟩
  · right; right; right
    have h1 := hc 1 (by omega) (by omega)
    have h2 := hc 2 (by omega) (by omega)
    have h3 := hc 3 (by omega) (by omega)
    exact ⟨rfl, h.1, h.2.1, h1.1, h1.2, h2.1, h2.2, h3.1, h3.2, by rw [h.2.2, ← foldC_3]⟩
theorem end_pair {a b c d : Int} (h1 : a = c) (h2 : b = d) : Ending.returned (.tuple #[.int .i64 a, .int .i64 b]) = Ending.returned (.tuple #[.int .i64 c, .int .i64 d]) := by rw [h1, h2]

set_option maxHeartbeats 4000000 in
set_option maxRecDepth 100000 in
theorem specNext (s : ByteArray) (at' : Nat) (w : World) (hat : at' < s.size) (hs : s.size ≤ 1000000) :
    Calls Tryd.prog 102 #[.string s, .int .i64 at'] w fun e w' => e = .returned (.tuple #[.int .i64 (next (s.data.toList.drop at')).1, .int .i64 (next (s.data.toList.drop at')).2]) ∧ Below w.heap.size w w' := by
  have hlen : (s.data.toList.drop at').length = s.size - at' := by rw [List.length_drop, ← Lib.size_eq]
  have hg : ∀ j (hj : at' + j < s.size), (s.data.toList.drop at').getD j 0 = s[at' + j] := fun j hj => getD_drop_get s at' j hj
  generalize s.data.toList.drop at' = l at hlen hg ⊢
  obtain ⟨b0, hb0⟩ : ∃ b0, s[at'].toNat = b0 := ⟨_, rfl⟩
  have hb : b0 < 256 := hb0 ▸ UInt8.toNat_lt _
  have hl0 : (l.getD 0 0).toNat = b0 := by rw [hg 0 hat]; exact hb0
  have hG := hid hg
  have HL := hid hlen
  have H0 := hid hl0
  clear hg hlen hl0
  have hcls : ((b0 : Int) < 128) ∨ (¬ (b0 : Int) < 128 ∧ inB 192 (b0 : Int) 223 = true) ∨ (¬ (b0 : Int) < 128 ∧ inB 192 (b0 : Int) 223 = false ∧ inB 224 (b0 : Int) 239 = true) ∨ (¬ (b0 : Int) < 128 ∧ inB 192 (b0 : Int) 223 = false ∧ inB 224 (b0 : Int) 239 = false ∧ inB 240 (b0 : Int) 247 = true) ∨
      (¬ (b0 : Int) < 128 ∧ inB 192 (b0 : Int) 223 = false ∧ inB 224 (b0 : Int) 239 = false ∧ inB 240 (b0 : Int) 247 = false) := by
    unfold inB
    simp only [decide_eq_true_eq, decide_eq_false_iff_not]
    omega
  rcases hcls with g1 | ⟨g1, g2⟩ | ⟨g1, g2, g3⟩ | ⟨g1, g2, g3, g4⟩ | ⟨g1, g2, g3, g4⟩
  · have hr : b0 < 128 := by omega
    have HR := hid hr
    have hc0 : b0 < 128 := by omega
    by_cases hfit : (s.size : Int) - at' < 1
    · omega
    have HA := hid (fun hc => next_at (l := l) (n := 1) (c0 := b0) (by rw [HL.out]; omega) (Or.inl ⟨rfl, by rw [H0.out]; exact HR.out, by rw [H0.out]⟩) hc)
    have hf3 : foldC l b0 0 < 100000000 := foldC_le hc0 0 (by omega)
    obtain ⟨c, hcd⟩ : ∃ c, foldC l b0 0 = c := ⟨_, rfl⟩
    have HCD := hid hcd
    rw [hcd] at hf3
    clear hr hcd
    go_enter Tryd.func102, Tryd.ntmps102
    go_wp2_with (go_at_call 133; refine (between_any _ _ _ _).mono ?_; rintro e w1 ⟨rfl, rfl⟩)
    go_loop [8, 9] (fun c k => ∃ m : Nat, m + 1 ≤ 1 ∧ k = .int .i64 ((m + 1 : Nat) : Int) ∧ c = .int .i64 (foldC l b0 m : Nat) ∧ contTo l m) (fun _ k => 5 - (intOf k).toNat)
    case atStart => exact ⟨0, by omega, rfl, rfl, fun j h1 h2 => absurd h1 (by omega)⟩
    case round =>
      obtain ⟨m, hm, rfl, rfl, hct⟩ := hrel
      have HCT := hid hct
      clear hct
      by_cases hlt : m + 1 < 1
      · omega
      · obtain rfl : m = 0 := by omega
        have HN := hid (HA.out HCT.out)
        rw [HCD.out]
        by_cases hp : isPt c
        · have gp : ptB (c : Int) = true := ptB_iff.2 hp
          have hp' := hp
          obtain ⟨p1, p2, _⟩ := hp'
          have HP := hid hp
          clear hp
          have hw : ∃ x, ((enc c).length : Int) = x := ⟨_, rfl⟩
          by_cases hl : (enc c).length = 1
          · have gl : (((enc c).length : Int) != 1) = false := by rw [hl]; rfl
            have HLL := hid hl
            clear hl
            go_wp2_with (first | (go_at_call 134; refine (specPoint _ _).mono ?_; rintro e w1 ⟨rfl, rfl⟩) | (go_at_call 104; refine (specBytes _ p1 p2 _).mono ?_; rintro e w1 ⟨rfl, rfl⟩))
            go_ret2
            exact ⟨end_pair (by rw [HN.out, HCD.out, if_pos ⟨HP.out, HLL.out⟩]) (by rw [HN.out, HCD.out, if_pos ⟨HP.out, HLL.out⟩]; rfl), ext_alloc _ _⟩
          · have gl : (((enc c).length : Int) != 1) = true := by rw [bne_iff_ne]; omega
            have HLL := hid hl
            clear hl
            go_wp2_with (first | (go_at_call 134; refine (specPoint _ _).mono ?_; rintro e w1 ⟨rfl, rfl⟩) | (go_at_call 104; refine (specBytes _ p1 p2 _).mono ?_; rintro e w1 ⟨rfl, rfl⟩))
            go_ret2
            exact ⟨end_pair (by rw [HN.out, HCD.out, if_neg (fun h => HLL.out h.2)]; rfl) (by rw [HN.out, HCD.out, if_neg (fun h => HLL.out h.2)]; rfl), ext_alloc _ _⟩
        · have gp : ptB (c : Int) = false := by rw [Bool.eq_false_iff]; exact fun h => hp (ptB_iff.1 h)
          have HP := hid hp
          clear hp
          go_wp2_with (first | (go_at_call 134; refine (specPoint _ _).mono ?_; rintro e w1 ⟨rfl, rfl⟩))
          go_ret2
          exact ⟨end_pair (by rw [HN.out, HCD.out, if_neg (fun h => HP.out h.1)]; rfl) (by rw [HN.out, HCD.out, if_neg (fun h => HP.out h.1)]; rfl), Below.refl _ _⟩
  · have hr : 192 ≤ b0 ∧ b0 ≤ 223 := by unfold inB at g2; simp only [decide_eq_true_eq] at g2; omega
    have HR := hid hr
    have hc0 : (b0 - 192) < 128 := by omega
    by_cases hfit : (s.size : Int) - at' < 2
    · have HZ := hid (next_short (l := l) (n := 2) (Or.inl ⟨rfl, by rw [H0.out]; exact HR.out.1, by rw [H0.out]; exact HR.out.2⟩) (Or.inl (by rw [HL.out]; omega)))
      clear hr
      go_enter Tryd.func102, Tryd.ntmps102
      go_wp2_with (go_at_call 133; refine (between_any _ _ _ _).mono ?_; rintro e w1 ⟨rfl, rfl⟩)
      go_ret2
      exact ⟨end_pair (by rw [HZ.out]; rfl) (by rw [HZ.out]; rfl), Below.refl _ _⟩
    have HA := hid (fun hc => next_at (l := l) (n := 2) (c0 := (b0 - 192)) (by rw [HL.out]; omega) (Or.inr (Or.inl ⟨rfl, by rw [H0.out]; exact HR.out.1, by rw [H0.out]; exact HR.out.2, by rw [H0.out]⟩)) hc)
    have hf3 : foldC l (b0 - 192) 1 < 100000000 := foldC_le hc0 1 (by omega)
    obtain ⟨c, hcd⟩ : ∃ c, foldC l (b0 - 192) 1 = c := ⟨_, rfl⟩
    have HCD := hid hcd
    rw [hcd] at hf3
    clear hr hcd
    go_enter Tryd.func102, Tryd.ntmps102
    go_wp2_with (go_at_call 133; refine (between_any _ _ _ _).mono ?_; rintro e w1 ⟨rfl, rfl⟩)
    go_loop [8, 9] (fun c k => ∃ m : Nat, m + 1 ≤ 2 ∧ k = .int .i64 ((m + 1 : Nat) : Int) ∧ c = .int .i64 (foldC l (b0 - 192) m : Nat) ∧ contTo l m) (fun _ k => 5 - (intOf k).toNat)
    case atStart => exact ⟨0, by omega, rfl, by rw [show ((foldC l (b0 - 192) 0 : Nat) : Int) = (b0 : Int) - 192 from by show (((b0 - 192) : Nat) : Int) = _; have := HR.out; omega], fun j h1 h2 => absurd h1 (by omega)⟩
    case round =>
      obtain ⟨m, hm, rfl, rfl, hct⟩ := hrel
      have HCT := hid hct
      clear hct
      by_cases hlt : m + 1 < 2
      · have hin : at' + (m + 1) < s.size := by omega
        obtain ⟨x, hx⟩ : ∃ x, s[at' + (m + 1)].toNat = x := ⟨_, rfl⟩
        have hx' : s[at' + m + 1].toNat = x := hx
        have hxl : (l.getD (m + 1) 0).toNat = x := by rw [hG.out (m + 1) hin]; exact hx
        have hxb : x < 256 := hx ▸ UInt8.toNat_lt _
        have HX := hid hxl
        have hfm : foldC l (b0 - 192) m < 100000000 := foldC_le hc0 m (by omega)
        clear hxl
        by_cases hcc : 128 ≤ x ∧ x ≤ 191
        · have gb : inB 128 (x : Int) 191 = true := inB_true (by omega)
          have HF := hid (show ((foldC l (b0 - 192) (m + 1) : Nat) : Int) = 64 * (foldC l (b0 - 192) m : Nat) + x - 128 by
            show ((64 * foldC l (b0 - 192) m + ((l.getD (m + 1) 0).toNat - 128) : Nat) : Int) = _
            rw [HX.out]; omega)
          have HCC := hid hcc
          clear hcc
          go_wp2_with (go_at_call 133; refine (between_any _ _ _ _).mono ?_; rintro e w1 ⟨rfl, rfl⟩)
          go_round
          case rel => exact ⟨m + 1, by omega, by go_num, by rw [HF.out], fun j h1 h2 => by
            by_cases hj : j = m + 1
            · subst hj; rw [HX.out]; exact HCC.out
            · exact HCT.out j h1 (by omega)⟩
          case measure => simp [intOf]; omega
        · have gb : inB 128 (x : Int) 191 = false := inB_false (by omega)
          have HZ := hid (next_short (l := l) (n := 2) (Or.inl ⟨rfl, by rw [H0.out]; exact HR.out.1, by rw [H0.out]; exact HR.out.2⟩) (Or.inr ⟨m + 1, by omega, hlt, by rw [HX.out]; omega⟩))
          clear hcc
          go_wp2_with (go_at_call 133; refine (between_any _ _ _ _).mono ?_; rintro e w1 ⟨rfl, rfl⟩)
          go_ret2
          exact ⟨end_pair (by rw [HZ.out]; rfl) (by rw [HZ.out]; rfl), Below.refl _ _⟩
      · obtain rfl : m = 1 := by omega
        have HN := hid (HA.out HCT.out)
        rw [HCD.out]
        by_cases hp : isPt c
        · have gp : ptB (c : Int) = true := ptB_iff.2 hp
          have hp' := hp
          obtain ⟨p1, p2, _⟩ := hp'
          have HP := hid hp
          clear hp
          have hw : ∃ x, ((enc c).length : Int) = x := ⟨_, rfl⟩
          by_cases hl : (enc c).length = 2
          · have gl : (((enc c).length : Int) != 2) = false := by rw [hl]; rfl
            have HLL := hid hl
            clear hl
            go_wp2_with (first | (go_at_call 134; refine (specPoint _ _).mono ?_; rintro e w1 ⟨rfl, rfl⟩) | (go_at_call 104; refine (specBytes _ p1 p2 _).mono ?_; rintro e w1 ⟨rfl, rfl⟩))
            go_ret2
            exact ⟨end_pair (by rw [HN.out, HCD.out, if_pos ⟨HP.out, HLL.out⟩]) (by rw [HN.out, HCD.out, if_pos ⟨HP.out, HLL.out⟩]; rfl), ext_alloc _ _⟩
          · have gl : (((enc c).length : Int) != 2) = true := by rw [bne_iff_ne]; omega
            have HLL := hid hl
            clear hl
            go_wp2_with (first | (go_at_call 134; refine (specPoint _ _).mono ?_; rintro e w1 ⟨rfl, rfl⟩) | (go_at_call 104; refine (specBytes _ p1 p2 _).mono ?_; rintro e w1 ⟨rfl, rfl⟩))
            go_ret2
            exact ⟨end_pair (by rw [HN.out, HCD.out, if_neg (fun h => HLL.out h.2)]; rfl) (by rw [HN.out, HCD.out, if_neg (fun h => HLL.out h.2)]; rfl), ext_alloc _ _⟩
        · have gp : ptB (c : Int) = false := by rw [Bool.eq_false_iff]; exact fun h => hp (ptB_iff.1 h)
          have HP := hid hp
          clear hp
          go_wp2_with (first | (go_at_call 134; refine (specPoint _ _).mono ?_; rintro e w1 ⟨rfl, rfl⟩))
          go_ret2
          exact ⟨end_pair (by rw [HN.out, HCD.out, if_neg (fun h => HP.out h.1)]; rfl) (by rw [HN.out, HCD.out, if_neg (fun h => HP.out h.1)]; rfl), Below.refl _ _⟩
  · have hr : 224 ≤ b0 ∧ b0 ≤ 239 := by unfold inB at g3; simp only [decide_eq_true_eq] at g3; omega
    have HR := hid hr
    have hc0 : (b0 - 224) < 128 := by omega
    by_cases hfit : (s.size : Int) - at' < 3
    · have HZ := hid (next_short (l := l) (n := 3) (Or.inr (Or.inl ⟨rfl, by rw [H0.out]; exact HR.out.1, by rw [H0.out]; exact HR.out.2⟩)) (Or.inl (by rw [HL.out]; omega)))
      clear hr
      go_enter Tryd.func102, Tryd.ntmps102
      go_wp2_with (go_at_call 133; refine (between_any _ _ _ _).mono ?_; rintro e w1 ⟨rfl, rfl⟩)
      go_ret2
      exact ⟨end_pair (by rw [HZ.out]; rfl) (by rw [HZ.out]; rfl), Below.refl _ _⟩
    have HA := hid (fun hc => next_at (l := l) (n := 3) (c0 := (b0 - 224)) (by rw [HL.out]; omega) (Or.inr (Or.inr (Or.inl ⟨rfl, by rw [H0.out]; exact HR.out.1, by rw [H0.out]; exact HR.out.2, by rw [H0.out]⟩))) hc)
    have hf3 : foldC l (b0 - 224) 2 < 100000000 := foldC_le hc0 2 (by omega)
    obtain ⟨c, hcd⟩ : ∃ c, foldC l (b0 - 224) 2 = c := ⟨_, rfl⟩
    have HCD := hid hcd
    rw [hcd] at hf3
    clear hr hcd
    go_enter Tryd.func102, Tryd.ntmps102
    go_wp2_with (go_at_call 133; refine (between_any _ _ _ _).mono ?_; rintro e w1 ⟨rfl, rfl⟩)
    go_loop [8, 9] (fun c k => ∃ m : Nat, m + 1 ≤ 3 ∧ k = .int .i64 ((m + 1 : Nat) : Int) ∧ c = .int .i64 (foldC l (b0 - 224) m : Nat) ∧ contTo l m) (fun _ k => 5 - (intOf k).toNat)
    case atStart => exact ⟨0, by omega, rfl, by rw [show ((foldC l (b0 - 224) 0 : Nat) : Int) = (b0 : Int) - 224 from by show (((b0 - 224) : Nat) : Int) = _; have := HR.out; omega], fun j h1 h2 => absurd h1 (by omega)⟩
    case round =>
      obtain ⟨m, hm, rfl, rfl, hct⟩ := hrel
      have HCT := hid hct
      clear hct
      by_cases hlt : m + 1 < 3
      · have hin : at' + (m + 1) < s.size := by omega
        obtain ⟨x, hx⟩ : ∃ x, s[at' + (m + 1)].toNat = x := ⟨_, rfl⟩
        have hx' : s[at' + m + 1].toNat = x := hx
        have hxl : (l.getD (m + 1) 0).toNat = x := by rw [hG.out (m + 1) hin]; exact hx
        have hxb : x < 256 := hx ▸ UInt8.toNat_lt _
        have HX := hid hxl
        have hfm : foldC l (b0 - 224) m < 100000000 := foldC_le hc0 m (by omega)
        clear hxl
        by_cases hcc : 128 ≤ x ∧ x ≤ 191
        · have gb : inB 128 (x : Int) 191 = true := inB_true (by omega)
          have HF := hid (show ((foldC l (b0 - 224) (m + 1) : Nat) : Int) = 64 * (foldC l (b0 - 224) m : Nat) + x - 128 by
            show ((64 * foldC l (b0 - 224) m + ((l.getD (m + 1) 0).toNat - 128) : Nat) : Int) = _
            rw [HX.out]; omega)
          have HCC := hid hcc
          clear hcc
          go_wp2_with (go_at_call 133; refine (between_any _ _ _ _).mono ?_; rintro e w1 ⟨rfl, rfl⟩)
          go_round
          case rel => exact ⟨m + 1, by omega, by go_num, by rw [HF.out], fun j h1 h2 => by
            by_cases hj : j = m + 1
            · subst hj; rw [HX.out]; exact HCC.out
            · exact HCT.out j h1 (by omega)⟩
          case measure => simp [intOf]; omega
        · have gb : inB 128 (x : Int) 191 = false := inB_false (by omega)
          have HZ := hid (next_short (l := l) (n := 3) (Or.inr (Or.inl ⟨rfl, by rw [H0.out]; exact HR.out.1, by rw [H0.out]; exact HR.out.2⟩)) (Or.inr ⟨m + 1, by omega, hlt, by rw [HX.out]; omega⟩))
          clear hcc
          go_wp2_with (go_at_call 133; refine (between_any _ _ _ _).mono ?_; rintro e w1 ⟨rfl, rfl⟩)
          go_ret2
          exact ⟨end_pair (by rw [HZ.out]; rfl) (by rw [HZ.out]; rfl), Below.refl _ _⟩
      · obtain rfl : m = 2 := by omega
        have HN := hid (HA.out HCT.out)
        rw [HCD.out]
        by_cases hp : isPt c
        · have gp : ptB (c : Int) = true := ptB_iff.2 hp
          have hp' := hp
          obtain ⟨p1, p2, _⟩ := hp'
          have HP := hid hp
          clear hp
          have hw : ∃ x, ((enc c).length : Int) = x := ⟨_, rfl⟩
          by_cases hl : (enc c).length = 3
          · have gl : (((enc c).length : Int) != 3) = false := by rw [hl]; rfl
            have HLL := hid hl
            clear hl
            go_wp2_with (first | (go_at_call 134; refine (specPoint _ _).mono ?_; rintro e w1 ⟨rfl, rfl⟩) | (go_at_call 104; refine (specBytes _ p1 p2 _).mono ?_; rintro e w1 ⟨rfl, rfl⟩))
            go_ret2
            exact ⟨end_pair (by rw [HN.out, HCD.out, if_pos ⟨HP.out, HLL.out⟩]) (by rw [HN.out, HCD.out, if_pos ⟨HP.out, HLL.out⟩]; rfl), ext_alloc _ _⟩
          · have gl : (((enc c).length : Int) != 3) = true := by rw [bne_iff_ne]; omega
            have HLL := hid hl
            clear hl
            go_wp2_with (first | (go_at_call 134; refine (specPoint _ _).mono ?_; rintro e w1 ⟨rfl, rfl⟩) | (go_at_call 104; refine (specBytes _ p1 p2 _).mono ?_; rintro e w1 ⟨rfl, rfl⟩))
            go_ret2
            exact ⟨end_pair (by rw [HN.out, HCD.out, if_neg (fun h => HLL.out h.2)]; rfl) (by rw [HN.out, HCD.out, if_neg (fun h => HLL.out h.2)]; rfl), ext_alloc _ _⟩
        · have gp : ptB (c : Int) = false := by rw [Bool.eq_false_iff]; exact fun h => hp (ptB_iff.1 h)
          have HP := hid hp
          clear hp
          go_wp2_with (first | (go_at_call 134; refine (specPoint _ _).mono ?_; rintro e w1 ⟨rfl, rfl⟩))
          go_ret2
          exact ⟨end_pair (by rw [HN.out, HCD.out, if_neg (fun h => HP.out h.1)]; rfl) (by rw [HN.out, HCD.out, if_neg (fun h => HP.out h.1)]; rfl), Below.refl _ _⟩
  · have hr : 240 ≤ b0 ∧ b0 ≤ 247 := by unfold inB at g4; simp only [decide_eq_true_eq] at g4; omega
    have HR := hid hr
    have hc0 : (b0 - 240) < 128 := by omega
    by_cases hfit : (s.size : Int) - at' < 4
    · have HZ := hid (next_short (l := l) (n := 4) (Or.inr (Or.inr ⟨rfl, by rw [H0.out]; exact HR.out.1, by rw [H0.out]; exact HR.out.2⟩)) (Or.inl (by rw [HL.out]; omega)))
      clear hr
      go_enter Tryd.func102, Tryd.ntmps102
      go_wp2_with (go_at_call 133; refine (between_any _ _ _ _).mono ?_; rintro e w1 ⟨rfl, rfl⟩)
      go_ret2
      exact ⟨end_pair (by rw [HZ.out]; rfl) (by rw [HZ.out]; rfl), Below.refl _ _⟩
    have HA := hid (fun hc => next_at (l := l) (n := 4) (c0 := (b0 - 240)) (by rw [HL.out]; omega) (Or.inr (Or.inr (Or.inr ⟨rfl, by rw [H0.out]; exact HR.out.1, by rw [H0.out]; exact HR.out.2, by rw [H0.out]⟩))) hc)
    have hf3 : foldC l (b0 - 240) 3 < 100000000 := foldC_le hc0 3 (by omega)
    obtain ⟨c, hcd⟩ : ∃ c, foldC l (b0 - 240) 3 = c := ⟨_, rfl⟩
    have HCD := hid hcd
    rw [hcd] at hf3
    clear hr hcd
    go_enter Tryd.func102, Tryd.ntmps102
    go_wp2_with (go_at_call 133; refine (between_any _ _ _ _).mono ?_; rintro e w1 ⟨rfl, rfl⟩)
    go_loop [8, 9] (fun c k => ∃ m : Nat, m + 1 ≤ 4 ∧ k = .int .i64 ((m + 1 : Nat) : Int) ∧ c = .int .i64 (foldC l (b0 - 240) m : Nat) ∧ contTo l m) (fun _ k => 5 - (intOf k).toNat)
    case atStart => exact ⟨0, by omega, rfl, by rw [show ((foldC l (b0 - 240) 0 : Nat) : Int) = (b0 : Int) - 240 from by show (((b0 - 240) : Nat) : Int) = _; have := HR.out; omega], fun j h1 h2 => absurd h1 (by omega)⟩
    case round =>
      obtain ⟨m, hm, rfl, rfl, hct⟩ := hrel
      have HCT := hid hct
      clear hct
      by_cases hlt : m + 1 < 4
      · have hin : at' + (m + 1) < s.size := by omega
        obtain ⟨x, hx⟩ : ∃ x, s[at' + (m + 1)].toNat = x := ⟨_, rfl⟩
        have hx' : s[at' + m + 1].toNat = x := hx
        have hxl : (l.getD (m + 1) 0).toNat = x := by rw [hG.out (m + 1) hin]; exact hx
        have hxb : x < 256 := hx ▸ UInt8.toNat_lt _
        have HX := hid hxl
        have hfm : foldC l (b0 - 240) m < 100000000 := foldC_le hc0 m (by omega)
        clear hxl
        by_cases hcc : 128 ≤ x ∧ x ≤ 191
        · have gb : inB 128 (x : Int) 191 = true := inB_true (by omega)
          have HF := hid (show ((foldC l (b0 - 240) (m + 1) : Nat) : Int) = 64 * (foldC l (b0 - 240) m : Nat) + x - 128 by
            show ((64 * foldC l (b0 - 240) m + ((l.getD (m + 1) 0).toNat - 128) : Nat) : Int) = _
            rw [HX.out]; omega)
          have HCC := hid hcc
          clear hcc
          go_wp2_with (go_at_call 133; refine (between_any _ _ _ _).mono ?_; rintro e w1 ⟨rfl, rfl⟩)
          go_round
          case rel => exact ⟨m + 1, by omega, by go_num, by rw [HF.out], fun j h1 h2 => by
            by_cases hj : j = m + 1
            · subst hj; rw [HX.out]; exact HCC.out
            · exact HCT.out j h1 (by omega)⟩
          case measure => simp [intOf]; omega
        · have gb : inB 128 (x : Int) 191 = false := inB_false (by omega)
          have HZ := hid (next_short (l := l) (n := 4) (Or.inr (Or.inr ⟨rfl, by rw [H0.out]; exact HR.out.1, by rw [H0.out]; exact HR.out.2⟩)) (Or.inr ⟨m + 1, by omega, hlt, by rw [HX.out]; omega⟩))
          clear hcc
          go_wp2_with (go_at_call 133; refine (between_any _ _ _ _).mono ?_; rintro e w1 ⟨rfl, rfl⟩)
          go_ret2
          exact ⟨end_pair (by rw [HZ.out]; rfl) (by rw [HZ.out]; rfl), Below.refl _ _⟩
      · obtain rfl : m = 3 := by omega
        have HN := hid (HA.out HCT.out)
        rw [HCD.out]
        by_cases hp : isPt c
        · have gp : ptB (c : Int) = true := ptB_iff.2 hp
          have hp' := hp
          obtain ⟨p1, p2, _⟩ := hp'
          have HP := hid hp
          clear hp
          have hw : ∃ x, ((enc c).length : Int) = x := ⟨_, rfl⟩
          by_cases hl : (enc c).length = 4
          · have gl : (((enc c).length : Int) != 4) = false := by rw [hl]; rfl
            have HLL := hid hl
            clear hl
            go_wp2_with (first | (go_at_call 134; refine (specPoint _ _).mono ?_; rintro e w1 ⟨rfl, rfl⟩) | (go_at_call 104; refine (specBytes _ p1 p2 _).mono ?_; rintro e w1 ⟨rfl, rfl⟩))
            go_ret2
            exact ⟨end_pair (by rw [HN.out, HCD.out, if_pos ⟨HP.out, HLL.out⟩]) (by rw [HN.out, HCD.out, if_pos ⟨HP.out, HLL.out⟩]; rfl), ext_alloc _ _⟩
          · have gl : (((enc c).length : Int) != 4) = true := by rw [bne_iff_ne]; omega
            have HLL := hid hl
            clear hl
            go_wp2_with (first | (go_at_call 134; refine (specPoint _ _).mono ?_; rintro e w1 ⟨rfl, rfl⟩) | (go_at_call 104; refine (specBytes _ p1 p2 _).mono ?_; rintro e w1 ⟨rfl, rfl⟩))
            go_ret2
            exact ⟨end_pair (by rw [HN.out, HCD.out, if_neg (fun h => HLL.out h.2)]; rfl) (by rw [HN.out, HCD.out, if_neg (fun h => HLL.out h.2)]; rfl), ext_alloc _ _⟩
        · have gp : ptB (c : Int) = false := by rw [Bool.eq_false_iff]; exact fun h => hp (ptB_iff.1 h)
          have HP := hid hp
          clear hp
          go_wp2_with (first | (go_at_call 134; refine (specPoint _ _).mono ?_; rintro e w1 ⟨rfl, rfl⟩))
          go_ret2
          exact ⟨end_pair (by rw [HN.out, HCD.out, if_neg (fun h => HP.out h.1)]; rfl) (by rw [HN.out, HCD.out, if_neg (fun h => HP.out h.1)]; rfl), Below.refl _ _⟩
  · have hz : next l = (0, 0) := next_lead (by rw [H0.out]; omega) (by
      rw [H0.out]
      unfold inB at g2 g3 g4
      simp only [decide_eq_false_iff_not] at g2 g3 g4
      omega)
    have HZ := hid hz
    clear hz
    go_enter Tryd.func102, Tryd.ntmps102
    go_wp2_with (go_at_call 133; refine (between_any _ _ _ _).mono ?_; rintro e w1 ⟨rfl, rfl⟩)
    go_ret2
    exact ⟨end_pair (by rw [HZ.out]; rfl) (by rw [HZ.out]; rfl), Below.refl _ _⟩

end Go.Proofs.YtlfkfofeenakhaaDoor
