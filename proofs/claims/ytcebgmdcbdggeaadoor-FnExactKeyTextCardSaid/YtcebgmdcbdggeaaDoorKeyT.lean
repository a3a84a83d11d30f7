/-
  What is proved here: spec.KeyText and impl.KeyText return the same text. The condition 'Tabs' says that the library's tables lie in the world.
-/
import Derived.Test.YtcebgmdcbdggeaaDoorReplN
import Derived.Test.YtcebgmdcbdggeaaDoorValOk
import Derived.Test.YtcebgmdcbdggeaaDoorPartS
namespace Go.Proofs.YtcebgmdcbdggeaaDoor
open Go.RowKit
set_option linter.unusedVariables false
set_option linter.unusedSimpArgs false

/-- the signs that are written with a backslash -/
def psK : List (UInt8 × UInt8) := [(92, 92), (46, 46), (91, 91)]
theorem psK_nodup : (psK.map (·.1)).Nodup := by decide
def keyT (s : ByteArray) : ByteArray := if okText s = true then mkB (replL psK s.data.toList) else ⟨#[]⟩
theorem replB_psK (c : UInt8) : replB psK c = if c = 92 ∨ c = 46 ∨ c = 91 then [92, c] else [c] := by
  unfold replB psK rep rep rep rep
  by_cases h1 : c = 92
  · subst h1; rfl
  · by_cases h2 : c = 46
    · subst h2; rfl
    · by_cases h3 : c = 91
      · subst h3; rfl
      · rw [if_neg (Ne.symm h1), if_neg (Ne.symm h2), if_neg (Ne.symm h3), if_neg (by rintro (h | h | h); exact h1 h; exact h2 h; exact h3 h)]
set_option maxHeartbeats 8000000 in
set_option maxRecDepth 100000 in
theorem implKeyTx (s : ByteArray) (w : World) (hs : s.size ≤ 1000000) :
    Calls Tryd.prog 11 #[.string s] w fun e w' => e = .returned (.string (mkB (replL psK s.data.toList))) ∧ Below w.heap.size w w' := by
  have HROW := hid (show ∀ j u, (rowV psK)[j]? = some u → (w.alloc (.cells #[.string ⟨#[92]⟩, .string ⟨#[92, 92]⟩, .string ⟨#[46]⟩, .string ⟨#[92, 46]⟩, .string ⟨#[91]⟩, .string ⟨#[92, 91]⟩] 9)).cell? ((⟨w.heap.size, 0, none⟩ : Addr).add j) = some u from cells_new w _ _)
  have CR := hid (fun (b r n cap : Nat) (x : World) (hn : n = 2 * psK.length) (h : Rpl psK b r n cap x) => replacerReplace x psK_nodup (by decide) (by decide) hn h hs)
  have hal := hid (ext_alloc w (.cells #[.string ⟨#[92]⟩, .string ⟨#[92, 92]⟩, .string ⟨#[46]⟩, .string ⟨#[92, 46]⟩, .string ⟨#[91]⟩, .string ⟨#[92, 91]⟩] 9))
  go_enter Tryd.func11, Tryd.ntmps11
  go_wp2_with fail
  refine (newReplacer (ps := psK) _ (by decide) (by decide) rfl HROW.out).mono ?_
  rintro e w1 ⟨b, r, cap, rfl, hb, hR, hb1⟩
  have HR := hid hR
  have HB1 := hid (hal.out.trans (hb1.mono hal.out.size))
  have HBB := hid (show w.heap.size ≤ b from Nat.le_trans hal.out.size hb)
  clear hb hR hb1
  go_wp2_with fail
  refine (CR.out b r _ cap _ rfl HR.out).mono ?_
  rintro e w2 ⟨rfl, hb2⟩
  have HB2 := hid (hb2.mono HBB.out)
  clear hb2
  go_wp2
  go_ret
  exact ⟨rfl, HB1.out.trans HB2.out⟩
set_option maxHeartbeats 1000000 in
theorem implKeyText (s : ByteArray) (w : World) (hs : s.size ≤ 9223372036854775807) (hT : Tabs w) :
    Calls Tryd.prog 6 #[.string s] w fun e w' => e = .returned (.string (keyT s)) ∧ Below w.heap.size w w' := by
  cases hb : okText s with
  | false =>
    have HR := hid (show keyT s = ⟨#[]⟩ by unfold keyT; rw [hb]; rfl)
    have C := hid (implTextOk s w hT)
    rw [hb] at C
    clear hb
    go_enter Tryd.func6, Tryd.ntmps6
    go_wp2_with fail
    refine C.out.mono ?_
    rintro e w1 ⟨rfl, hb1⟩
    go_wp2
    go_ret
    exact ⟨by rw [HR.out] <;> rfl, hb1⟩
  | true =>
    have HR := hid (show keyT s = mkB (replL psK s.data.toList) by unfold keyT; rw [hb]; rfl)
    have HZ := hid (ok_size hb)
    have C := hid (implTextOk s w hT)
    rw [hb] at C
    clear hb
    go_enter Tryd.func6, Tryd.ntmps6
    go_wp2_with fail
    refine C.out.mono ?_
    rintro e w1 ⟨rfl, hb1⟩
    have HB1 := hid hb1
    go_wp2_with fail
    refine (implKeyTx s _ (by have := HZ.out; omega)).mono ?_
    rintro e w2 ⟨rfl, hb2⟩
    have HB2 := hid hb2
    clear hb1 hb2
    go_wp2
    go_ret
    exact ⟨by rw [HR.out] <;> rfl, ext_trans HB1.out HB2.out⟩
theorem info_u8K : (Tryd.prog.info? 5).map (fun i => (i.zero, i.size, i.bytes)) = some (some (.int .u8 0), 1, 1) := by kernel_rfl
theorem byteK (a : List UInt8) (b : UInt8) : byteVals (a ++ [b]) = byteVals a ++ [.int .u8 (b.toNat : Int)] := by simp [byteVals]
set_option maxHeartbeats 16000000 in
set_option maxRecDepth 100000 in
theorem specKeyText (s : ByteArray) (w : World) (hs : s.size ≤ 9223372036854775807) :
    Calls Tryd.prog 5 #[.string s] w fun e w' => e = .returned (.string (keyT s)) ∧ Below w.heap.size w w' := by
  obtain ⟨i0, hi, hz0, hz1, hz2⟩ := info_parts info_u8K
  cases hb : okText s with
  | false =>
    have HR := hid (show keyT s = ⟨#[]⟩ by unfold keyT; rw [hb]; rfl)
    have C := hid (specTextOk s w)
    rw [hb] at C
    clear hb hi hz0 hz1 hz2
    go_enter Tryd.func5, Tryd.ntmps5
    go_wp2_with fail
    refine C.out.mono ?_
    rintro e w1 ⟨rfl, hb1⟩
    go_wp2
    go_ret
    exact ⟨by rw [HR.out] <;> rfl, hb1⟩
  | true =>
    obtain ⟨l, hl⟩ : ∃ l, s.data.toList = l := ⟨_, rfl⟩
    have HR := hid (show keyT s = mkB (replL psK l) by unfold keyT; rw [hb, hl]; rfl)
    have hz := ok_size hb
    have C := hid (specTextOk s w)
    rw [hb] at C
    have hsl : s.size = l.length := by rw [Lib.size_eq, hl]
    have HSL := hid hsl
    have HG := hid (show ∀ (k : Nat) (h : k < s.size) (h2 : k < l.length), s[k]'h = l[k] by subst hl; intro k h h2; rfl)
    have HLE := hid (fun k : Nat => replL_len psK (l.take k))
    clear hb hl hsl
    go_enter Tryd.func5, Tryd.ntmps5
    go_wp2_with fail
    refine C.out.mono ?_
    rintro e w1 ⟨rfl, hb1⟩
    have HB1 := hid hb1
    clear hb1
    go_wp2
    go_loopw [3, 4] (fun out i wr => ∃ k : Nat, k ≤ s.size ∧ i = .int .i64 (k : Int) ∧ wr.ownsRow w.heap.size 5 1 out (replL psK (l.take k)).length (byteVals (replL psK (l.take k))) ∧ Below w.heap.size w wr) (fun _ i _ => s.size - (intOf i).toNat)
    case atStart => exact ⟨0, Nat.zero_le _, rfl, World.ownsRow_lit w1 #[] 0 HB1.out.size (by decide) rfl, ext_trans HB1.out (ext_alloc _ _)⟩
    case round =>
      obtain ⟨k, hk, rfl, hown, hbw⟩ := hrel
      by_cases hlt : k < s.size
      · have hkl : k < l.length := by rw [← HSL.out]; exact hlt
        have hstep := replL_succ psK hkl
        have hby := HG.out k hlt hkl
        have hle := HLE.out k
        rw [List.length_take] at hle
        have hle2 : (replL psK (l.take k)).length ≤ 2000 := by omega
        obtain ⟨c, hc⟩ : ∃ c, l[k] = c := ⟨_, rfl⟩
        rw [hc] at hstep hby
        rw [replB_psK] at hstep
        obtain ⟨A, hA⟩ : ∃ A, replL psK (l.take k) = A := ⟨_, rfl⟩
        rw [hA] at hstep hown hle2
        have hix : ((s[k]'hlt : UInt8).toNat : Int) = (c.toNat : Int) := by rw [hby]
        have hki : (k : Int) < (s.size : Int) := by omega
        have hk0 : (0 : Int) ≤ (k : Int) := by omega
        obtain ⟨va, vc, rfl⟩ := own_slice hown
        have HBW := hid hbw
        have HOW := hid hown
        clear hbw hown hle hA hc hkl
        by_cases h92 : c = 92
        · have q92 : ((c.toNat : Int) == 92) = true := by rw [h92]; rfl
          have HST := hid (show replL psK (l.take (k + 1)) = A ++ [92] ++ [c] by rw [hstep, if_pos (by simp [h92])]; simp)
          clear hstep hby h92
          go_wp2_with ((at_builtin; refine wpList_append_own _ rfl _ _ 24 rfl w.heap.size 5 i0 (.int .u8 0) 1 1 Tryd.underlying24 hi hz0 hz1 hz2 rfl (by decide) _ _ _ rfl (HOW.out.alloc _) ⟨wr.heap.size, 0, none⟩ 1 1 [.int .u8 92] rfl rfl ?c1 ?c2 ?c3 ?c4 ?c5 ?_))
          try (case c1 => exact cells_new wr #[.int .u8 92] _)
          case c2 => first | rfl | (intro u hu; simp at hu; subst hu; rfl)
          case c3 => (try simp only [List.length_append, List.length_cons, List.length_nil]); unfold maxLen; omega
          case c4 => (try simp only [List.length_append, List.length_cons, List.length_nil]); omega
          case c5 => first | exact Nat.le_trans HBW.out.size (by simp) | (have := HBW.out.size; (try simp); omega)
          intro v' w2 hown2 hgrow _
          have hlt' := (HOW.out.alloc (.cells #[.int .u8 92] 5)).lt
          have HB2 := hid ((HBW.out.trans ((ext_alloc _ _).mono HBW.out.size)).grown hgrow (HBW.out.trans ((ext_alloc _ _).mono HBW.out.size)).size (fun q hq => (hlt' q hq).1))
          have HO2 := hid (show w2.ownsRow w.heap.size 5 1 v' (A ++ [92]).length (byteVals (A ++ [92])) by rw [List.length_append, byteK]; exact hown2)
          clear hown2 hgrow hlt'
          obtain ⟨va2, vc2, rfl⟩ := own_slice HO2.out
          have hle3 : (A ++ [92]).length ≤ 2001 := by rw [List.length_append]; show _ + 1 ≤ _; omega
          obtain ⟨A2, hA2⟩ : ∃ x, A ++ [92] = x := ⟨_, rfl⟩
          rw [hA2] at HO2 HST hle3 ⊢
          have HA2 := hid hA2
          clear hA2
          go_wp2_with ((at_builtin; refine wpList_append_own _ rfl _ _ 24 rfl w.heap.size 5 i0 (.int .u8 0) 1 1 Tryd.underlying24 hi hz0 hz1 hz2 rfl (by decide) _ _ _ rfl (HO2.out.alloc _) ⟨w2.heap.size, 0, none⟩ 1 1 [.int .u8 (c.toNat : Int)] rfl rfl ?c1 ?c2 ?c3 ?c4 ?c5 ?_))
          try (case c1 => exact cells_new w2 #[.int .u8 (c.toNat : Int)] _)
          case c2 => first | rfl | (intro u hu; simp at hu; subst hu; rfl)
          case c3 => (try simp only [List.length_append, List.length_cons, List.length_nil]); unfold maxLen; omega
          case c4 => (try simp only [List.length_append, List.length_cons, List.length_nil]); omega
          case c5 => first | exact Nat.le_trans HB2.out.size (by simp) | (have := HB2.out.size; (try simp); omega)
          intro v' w3 hown2 hgrow _
          have hlt' := (HO2.out.alloc (.cells #[.int .u8 (c.toNat : Int)] 5)).lt
          have HB3 := hid ((HB2.out.trans ((ext_alloc _ _).mono HB2.out.size)).grown hgrow (HB2.out.trans ((ext_alloc _ _).mono HB2.out.size)).size (fun q hq => (hlt' q hq).1))
          have HO3 := hid (show w3.ownsRow w.heap.size 5 1 v' (A2 ++ [c]).length (byteVals (A2 ++ [c])) by rw [List.length_append, byteK]; exact hown2)
          clear hown2 hgrow hlt'
          clear hi hz0 hz1 hz2
          go_wp2
          go_roundw
          case rel => exact ⟨k + 1, by omega, by go_num, by rw [HST.out]; exact HO3.out, HB3.out⟩
          case measure => simp [intOf]; omega
        by_cases h46 : c = 46
        · have q46 : ((c.toNat : Int) == 46) = true := by rw [h46]; rfl
          have q92 : ((c.toNat : Int) == 92) = false := by rw [h46]; rfl
          have HST := hid (show replL psK (l.take (k + 1)) = A ++ [92] ++ [c] by rw [hstep, if_pos (by simp [h46])]; simp)
          clear hstep hby h92 h46
          go_wp2_with ((at_builtin; refine wpList_append_own _ rfl _ _ 24 rfl w.heap.size 5 i0 (.int .u8 0) 1 1 Tryd.underlying24 hi hz0 hz1 hz2 rfl (by decide) _ _ _ rfl (HOW.out.alloc _) ⟨wr.heap.size, 0, none⟩ 1 1 [.int .u8 92] rfl rfl ?c1 ?c2 ?c3 ?c4 ?c5 ?_))
          try (case c1 => exact cells_new wr #[.int .u8 92] _)
          case c2 => first | rfl | (intro u hu; simp at hu; subst hu; rfl)
          case c3 => (try simp only [List.length_append, List.length_cons, List.length_nil]); unfold maxLen; omega
          case c4 => (try simp only [List.length_append, List.length_cons, List.length_nil]); omega
          case c5 => first | exact Nat.le_trans HBW.out.size (by simp) | (have := HBW.out.size; (try simp); omega)
          intro v' w2 hown2 hgrow _
          have hlt' := (HOW.out.alloc (.cells #[.int .u8 92] 5)).lt
          have HB2 := hid ((HBW.out.trans ((ext_alloc _ _).mono HBW.out.size)).grown hgrow (HBW.out.trans ((ext_alloc _ _).mono HBW.out.size)).size (fun q hq => (hlt' q hq).1))
          have HO2 := hid (show w2.ownsRow w.heap.size 5 1 v' (A ++ [92]).length (byteVals (A ++ [92])) by rw [List.length_append, byteK]; exact hown2)
          clear hown2 hgrow hlt'
          obtain ⟨va2, vc2, rfl⟩ := own_slice HO2.out
          have hle3 : (A ++ [92]).length ≤ 2001 := by rw [List.length_append]; show _ + 1 ≤ _; omega
          obtain ⟨A2, hA2⟩ : ∃ x, A ++ [92] = x := ⟨_, rfl⟩
          rw [hA2] at HO2 HST hle3 ⊢
          have HA2 := hid hA2
          clear hA2
          go_wp2_with ((at_builtin; refine wpList_append_own _ rfl _ _ 24 rfl w.heap.size 5 i0 (.int .u8 0) 1 1 Tryd.underlying24 hi hz0 hz1 hz2 rfl (by decide) _ _ _ rfl (HO2.out.alloc _) ⟨w2.heap.size, 0, none⟩ 1 1 [.int .u8 (c.toNat : Int)] rfl rfl ?c1 ?c2 ?c3 ?c4 ?c5 ?_))
          try (case c1 => exact cells_new w2 #[.int .u8 (c.toNat : Int)] _)
          case c2 => first | rfl | (intro u hu; simp at hu; subst hu; rfl)
          case c3 => (try simp only [List.length_append, List.length_cons, List.length_nil]); unfold maxLen; omega
          case c4 => (try simp only [List.length_append, List.length_cons, List.length_nil]); omega
          case c5 => first | exact Nat.le_trans HB2.out.size (by simp) | (have := HB2.out.size; (try simp); omega)
          intro v' w3 hown2 hgrow _
          have hlt' := (HO2.out.alloc (.cells #[.int .u8 (c.toNat : Int)] 5)).lt
          have HB3 := hid ((HB2.out.trans ((ext_alloc _ _).mono HB2.out.size)).grown hgrow (HB2.out.trans ((ext_alloc _ _).mono HB2.out.size)).size (fun q hq => (hlt' q hq).1))
          have HO3 := hid (show w3.ownsRow w.heap.size 5 1 v' (A2 ++ [c]).length (byteVals (A2 ++ [c])) by rw [List.length_append, byteK]; exact hown2)
          clear hown2 hgrow hlt'
          clear hi hz0 hz1 hz2
          go_wp2
          go_roundw
          case rel => exact ⟨k + 1, by omega, by go_num, by rw [HST.out]; exact HO3.out, HB3.out⟩
          case measure => simp [intOf]; omega
        by_cases h91 : c = 91
        · have q91 : ((c.toNat : Int) == 91) = true := by rw [h91]; rfl
          have q92 : ((c.toNat : Int) == 92) = false := by rw [h91]; rfl
          have q46 : ((c.toNat : Int) == 46) = false := by rw [h91]; rfl
          have HST := hid (show replL psK (l.take (k + 1)) = A ++ [92] ++ [c] by rw [hstep, if_pos (by simp [h91])]; simp)
          clear hstep hby h92 h46 h91
          go_wp2_with ((at_builtin; refine wpList_append_own _ rfl _ _ 24 rfl w.heap.size 5 i0 (.int .u8 0) 1 1 Tryd.underlying24 hi hz0 hz1 hz2 rfl (by decide) _ _ _ rfl (HOW.out.alloc _) ⟨wr.heap.size, 0, none⟩ 1 1 [.int .u8 92] rfl rfl ?c1 ?c2 ?c3 ?c4 ?c5 ?_))
          try (case c1 => exact cells_new wr #[.int .u8 92] _)
          case c2 => first | rfl | (intro u hu; simp at hu; subst hu; rfl)
          case c3 => (try simp only [List.length_append, List.length_cons, List.length_nil]); unfold maxLen; omega
          case c4 => (try simp only [List.length_append, List.length_cons, List.length_nil]); omega
          case c5 => first | exact Nat.le_trans HBW.out.size (by simp) | (have := HBW.out.size; (try simp); omega)
          intro v' w2 hown2 hgrow _
          have hlt' := (HOW.out.alloc (.cells #[.int .u8 92] 5)).lt
          have HB2 := hid ((HBW.out.trans ((ext_alloc _ _).mono HBW.out.size)).grown hgrow (HBW.out.trans ((ext_alloc _ _).mono HBW.out.size)).size (fun q hq => (hlt' q hq).1))
          have HO2 := hid (show w2.ownsRow w.heap.size 5 1 v' (A ++ [92]).length (byteVals (A ++ [92])) by rw [List.length_append, byteK]; exact hown2)
          clear hown2 hgrow hlt'
          obtain ⟨va2, vc2, rfl⟩ := own_slice HO2.out
          have hle3 : (A ++ [92]).length ≤ 2001 := by rw [List.length_append]; show _ + 1 ≤ _; omega
          obtain ⟨A2, hA2⟩ : ∃ x, A ++ [92] = x := ⟨_, rfl⟩
          rw [hA2] at HO2 HST hle3 ⊢
          have HA2 := hid hA2
          clear hA2
          go_wp2_with ((at_builtin; refine wpList_append_own _ rfl _ _ 24 rfl w.heap.size 5 i0 (.int .u8 0) 1 1 Tryd.underlying24 hi hz0 hz1 hz2 rfl (by decide) _ _ _ rfl (HO2.out.alloc _) ⟨w2.heap.size, 0, none⟩ 1 1 [.int .u8 (c.toNat : Int)] rfl rfl ?c1 ?c2 ?c3 ?c4 ?c5 ?_))
          try (case c1 => exact cells_new w2 #[.int .u8 (c.toNat : Int)] _)
          case c2 => first | rfl | (intro u hu; simp at hu; subst hu; rfl)
          case c3 => (try simp only [List.length_append, List.length_cons, List.length_nil]); unfold maxLen; omega
          case c4 => (try simp only [List.length_append, List.length_cons, List.length_nil]); omega
          case c5 => first | exact Nat.le_trans HB2.out.size (by simp) | (have := HB2.out.size; (try simp); omega)
          intro v' w3 hown2 hgrow _
          have hlt' := (HO2.out.alloc (.cells #[.int .u8 (c.toNat : Int)] 5)).lt
          have HB3 := hid ((HB2.out.trans ((ext_alloc _ _).mono HB2.out.size)).grown hgrow (HB2.out.trans ((ext_alloc _ _).mono HB2.out.size)).size (fun q hq => (hlt' q hq).1))
          have HO3 := hid (show w3.ownsRow w.heap.size 5 1 v' (A2 ++ [c]).length (byteVals (A2 ++ [c])) by rw [List.length_append, byteK]; exact hown2)
          clear hown2 hgrow hlt'
          clear hi hz0 hz1 hz2
          go_wp2
          go_roundw
          case rel => exact ⟨k + 1, by omega, by go_num, by rw [HST.out]; exact HO3.out, HB3.out⟩
          case measure => simp [intOf]; omega
        have q92 : ((c.toNat : Int) == 92) = false := by rw [beq_eq_false_iff_ne]; intro h; exact h92 (UInt8.toNat_inj.1 (by show c.toNat = 92; omega))
        have q46 : ((c.toNat : Int) == 46) = false := by rw [beq_eq_false_iff_ne]; intro h; exact h46 (UInt8.toNat_inj.1 (by show c.toNat = 46; omega))
        have q91 : ((c.toNat : Int) == 91) = false := by rw [beq_eq_false_iff_ne]; intro h; exact h91 (UInt8.toNat_inj.1 (by show c.toNat = 91; omega))
        have HST := hid (show replL psK (l.take (k + 1)) = A ++ [c] by rw [hstep, if_neg (by rintro (h | h | h); exact h92 h; exact h46 h; exact h91 h)])
        clear hstep hby h92 h46 h91
        go_wp2_with ((at_builtin; refine wpList_append_own _ rfl _ _ 24 rfl w.heap.size 5 i0 (.int .u8 0) 1 1 Tryd.underlying24 hi hz0 hz1 hz2 rfl (by decide) _ _ _ rfl (HOW.out.alloc _) ⟨wr.heap.size, 0, none⟩ 1 1 [.int .u8 (c.toNat : Int)] rfl rfl ?c1 ?c2 ?c3 ?c4 ?c5 ?_))
        try (case c1 => exact cells_new wr #[.int .u8 (c.toNat : Int)] _)
        case c2 => first | rfl | (intro u hu; simp at hu; subst hu; rfl)
        case c3 => (try simp only [List.length_append, List.length_cons, List.length_nil]); unfold maxLen; omega
        case c4 => (try simp only [List.length_append, List.length_cons, List.length_nil]); omega
        case c5 => first | exact Nat.le_trans HBW.out.size (by simp) | (have := HBW.out.size; (try simp); omega)
        intro v' w2 hown2 hgrow _
        have hlt' := (HOW.out.alloc (.cells #[.int .u8 (c.toNat : Int)] 5)).lt
        have HB2 := hid ((HBW.out.trans ((ext_alloc _ _).mono HBW.out.size)).grown hgrow (HBW.out.trans ((ext_alloc _ _).mono HBW.out.size)).size (fun q hq => (hlt' q hq).1))
        have HO2 := hid (show w2.ownsRow w.heap.size 5 1 v' (A ++ [c]).length (byteVals (A ++ [c])) by rw [List.length_append, byteK]; exact hown2)
        clear hown2 hgrow hlt'
        clear hi hz0 hz1 hz2
        go_wp2
        go_roundw
        case rel => exact ⟨k + 1, by omega, by go_num, by rw [HST.out]; exact HO2.out, HB2.out⟩
        case measure => simp [intOf]; omega
      · obtain rfl : k = s.size := by omega
        have e1 : l.take s.size = l := by rw [HSL.out, List.take_length]
        rw [e1] at hown
        have hki : ¬ (s.size : Int) < (s.size : Int) := by omega
        have hcv := own_string (P := Tryd.prog) (src := 24) (dst := 9) hown Tryd.underlying24 Tryd.underlying5 Tryd.underlying9
        obtain ⟨oa, oc, rfl⟩ := own_slice hown
        have HBW := hid hbw
        clear hlt e1 hown hbw hi hz0 hz1 hz2
        go_wp2
        go_ret
        exact ⟨by rw [HR.out] <;> rfl, HBW.out⟩
end Go.Proofs.YtcebgmdcbdggeaaDoor
