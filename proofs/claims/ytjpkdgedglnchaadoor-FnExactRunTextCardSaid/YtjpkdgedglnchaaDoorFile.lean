/-
  What is proved here: spec.FileOk, impl.isFile, spec.l24Quote. The condition 'Tabs' says that the library's tables for UTF-8 lie in the world.
-/
import Derived.Test.YtjpkdgedglnchaaDoorQuote
namespace Go.Proofs.YtjpkdgedglnchaaDoor
open Go.RowKit
set_option linter.unusedVariables false
set_option linter.unusedSimpArgs false

def fileOk (s : ByteArray) : Bool := decide (s.size ≤ 4000) && (runesAll s.data.toList).isSome
theorem file_size {s : ByteArray} (h : fileOk s = true) : s.size ≤ 4000 := by
  unfold fileOk at h
  simp only [Bool.and_eq_true, decide_eq_true_eq] at h
  exact h.1
def fileQT (s : ByteArray) : ByteArray := if fileOk s then mkB (quoteL s.data.toList) else ⟨#[]⟩
theorem fileQT_size (s : ByteArray) : (fileQT s).size ≤ 8002 := by
  unfold fileQT
  split
  · rename_i h
    have h1 := quoteH_len s.data.toList s.data.toList.length
    have h2 := file_size h
    rw [Lib.size_eq] at h2
    rw [mkB_size]
    unfold quoteL
    rw [List.length_append]
    simp only [List.length_cons, List.length_nil]
    omega
  · exact Nat.zero_le _
set_option maxHeartbeats 2000000 in
theorem specFileOk (s : ByteArray) (w : World) :
    Calls Tryd.prog 24 #[.string s] w fun e w' => e = .returned (.bool (fileOk s)) ∧ Below w.heap.size w w' := by
  obtain ⟨l, hl⟩ : ∃ l, s.data.toList = l := ⟨_, rfl⟩
  have hsl : s.size = l.length := by rw [Lib.size_eq, hl]
  by_cases hbig : (4000 : Int) < s.size
  · have HF := hid (show fileOk s = false by unfold fileOk; rw [decide_eq_false (by omega)]; rfl)
    clear hl hsl
    go_enter Tryd.func24, Tryd.ntmps24
    go_wp2
    go_ret
    rw [HF.out]
    exact ⟨rfl, Below.refl _ _⟩
  · have HF := hid (show fileOk s = (runesAll l).isSome by unfold fileOk; rw [decide_eq_true (by omega), hl]; rfl)
    have HL := hid hl
    have HSL := hid hsl
    clear hl hsl
    have hlen : l.length ≤ 4000 := by have := HSL.out; omega
    have hsz : s.size ≤ 4000 := by omega
    go_enter Tryd.func24, Tryd.ntmps24
    go_wp2
    go_loopw [3] (fun at' wr => ∃ k : Nat, k ≤ s.size ∧ at' = .int .i64 k ∧ Hid ((runesAll l).isSome = (runesAll (l.drop k)).isSome) ∧ Below w.heap.size w wr) (fun at' _ => s.size - (intOf at').toNat)
    case atStart => exact ⟨0, Nat.zero_le _, rfl, by show (runesAll l).isSome = _; simp, Below.refl _ _⟩
    case round =>
      obtain ⟨k, hk, rfl, HR, hb⟩ := hrel
      by_cases hlt : k < s.size
      · obtain ⟨c, hc⟩ : ∃ c, (next (l.drop k)).1 = c := ⟨_, rfl⟩
        obtain ⟨n, hn⟩ : ∃ n, (next (l.drop k)).2 = n := ⟨_, rfl⟩
        have hne : l.drop k ≠ [] := by
          intro h
          have := congrArg List.length h
          rw [List.length_drop] at this
          have := HSL.out
          simp at *
          omega
        have hnl : n ≤ s.size - k := by
          have := next_le (l.drop k)
          rw [hn, List.length_drop] at this
          have := HSL.out
          omega
        have HC := hid hc
        have HN := hid hn
        have HNE := hid hne
        clear hc hn hne
        go_wp2_with fail
        refine (specNext s k _ hlt (by omega)).mono ?_
        rintro e w1 ⟨rfl, hb1⟩
        rw [HL.out, HC.out, HN.out]
        have hB1 := ext_trans hb hb1
        by_cases hz : n = 0
        · subst hz
          have e1 : (runesAll l).isSome = false := by rw [HR.out, runesAll_bad HNE.out HN.out]; rfl
          have E1 := hid e1
          clear e1
          go_wp2
          go_ret
          rw [HF.out, E1.out]
          exact ⟨rfl, hB1⟩
        · have hz' : ((n : Int) == 0) = false := by rw [beq_eq_false_iff_ne]; omega
          have HR' := hid (show (runesAll l).isSome = (runesAll (l.drop (k + n))).isSome by
            rw [HR.out, runesAll_step HNE.out (by rw [HN.out]; exact hz), HC.out, HN.out, List.drop_drop]
            cases runesAll (List.drop (k + n) l) <;> simp)
          clear HR
          go_wp2
          go_roundw
          case rel => exact ⟨k + n, by omega, by go_num, HR'.out, hB1⟩
          case measure => simp [intOf]; omega
      · have : k = s.size := by omega
        subst this
        have hd : l.drop s.size = [] := List.drop_eq_nil_of_le (by rw [HSL.out]; exact Nat.le_refl _)
        have e1 : (runesAll l).isSome = true := by rw [HR.out, hd, runesAll_nil]; rfl
        have E1 := hid e1
        clear e1 hd
        go_wp2
        go_ret
        rw [HF.out, E1.out]
        exact ⟨rfl, hb⟩
set_option maxHeartbeats 2000000 in
theorem implIsFile (s : ByteArray) (w : World) (hT : Tabs w) :
    Calls Tryd.prog 43 #[.string s] w fun e w' => e = .returned (.bool (fileOk s)) ∧ Below w.heap.size w w' := by
  obtain ⟨l, hl⟩ : ∃ l, s.data.toList = l := ⟨_, rfl⟩
  have hsl : s.size = l.length := by rw [Lib.size_eq, hl]
  by_cases hbig : (4000 : Int) < s.size
  · have HF := hid (show fileOk s = false by unfold fileOk; rw [decide_eq_false (by omega)]; rfl)
    clear hl hsl
    go_enter Tryd.func43, Tryd.ntmps43
    go_wp2
    go_ret
    rw [HF.out]
    exact ⟨rfl, Below.refl _ _⟩
  have HF := hid (show fileOk s = (runesAll l).isSome by unfold fileOk; rw [decide_eq_true (by omega), hl]; rfl)
  have HL := hid hl
  clear hl
  have hsz : s.size ≤ 4000 := by omega
  clear hsl
  have HV := hid (valid_runes l)
  have CV := Any.utf8_ValidString Tryd.laysValid s w (by omega) hT
  rw [HL.out] at CV
  by_cases hv : Lib.validD l = true
  · have CI : ∀ w, Calls Tryd.prog 86 #[.string s, .int .u8 0] w fun e w' => e = .returned (.int .i64 (Lib.indexByte l 0)) ∧ w' = w := fun w => by
      have := Tryd.strings_IndexByte s 0 w
      rw [HL.out] at this
      exact this
    rw [hv] at CV
    by_cases h0 : (0 : UInt8) ∈ l
    · have e1 : (runesAll l).isSome = false := by
        cases hr : runesAll l with
        | none => rfl
        | some x => exact absurd h0 ((HV.out.2 (by rw [hr]; rfl)).2)
      have hix0 := index_ge_of_mem h0
      have hix : ¬ Lib.indexByte l 0 < 0 := by omega
      clear hix0
      have E1 := hid e1
      clear e1 h0 hv
      go_enter Tryd.func43, Tryd.ntmps43
      go_wp2_with (first | (go_at_call 85; refine CV.mono ?_; rintro e w1 ⟨rfl, hb1⟩) | (go_at_call 86; refine (CI _).mono ?_; rintro e w1 ⟨rfl, rfl⟩))
      go_ret
      rw [HF.out, E1.out]
      first | exact ⟨rfl, hb1⟩ | exact ⟨end_bool (decide_eq_false (by omega)), hb1⟩
    · have hix := index_of_not_mem h0
      have e1 : (runesAll l).isSome = true := HV.out.1 ⟨hv, h0⟩
      have E1 := hid e1
      clear hv h0 e1
      go_enter Tryd.func43, Tryd.ntmps43
      go_wp2_with (first | (go_at_call 85; refine CV.mono ?_; rintro e w1 ⟨rfl, hb1⟩) | (go_at_call 86; refine (CI _).mono ?_; rintro e w1 ⟨rfl, rfl⟩))
      go_ret
      rw [HF.out, E1.out]
      first | exact ⟨rfl, hb1⟩ | exact ⟨end_bool (decide_eq_true (by omega)), hb1⟩
  · have hv' : Lib.validD l = false := by cases h : Lib.validD l with | false => rfl | true => exact absurd h hv
    rw [hv'] at CV
    have e1 : (runesAll l).isSome = false := by
      cases hr : runesAll l with
      | none => rfl
      | some x => exact absurd (HV.out.2 (by rw [hr]; rfl)).1 hv
    have E1 := hid e1
    clear e1 hv hv'
    go_enter Tryd.func43, Tryd.ntmps43
    go_wp2_with (go_at_call 85; refine CV.mono ?_; rintro e w1 ⟨rfl, hb1⟩)
    go_ret
    rw [HF.out, E1.out]
    exact ⟨rfl, hb1⟩
theorem info_u8F : (Tryd.prog.info? 5).map (fun i => (i.zero, i.size, i.bytes)) = some (some (.int .u8 0), 1, 1) := by kernel_rfl
set_option maxHeartbeats 8000000 in
set_option maxRecDepth 100000 in
theorem specFileQuote (s : ByteArray) (w : World) :
    Calls Tryd.prog 40 #[.string s] w fun e w' => e = .returned (.string (fileQT s)) ∧ Below w.heap.size w w' := by
  obtain ⟨i0, hi, hz0, hz1, hz2⟩ := info_parts info_u8F
  obtain ⟨ok, hok⟩ : ∃ ok, fileOk s = ok := ⟨_, rfl⟩
  cases ok with
  | false =>
    have HR := hid (show fileQT s = ⟨#[]⟩ by unfold fileQT; rw [hok]; rfl)
    have HO := hid hok
    clear hok hi hz0 hz1 hz2
    go_enter Tryd.func40, Tryd.ntmps40
    go_wp2_with fail
    refine (specFileOk s _).mono ?_
    rintro e w1 ⟨rfl, hb1⟩
    rw [HO.out]
    go_wp2
    go_ret
    rw [HR.out]
    exact ⟨rfl, hb1⟩
  | true =>
    have hsz := file_size hok
    have hqt : fileQT s = mkB (quoteL s.data.toList) := by unfold fileQT; rw [hok]; rfl
    obtain ⟨l, hl⟩ : ∃ l, s.data.toList = l := ⟨_, rfl⟩
    have hsl : s.size = l.length := by rw [Lib.size_eq, hl]
    rw [hl] at hqt
    have HR := hid hqt
    have HO := hid hok
    have HL := hid hl
    have HSL := hid hsl
    clear hok hqt hl hsl
    go_enter Tryd.func40, Tryd.ntmps40
    go_wp2_with fail
    refine (specFileOk s _).mono ?_
    rintro e w1 ⟨rfl, hb1⟩
    rw [HO.out]
    go_wp2
    go_loopw [3, 4] (fun out i wr => ∃ k : Nat, k ≤ s.size ∧ i = .int .i64 (k : Int) ∧ wr.ownsRow w.heap.size 5 1 out (quoteH l k).length (byteVals (quoteH l k)) ∧ Below w.heap.size w wr) (fun _ i _ => s.size - (intOf i).toNat)
    case atStart => exact ⟨0, Nat.zero_le _, rfl, World.ownsRow_lit w1 #[.int .u8 34] 1 hb1.size (by decide) rfl, ext_trans hb1 (ext_alloc _ _)⟩
    case round =>
      obtain ⟨k, hk, rfl, hown, hb⟩ := hrel
      have hlen := quoteH_len l k
      by_cases hlt : k < s.size
      · obtain ⟨x, hx⟩ : ∃ x, s[k] = x := ⟨_, rfl⟩
        have hkl : k < l.length := by rw [← HSL.out]; exact hlt
        have hlx : l[k] = x := by
          rw [← hx]
          have := get_list s k hlt
          rw [← this]
          congr 1
          exact HL.out.symm
        have hstep := quoteH_succ hkl
        rw [hlx] at hstep
        have hix : (s[k] : UInt8).toNat = x.toNat := by rw [hx]
        have hi1 : (0 : Int) ≤ (k : Int) := by omega
        have hi2 : (k : Int) < (s.size : Int) := by omega
        clear hlx hx
        by_cases h34 : x.toNat = 34
        · have HST := hid (show quoteH l (k + 1) = quoteH l k ++ [92, 34] by rw [hstep]; unfold quoteB; simp [h34])
          clear hstep
          go_wp2_with ((at_builtin; refine wpList_append_own _ rfl _ _ 56 rfl w.heap.size 5 i0 (.int .u8 0) 1 1 Tryd.underlying56 hi hz0 hz1 hz2 rfl (by decide) _ _ _ rfl (hown.alloc _) ⟨wr.heap.size, 0, none⟩ 2 2 [.int .u8 92, .int .u8 34] rfl rfl ?c1 ?c2 ?c3 ?c4 ?c5 ?_))
          case c1 => exact cells_new wr #[.int .u8 92, .int .u8 34] _
          case c2 => intro u hu; simp at hu; first | (subst hu; rfl) | (rcases hu with rfl | rfl <;> rfl)
          case c3 => unfold maxLen; omega
          case c4 => omega
          case c5 => simp; exact Nat.le_trans hb.size (by omega)
          intro v' w2 hown2 hgrow _
          have hlt' := (hown.alloc (.cells #[.int .u8 92, .int .u8 34] 5)).lt
          have hB2 : Below w.heap.size w w2 := (ext_trans hb (ext_alloc _ _)).grown hgrow (ext_trans hb (ext_alloc _ _)).size (fun q hq => (hlt' q hq).1)
          clear hi hz0 hz1 hz2 hgrow hown hlt'
          go_wp2
          go_roundw
          case rel => exact ⟨k + 1, by omega, by go_num, by rw [HST.out, byteVals_append, List.length_append]; exact hown2, hB2⟩
          case measure => simp [intOf]; omega
        by_cases h92 : x.toNat = 92
        · have HST := hid (show quoteH l (k + 1) = quoteH l k ++ [92, 92] by rw [hstep]; unfold quoteB; simp [h92])
          clear hstep
          go_wp2_with ((at_builtin; refine wpList_append_own _ rfl _ _ 56 rfl w.heap.size 5 i0 (.int .u8 0) 1 1 Tryd.underlying56 hi hz0 hz1 hz2 rfl (by decide) _ _ _ rfl (hown.alloc _) ⟨wr.heap.size, 0, none⟩ 2 2 [.int .u8 92, .int .u8 92] rfl rfl ?c1 ?c2 ?c3 ?c4 ?c5 ?_))
          case c1 => exact cells_new wr #[.int .u8 92, .int .u8 92] _
          case c2 => intro u hu; simp at hu; first | (subst hu; rfl) | (rcases hu with rfl | rfl <;> rfl)
          case c3 => unfold maxLen; omega
          case c4 => omega
          case c5 => simp; exact Nat.le_trans hb.size (by omega)
          intro v' w2 hown2 hgrow _
          have hlt' := (hown.alloc (.cells #[.int .u8 92, .int .u8 92] 5)).lt
          have hB2 : Below w.heap.size w w2 := (ext_trans hb (ext_alloc _ _)).grown hgrow (ext_trans hb (ext_alloc _ _)).size (fun q hq => (hlt' q hq).1)
          clear hi hz0 hz1 hz2 hgrow hown hlt'
          go_wp2
          go_roundw
          case rel => exact ⟨k + 1, by omega, by go_num, by rw [HST.out, byteVals_append, List.length_append]; exact hown2, hB2⟩
          case measure => simp [intOf]; omega
        by_cases h10 : x.toNat = 10
        · have HST := hid (show quoteH l (k + 1) = quoteH l k ++ [92, 110] by rw [hstep]; unfold quoteB; simp [h10])
          clear hstep
          go_wp2_with ((at_builtin; refine wpList_append_own _ rfl _ _ 56 rfl w.heap.size 5 i0 (.int .u8 0) 1 1 Tryd.underlying56 hi hz0 hz1 hz2 rfl (by decide) _ _ _ rfl (hown.alloc _) ⟨wr.heap.size, 0, none⟩ 2 2 [.int .u8 92, .int .u8 110] rfl rfl ?c1 ?c2 ?c3 ?c4 ?c5 ?_))
          case c1 => exact cells_new wr #[.int .u8 92, .int .u8 110] _
          case c2 => intro u hu; simp at hu; first | (subst hu; rfl) | (rcases hu with rfl | rfl <;> rfl)
          case c3 => unfold maxLen; omega
          case c4 => omega
          case c5 => simp; exact Nat.le_trans hb.size (by omega)
          intro v' w2 hown2 hgrow _
          have hlt' := (hown.alloc (.cells #[.int .u8 92, .int .u8 110] 5)).lt
          have hB2 : Below w.heap.size w w2 := (ext_trans hb (ext_alloc _ _)).grown hgrow (ext_trans hb (ext_alloc _ _)).size (fun q hq => (hlt' q hq).1)
          clear hi hz0 hz1 hz2 hgrow hown hlt'
          go_wp2
          go_roundw
          case rel => exact ⟨k + 1, by omega, by go_num, by rw [HST.out, byteVals_append, List.length_append]; exact hown2, hB2⟩
          case measure => simp [intOf]; omega
        by_cases h9 : x.toNat = 9
        · have HST := hid (show quoteH l (k + 1) = quoteH l k ++ [92, 116] by rw [hstep]; unfold quoteB; simp [h9])
          clear hstep
          go_wp2_with ((at_builtin; refine wpList_append_own _ rfl _ _ 56 rfl w.heap.size 5 i0 (.int .u8 0) 1 1 Tryd.underlying56 hi hz0 hz1 hz2 rfl (by decide) _ _ _ rfl (hown.alloc _) ⟨wr.heap.size, 0, none⟩ 2 2 [.int .u8 92, .int .u8 116] rfl rfl ?c1 ?c2 ?c3 ?c4 ?c5 ?_))
          case c1 => exact cells_new wr #[.int .u8 92, .int .u8 116] _
          case c2 => intro u hu; simp at hu; first | (subst hu; rfl) | (rcases hu with rfl | rfl <;> rfl)
          case c3 => unfold maxLen; omega
          case c4 => omega
          case c5 => simp; exact Nat.le_trans hb.size (by omega)
          intro v' w2 hown2 hgrow _
          have hlt' := (hown.alloc (.cells #[.int .u8 92, .int .u8 116] 5)).lt
          have hB2 : Below w.heap.size w w2 := (ext_trans hb (ext_alloc _ _)).grown hgrow (ext_trans hb (ext_alloc _ _)).size (fun q hq => (hlt' q hq).1)
          clear hi hz0 hz1 hz2 hgrow hown hlt'
          go_wp2
          go_roundw
          case rel => exact ⟨k + 1, by omega, by go_num, by rw [HST.out, byteVals_append, List.length_append]; exact hown2, hB2⟩
          case measure => simp [intOf]; omega
        by_cases h13 : x.toNat = 13
        · have HST := hid (show quoteH l (k + 1) = quoteH l k ++ [92, 114] by rw [hstep]; unfold quoteB; simp [h13])
          clear hstep
          go_wp2_with ((at_builtin; refine wpList_append_own _ rfl _ _ 56 rfl w.heap.size 5 i0 (.int .u8 0) 1 1 Tryd.underlying56 hi hz0 hz1 hz2 rfl (by decide) _ _ _ rfl (hown.alloc _) ⟨wr.heap.size, 0, none⟩ 2 2 [.int .u8 92, .int .u8 114] rfl rfl ?c1 ?c2 ?c3 ?c4 ?c5 ?_))
          case c1 => exact cells_new wr #[.int .u8 92, .int .u8 114] _
          case c2 => intro u hu; simp at hu; first | (subst hu; rfl) | (rcases hu with rfl | rfl <;> rfl)
          case c3 => unfold maxLen; omega
          case c4 => omega
          case c5 => simp; exact Nat.le_trans hb.size (by omega)
          intro v' w2 hown2 hgrow _
          have hlt' := (hown.alloc (.cells #[.int .u8 92, .int .u8 114] 5)).lt
          have hB2 : Below w.heap.size w w2 := (ext_trans hb (ext_alloc _ _)).grown hgrow (ext_trans hb (ext_alloc _ _)).size (fun q hq => (hlt' q hq).1)
          clear hi hz0 hz1 hz2 hgrow hown hlt'
          go_wp2
          go_roundw
          case rel => exact ⟨k + 1, by omega, by go_num, by rw [HST.out, byteVals_append, List.length_append]; exact hown2, hB2⟩
          case measure => simp [intOf]; omega
        have HST := hid (show quoteH l (k + 1) = quoteH l k ++ [x] by rw [hstep]; unfold quoteB; simp [h34, h92, h10, h9, h13])
        clear hstep
        have g34 : ((x.toNat : Int) == 34) = false := by rw [beq_eq_false_iff_ne]; omega
        have g92 : ((x.toNat : Int) == 92) = false := by rw [beq_eq_false_iff_ne]; omega
        have g10 : ((x.toNat : Int) == 10) = false := by rw [beq_eq_false_iff_ne]; omega
        have g9 : ((x.toNat : Int) == 9) = false := by rw [beq_eq_false_iff_ne]; omega
        have g13 : ((x.toNat : Int) == 13) = false := by rw [beq_eq_false_iff_ne]; omega
        clear h34 h92 h10 h9 h13
        go_wp2_with ((at_builtin; refine wpList_append_own _ rfl _ _ 56 rfl w.heap.size 5 i0 (.int .u8 0) 1 1 Tryd.underlying56 hi hz0 hz1 hz2 rfl (by decide) _ _ _ rfl (hown.alloc _) ⟨wr.heap.size, 0, none⟩ 1 1 [.int .u8 (x.toNat : Int)] rfl rfl ?c1 ?c2 ?c3 ?c4 ?c5 ?_))
        case c1 => exact cells_new wr #[.int .u8 (x.toNat : Int)] _
        case c2 => intro u hu; simp at hu; first | (subst hu; rfl) | (rcases hu with rfl | rfl <;> rfl)
        case c3 => unfold maxLen; omega
        case c4 => omega
        case c5 => simp; exact Nat.le_trans hb.size (by omega)
        intro v' w2 hown2 hgrow _
        have hlt' := (hown.alloc (.cells #[.int .u8 (x.toNat : Int)] 5)).lt
        have hB2 : Below w.heap.size w w2 := (ext_trans hb (ext_alloc _ _)).grown hgrow (ext_trans hb (ext_alloc _ _)).size (fun q hq => (hlt' q hq).1)
        clear hi hz0 hz1 hz2 hgrow hown hlt'
        go_wp2
        go_roundw
        case rel => exact ⟨k + 1, by omega, by go_num, by rw [HST.out, byteVals_append, List.length_append]; exact hown2, hB2⟩
        case measure => simp [intOf]; omega
      · have hkk : k = s.size := by omega
        subst hkk
        have HQ := hid (show quoteL l = quoteH l s.size ++ [34] by unfold quoteL; rw [← HSL.out])
        clear hlt
        go_wp2_with ((at_builtin; refine wpList_append_own _ rfl _ _ 56 rfl w.heap.size 5 i0 (.int .u8 0) 1 1 Tryd.underlying56 hi hz0 hz1 hz2 rfl (by decide) _ _ _ rfl (hown.alloc _) ⟨wr.heap.size, 0, none⟩ 1 1 [.int .u8 34] rfl rfl ?c1 ?c2 ?c3 ?c4 ?c5 ?_))
        case c1 => exact cells_new wr #[.int .u8 34] _
        case c2 => intro u hu; simp at hu; first | (subst hu; rfl) | (rcases hu with rfl | rfl <;> rfl)
        case c3 => unfold maxLen; omega
        case c4 => omega
        case c5 => simp; exact Nat.le_trans hb.size (by omega)
        intro v' w2 hown2 hgrow _
        have hlt' := (hown.alloc (.cells #[.int .u8 34] 5)).lt
        have hB2 : Below w.heap.size w w2 := (ext_trans hb (ext_alloc _ _)).grown hgrow (ext_trans hb (ext_alloc _ _)).size (fun q hq => (hlt' q hq).1)
        clear hi hz0 hz1 hz2 hgrow hown hlt'
        have hown3 : w2.ownsRow w.heap.size 5 1 v' (quoteL l).length (byteVals (quoteL l)) := by rw [HQ.out, byteVals_append, List.length_append]; exact hown2
        have hcv := own_string (P := Tryd.prog) (src := 56) (dst := 9) hown3 Tryd.underlying56 Tryd.underlying5 Tryd.underlying9
        clear hown2
        obtain ⟨oa, oc, rfl⟩ := own_slice hown3
        clear hown3
        go_wp2
        go_ret
        rw [HR.out]
        exact ⟨rfl, hB2⟩
end Go.Proofs.YtjpkdgedglnchaaDoor
