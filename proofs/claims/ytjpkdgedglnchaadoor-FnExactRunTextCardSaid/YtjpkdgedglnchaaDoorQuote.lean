/-
  What is proved here: spec.Quote and impl.Quote return the quoted text. The condition 'Tabs' says that the library's tables for UTF-8 lie in the world.
-/
import Derived.Test.YtjpkdgedglnchaaDoorPartS
import Derived.Test.YtjpkdgedglnchaaDoorShelfA
import Derived.Lib.OthersKept
namespace Go.Proofs.YtjpkdgedglnchaaDoor
open Go.RowKit
set_option linter.unusedVariables false
set_option linter.unusedSimpArgs false

def quoteB (b : UInt8) : List UInt8 :=
  if b.toNat = 34 then [92, 34] else if b.toNat = 92 then [92, 92] else if b.toNat = 10 then [92, 110] else if b.toNat = 9 then [92, 116] else if b.toNat = 13 then [92, 114] else [b]
def quoteH (l : List UInt8) (k : Nat) : List UInt8 := 34 :: (l.take k).flatMap quoteB
def quoteL (l : List UInt8) : List UInt8 := quoteH l l.length ++ [34]
def quoteT (s : ByteArray) : ByteArray := if okText s then mkB (quoteL s.data.toList) else ⟨#[]⟩
theorem quoteB_len (b : UInt8) : (quoteB b).length ≤ 2 := by
  unfold quoteB
  repeat' split
  all_goals (first | decide | (simp; done))
theorem quoteH_succ {l : List UInt8} {k : Nat} (h : k < l.length) : quoteH l (k + 1) = quoteH l k ++ quoteB l[k] := by
  unfold quoteH
  rw [List.take_add_one, List.getElem?_eq_getElem h]
  show 34 :: (l.take k ++ [l[k]]).flatMap quoteB = 34 :: (l.take k).flatMap quoteB ++ quoteB l[k]
  rw [List.flatMap_append]
  simp only [List.flatMap_cons, List.flatMap_nil, List.append_nil, List.cons_append]
theorem quoteH_len (l : List UInt8) (k : Nat) : (quoteH l k).length ≤ 2 * k + 1 := by
  have : ∀ m : List UInt8, (m.flatMap quoteB).length ≤ 2 * m.length := by
    intro m
    induction m with
    | nil => simp
    | cons b m ih =>
      have := quoteB_len b
      simp only [List.flatMap_cons, List.length_append, List.length_cons]
      omega
  have h := this (l.take k)
  rw [List.length_take] at h
  unfold quoteH
  simp only [List.length_cons]
  omega
theorem quoteT_size (s : ByteArray) : (quoteT s).size ≤ 2002 := by
  unfold quoteT
  split
  · rename_i h
    have h1 := quoteH_len s.data.toList s.data.toList.length
    have h2 := ok_size h
    rw [Lib.size_eq] at h2
    rw [mkB_size]
    unfold quoteL
    rw [List.length_append]
    simp only [List.length_cons, List.length_nil]
    omega
  · exact Nat.zero_le _
theorem byteVals_cons (b : UInt8) (l : List UInt8) : byteVals (b :: l) = .int .u8 (b.toNat : Int) :: byteVals l := rfl
theorem info_u8Q : (Tryd.prog.info? 5).map (fun i => (i.zero, i.size, i.bytes)) = some (some (.int .u8 0), 1, 1) := by kernel_rfl
set_option maxHeartbeats 8000000 in
set_option maxRecDepth 100000 in
theorem specQuote (s : ByteArray) (w : World) :
    Calls Tryd.prog 39 #[.string s] w fun e w' => e = .returned (.string (quoteT s)) ∧ Below w.heap.size w w' := by
  obtain ⟨i0, hi, hz0, hz1, hz2⟩ := info_parts info_u8Q
  obtain ⟨ok, hok⟩ : ∃ ok, okText s = ok := ⟨_, rfl⟩
  cases ok with
  | false =>
    have HR := hid (show quoteT s = ⟨#[]⟩ by unfold quoteT; rw [hok]; rfl)
    have HO := hid hok
    clear hok hi hz0 hz1 hz2
    go_enter Tryd.func39, Tryd.ntmps39
    go_wp2_with fail
    refine (specTextOk s _).mono ?_
    rintro e w1 ⟨rfl, hb1⟩
    rw [HO.out]
    go_wp2
    go_ret
    rw [HR.out]
    exact ⟨rfl, hb1⟩
  | true =>
    have hsz := ok_size hok
    have hqt : quoteT s = mkB (quoteL s.data.toList) := by unfold quoteT; rw [hok]; rfl
    obtain ⟨l, hl⟩ : ∃ l, s.data.toList = l := ⟨_, rfl⟩
    have hsl : s.size = l.length := by rw [Lib.size_eq, hl]
    rw [hl] at hqt
    have HR := hid hqt
    have HO := hid hok
    have HL := hid hl
    have HSL := hid hsl
    clear hok hqt hl hsl
    go_enter Tryd.func39, Tryd.ntmps39
    go_wp2_with fail
    refine (specTextOk s _).mono ?_
    rintro e w1 ⟨rfl, hb1⟩
    rw [HO.out]
    go_wp2
    go_loopw [3, 4] (fun out i wr => ∃ k : Nat, k ≤ s.size ∧ i = .int .i64 (k : Int) ∧ wr.ownsRow w.heap.size 5 1 out (quoteH l k).length (byteVals (quoteH l k)) ∧ Below w.heap.size w wr) (fun _ i _ => s.size - (intOf i).toNat)
    case atStart => exact ⟨0, Nat.zero_le _, rfl, World.ownsRow_lit w1 #[.int .u8 34] 1 hb1.size (by decide) rfl, ext_trans hb1 (ext_alloc _ _)⟩
    case round =>
      obtain ⟨k, hk, rfl, hown, hb⟩ := hrel
      have hlen := quoteH_len l k
      by_cases hlt : k < s.size
      · obtain ⟨x, hx⟩ : ∃ x, s[k] = x := ⟨_, rfl⟩
        have hkl : k < l.length := by rw [← HSL.out]; exact hlt
        have hlx : l[k] = x := by
          rw [← hx]
          have := get_list s k hlt
          rw [← this]
          congr 1
          exact HL.out.symm
        have hstep := quoteH_succ hkl
        rw [hlx] at hstep
        have hix : (s[k] : UInt8).toNat = x.toNat := by rw [hx]
        have hi1 : (0 : Int) ≤ (k : Int) := by omega
        have hi2 : (k : Int) < (s.size : Int) := by omega
        clear hlx hx
        by_cases h34 : x.toNat = 34
        · have HST := hid (show quoteH l (k + 1) = quoteH l k ++ [92, 34] by rw [hstep]; unfold quoteB; simp [h34])
          clear hstep
          go_wp2_with ((at_builtin; refine wpList_append_own _ rfl _ _ 56 rfl w.heap.size 5 i0 (.int .u8 0) 1 1 Tryd.underlying56 hi hz0 hz1 hz2 rfl (by decide) _ _ _ rfl (hown.alloc _) ⟨wr.heap.size, 0, none⟩ 2 2 [.int .u8 92, .int .u8 34] rfl rfl ?c1 ?c2 ?c3 ?c4 ?c5 ?_))
          case c1 => exact cells_new wr #[.int .u8 92, .int .u8 34] _
          case c2 => intro u hu; simp at hu; first | (subst hu; rfl) | (rcases hu with rfl | rfl <;> rfl)
          case c3 => unfold maxLen; omega
          case c4 => omega
          case c5 => simp; exact Nat.le_trans hb.size (by omega)
          intro v' w2 hown2 hgrow _
          have hlt' := (hown.alloc (.cells #[.int .u8 92, .int .u8 34] 5)).lt
          have hB2 : Below w.heap.size w w2 := (ext_trans hb (ext_alloc _ _)).grown hgrow (ext_trans hb (ext_alloc _ _)).size (fun q hq => (hlt' q hq).1)
          clear hi hz0 hz1 hz2 hgrow hown hlt'
          go_wp2
          go_roundw
          case rel => exact ⟨k + 1, by omega, by go_num, by rw [HST.out, byteVals_append, List.length_append]; exact hown2, hB2⟩
          case measure => simp [intOf]; omega
        by_cases h92 : x.toNat = 92
        · have HST := hid (show quoteH l (k + 1) = quoteH l k ++ [92, 92] by rw [hstep]; unfold quoteB; simp [h92])
          clear hstep
          go_wp2_with ((at_builtin; refine wpList_append_own _ rfl _ _ 56 rfl w.heap.size 5 i0 (.int .u8 0) 1 1 Tryd.underlying56 hi hz0 hz1 hz2 rfl (by decide) _ _ _ rfl (hown.alloc _) ⟨wr.heap.size, 0, none⟩ 2 2 [.int .u8 92, .int .u8 92] rfl rfl ?c1 ?c2 ?c3 ?c4 ?c5 ?_))
          case c1 => exact cells_new wr #[.int .u8 92, .int .u8 92] _
          case c2 => intro u hu; simp at hu; first | (subst hu; rfl) | (rcases hu with rfl | rfl <;> rfl)
          case c3 => unfold maxLen; omega
          case c4 => omega
          case c5 => simp; exact Nat.le_trans hb.size (by omega)
          intro v' w2 hown2 hgrow _
          have hlt' := (hown.alloc (.cells #[.int .u8 92, .int .u8 92] 5)).lt
          have hB2 : Below w.heap.size w w2 := (ext_trans hb (ext_alloc _ _)).grown hgrow (ext_trans hb (ext_alloc _ _)).size (fun q hq => (hlt' q hq).1)
          clear hi hz0 hz1 hz2 hgrow hown hlt'
          go_wp2
          go_roundw
          case rel => exact ⟨k + 1, by omega, by go_num, by rw [HST.out, byteVals_append, List.length_append]; exact hown2, hB2⟩
          case measure => simp [intOf]; omega
        by_cases h10 : x.toNat = 10
        · have HST := hid (show quoteH l (k + 1) = quoteH l k ++ [92, 110] by rw [hstep]; unfold quoteB; simp [h10])
          clear hstep
          go_wp2_with ((at_builtin; refine wpList_append_own _ rfl _ _ 56 rfl w.heap.size 5 i0 (.int .u8 0) 1 1 Tryd.underlying56 hi hz0 hz1 hz2 rfl (by decide) _ _ _ rfl (hown.alloc _) ⟨wr.heap.size, 0, none⟩ 2 2 [.int .u8 92, .int .u8 110] rfl rfl ?c1 ?c2 ?c3 ?c4 ?c5 ?_))
          case c1 => exact cells_new wr #[.int .u8 92, .int .u8 110] _
          case c2 => intro u hu; simp at hu; first | (subst hu; rfl) | (rcases hu with rfl | rfl <;> rfl)
          case c3 => unfold maxLen; omega
          case c4 => omega
          case c5 => simp; exact Nat.le_trans hb.size (by omega)
          intro v' w2 hown2 hgrow _
          have hlt' := (hown.alloc (.cells #[.int .u8 92, .int .u8 110] 5)).lt
          have hB2 : Below w.heap.size w w2 := (ext_trans hb (ext_alloc _ _)).grown hgrow (ext_trans hb (ext_alloc _ _)).size (fun q hq => (hlt' q hq).1)
          clear hi hz0 hz1 hz2 hgrow hown hlt'
          go_wp2
          go_roundw
          case rel => exact ⟨k + 1, by omega, by go_num, by rw [HST.out, byteVals_append, List.length_append]; exact hown2, hB2⟩
          case measure => simp [intOf]; omega
        by_cases h9 : x.toNat = 9
        · have HST := hid (show quoteH l (k + 1) = quoteH l k ++ [92, 116] by rw [hstep]; unfold quoteB; simp [h9])
          clear hstep
          go_wp2_with ((at_builtin; refine wpList_append_own _ rfl _ _ 56 rfl w.heap.size 5 i0 (.int .u8 0) 1 1 Tryd.underlying56 hi hz0 hz1 hz2 rfl (by decide) _ _ _ rfl (hown.alloc _) ⟨wr.heap.size, 0, none⟩ 2 2 [.int .u8 92, .int .u8 116] rfl rfl ?c1 ?c2 ?c3 ?c4 ?c5 ?_))
          case c1 => exact cells_new wr #[.int .u8 92, .int .u8 116] _
          case c2 => intro u hu; simp at hu; first | (subst hu; rfl) | (rcases hu with rfl | rfl <;> rfl)
          case c3 => unfold maxLen; omega
          case c4 => omega
          case c5 => simp; exact Nat.le_trans hb.size (by omega)
          intro v' w2 hown2 hgrow _
          have hlt' := (hown.alloc (.cells #[.int .u8 92, .int .u8 116] 5)).lt
          have hB2 : Below w.heap.size w w2 := (ext_trans hb (ext_alloc _ _)).grown hgrow (ext_trans hb (ext_alloc _ _)).size (fun q hq => (hlt' q hq).1)
          clear hi hz0 hz1 hz2 hgrow hown hlt'
          go_wp2
          go_roundw
          case rel => exact ⟨k + 1, by omega, by go_num, by rw [HST.out, byteVals_append, List.length_append]; exact hown2, hB2⟩
          case measure => simp [intOf]; omega
        by_cases h13 : x.toNat = 13
        · have HST := hid (show quoteH l (k + 1) = quoteH l k ++ [92, 114] by rw [hstep]; unfold quoteB; simp [h13])
          clear hstep
          go_wp2_with ((at_builtin; refine wpList_append_own _ rfl _ _ 56 rfl w.heap.size 5 i0 (.int .u8 0) 1 1 Tryd.underlying56 hi hz0 hz1 hz2 rfl (by decide) _ _ _ rfl (hown.alloc _) ⟨wr.heap.size, 0, none⟩ 2 2 [.int .u8 92, .int .u8 114] rfl rfl ?c1 ?c2 ?c3 ?c4 ?c5 ?_))
          case c1 => exact cells_new wr #[.int .u8 92, .int .u8 114] _
          case c2 => intro u hu; simp at hu; first | (subst hu; rfl) | (rcases hu with rfl | rfl <;> rfl)
          case c3 => unfold maxLen; omega
          case c4 => omega
          case c5 => simp; exact Nat.le_trans hb.size (by omega)
          intro v' w2 hown2 hgrow _
          have hlt' := (hown.alloc (.cells #[.int .u8 92, .int .u8 114] 5)).lt
          have hB2 : Below w.heap.size w w2 := (ext_trans hb (ext_alloc _ _)).grown hgrow (ext_trans hb (ext_alloc _ _)).size (fun q hq => (hlt' q hq).1)
          clear hi hz0 hz1 hz2 hgrow hown hlt'
          go_wp2
          go_roundw
          case rel => exact ⟨k + 1, by omega, by go_num, by rw [HST.out, byteVals_append, List.length_append]; exact hown2, hB2⟩
          case measure => simp [intOf]; omega
        have HST := hid (show quoteH l (k + 1) = quoteH l k ++ [x] by rw [hstep]; unfold quoteB; simp [h34, h92, h10, h9, h13])
        clear hstep
        have g34 : ((x.toNat : Int) == 34) = false := by rw [beq_eq_false_iff_ne]; omega
        have g92 : ((x.toNat : Int) == 92) = false := by rw [beq_eq_false_iff_ne]; omega
        have g10 : ((x.toNat : Int) == 10) = false := by rw [beq_eq_false_iff_ne]; omega
        have g9 : ((x.toNat : Int) == 9) = false := by rw [beq_eq_false_iff_ne]; omega
        have g13 : ((x.toNat : Int) == 13) = false := by rw [beq_eq_false_iff_ne]; omega
        clear h34 h92 h10 h9 h13
        go_wp2_with ((at_builtin; refine wpList_append_own _ rfl _ _ 56 rfl w.heap.size 5 i0 (.int .u8 0) 1 1 Tryd.underlying56 hi hz0 hz1 hz2 rfl (by decide) _ _ _ rfl (hown.alloc _) ⟨wr.heap.size, 0, none⟩ 1 1 [.int .u8 (x.toNat : Int)] rfl rfl ?c1 ?c2 ?c3 ?c4 ?c5 ?_))
        case c1 => exact cells_new wr #[.int .u8 (x.toNat : Int)] _
        case c2 => intro u hu; simp at hu; first | (subst hu; rfl) | (rcases hu with rfl | rfl <;> rfl)
        case c3 => unfold maxLen; omega
        case c4 => omega
        case c5 => simp; exact Nat.le_trans hb.size (by omega)
        intro v' w2 hown2 hgrow _
        have hlt' := (hown.alloc (.cells #[.int .u8 (x.toNat : Int)] 5)).lt
        have hB2 : Below w.heap.size w w2 := (ext_trans hb (ext_alloc _ _)).grown hgrow (ext_trans hb (ext_alloc _ _)).size (fun q hq => (hlt' q hq).1)
        clear hi hz0 hz1 hz2 hgrow hown hlt'
        go_wp2
        go_roundw
        case rel => exact ⟨k + 1, by omega, by go_num, by rw [HST.out, byteVals_append, List.length_append]; exact hown2, hB2⟩
        case measure => simp [intOf]; omega
      · have hkk : k = s.size := by omega
        subst hkk
        have HQ := hid (show quoteL l = quoteH l s.size ++ [34] by unfold quoteL; rw [← HSL.out])
        clear hlt
        go_wp2_with ((at_builtin; refine wpList_append_own _ rfl _ _ 56 rfl w.heap.size 5 i0 (.int .u8 0) 1 1 Tryd.underlying56 hi hz0 hz1 hz2 rfl (by decide) _ _ _ rfl (hown.alloc _) ⟨wr.heap.size, 0, none⟩ 1 1 [.int .u8 34] rfl rfl ?c1 ?c2 ?c3 ?c4 ?c5 ?_))
        case c1 => exact cells_new wr #[.int .u8 34] _
        case c2 => intro u hu; simp at hu; first | (subst hu; rfl) | (rcases hu with rfl | rfl <;> rfl)
        case c3 => unfold maxLen; omega
        case c4 => omega
        case c5 => simp; exact Nat.le_trans hb.size (by omega)
        intro v' w2 hown2 hgrow _
        have hlt' := (hown.alloc (.cells #[.int .u8 34] 5)).lt
        have hB2 : Below w.heap.size w w2 := (ext_trans hb (ext_alloc _ _)).grown hgrow (ext_trans hb (ext_alloc _ _)).size (fun q hq => (hlt' q hq).1)
        clear hi hz0 hz1 hz2 hgrow hown hlt'
        have hown3 : w2.ownsRow w.heap.size 5 1 v' (quoteL l).length (byteVals (quoteL l)) := by rw [HQ.out, byteVals_append, List.length_append]; exact hown2
        have hcv := own_string (P := Tryd.prog) (src := 56) (dst := 9) hown3 Tryd.underlying56 Tryd.underlying5 Tryd.underlying9
        clear hown2
        obtain ⟨oa, oc, rfl⟩ := own_slice hown3
        clear hown3
        go_wp2
        go_ret
        rw [HR.out]
        exact ⟨rfl, hB2⟩
theorem byteCells1 (l : List UInt8) (b : UInt8) : Lib.byteCells l ++ [Value.int .u8 (b.toNat : Int)] = Lib.byteCells (l ++ [b]) := by simp [Lib.byteCells]
theorem byteCells2 (l : List UInt8) (a b : UInt8) : Lib.byteCells l ++ [Value.int .u8 (a.toNat : Int)] ++ [Value.int .u8 (b.toNat : Int)] = Lib.byteCells (l ++ [a, b]) := by simp [Lib.byteCells]
set_option maxHeartbeats 8000000 in
set_option maxRecDepth 100000 in
theorem implQuoted (s : ByteArray) (w : World) (hsz : s.size ≤ 1000000) :
    Calls Tryd.prog 44 #[.string s] w fun e w' => e = .returned (.string (mkB (quoteL s.data.toList))) ∧ Below w.heap.size w w' := by
  obtain ⟨l, hl⟩ : ∃ l, s.data.toList = l := ⟨_, rfl⟩
  have hsl : s.size = l.length := by rw [Lib.size_eq, hl]
  rw [hl]
  have HL := hid hl
  have HSL := hid hsl
  clear hl hsl
  have hI0 := Lib.IsBuilderF.of (Lib.fresh_isBuilder 114 5 w)
  go_enter Tryd.func44, Tryd.ntmps44
  go_wp2_with (go_at_call 87; refine (Tryd.Builder_WriteByte_k w.heap.size w.heap.size [] 34 _ hI0 (by simp) (ext_alloc w _).size).mono ?_; rintro e W0 ⟨rfl, h0, b0, k0⟩; refine Hid.out ?_)
  refine hid ?_
  have hB0 := Below.trans (ext_alloc w (.cells #[.pointer none, .slice none 0 0] 114)) b0
  go_wp2
  go_loopw [8] (fun i wr => ∃ k : Nat, k ≤ s.size ∧ i = .int .i64 k ∧ Lib.IsBuilderF 114 5 w.heap.size w.heap.size (Lib.byteCells (quoteH l k)) wr ∧ Below w.heap.size w wr) (fun i _ => s.size - (intOf i).toNat)
  case atStart => exact ⟨0, Nat.zero_le _, rfl, Or.inr h0, hB0⟩
  case round =>
    obtain ⟨k, hk, rfl, hI, hb⟩ := hrel
    have hlen := quoteH_len l k
    by_cases hlt : k < s.size
    · obtain ⟨x, hx⟩ : ∃ x, s[k] = x := ⟨_, rfl⟩
      have hkl : k < l.length := by rw [← HSL.out]; exact hlt
      have hlx : l[k] = x := by
        rw [← hx]
        have := get_list s k hlt
        rw [← this]
        congr 1
        exact HL.out.symm
      have hstep := quoteH_succ hkl
      rw [hlx] at hstep
      have hix : (s[k] : UInt8).toNat = x.toNat := by rw [hx]
      have hi1 : (0 : Int) ≤ (k : Int) := by omega
      have hi2 : (k : Int) < (s.size : Int) := by omega
      clear hlx hx
      by_cases h34 : x.toNat = 34
      · have HST := hid (show quoteH l (k + 1) = quoteH l k ++ [92, 34] by rw [hstep]; unfold quoteB; simp [h34])
        clear hstep
        go_wp2_with (go_at_call 87; refine (Tryd.Builder_WriteByte_k w.heap.size w.heap.size _ (92) _ hI (by rw [Lib.byteCells_length]; omega) (hb).size).mono ?_; rintro e W1 ⟨rfl, h1, b1, k1⟩; refine Hid.out ?_)
        refine hid ?_
        have hI1 : Lib.IsBuilderF 114 5 w.heap.size w.heap.size (Lib.byteCells (quoteH l k ++ [92])) W1 := by
          rw [← byteCells1]
          exact Or.inr h1
        have hlen1 : (quoteH l k ++ [92]).length ≤ 2000002 := by rw [List.length_append]; simp only [List.length_cons, List.length_nil]; omega
        clear h1 hI
        go_wp2_with fail
        refine (Tryd.Builder_WriteByte_k w.heap.size w.heap.size _ (34) _ hI1 (by rw [Lib.byteCells_length]; omega) (hb.trans b1).size).mono ?_
        rintro e W2 ⟨rfl, h2, b2, k2⟩
        have hI2 : Lib.IsBuilderF 114 5 w.heap.size w.heap.size (Lib.byteCells (quoteH l (k + 1))) W2 := by
          rw [HST.out, show quoteH l k ++ [92, 34] = (quoteH l k ++ [92]) ++ [34] by simp, ← byteCells1]
          exact Or.inr h2
        clear h2
        go_wp2
        go_round
        case rel => exact ⟨k + 1, by omega, by go_num, hI2, (hb.trans b1).trans b2⟩
        case measure => simp [intOf]; omega
      by_cases h92 : x.toNat = 92
      · have HST := hid (show quoteH l (k + 1) = quoteH l k ++ [92, 92] by rw [hstep]; unfold quoteB; simp [h92])
        clear hstep
        go_wp2_with (go_at_call 87; refine (Tryd.Builder_WriteByte_k w.heap.size w.heap.size _ (92) _ hI (by rw [Lib.byteCells_length]; omega) (hb).size).mono ?_; rintro e W1 ⟨rfl, h1, b1, k1⟩; refine Hid.out ?_)
        refine hid ?_
        have hI1 : Lib.IsBuilderF 114 5 w.heap.size w.heap.size (Lib.byteCells (quoteH l k ++ [92])) W1 := by
          rw [← byteCells1]
          exact Or.inr h1
        have hlen1 : (quoteH l k ++ [92]).length ≤ 2000002 := by rw [List.length_append]; simp only [List.length_cons, List.length_nil]; omega
        clear h1 hI
        go_wp2_with fail
        refine (Tryd.Builder_WriteByte_k w.heap.size w.heap.size _ (92) _ hI1 (by rw [Lib.byteCells_length]; omega) (hb.trans b1).size).mono ?_
        rintro e W2 ⟨rfl, h2, b2, k2⟩
        have hI2 : Lib.IsBuilderF 114 5 w.heap.size w.heap.size (Lib.byteCells (quoteH l (k + 1))) W2 := by
          rw [HST.out, show quoteH l k ++ [92, 92] = (quoteH l k ++ [92]) ++ [92] by simp, ← byteCells1]
          exact Or.inr h2
        clear h2
        go_wp2
        go_round
        case rel => exact ⟨k + 1, by omega, by go_num, hI2, (hb.trans b1).trans b2⟩
        case measure => simp [intOf]; omega
      by_cases h10 : x.toNat = 10
      · have HST := hid (show quoteH l (k + 1) = quoteH l k ++ [92, 110] by rw [hstep]; unfold quoteB; simp [h10])
        clear hstep
        go_wp2_with (go_at_call 88; refine (Tryd.Builder_WriteString_k w.heap.size w.heap.size _ ⟨#[92, 110]⟩ _ hI (by rw [Lib.byteCells_length]; show _ + 2 ≤ _; omega) hb.size).mono ?_; rintro e W1 ⟨rfl, h1, b1, k1⟩; refine Hid.out ?_)
        refine hid ?_
        go_wp2
        go_round
        case rel => exact ⟨k + 1, by omega, by go_num, by rw [HST.out, Lib.byteCells_append]; exact Or.inr h1, hb.trans b1⟩
        case measure => simp [intOf]; omega
      by_cases h9 : x.toNat = 9
      · have HST := hid (show quoteH l (k + 1) = quoteH l k ++ [92, 116] by rw [hstep]; unfold quoteB; simp [h9])
        clear hstep
        go_wp2_with (go_at_call 88; refine (Tryd.Builder_WriteString_k w.heap.size w.heap.size _ ⟨#[92, 116]⟩ _ hI (by rw [Lib.byteCells_length]; show _ + 2 ≤ _; omega) hb.size).mono ?_; rintro e W1 ⟨rfl, h1, b1, k1⟩; refine Hid.out ?_)
        refine hid ?_
        go_wp2
        go_round
        case rel => exact ⟨k + 1, by omega, by go_num, by rw [HST.out, Lib.byteCells_append]; exact Or.inr h1, hb.trans b1⟩
        case measure => simp [intOf]; omega
      by_cases h13 : x.toNat = 13
      · have HST := hid (show quoteH l (k + 1) = quoteH l k ++ [92, 114] by rw [hstep]; unfold quoteB; simp [h13])
        clear hstep
        go_wp2_with (go_at_call 88; refine (Tryd.Builder_WriteString_k w.heap.size w.heap.size _ ⟨#[92, 114]⟩ _ hI (by rw [Lib.byteCells_length]; show _ + 2 ≤ _; omega) hb.size).mono ?_; rintro e W1 ⟨rfl, h1, b1, k1⟩; refine Hid.out ?_)
        refine hid ?_
        go_wp2
        go_round
        case rel => exact ⟨k + 1, by omega, by go_num, by rw [HST.out, Lib.byteCells_append]; exact Or.inr h1, hb.trans b1⟩
        case measure => simp [intOf]; omega
      have HST := hid (show quoteH l (k + 1) = quoteH l k ++ [x] by rw [hstep]; unfold quoteB; simp [h34, h92, h10, h9, h13])
      clear hstep
      have g34 : ((x.toNat : Int) == 34) = false := by rw [beq_eq_false_iff_ne]; omega
      have g92 : ((x.toNat : Int) == 92) = false := by rw [beq_eq_false_iff_ne]; omega
      have g10 : ((x.toNat : Int) == 10) = false := by rw [beq_eq_false_iff_ne]; omega
      have g9 : ((x.toNat : Int) == 9) = false := by rw [beq_eq_false_iff_ne]; omega
      have g13 : ((x.toNat : Int) == 13) = false := by rw [beq_eq_false_iff_ne]; omega
      clear h34 h92 h10 h9 h13
      go_wp2_with (go_at_call 87; refine (Tryd.Builder_WriteByte_k w.heap.size w.heap.size _ ((x.toNat : Int)) _ hI (by rw [Lib.byteCells_length]; omega) (hb).size).mono ?_; rintro e W1 ⟨rfl, h1, b1, k1⟩; refine Hid.out ?_)
      refine hid ?_
      go_wp2
      go_round
      case rel => exact ⟨k + 1, by omega, by go_num, by rw [HST.out, Lib.byteCells_append]; exact (by rw [byteCells1] at h1; rw [← Lib.byteCells_append]; exact Or.inr h1), hb.trans b1⟩
      case measure => simp [intOf]; omega
    · have hkk : k = s.size := by omega
      subst hkk
      have HQ := hid (show quoteL l = quoteH l s.size ++ [34] by unfold quoteL; rw [← HSL.out])
      clear hlt
      go_wp2_with (go_at_call 87; refine (Tryd.Builder_WriteByte_k w.heap.size w.heap.size _ (34) _ hI (by rw [Lib.byteCells_length]; omega) (hb).size).mono ?_; rintro e W1 ⟨rfl, h1, b1, k1⟩; refine Hid.out ?_)
      refine hid ?_
      have hI1 : Lib.IsBuilderF 114 5 w.heap.size w.heap.size (Lib.byteCells (quoteL l)) W1 := by
        rw [HQ.out, Lib.byteCells_append]
        exact Or.inr h1
      clear h1
      go_wp2_with (go_at_call 89; refine (Tryd.Builder_String_any_k w.heap.size w.heap.size _ _ hI1 (hb.trans b1).size).mono ?_; rintro e W2 ⟨rfl, _, b2, _⟩)
      go_ret
      exact ⟨rfl, (hb.trans b1).trans b2⟩
theorem implQuote (s : ByteArray) (w : World) (hT : Tabs w) :
    Calls Tryd.prog 45 #[.string s] w fun e w' => e = .returned (.string (quoteT s)) ∧ Below w.heap.size w w' := by
  obtain ⟨ok, hok⟩ : ∃ ok, okText s = ok := ⟨_, rfl⟩
  cases ok with
  | false =>
    have HR := hid (show quoteT s = ⟨#[]⟩ by unfold quoteT; rw [hok]; rfl)
    have HO := hid hok
    clear hok
    go_enter Tryd.func45, Tryd.ntmps45
    go_wp2_with fail
    refine (implTextOk s _ hT).mono ?_
    rintro e w1 ⟨rfl, hb1⟩
    rw [HO.out]
    go_wp2
    go_ret
    rw [HR.out]
    exact ⟨rfl, hb1⟩
  | true =>
    have hsz := ok_size hok
    have HR := hid (show quoteT s = mkB (quoteL s.data.toList) by unfold quoteT; rw [hok]; rfl)
    have HO := hid hok
    clear hok
    go_enter Tryd.func45, Tryd.ntmps45
    go_wp2_with fail
    refine (implTextOk s _ hT).mono ?_
    rintro e w1 ⟨rfl, hb1⟩
    rw [HO.out]
    go_wp2_with fail
    refine (implQuoted s _ (by omega)).mono ?_
    rintro e w2 ⟨rfl, hb2⟩
    go_wp2
    go_ret
    rw [HR.out]
    exact ⟨rfl, ext_trans hb1 hb2⟩
end Go.Proofs.YtjpkdgedglnchaaDoor
