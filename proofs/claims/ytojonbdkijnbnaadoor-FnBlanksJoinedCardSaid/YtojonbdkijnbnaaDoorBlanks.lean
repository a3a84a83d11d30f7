/-
  What is proved here: impl.Blanks, spec.Blanks, impl.Joined and laws.sameTexts at the words of a text. The condition 'Tabs' says that the library's tables for UTF-8 lie in the world.
-/
import Derived.Test.YtojonbdkijnbnaaDoorLen
import Derived.Test.YtojonbdkijnbnaaDoorBlankLaw
import Derived.Laws.Slices
import Derived.Laws.Concat
import Derived.Deep.QuietTactic
import Derived.BigQuiet
namespace Go.Proofs.YtojonbdkijnbnaaDoor
open Go.RowKit
set_option linter.unusedVariables false
set_option linter.unusedSimpArgs false

def blanksT (s : ByteArray) : List ByteArray := if okText s then (words s.data.toList).map mkB else []
theorem own_strs {w : World} {B : Nat} {e : TypeId} {v : Value} {xs : List ByteArray} (h : w.ownsRow B e 1 v xs.length (xs.map Value.string)) (hs : ∀ x ∈ xs, x.size ≤ 9223372036854775807) : Rd.rd (Old w) w [v] xs := by
  rcases h.2 with ⟨hv, h1⟩ | ⟨g, cap', cur, hv, hB, hg, hle, hm, _⟩
  · subst hv
    exact ⟨none, 0, by rw [h1], by omega, by omega, fun h0 => by omega⟩
  · subst hv
    refine ⟨some ⟨g, 0, none⟩, cap', rfl, hle, by unfold maxLen at hm; omega, fun h0 => ⟨g, 0, rfl, (Array.getElem?_eq_some_iff.1 hg).1, fun i hi => ⟨[.string xs[i]], fun j hj => ?_, rfl, hs _ (List.getElem_mem hi)⟩⟩⟩
    have hj0 : j = 0 := by
      have : Rd.n ByteArray = 1 := rfl
      omega
    subst hj0
    have hx := h.cells (g := g) rfl i (.string xs[i]) (by rw [List.getElem?_map, List.getElem?_eq_getElem hi]; rfl)
    have hn : Rd.n ByteArray = 1 := rfl
    rw [hn, Nat.mul_one, Nat.zero_add, Nat.add_zero]
    simpa [Addr.add_lit] using hx
theorem blanks_all {s : ByteArray} (h : okText s = true) : (∀ x ∈ blanksT s, x.size ≤ 1000 ∧ okText x = true ∧ ¬ x.size = 0) ∧ (blanksT s).length ≤ 1001 := by
  have hw := words_ok (l := s.data.toList) h
  have hb : blanksT s = (words s.data.toList).map mkB := by unfold blanksT; rw [h]; rfl
  rw [hb]
  refine ⟨fun x hx => ?_, ?_⟩
  · obtain ⟨l, hl, rfl⟩ := List.mem_map.1 hx
    obtain ⟨h1, h2, _⟩ := hw.1 l hl
    refine ⟨?_, h2, ?_⟩
    · rw [mkB_size]; exact (textOk_all h2).1
    · rw [mkB_size]
      intro h3
      exact h1 (List.eq_nil_of_length_eq_zero h3)
  · rw [List.length_map]
    have : ∀ (l cur : List UInt8), (wordsG isBl l cur).length ≤ l.length + 1 := by
      intro l
      induction l with
      | nil =>
        intro cur
        cases cur <;> simp [wordsG]
      | cons b l ih =>
        intro cur
        by_cases hb : isBl b = true
        · by_cases hc : cur = []
          · subst hc
            rw [wordsG_blank0 hb]
            have := ih []
            simp only [List.length_cons]; omega
          · rw [wordsG_blank hb hc]
            have := ih []
            simp only [List.length_cons]; omega
        · rw [wordsG_in (by simpa using hb)]
          have := ih (cur ++ [b])
          simp only [List.length_cons]; omega
    have h2 := this s.data.toList []
    have h3 := ok_size h
    rw [Lib.size_eq] at h3
    unfold words
    omega
theorem isBlN_no {c : Nat} (h1 : ¬ c = 32) (h2 : ¬ c = 9) (h3 : ¬ c = 10) (h4 : ¬ c = 13) : isBlN c = false := by simp [isBlN, h1, h2, h3, h4]
theorem specIsBlank (c : Nat) (w : World) : Calls Tryd.prog 74 #[.int .i64 (c : Int)] w fun e w' => e = .returned (.bool (isBlN c)) ∧ w = w' := by
  by_cases h1 : c = 32
  · subst h1
    go_enter Tryd.func74, Tryd.ntmps74
    go_wp2
    go_ret
    exact ⟨end_bool (by decide), rfl⟩
  by_cases h2 : c = 9
  · subst h2
    go_enter Tryd.func74, Tryd.ntmps74
    go_wp2
    go_ret
    exact ⟨end_bool (by decide), rfl⟩
  by_cases h3 : c = 10
  · subst h3
    go_enter Tryd.func74, Tryd.ntmps74
    go_wp2
    go_ret
    exact ⟨end_bool (by decide), rfl⟩
  by_cases h4 : c = 13
  · subst h4
    go_enter Tryd.func74, Tryd.ntmps74
    go_wp2
    go_ret
    exact ⟨end_bool (by decide), rfl⟩
  have HR := hid (isBlN_no h1 h2 h3 h4)
  have g1 : ((c : Int) == 32) = false := by rw [beq_eq_false_iff_ne]; omega
  have g2 : ((c : Int) == 9) = false := by rw [beq_eq_false_iff_ne]; omega
  have g3 : ((c : Int) == 10) = false := by rw [beq_eq_false_iff_ne]; omega
  have g4 : ((c : Int) == 13) = false := by rw [beq_eq_false_iff_ne]; omega
  clear h1 h2 h3 h4
  go_enter Tryd.func74, Tryd.ntmps74
  go_wp2
  go_ret
  exact ⟨end_bool HR.out.symm, rfl⟩
theorem implIsBlank (c : Nat) (w : World) : Calls Tryd.prog 73 #[.int .i64 (c : Int)] w fun e w' => e = .returned (.bool (isBlN c)) ∧ w = w' := by
  by_cases h1 : c = 32
  · subst h1
    go_enter Tryd.func73, Tryd.ntmps73
    go_wp2
    go_ret
    exact ⟨end_bool (by decide), rfl⟩
  by_cases h2 : c = 9
  · subst h2
    go_enter Tryd.func73, Tryd.ntmps73
    go_wp2
    go_ret
    exact ⟨end_bool (by decide), rfl⟩
  by_cases h3 : c = 10
  · subst h3
    go_enter Tryd.func73, Tryd.ntmps73
    go_wp2
    go_ret
    exact ⟨end_bool (by decide), rfl⟩
  by_cases h4 : c = 13
  · subst h4
    go_enter Tryd.func73, Tryd.ntmps73
    go_wp2
    go_ret
    exact ⟨end_bool (by decide), rfl⟩
  have HR := hid (isBlN_no h1 h2 h3 h4)
  have g1 : ((c : Int) == 32) = false := by rw [beq_eq_false_iff_ne]; omega
  have g2 : ((c : Int) == 9) = false := by rw [beq_eq_false_iff_ne]; omega
  have g3 : ((c : Int) == 10) = false := by rw [beq_eq_false_iff_ne]; omega
  have g4 : ((c : Int) == 13) = false := by rw [beq_eq_false_iff_ne]; omega
  clear h1 h2 h3 h4
  go_enter Tryd.func73, Tryd.ntmps73
  go_wp2
  go_ret
  exact ⟨end_bool HR.out.symm, rfl⟩
theorem mkB_nil : ((mkB []).toList == []) = true := by
  rw [Lib.toList_data, mkB_data]; rfl
theorem mkB_ne {l : List UInt8} (h : l ≠ []) : ((mkB l).toList == []) = false := by
  rw [Lib.toList_data, mkB_data]
  cases l with
  | nil => exact absurd rfl h
  | cons a b => rfl
set_option maxHeartbeats 4000000 in
set_option maxRecDepth 100000 in
theorem specBlanks (s : ByteArray) (w : World) :
    Calls Tryd.prog 42 #[.string s] w fun e w' => ∃ u, e = .returned u ∧ w'.ownsRow w.heap.size 9 1 u (blanksT s).length ((blanksT s).map Value.string) ∧ Below w.heap.size w w' := by
  obtain ⟨i0, hi, hz0, hz1, hz2⟩ := info_parts info_string
  obtain ⟨ok, hok⟩ : ∃ ok, okText s = ok := ⟨_, rfl⟩
  cases ok with
  | false =>
    have HR := hid (show blanksT s = [] by unfold blanksT; rw [hok]; rfl)
    have HO := hid hok
    clear hok hi hz0 hz1 hz2
    go_enter Tryd.func42, Tryd.ntmps42
    go_wp2_with fail
    refine (specTextOk s _).mono ?_
    rintro e w1 ⟨rfl, hb1⟩
    rw [HO.out]
    have hown := own_later (own_none (w := w) (Nat.le_refl _) 9) hb1
    go_wp2
    go_ret
    rw [HR.out]
    exact ⟨_, rfl, hown, ext_trans (ext_alloc _ _) hb1⟩
  | true =>
    have hsz := ok_size hok
    have hbt : blanksT s = (words s.data.toList).map mkB := by unfold blanksT; rw [hok]; rfl
    obtain ⟨l, hl⟩ : ∃ l, s.data.toList = l := ⟨_, rfl⟩
    have hsl : s.size = l.length := by rw [Lib.size_eq, hl]
    rw [hl] at hbt
    have HR := hid hbt
    have HO := hid hok
    have HL := hid hl
    have HSL := hid hsl
    clear hok hbt hl hsl
    go_enter Tryd.func42, Tryd.ntmps42
    go_wp2_with fail
    refine (specTextOk s _).mono ?_
    rintro e w1 ⟨rfl, hb1⟩
    rw [HO.out]
    have hown0 := own_later (own_none (w := w) (Nat.le_refl _) 9) hb1
    have hB1 := ext_trans (ext_alloc w (.cells #[] 9)) hb1
    go_wp2
    go_loopw [3, 4, 5] (fun out wd i wr => ∃ (k : Nat) (cur : List UInt8) (ows : List (List UInt8)), i = .int .i64 (k : Int) ∧ wd = .string (mkB cur) ∧ ((k ≤ s.size ∧ Hid (words l = ows ++ wordsG isBl (l.drop k) cur)) ∨ (k = s.size + 1 ∧ Hid (words l = ows))) ∧ cur.length ≤ k ∧ ows.length ≤ k ∧ wr.ownsRow w.heap.size 9 1 out (ows.map mkB).length ((ows.map mkB).map Value.string) ∧ Below w.heap.size w wr) (fun _ _ i _ => s.size + 1 - (intOf i).toNat)
    case atStart => exact ⟨0, [], [], rfl, rfl, Or.inl ⟨Nat.zero_le _, hid (by simp [words])⟩, Nat.le_refl _, Nat.le_refl _, hown0, hB1⟩
    case round =>
      obtain ⟨k, cur, ows, rfl, rfl, hW, hcl, hol, hown, hb⟩ := hrel
      by_cases hlt : k < s.size
      · have HW : Hid (words l = ows ++ wordsG isBl (l.drop k) cur) := by
          rcases hW with ⟨_, h⟩ | ⟨h, _⟩
          · exact h
          · omega
        clear hW
        obtain ⟨x, hx⟩ : ∃ x, s[k] = x := ⟨_, rfl⟩
        have hdr : l.drop k = x :: l.drop (k + 1) := by
          have hkl : k < l.length := by rw [← HSL.out]; exact hlt
          rw [List.drop_eq_getElem_cons hkl]
          congr 1
          rw [← hx]
          have := get_list s k hlt
          rw [← this]
          congr 1
          exact HL.out.symm
        have hix : (s[k] : UInt8).toNat = x.toNat := by rw [hx]
        have HDR := hid hdr
        have hblx : isBlN x.toNat = isBl x := by rw [← isBl_ofNat x.toNat_lt, ofNat_of rfl]
        have hi1 : (0 : Int) ≤ (k : Int) := by omega
        have hi2 : (k : Int) < (s.size : Int) := by omega
        have hi3 : (k : Int) ≤ (s.size : Int) := by omega
        by_cases hbl : isBl x = true
        · have HB := hid (show isBlN x.toNat = true by rw [hblx]; exact hbl)
          have hbl0 := hid hbl
          clear hdr hblx hbl
          have hx0 : (0 : Int) ≤ (x.toNat : Int) := by omega
          have hx1 : (x.toNat : Int) < 256 := by have := x.toNat_lt; omega
          by_cases hc : cur = []
          · subst hc
            have HNW := hid (show words l = ows ++ wordsG isBl (l.drop (k + 1)) [] by rw [HW.out, HDR.out, wordsG_blank0 hbl0.out])
            have hz := mkB_nil
            clear hi hz0 hz1 hz2
            go_wp2_with fail
            refine (specIsBlank x.toNat _).mono ?_
            rintro e w2 ⟨rfl, rfl⟩
            rw [HB.out]
            clear hx hix
            go_wp2
            go_roundw
            case rel => exact ⟨k + 1, [], ows, by first | go_num | (congr 1; omega), rfl, Or.inl ⟨by omega, HNW⟩, Nat.zero_le _, by omega, hown, hb⟩
            case measure => first | (simp [intOf]; done) | (simp [intOf]; omega)
          · have HNW := hid (show words l = (ows ++ [cur]) ++ wordsG isBl (l.drop (k + 1)) [] by rw [HW.out, HDR.out, wordsG_blank hbl0.out hc]; simp)
            have hz := mkB_ne hc
            clear hc
            go_wp2_with fail
            refine (specIsBlank x.toNat _).mono ?_
            rintro e w2 ⟨rfl, rfl⟩
            rw [HB.out]
            clear hx hix
            go_wp2_with ((at_builtin; refine wpList_append_own _ rfl _ _ 38 rfl w.heap.size 9 i0 (.string ⟨#[]⟩) 1 16 Tryd.underlying38 hi hz0 hz1 hz2 rfl (by decide) _ _ _ rfl (hown.alloc _) ⟨wr.heap.size, 0, none⟩ 1 1 [.string (mkB cur)] rfl rfl ?c1 ?c2 ?c3 ?c4 ?c5 ?_))
            case c1 => exact cell_one_new _ _ _
            case c2 => intro u hu; simp at hu; subst hu; rfl
            case c3 => rw [List.length_map]; unfold maxLen; omega
            case c4 => rw [List.length_map]; omega
            case c5 => simp; exact Nat.le_trans hb.size (by omega)
            intro v' w2 hown2 hgrow _
            have hlt' := (hown.alloc (.cells #[.string (mkB cur)] 9)).lt
            have hB2 : Below w.heap.size w w2 := (ext_trans hb (ext_alloc _ _)).grown hgrow (ext_trans hb (ext_alloc _ _)).size (fun q hq => (hlt' q hq).1)
            clear hi hz0 hz1 hz2 hgrow hown hlt'
            go_wp2
            go_roundw
            case rel => exact ⟨k + 1, [], ows ++ [cur], by first | go_num | (congr 1; omega), rfl, Or.inl ⟨by omega, HNW⟩, Nat.zero_le _, by simp; omega, by simpa using hown2, hB2⟩
            case measure => first | (simp [intOf]; done) | (simp [intOf]; omega)
        · have hbf : isBl x = false := by simpa using hbl
          have HB := hid (show isBlN x.toNat = false by rw [hblx]; exact hbf)
          have HNW := hid (show words l = ows ++ wordsG isBl (l.drop (k + 1)) (cur ++ [x]) by rw [HW.out, HDR.out, wordsG_in hbf])
          have HEX := hid (show mkB cur ++ s.extract k (k + 1) = mkB (cur ++ [x]) by
            rw [ext_mkB, mkB_append, HL.out, HDR.out, show k + 1 - k = 1 by omega]; rfl)
          have hn1 : ((k : Int) + 1).toNat = k + 1 := by omega
          have hs1 : (mkB cur).size ≤ 1000 := by rw [mkB_size]; omega
          have hsum1 : ¬ 9223372036854775807 < (mkB cur).size + (s.extract k (k + 1)).size := by rw [ByteArray.size_extract]; omega
          have hsum2 : ¬ 9223372036854775807 < (mkB cur).size + (min (k + 1) s.size - k) := by omega
          have hx0 : (0 : Int) ≤ (x.toNat : Int) := by omega
          have hx1 : (x.toNat : Int) < 256 := by have := x.toNat_lt; omega
          clear hi hz0 hz1 hz2 hdr hblx hbl hbf
          go_wp2_with fail
          refine (specIsBlank x.toNat _).mono ?_
          rintro e w2 ⟨rfl, rfl⟩
          rw [HB.out]
          clear hx hix
          go_wp2
          go_roundw
          case rel => exact ⟨k + 1, cur ++ [x], ows, by first | go_num | (congr 1; omega), by rw [← HEX.out], Or.inl ⟨by omega, HNW⟩, by simp; omega, by omega, hown, hb⟩
          case measure => first | (simp [intOf]; done) | (simp [intOf]; omega)
      · by_cases hke : k = s.size
        · subst hke
          have HW : Hid (words l = ows ++ wordsG isBl [] cur) := by
            rcases hW with ⟨_, h⟩ | ⟨h, _⟩
            · have hd : l.drop s.size = [] := List.drop_eq_nil_of_le (by rw [HSL.out]; exact Nat.le_refl _)
              rw [hd] at h
              exact h
            · omega
          clear hW hlt
          by_cases hc : cur = []
          · subst hc
            have HNW := hid (show words l = ows by rw [HW.out]; simp [wordsG])
            have hz := mkB_nil
            clear hi hz0 hz1 hz2
            go_wp2
            go_roundw
            case rel => exact ⟨s.size + 1, [], ows, by first | go_num | (congr 1; omega), rfl, Or.inr ⟨rfl, HNW⟩, Nat.zero_le _, by omega, hown, hb⟩
            case measure => first | (simp [intOf]; done) | (simp [intOf]; omega)
          · have HNW := hid (show words l = ows ++ [cur] by rw [HW.out, wordsG_end hc])
            have hz := mkB_ne hc
            clear hc
            go_wp2_with ((at_builtin; refine wpList_append_own _ rfl _ _ 38 rfl w.heap.size 9 i0 (.string ⟨#[]⟩) 1 16 Tryd.underlying38 hi hz0 hz1 hz2 rfl (by decide) _ _ _ rfl (hown.alloc _) ⟨wr.heap.size, 0, none⟩ 1 1 [.string (mkB cur)] rfl rfl ?c1 ?c2 ?c3 ?c4 ?c5 ?_))
            case c1 => exact cell_one_new _ _ _
            case c2 => intro u hu; simp at hu; subst hu; rfl
            case c3 => rw [List.length_map]; unfold maxLen; omega
            case c4 => rw [List.length_map]; omega
            case c5 => simp; exact Nat.le_trans hb.size (by omega)
            intro v' w2 hown2 hgrow _
            have hlt' := (hown.alloc (.cells #[.string (mkB cur)] 9)).lt
            have hB2 : Below w.heap.size w w2 := (ext_trans hb (ext_alloc _ _)).grown hgrow (ext_trans hb (ext_alloc _ _)).size (fun q hq => (hlt' q hq).1)
            clear hi hz0 hz1 hz2 hgrow hown hlt'
            go_wp2
            go_roundw
            case rel => exact ⟨s.size + 1, [], ows ++ [cur], by first | go_num | (congr 1; omega), rfl, Or.inr ⟨rfl, HNW⟩, Nat.zero_le _, by simp; omega, by simpa using hown2, hB2⟩
            case measure => first | (simp [intOf]; done) | (simp [intOf]; omega)
        · have hk1 : k = s.size + 1 := by
            rcases hW with ⟨h, _⟩ | ⟨h, _⟩ <;> omega
          have HW : Hid (words l = ows) := by
            rcases hW with ⟨h, _⟩ | ⟨_, h⟩
            · omega
            · exact h
          have hle : ¬ (k : Int) ≤ (s.size : Int) := by omega
          clear hW hi hz0 hz1 hz2
          go_wp2
          go_ret
          rw [HR.out, HW.out]
          exact ⟨_, rfl, hown, hb⟩
theorem closure_pays (w : World) : PredGrows Tryd.prog 72 #[] isBlN w := by
  intro W x hx hb
  show Calls Tryd.prog 72 #[.int .i32 (x : Int)] W _
  have hx0 : (0 : Int) ≤ (x : Int) := by omega
  have hx1 : (x : Int) ≤ 1114111 := by omega
  obtain ⟨b, hbx⟩ : ∃ b, isBlN x = b := ⟨_, rfl⟩
  have HB := hid hbx
  rw [hbx]
  clear hbx
  go_enter Tryd.func72, Tryd.ntmps72
  go_wp2_with fail
  refine (implIsBlank x _).mono ?_
  rintro e w2 ⟨rfl, rfl⟩
  rw [HB.out]
  go_wp2
  go_ret
  exact ⟨rfl, Below.refl _ _⟩
set_option maxHeartbeats 4000000 in
set_option maxRecDepth 100000 in
theorem implBlanks (s : ByteArray) (w : World) (hT : Tabs w) :
    Calls Tryd.prog 40 #[.string s] w fun e w' => ∃ u, e = .returned u ∧ w'.ownsRow w.heap.size 9 1 u (blanksT s).length ((blanksT s).map Value.string) ∧ Below w.heap.size w w' := by
  obtain ⟨ok, hok⟩ : ∃ ok, okText s = ok := ⟨_, rfl⟩
  cases ok with
  | false =>
    have HR := hid (show blanksT s = [] by unfold blanksT; rw [hok]; rfl)
    have HO := hid hok
    clear hok
    go_enter Tryd.func40, Tryd.ntmps40
    go_wp2_with fail
    refine (implTextOk s _ hT).mono ?_
    rintro e w1 ⟨rfl, hb1⟩
    rw [HO.out]
    go_wp2
    go_ret
    rw [HR.out]
    exact ⟨_, rfl, ⟨rfl, Or.inl ⟨rfl, rfl⟩⟩, hb1⟩
  | true =>
    have hsz := ok_size hok
    have hf : Lib.goFieldsP isBlN s = blanksT s := by
      unfold blanksT
      rw [hok, fields_words hok]; rfl
    have CF : ∀ w, Calls Tryd.prog 71 #[.string s, .func (.func 72) #[] #[]] w fun e w' => ∃ A, e = .returned (.slice (some ⟨A, 0, none⟩) (blanksT s).length (blanksT s).length) ∧ w.heap.size ≤ A ∧
      w'.ownsRow w.heap.size 9 1 (.slice (some ⟨A, 0, none⟩) (blanksT s).length (blanksT s).length) (blanksT s).length ((blanksT s).map Value.string) ∧ Below w.heap.size w w' := fun w => by
      have := Tryd.strings_FieldsFunc_grows 72 #[] (enters_of Tryd.func72 (by kernel_rfl) rfl) isBlN s w (by omega) (closure_pays w)
      rw [hf] at this
      exact this
    have HO := hid hok
    clear hok hf
    go_enter Tryd.func40, Tryd.ntmps40
    go_wp2_with fail
    refine (implTextOk s _ hT).mono ?_
    rintro e w1 ⟨rfl, hb1⟩
    rw [HO.out]
    go_wp2_with (go_at_call 71; refine (CF _).mono ?_; rintro e w2 ⟨A, rfl, hA, hown, hb2⟩)
    go_ret
    refine ⟨_, rfl, ?_, ext_trans hb1 hb2⟩
    obtain ⟨q1, q2⟩ := hown
    refine ⟨q1, ?_⟩
    rcases q2 with h | ⟨g, cap, cur, h1, h2, h3⟩
    · exact Or.inl h
    · exact Or.inr ⟨g, cap, cur, h1, Nat.le_trans hb1.size h2, h3⟩
set_option maxHeartbeats 400000 in
theorem sameTexts_same {v u : Value} {xs : List ByteArray} (w : World) (h : Rd.rd (Old w) w [v] xs) (h' : Rd.rd (Old w) w [u] xs) :
    Calls Tryd.prog 41 #[v, u] w fun e w' => e = .returned (.bool true) ∧ Below w.heap.size w w' := by
  obtain ⟨a, cap, rfl, h1, h2, hc⟩ := rdStrs h
  obtain ⟨a', cap', rfl, h1', h2', hc'⟩ := rdStrs h'
  clear h h'
  go_enter Tryd.func41, Tryd.ntmps41
  go_wp2
  go_loopw [5] (fun i wr => ∃ k : Nat, k ≤ xs.length ∧ i = .int .i64 k ∧ Below w.heap.size w wr) (fun i _ => xs.length - (intOf i).toNat)
  case atStart => exact ⟨0, Nat.zero_le _, rfl, Below.refl _ _⟩
  case round =>
    obtain ⟨k, hk, rfl, hb⟩ := hrel
    by_cases hlt : k < xs.length
    · obtain ⟨b, off, rfl, hB, hcell⟩ := hc (by omega)
      obtain ⟨b', off', rfl, hB', hcell'⟩ := hc' (by omega)
      have hce : wr.cell? ⟨b, off + k, none⟩ = some (.string xs[k]) := (hb.cell (p := ⟨b, off + k, none⟩) hB).trans (hcell k hlt).1
      have hce' : wr.cell? ⟨b', off' + k, none⟩ = some (.string xs[k]) := (hb.cell (p := ⟨b', off' + k, none⟩) hB').trans (hcell' k hlt).1
      clear hcell hc hcell' hc'
      have hi1 : (0 : Int) ≤ k := by omega
      have hi2 : (k : Int) < xs.length := by omega
      go_wp2
      go_quiet (fail)
      go_wp2
      go_roundw
      case rel => exact ⟨k + 1, by omega, by go_num, by first | exact hb | exact hb.drew | (rename_i nq _; first | exact below_drewN hb _ | exact below_drewN' hb _)⟩
      case measure => simp [intOf]; omega
    · have : k = xs.length := by omega
      subst this
      clear hc hc'
      go_wp2
      go_ret
      exact ⟨rfl, hb⟩

end Go.Proofs.YtojonbdkijnbnaaDoor
