/-
  What is proved here: CsvText of impl; a cell written by spec. The conditions 'Tabs' and 'Mx' speak of the library's tables and of its MaxLen.
-/
import Derived.Test.YtommldonooicjaaDoorCsvI10
namespace Go.Proofs.YtommldonooicjaaDoor
open Go.RowKit
set_option linter.unusedVariables false
set_option linter.unusedSimpArgs false

set_option maxHeartbeats 1000000 in
theorem implCsvText {v : Value} {xs : List CsvRow} (w : World) (hT : Tabs w) (hM : Mx w) (h : Rd.rd (Old w) w [v] xs) (hn : xs.length ≤ 1000000) :
    Calls Tryd.prog 19 #[v] w fun e w' => TextRes (csvT (xs.map rowL)) e ∧ Below w.heap.size w w' := by
  have C := hid (implRowsText w hT hM h hn)
  obtain ⟨o, ho⟩ : ∃ o, csvT (xs.map rowL) = o := ⟨_, rfl⟩
  rw [ho] at C ⊢
  clear hT hM h ho
  go_enter Tryd.func19, Tryd.ntmps19
  go_wp2_with fail
  refine C.out.mono ?_
  rintro e w1 ⟨he, hb⟩
  obtain rfl : e = _ := he
  go_wp2
  go_ret2
  exact ⟨rfl, hb⟩
theorem take_succ_get {l : List UInt8} {k : Nat} (h : k < l.length) : l.take (k + 1) = l.take k ++ [l[k]] := by
  rw [List.take_add_one, List.getElem?_eq_getElem h]
  rfl
theorem escQ_one (l : List UInt8) (c : UInt8) : escQ (l ++ [c]) = escQ l ++ (if c = 34 then [34, 34] else [c]) := by
  rw [escQ_app]
  congr 1
theorem byte_ext (s : ByteArray) (k : Nat) (h : k < s.size) : s.extract k (k + 1) = mkB [s[k]'h] := by
  apply ba_eq
  rw [ByteArray.data_extract, Array.toList_extract, List.extract_eq_take_drop]
  have hl : k < s.data.toList.length := by rw [← Lib.size_eq]; exact h
  rw [show k + 1 - k = 1 by omega, List.drop_eq_getElem_cons hl, List.take_succ_cons, List.take_zero]
  rfl
theorem str_cat (a b : List UInt8) : (mkB a ++ mkB b) = mkB (a ++ b) := ba_eq _ _ (by rw [str_app, mkB_data, mkB_data])
set_option maxHeartbeats 16000000 in
set_option maxRecDepth 100000 in
theorem specCellT (s : ByteArray) (w : World) (hs : s.size ≤ 1000000) :
    Calls Tryd.prog 44 #[.string s] w fun e w' => e = .returned (.string (mkB (cellT s.data.toList))) ∧ Below w.heap.size w w' := by
  obtain ⟨l, hl⟩ : ∃ l, s.data.toList = l := ⟨_, rfl⟩
  have hsl : s.size = l.length := by rw [← hl, Lib.size_eq]
  have HG := hid (show ∀ (k : Nat) (h : k < s.size) (h2 : k < l.length), l[k] = s[k]'h by subst hl; intro k h h2; rfl)
  rw [hl]
  clear hl
  have HSL := hid hsl
  clear hsl
  go_enter Tryd.func44, Tryd.ntmps44
  go_wp2
  go_loopw [3, 4, 5] (fun o q i wr => ∃ k : Nat, k ≤ s.size ∧ i = .int .i64 (k : Int) ∧ o = .string (mkB (escQ (l.take k))) ∧ q = .bool ((l.take k).any spc) ∧ Below w.heap.size w wr) (fun _ _ i _ => s.size - (intOf i).toNat)
  case atStart => exact ⟨0, Nat.zero_le _, rfl, rfl, rfl, Below.refl _ _⟩
  case round =>
    obtain ⟨k, hk, rfl, rfl, rfl, hb⟩ := hrel
    by_cases hlt : k < s.size
    · have hkl : k < l.length := by rw [← HSL.out]; exact hlt
      have htk := take_succ_get hkl
      rw [HG.out k hlt hkl] at htk
      have hbx := byte_ext s k hlt
      have hle := escQ_len (l.take k)
      rw [List.length_take] at hle
      obtain ⟨c, hc⟩ : ∃ c, s[k]'hlt = c := ⟨_, rfl⟩
      have HIX := hid (show (s[k]'hlt : UInt8).toNat = c.toNat by rw [hc])
      rw [hc] at htk hbx
      have HE := hid (show escQ (l.take (k + 1)) = escQ (l.take k) ++ (if c = 34 then [34, 34] else [c]) by rw [htk, escQ_one])
      have HQ := hid (show (l.take (k + 1)).any spc = ((l.take k).any spc || spc c) by rw [htk, List.any_append]; simp)
      obtain ⟨E, hE⟩ : ∃ E, escQ (l.take k) = E := ⟨_, rfl⟩
      obtain ⟨Q, hQ⟩ : ∃ Q, (l.take k).any spc = Q := ⟨_, rfl⟩
      rw [hE] at HE hle ⊢
      rw [hQ] at HQ ⊢
      have hki : (k : Int) < (s.size : Int) := by omega
      have hk0 : (0 : Int) ≤ (k : Int) := by omega
      have hk1 : (0 : Int) ≤ (k : Int) + 1 := by omega
      have hk2 : (k : Int) + 1 ≤ (s.size : Int) := by omega
      have hk3 : (k : Int) ≤ (k : Int) + 1 := by omega
      clear hE hQ htk hkl hc
      by_cases h44 : c = 44
      · subst h44
        have hix : (s[k]'hlt : UInt8).toNat = 44 := HIX.out
        have z1 : ¬ 9223372036854775807 < (mkB E).size + (mkB [44]).size := by rw [mkB_size, mkB_size]; simp only [List.length_cons, List.length_nil]; omega
        clear hle
        go_wp2
        go_roundw
        case rel => exact ⟨k + 1, by omega, by go_num, by rw [HE.out, if_neg (by decide), ← str_cat], by rw [HQ.out]; cases Q <;> rfl, hb⟩
        case measure => simp [intOf]; omega
      by_cases h34 : c = 34
      · subst h34
        have hix : (s[k]'hlt : UInt8).toNat = 34 := HIX.out
        have z0 : ¬ 9223372036854775807 < (mkB E).size + 1 := by rw [mkB_size]; omega
        have z1 : ¬ 9223372036854775807 < (mkB E).size + 1 + (mkB [34]).size := by rw [mkB_size, mkB_size]; simp only [List.length_cons, List.length_nil]; omega
        clear hle
        go_wp2
        go_roundw
        case rel => exact ⟨k + 1, by omega, by go_num, by rw [HE.out, if_pos rfl, ← str_cat, show mkB [34, 34] = mkB [34] ++ mkB [34] from rfl, ← ByteArray.append_assoc] <;> rfl, by rw [HQ.out]; cases Q <;> rfl, hb⟩
        case measure => simp [intOf]; omega
      by_cases h10 : c = 10
      · subst h10
        have hix : (s[k]'hlt : UInt8).toNat = 10 := HIX.out
        have z1 : ¬ 9223372036854775807 < (mkB E).size + (mkB [10]).size := by rw [mkB_size, mkB_size]; simp only [List.length_cons, List.length_nil]; omega
        clear hle
        go_wp2
        go_roundw
        case rel => exact ⟨k + 1, by omega, by go_num, by rw [HE.out, if_neg (by decide), ← str_cat], by rw [HQ.out]; cases Q <;> rfl, hb⟩
        case measure => simp [intOf]; omega
      by_cases h13 : c = 13
      · subst h13
        have hix : (s[k]'hlt : UInt8).toNat = 13 := HIX.out
        have z1 : ¬ 9223372036854775807 < (mkB E).size + (mkB [13]).size := by rw [mkB_size, mkB_size]; simp only [List.length_cons, List.length_nil]; omega
        clear hle
        go_wp2
        go_roundw
        case rel => exact ⟨k + 1, by omega, by go_num, by rw [HE.out, if_neg (by decide), ← str_cat], by rw [HQ.out]; cases Q <;> rfl, hb⟩
        case measure => simp [intOf]; omega
      have hix : (s[k]'hlt : UInt8).toNat = c.toNat := HIX.out
      have q44 : ((c.toNat : Int) == 44) = false := by rw [beq_eq_false_iff_ne]; intro h; exact h44 (UInt8.toNat_inj.1 (by show c.toNat = 44; omega))
      have q34 : ((c.toNat : Int) == 34) = false := by rw [beq_eq_false_iff_ne]; intro h; exact h34 (UInt8.toNat_inj.1 (by show c.toNat = 34; omega))
      have q10 : ((c.toNat : Int) == 10) = false := by rw [beq_eq_false_iff_ne]; intro h; exact h10 (UInt8.toNat_inj.1 (by show c.toNat = 10; omega))
      have q13 : ((c.toNat : Int) == 13) = false := by rw [beq_eq_false_iff_ne]; intro h; exact h13 (UInt8.toNat_inj.1 (by show c.toNat = 13; omega))
      have z1 : ¬ 9223372036854775807 < (mkB E).size + (mkB [c]).size := by rw [mkB_size, mkB_size]; simp only [List.length_cons, List.length_nil]; omega
      have HSP := hid (show spc c = false by unfold spc; simp [h44, h34, h10, h13])
      have HE2 := hid (show escQ (l.take (k + 1)) = E ++ [c] by rw [HE.out, if_neg h34])
      clear hle h44 h34 h10 h13
      go_wp2
      go_roundw
      case rel => exact ⟨k + 1, by omega, by go_num, by rw [HE2.out, ← str_cat], by rw [HQ.out, HSP.out, Bool.or_false], hb⟩
      case measure => simp [intOf]; omega
    · obtain rfl : k = s.size := by omega
      have e1 : l.take s.size = l := by rw [HSL.out, List.take_length]
      rw [e1]
      have hki : ¬ (s.size : Int) < (s.size : Int) := by omega
      have hle := escQ_len l
      rw [← HSL.out] at hle
      cases hq : l.any spc with
      | false =>
        have HR := hid (show mkB (cellT l) = mkB l by unfold cellT; rw [hq]; rfl)
        have HEE := hid (show escQ l = l from escQ_same (fun c hc e => by
          have h9 : l.any spc = true := List.any_eq_true.2 ⟨c, hc, by rw [e]; rfl⟩
          rw [hq] at h9; cases h9))
        clear hq hle
        go_wp2
        go_ret
        exact ⟨by rw [HR.out, HEE.out] <;> rfl, hb⟩
      | true =>
        have HR := hid (show mkB (cellT l) = mkB (34 :: (escQ l ++ [34])) by unfold cellT; rw [if_pos hq])
        obtain ⟨E, hE⟩ : ∃ E, escQ l = E := ⟨_, rfl⟩
        rw [hE] at HR hle ⊢
        have z0 : ¬ 9223372036854775807 < 1 + (mkB E).size := by rw [mkB_size]; omega
        have z1 : ¬ 9223372036854775807 < 1 + (mkB E).size + 1 := by rw [mkB_size]; omega
        have HV := hid (ba_eq ((⟨#[34]⟩ : ByteArray) ++ mkB E ++ ⟨#[34]⟩) (34 :: (E ++ [34])) (by rw [str_app, str_app, mkB_data]; rfl))
        clear hq hE hle
        go_wp2
        refine bodyPost_ret (v := .string ((⟨#[34]⟩ : ByteArray) ++ mkB E ++ ⟨#[34]⟩)) (by simp [results, Tryd.results44, go_sem]) rfl ⟨by rw [HR.out, HV.out], hb⟩
end Go.Proofs.YtommldonooicjaaDoor
