/-
  What is proved here: impl.csvCell writes a cell. The condition 'Mx' says that the library's MaxLen holds an int.
-/
import Derived.Test.YtommldonooicjaaDoorCsvI6
import Derived.Test.YtommldonooicjaaDoorCsvLaw
import Derived.Lib.Replace
import Derived.Lib.SplitLaws
namespace Go.Proofs.YtommldonooicjaaDoor
open Go.RowKit
set_option linter.unusedVariables false
set_option linter.unusedSimpArgs false

theorem idx34_ne {b : UInt8} (l : List UInt8) (h : b ≠ 34) : Lib.index (b :: l) [34] = if Lib.index l [34] == -1 then -1 else Lib.index l [34] + 1 := by
  rw [Lib.index, if_neg]
  simp only [List.isPrefixOf, Bool.and_true]
  intro e
  exact h (beq_iff_eq.1 e).symm
theorem idx34_eq (l : List UInt8) : Lib.index (34 :: l) [34] = ((0 : Nat) : Int) := by
  rw [Lib.index, if_pos (by simp [List.isPrefixOf])]
  rfl
theorem rep_ne {b : UInt8} (new : List UInt8) (h : b ≠ 34) : ∀ (k : Nat) (l : List UInt8), Lib.replaceK [34] new k (b :: l) = b :: Lib.replaceK [34] new k l
  | 0, l => by rw [Lib.replaceK, Lib.replaceK]
  | k + 1, l => by
    have hg := Lib.index_ge l [34]
    by_cases hm : Lib.index l [34] = -1
    · have e : (Lib.index (b :: l) [34] == -1) = true := by rw [idx34_ne l h, hm]; rfl
      have e2 : (Lib.index l [34] == -1) = true := by rw [hm]; rfl
      rw [Lib.replaceK, if_pos e, Lib.replaceK, if_pos e2]
    · obtain ⟨i, hi⟩ : ∃ i : Nat, Lib.index l [34] = i := ⟨(Lib.index l [34]).toNat, by omega⟩
      have e : Lib.index (b :: l) [34] = ((i + 1 : Nat) : Int) := by
        rw [idx34_ne l h, if_neg (by simpa using hm), hi]
        omega
      rw [Lib.replaceK_hit _ _ _ _ _ e, Lib.replaceK_hit _ _ _ _ _ hi]
      simp
theorem rep_eq (new : List UInt8) (k : Nat) (l : List UInt8) : Lib.replaceK [34] new (k + 1) (34 :: l) = new ++ Lib.replaceK [34] new k l := by
  rw [Lib.replaceK_hit _ _ _ _ _ (idx34_eq l)]
  simp
theorem rep_esc : ∀ l : List UInt8, Lib.replaceK [34] [34, 34] (Lib.count l [34]) l = escQ l
  | [] => by rw [escQ]; cases Lib.count [] [34] <;> rfl
  | b :: l => by
    by_cases h : b = 34
    · subst h
      rw [Lib.count_cons_eq, Nat.add_comm, rep_eq, rep_esc l, escQ, if_pos rfl]
      rfl
    · rw [Lib.count_cons_ne b 34 l h, rep_ne _ h, rep_esc l, escQ, if_neg h]
theorem replace_esc (l : List UInt8) : Lib.replaceAll l [34] [34, 34] = escQ l := by
  unfold Lib.replaceAll Lib.replace Lib.replaceNum
  rw [if_neg (by decide), if_pos (Or.inl (by decide))]
  exact rep_esc l
theorem has_spc (s : ByteArray) : hasAny s ⟨#[44, 34, 10, 13]⟩ = s.data.toList.any spc := by
  unfold hasAny
  congr 1
  funext b
  unfold spc
  rw [Bool.eq_iff_iff]
  simp
theorem str_app (a b : ByteArray) : (a ++ b).data.toList = a.data.toList ++ b.data.toList := by rw [ByteArray.data_append, Array.toList_append]
theorem escQ_len : ∀ l : List UInt8, (escQ l).length ≤ 2 * l.length
  | [] => Nat.le_refl _
  | c :: r => by
    have := escQ_len r
    rw [escQ]
    split <;> simp only [List.length_cons] <;> omega
theorem ba_eq (a : ByteArray) (l : List UInt8) (h : a.data.toList = l) : a = mkB l := by
  subst h
  rfl
def Mx (w : World) : Prop := ∃ m : Int, w.cell? ⟨2, 0, none⟩ = some (.int .i64 m)
theorem mx_below {w w' : World} (h : Mx w) (hb : Below w.heap.size w w') : Mx w' := by
  obtain ⟨m, hm⟩ := h
  exact ⟨m, keeps_cells hb _ _ hm⟩
set_option maxHeartbeats 4000000 in
set_option maxRecDepth 100000 in
theorem implCsvCellT (s : ByteArray) (w : World) (hs : s.size ≤ 1000000) (hM : Mx w) :
    Calls Tryd.prog 42 #[.string s] w fun e w' => e = .returned (.string (mkB (cellT s.data.toList))) ∧ Below w.heap.size w w' := by
  have CA := hid (implContainsAny s ⟨#[44, 34, 10, 13]⟩ w (by decide) (by decide) (by decide) hs)
  rw [has_spc] at CA
  have CR : ∀ w1, Below w.heap.size w w1 → Calls Tryd.prog 76 #[.string s, .string ⟨#[34]⟩, .string ⟨#[34, 34]⟩] w1 fun e w' => e = .returned (.string ⟨(escQ s.data.toList).toArray⟩) ∧ Below w1.heap.size w1 w' := by
    intro w1 hb
    obtain ⟨m, hm⟩ := mx_below hM hb
    have hc := Lib.countB_le ⟨#[34]⟩ (by decide) s.size s (Nat.le_refl _)
    have h2 : (⟨#[34, 34]⟩ : ByteArray).size = 2 := rfl
    have := Tryd.strings_ReplaceAll s ⟨#[34]⟩ ⟨#[34, 34]⟩ m w1 (by omega) hm (by decide) (by rw [h2]; omega)
    rw [show (⟨#[34]⟩ : ByteArray).data.toList = [34] from rfl, show (⟨#[34, 34]⟩ : ByteArray).data.toList = [34, 34] from rfl, replace_esc] at this
    exact this
  have HCR := hid CR
  clear CR
  cases hq : s.data.toList.any spc with
  | false =>
    have HR := hid (show mkB (cellT s.data.toList) = s by unfold cellT; rw [hq]; rfl)
    rw [hq] at CA
    clear hq
    go_enter Tryd.func42, Tryd.ntmps42
    go_wp2_with fail
    refine CA.out.mono ?_
    rintro e w1 ⟨rfl, hb⟩
    have HB := hid hb
    clear hb
    go_wp2
    go_ret
    exact ⟨by rw [HR.out] <;> rfl, HB.out⟩
  | true =>
    have HR := hid (show mkB (cellT s.data.toList) = mkB (34 :: (escQ s.data.toList ++ [34])) by unfold cellT; rw [if_pos hq])
    rw [hq] at CA
    obtain ⟨l, hl⟩ : ∃ l, escQ s.data.toList = l := ⟨_, rfl⟩
    rw [hl] at HR HCR
    have hll : l.length ≤ 2000000 := by
      have := escQ_len s.data.toList
      rw [hl, ← Lib.size_eq] at this
      omega
    have y1 : ¬ 9223372036854775807 < 1 + l.length := by omega
    have y2 : ¬ 9223372036854775807 < 1 + l.length + 1 := by omega
    have x1 : ¬ 1 + l.length > 9223372036854775807 := by omega
    have x2 : ¬ 1 + l.length + 1 > 9223372036854775807 := by omega
    clear hll
    clear hq hl
    go_enter Tryd.func42, Tryd.ntmps42
    go_wp2_with fail
    refine CA.out.mono ?_
    rintro e w1 ⟨rfl, hb⟩
    have HB := hid hb
    clear hb
    go_wp2_with fail
    refine (HCR.out _ HB.out).mono ?_
    rintro e w2 ⟨rfl, hb2⟩
    have HB2 := hid (ext_trans HB.out hb2)
    clear hb2
    go_wp2
    have HV := hid (ba_eq ((⟨#[34]⟩ : ByteArray) ++ ⟨l.toArray⟩ ++ ⟨#[34]⟩) (34 :: (l ++ [34])) (by simp [str_app]))
    refine bodyPost_ret (v := .string ((⟨#[34]⟩ : ByteArray) ++ ⟨l.toArray⟩ ++ ⟨#[34]⟩)) (by simp [results, Tryd.results42, go_sem]) rfl ⟨by rw [HR.out, HV.out], HB2.out⟩
end Go.Proofs.YtommldonooicjaaDoor
