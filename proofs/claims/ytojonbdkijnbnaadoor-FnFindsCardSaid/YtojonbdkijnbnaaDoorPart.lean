/-
  What is proved here: impl.Part, spec.Part and spec.l01Text return the bytes of the chosen code points. The condition 'Tabs' says that the library's tables for UTF-8 lie in the world.
-/
import Derived.Test.YtojonbdkijnbnaaDoorTextOf
import Derived.Lib.ConvBytes
import Derived.Laws.IdiomStrings
namespace Go.Proofs.YtojonbdkijnbnaaDoor
open Go.RowKit
set_option linter.unusedVariables false
set_option linter.unusedSimpArgs false

def selB (f c : Int) (i : Nat) : Bool := decide (f ≤ (i : Int) + 1) && decide (0 < c) && decide ((i : Int) + 1 - c < f)
def partK (rs : List Nat) (f c : Int) (k : Nat) : List Nat := ((List.range k).filter (selB f c)).map (fun i => rs.getD i 0)
def partL (rs : List Nat) (f c : Int) : List Nat := partK rs f c rs.length
theorem partK_yes {rs : List Nat} {f c : Int} {k : Nat} (h : selB f c k = true) (hk : k < rs.length) : partK rs f c (k + 1) = partK rs f c k ++ [rs[k]] := by
  unfold partK
  rw [List.range_succ, List.filter_append, List.map_append]
  simp [h, List.getD_eq_getElem?_getD, List.getElem?_eq_getElem hk]
theorem partK_no {rs : List Nat} {f c : Int} {k : Nat} (h : selB f c k = false) : partK rs f c (k + 1) = partK rs f c k := by
  unfold partK
  rw [List.range_succ, List.filter_append, List.map_append]
  simp [h]
theorem partK_len (rs : List Nat) (f c : Int) (k : Nat) : (partK rs f c k).length ≤ k := by
  unfold partK
  rw [List.length_map]
  exact Nat.le_trans (List.length_filter_le _ _) (by simp)
theorem partK_none {rs : List Nat} {f c : Int} (h : c < 1) (k : Nat) : partK rs f c k = [] := by
  unfold partK
  have : (List.range k).filter (selB f c) = [] := by
    rw [List.filter_eq_nil_iff]
    intro i _
    unfold selB
    rw [decide_eq_false (show ¬ 0 < c by omega)]
    simp
  rw [this]; rfl
theorem partK_pt {rs : List Nat} {f c : Int} (h : ∀ x ∈ rs, isPt x) {k : Nat} (hk : k ≤ rs.length) : ∀ x ∈ partK rs f c k, isPt x := by
  intro x hx
  unfold partK at hx
  obtain ⟨i, hi, rfl⟩ := List.mem_map.1 hx
  have := (List.mem_filter.1 hi).1
  rw [List.mem_range] at this
  rw [List.getD_eq_getElem?_getD, List.getElem?_eq_getElem (show i < rs.length by omega)]
  exact h _ (List.getElem_mem _)
def partT (s : ByteArray) (f c : Int) : ByteArray := if okText s then mkB (texts (partL (runesN s.data.toList) f c)) else ⟨#[]⟩
theorem ok_pts {s : ByteArray} (h : okText s = true) : (∀ c ∈ runesN s.data.toList, isPt c) ∧ (runesN s.data.toList).length ≤ 1000 := by
  obtain ⟨h1, h2, h3⟩ := ok_runes h
  exact ⟨(runesAll_len _ _ _ rfl h1).2.1, by omega⟩

theorem info_intP : (Tryd.prog.info? 3).map (fun i => (i.zero, i.size, i.bytes)) = some (some (.int .i64 0), 1, 8) := by kernel_rfl
set_option maxHeartbeats 4000000 in
set_option maxRecDepth 100000 in
theorem implPart (s : ByteArray) (f c : Int) (w : World) (hT : Tabs w) (hf : -9223372036854775808 ≤ f ∧ f ≤ 9223372036854775807) (hc : -9223372036854775808 ≤ c ∧ c ≤ 9223372036854775807) :
    Calls Tryd.prog 33 #[.string s, .int .i64 f, .int .i64 c] w fun e w' => e = .returned (.string (partT s f c)) ∧ Below w.heap.size w w' := by
  obtain ⟨i0, hi, hz0, hz1, hz2⟩ := info_parts info_intP
  obtain ⟨ok, hok⟩ : ∃ ok, textOk s.data.toList = ok := ⟨_, rfl⟩
  have hok' : okText s = ok := hok
  cases ok with
  | false =>
    have HR := hid (show partT s f c = ⟨#[]⟩ by unfold partT; rw [hok']; rfl)
    have HO := hid hok
    clear hok hok' hi hz0 hz1 hz2
    go_enter Tryd.func33, Tryd.ntmps33
    go_wp2_with fail
    refine (implRunesOf s _ hT).mono ?_
    rintro e w1 ⟨u, rfl, hown, hb1⟩
    rw [HO.out]
    clear hown
    go_wp2
    go_ret
    rw [HR.out]
    exact ⟨rfl, hb1⟩
  | true =>
    obtain ⟨hpt, hlen⟩ := ok_pts hok'
    have HR := hid (show partT s f c = mkB (texts (partL (runesN s.data.toList) f c)) by unfold partT; rw [hok']; rfl)
    have HO := hid hok
    have HP := hid hpt
    clear hok hok' hpt
    obtain ⟨rs, hrs⟩ : ∃ rs, runesN s.data.toList = rs := ⟨_, rfl⟩
    rw [hrs] at HR HP hlen
    have HRS := hid hrs
    clear hrs
    go_enter Tryd.func33, Tryd.ntmps33
    go_wp2_with fail
    refine (implRunesOf s _ hT).mono ?_
    rintro e w1 ⟨u, rfl, hown, hb1⟩
    rw [HO.out]
    rw [HRS.out] at hown
    obtain ⟨a, cap, rfl, hcell⟩ := own_ints hown
    clear hown
    go_wp2
    go_loopw [9, 22] (fun out i wr => ∃ k : Nat, k ≤ rs.length ∧ i = .int .i64 k ∧ wr.ownsRow w1.heap.size 3 1 out (partK rs f c k).length (intVals (partK rs f c k)) ∧ Below w1.heap.size w1 wr) (fun _ i _ => rs.length - (intOf i).toNat)
    case atStart => exact ⟨0, Nat.zero_le _, rfl, own_nil _ _ _, Below.refl _ _⟩
    case round =>
      obtain ⟨k, hk, rfl, hown, hb⟩ := hrel
      by_cases hlt : k < rs.length
      · obtain ⟨b, rfl, hbl, hce0⟩ := hcell (by omega)
        have hce : wr.cell? ⟨b, k, none⟩ = some (.int .i64 (rs[k] : Int)) := (hb.cell hbl).trans (hce0 k hlt)
        obtain ⟨x, hx⟩ : ∃ x, rs[k] = x := ⟨_, rfl⟩
        rw [hx] at hce
        clear hce0 hcell
        obtain ⟨b1, hb1'⟩ : ∃ b1, selB f c k = b1 := ⟨_, rfl⟩
        cases b1 with
        | true =>
          have HK := hid (show partK rs f c (k + 1) = partK rs f c k ++ [x] by rw [partK_yes hb1' hlt, hx])
          unfold selB at hb1'
          simp only [Bool.and_eq_true, decide_eq_true_eq] at hb1'
          obtain ⟨⟨t1, t2⟩, t3⟩ := hb1'
          have hl1 := partK_len rs f c k
          clear hx
          go_wp2_with ((at_builtin; refine wpList_append_own _ rfl _ _ 53 rfl w1.heap.size 3 i0 (.int .i64 0) 1 8 Tryd.underlying53 hi hz0 hz1 hz2 rfl (by decide) _ _ _ rfl (hown.alloc _) ⟨wr.heap.size, 0, none⟩ 1 1 [.int .i64 (x : Int)] rfl rfl ?c1 ?c2 ?c3 ?c4 ?c5 ?_))
          case c1 => exact cell_one_new _ _ _
          case c2 => intro u hu; simp at hu; subst hu; rfl
          case c3 => unfold maxLen; omega
          case c4 => omega
          case c5 => simp; exact Nat.le_trans hb.size (by omega)
          intro v' w2 hown2 hgrow _
          have hlt' := (hown.alloc (.cells #[.int .i64 (x : Int)] 3)).lt
          have hB2 : Below w1.heap.size w1 w2 := (ext_trans hb (ext_alloc _ _)).grown hgrow (ext_trans hb (ext_alloc _ _)).size (fun q hq => (hlt' q hq).1)
          clear hi hz0 hz1 hz2 hgrow hown hlt' t1 t2 t3
          go_wp2
          go_roundw
          case rel => exact ⟨k + 1, by omega, by go_num, by rw [HK.out, intVals_snoc, List.length_append]; exact hown2, hB2⟩
          case measure => simp [intOf]; omega
        | false =>
          have HK := hid (show partK rs f c (k + 1) = partK rs f c k from partK_no hb1')
          unfold selB at hb1'
          clear hi hz0 hz1 hz2
          by_cases t1 : f ≤ (k : Int) + 1
          · rw [decide_eq_true t1] at hb1'
            by_cases t2 : 0 < c
            · rw [decide_eq_true t2] at hb1'
              have t3 : ¬ (k : Int) + 1 - c < f := by simpa using hb1'
              clear hb1'
              go_wp2
              go_roundw
              case rel => exact ⟨k + 1, by omega, by go_num, by rw [HK.out]; exact hown, hb⟩
              case measure => simp [intOf]; omega
            · clear hb1'
              go_wp2
              go_roundw
              case rel => exact ⟨k + 1, by omega, by go_num, by rw [HK.out]; exact hown, hb⟩
              case measure => simp [intOf]; omega
          · clear hb1'
            go_wp2
            go_roundw
            case rel => exact ⟨k + 1, by omega, by go_num, by rw [HK.out]; exact hown, hb⟩
            case measure => simp [intOf]; omega
      · have hkk : k = rs.length := by omega
        subst hkk
        have hl := partK_len rs f c rs.length
        have hp := partK_pt (f := f) (c := c) HP.out (Nat.le_refl _)
        have HPP := hid hp
        clear hp hcell hi hz0 hz1 hz2
        go_wp2_with (go_at_call 65; refine (implTextOf0 _ hown HPP.out (by omega)).mono ?_; rintro e w2 ⟨rfl, hb2⟩)
        go_ret
        rw [HR.out]
        exact ⟨rfl, ext_trans (ext_trans hb1 hb) hb2⟩
end Go.Proofs.YtojonbdkijnbnaaDoor
