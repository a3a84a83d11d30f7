/-
  What is proved here: the reference's Runes and TextOk. No condition.
-/
import Derived.Test.YtlfkfofeenakhaaDoorTextS
namespace Go.Proofs.YtlfkfofeenakhaaDoor
open Go.RowKit
set_option linter.unusedVariables false
set_option linter.unusedSimpArgs false

/-- the code points of a text, none where it is none -/
def runesN (l : List UInt8) : List Nat := (runes? l).getD []
def intVals (rs : List Nat) : List Value := rs.map fun (c : Nat) => Value.int .i64 (c : Int)
theorem intVals_length (rs : List Nat) : (intVals rs).length = rs.length := by simp [intVals]
theorem intVals_snoc (rs : List Nat) (c : Nat) : intVals (rs ++ [c]) = intVals rs ++ [.int .i64 (c : Int)] := by simp [intVals]
theorem runes_some {l : List UInt8} {rs : List Nat} (h : l.length ≤ 1000) (hr : runesAll l = some rs) : runesN l = rs ∧ textOk l = true := by
  unfold runesN textOk runes?
  rw [if_pos h, hr]
  exact ⟨rfl, rfl⟩
theorem runes_none {l : List UInt8} (hr : ¬ l.length ≤ 1000 ∨ runesAll l = none) : runesN l = [] ∧ textOk l = false := by
  unfold runesN textOk runes?
  by_cases h : l.length ≤ 1000
  · rw [if_pos h]
    rcases hr with hr | hr
    · exact absurd h hr
    · rw [hr]; exact ⟨rfl, rfl⟩
  · rw [if_neg h]; exact ⟨rfl, rfl⟩

theorem own_none {w : World} {base : Nat} (h : base ≤ w.heap.size) (e : TypeId) : (w.alloc (.cells #[] e)).ownsRow base e 1 (.slice (some ⟨w.heap.size, 0, none⟩) 0 0) 0 [] := World.ownsRow_lit w #[] 0 h (by decide) rfl
theorem info_int : (Tryd.prog.info? 3).map (fun i => (i.zero, i.size, i.bytes)) = some (some (.int .i64 0), 1, 8) := by kernel_rfl
set_option maxHeartbeats 2000000 in
theorem specRunes (s : ByteArray) (w : World) :
    Calls Tryd.prog 61 #[.string s] w fun e w' => ∃ u, e = .returned (.tuple #[u, .bool (textOk s.data.toList)]) ∧ w'.ownsRow w.heap.size 3 1 u (runesN s.data.toList).length (intVals (runesN s.data.toList)) ∧ Below w.heap.size w w' := by
  obtain ⟨l, hl⟩ : ∃ l, s.data.toList = l := ⟨_, rfl⟩
  have hsl : s.size = l.length := by rw [Lib.size_eq, hl]
  rw [hl]
  obtain ⟨i0, hi, hz0, hz1, hz2⟩ := info_parts info_int
  by_cases hbig : (1000 : Int) < s.size
  · obtain ⟨e1, e2⟩ := runes_none (l := l) (Or.inl (by omega))
    rw [e1, e2]
    clear hi hz0 hz1 hz2 e1 e2
    go_enter Tryd.func61, Tryd.ntmps61
    go_wp2
    go_ret2
    exact ⟨_, rfl, own_none (Nat.le_refl _) _, ext_alloc _ _⟩
  · have HL := hid hl
    have HSL := hid hsl
    clear hl hsl
    have hlen : l.length ≤ 1000 := by have := HSL.out; omega
    have hsz : s.size ≤ 1000 := by omega
    go_enter Tryd.func61, Tryd.ntmps61
    go_wp2
    go_loopw [4, 5] (fun out at' wr => ∃ (k : Nat) (rs : List Nat), k ≤ s.size ∧ at' = .int .i64 k ∧ Hid (runesAll l = (runesAll (l.drop k)).map (rs ++ ·)) ∧ wr.ownsRow w.heap.size 3 1 out rs.length (intVals rs) ∧ Below w.heap.size w wr ∧ rs.length ≤ k) (fun _ at' _ => s.size - (intOf at').toNat)
    case atStart => exact ⟨0, [], Nat.zero_le _, rfl, by show runesAll l = _; simp, own_none (Nat.le_refl _) _, ext_alloc _ _, Nat.le_refl _⟩
    case round =>
      obtain ⟨k, rs, hk, rfl, HR, hown, hb, hrk⟩ := hrel
      by_cases hlt : k < s.size
      · obtain ⟨c, hc⟩ : ∃ c, (next (l.drop k)).1 = c := ⟨_, rfl⟩
        obtain ⟨n, hn⟩ : ∃ n, (next (l.drop k)).2 = n := ⟨_, rfl⟩
        have hne : l.drop k ≠ [] := by
          intro h
          have := congrArg List.length h
          rw [List.length_drop] at this
          have := HSL.out
          simp at *
          omega
        have hnl : n ≤ s.size - k := by
          have := next_le (l.drop k)
          rw [hn, List.length_drop] at this
          have := HSL.out
          omega
        have HC := hid hc
        have HN := hid hn
        have HNE := hid hne
        clear hc hn hne
        go_wp2_with fail
        refine (specNext s k _ hlt (by omega)).mono ?_
        rintro e w1 ⟨rfl, hb1⟩
        rw [HL.out, HC.out, HN.out]
        have hown1 := own_later hown hb1
        have hB1 := ext_trans hb hb1
        by_cases hz : n = 0
        · subst hz
          obtain ⟨e1, e2⟩ := runes_none (l := l) (Or.inr (by rw [HR.out, runesAll_bad HNE.out HN.out]; rfl))
          have E1 := hid e1
          have E2 := hid e2
          clear e1 e2 hi hz0 hz1 hz2 hown hown1
          go_wp2
          go_ret2
          rw [E1.out, E2.out]
          exact ⟨_, rfl, own_none hB1.size _, ext_trans hB1 (ext_alloc _ _)⟩
        · have hz' : ((n : Int) == 0) = false := by rw [beq_eq_false_iff_ne]; omega
          have HR' := hid (show runesAll l = (runesAll (l.drop (k + n))).map ((rs ++ [c]) ++ ·) by
            rw [HR.out, runesAll_step HNE.out (by rw [HN.out]; exact hz), HC.out, HN.out, List.drop_drop]
            cases runesAll (List.drop (k + n) l) <;> simp)
          clear hown HR
          go_wp2_with ((at_builtin; refine wpList_append_own _ rfl _ _ 61 rfl w.heap.size 3 i0 (.int .i64 0) 1 8 Tryd.underlying61 hi hz0 hz1 hz2 rfl (by decide) _ _ _ rfl (hown1.alloc _) ⟨w1.heap.size, 0, none⟩ 1 1 [.int .i64 (c : Int)] rfl rfl ?c1 ?c2 ?c3 ?c4 ?c5 ?_))
          case c1 => exact cell_one_new _ _ _
          case c2 => intro u hu; simp at hu; subst hu; rfl
          case c3 => unfold maxLen; omega
          case c4 => omega
          case c5 => simp; exact Nat.le_trans hB1.size (by omega)
          intro v' w2 hown2 hgrow _
          have hlt' := (hown1.alloc (.cells #[.int .i64 (c : Int)] 3)).lt
          have hB2 : Below w.heap.size w w2 := (ext_trans hB1 (ext_alloc _ _)).grown hgrow (ext_trans hB1 (ext_alloc _ _)).size (fun q hq => (hlt' q hq).1)
          clear hi hz0 hz1 hz2 hgrow hown1 hlt'
          go_wp2
          go_roundw
          case rel => exact ⟨k + n, rs ++ [c], by omega, by go_num, HR'.out, by rw [intVals_snoc, List.length_append]; exact hown2, hB2, by rw [List.length_append]; simp; omega⟩
          case measure => simp [intOf]; omega
      · have : k = s.size := by omega
        subst this
        have hd : l.drop s.size = [] := List.drop_eq_nil_of_le (by rw [HSL.out]; exact Nat.le_refl _)
        obtain ⟨e1, e2⟩ := runes_some (l := l) (rs := rs) hlen (by rw [HR.out, hd, runesAll_nil]; simp)
        have E1 := hid e1
        have E2 := hid e2
        clear e1 e2 hd hi hz0 hz1 hz2
        go_wp2
        go_ret2
        rw [E1.out, E2.out]
        exact ⟨_, rfl, hown, hb⟩
end Go.Proofs.YtlfkfofeenakhaaDoor
