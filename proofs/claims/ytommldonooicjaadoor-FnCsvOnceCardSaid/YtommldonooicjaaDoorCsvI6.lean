/-
  What is proved here: strings.ContainsAny of any text, for two or more ASCII signs. No condition.
-/
import Derived.Test.YtommldonooicjaaDoorIdxRune
namespace Go.Proofs.YtommldonooicjaaDoor
open Go.RowKit
set_option linter.unusedVariables false
set_option linter.unusedSimpArgs false

theorem getx (s : ByteArray) (i : Nat) (h : i < s.size) : s.get! i = s[i]'h := get_at s i h
/-- the bytes of a rune of more than one byte are no ASCII signs -/
theorem decode_cont (s : ByteArray) (k : Nat) (h : k < s.size) (ha : 128 ≤ (s[k]'h).toNat) : k + (Utf8.decode s k).2 ≤ s.size ∧ ∀ j, j < (Utf8.decode s k).2 → 128 ≤ (s.get! (k + j)).toNat := by
  have hn : ¬ (s[k]'h).toNat < 128 := by omega
  have h0 : 128 ≤ (s.get! (k + 0)).toNat := by rw [Nat.add_zero, getx s k h]; exact ha
  have step1 : k + 1 ≤ s.size ∧ ∀ j, j < 1 → 128 ≤ (s.get! (k + j)).toNat := ⟨h, fun j hj => by
    obtain rfl : j = 0 := by omega
    exact h0⟩
  have h64 : ∀ x : Nat, x / 64 = 2 → 128 ≤ x := fun x hx => by omega
  simp only [Utf8.decode, get_at s k h, hn, if_false]
  split
  · rename_i hc
    simp only [Bool.and_eq_true, beq_iff_eq, decide_eq_true_eq] at hc
    split
    · refine ⟨by show k + 2 ≤ s.size; omega, fun j hj => ?_⟩
      have hj' : j < 2 := hj
      rcases (by omega : j = 0 ∨ j = 1) with rfl | rfl
      · exact h0
      · exact h64 _ hc.2.2
    · exact step1
  · split
    · rename_i hc
      simp only [Bool.and_eq_true, beq_iff_eq, decide_eq_true_eq] at hc
      split
      · refine ⟨by show k + 3 ≤ s.size; omega, fun j hj => ?_⟩
        have hj' : j < 3 := hj
        rcases (by omega : j = 0 ∨ j = 1 ∨ j = 2) with rfl | rfl | rfl
        · exact h0
        · exact h64 _ hc.1.2.2
        · exact h64 _ hc.2.2
      · exact step1
    · split
      · rename_i hc
        simp only [Bool.and_eq_true, beq_iff_eq, decide_eq_true_eq] at hc
        split
        · refine ⟨by show k + 4 ≤ s.size; omega, fun j hj => ?_⟩
          have hj' : j < 4 := hj
          rcases (by omega : j = 0 ∨ j = 1 ∨ j = 2 ∨ j = 3) with rfl | rfl | rfl | rfl
          · exact h0
          · exact h64 _ hc.1.1.2.2
          · exact h64 _ hc.1.2.2
          · exact h64 _ hc.2.2
        · exact step1
      · exact step1
def hasAny (s chars : ByteArray) : Bool := s.data.toList.any fun b => chars.data.toList.contains b
theorem any_none {s chars : ByteArray} (h : Lib.NoAny s.data.toList chars.data.toList s.size) : hasAny s chars = false := by
  unfold hasAny
  rw [List.any_eq_false]
  intro b hb
  obtain ⟨i, hi, rfl⟩ := List.getElem_of_mem hb
  rw [h i _ (by rw [Lib.size_eq]; exact hi) (List.getElem?_eq_getElem hi)]
  simp
theorem any_hit {s chars : ByteArray} {k : Nat} (h : k < s.size) (hc : chars.data.toList.contains (s[k]'h) = true) : hasAny s chars = true := by
  unfold hasAny
  rw [List.any_eq_true]
  exact ⟨_, by rw [← get_list s k h]; exact List.getElem_mem _, hc⟩
theorem any_index (s chars : ByteArray) : decide (0 ≤ Lib.indexAny s.data.toList chars.data.toList) = hasAny s chars := by
  unfold hasAny
  generalize s.data.toList = l
  induction l with
  | nil => rfl
  | cons b l ih =>
    rw [Lib.indexAny, List.any_cons]
    have hg := Lib.indexAny_ge chars.data.toList l
    by_cases hc : chars.data.toList.contains b = true
    · rw [if_pos hc, hc]; rfl
    · rw [if_neg hc, (Bool.not_eq_true _).mp hc, Bool.false_or, ← ih]
      by_cases h1 : Lib.indexAny l chars.data.toList = -1
      · rw [h1]; rfl
      · rw [if_neg (by simpa using h1)]
        apply decide_eq_decide.2
        omega
def SomeAny (s chars : ByteArray) (w : World) (e : Ending) (w' : World) : Prop := ∃ z : Int, e = .returned (.int .i64 z) ∧ decide (0 ≤ z) = hasAny s chars ∧ Below w.heap.size w w'
set_option maxHeartbeats 8000000 in
set_option maxRecDepth 100000 in
theorem implIndexAny (s chars : ByteArray) (w : World) (hac : ∀ b ∈ chars.data.toList, b.toNat < 128) (h2 : 2 ≤ chars.size) (hcs : chars.size ≤ 100) (hs : s.size ≤ 1000000) :
    Calls Tryd.prog 92 #[.string s, .string chars] w (SomeAny s chars w) := by
  by_cases h8 : 8 < s.size
  · have h116 : (Tryd.prog.info? (132)).map (fun i => (i.zero, i.size)) = some (some (.agg (Array.replicate 256 (.bool false))), 256) := by kernel_rfl
    refine (Any.strings_IndexAny_long { Tryd.lays150 with } (zero_of_info h116).1 (zero_of_info h116).2 s chars w h2 h8 (by omega) (by omega) (fun j b hb => hac b (List.mem_of_getElem? hb))).mono fun e w' h => ⟨_, h.1, any_index s chars, ?_⟩
    rw [h.2]
    exact ((Below.refl _ _).alloc (Nat.le_refl _) _).alloc (by simp) _
  have hemp : chars.toList.isEmpty = false := by
    rw [Lib.toList_data]
    cases h : chars.data.toList with
    | nil => have := Lib.size_eq chars; rw [h, List.length_nil] at this; omega
    | cons _ _ => rfl
  have hn1 : ((chars.size : Int) == 1) = false := beq_eq_false_iff_ne.2 (by omega)
  have h8z : decide ((8 : Int) < (s.size : Int)) = false := decide_eq_false (by omega)
  have CS : ∀ n w, Calls Tryd.prog 106 #[.int .i64 n] w fun e w' => e = .returned (.bool (decide (8 < n))) ∧ w' = w := fun n w => Any.strings_shouldUseASCIISet { Tryd.lays150 with } n w
  have HCS := hid (CS (s.size : Int) w)
  have CI := hid (fun (r : Int) (hr : -2147483648 ≤ r ∧ r ≤ 2147483647) (w : World) => implIndexRune chars r w hac hcs hr)
  have HAC := hid hac
  clear CS hac h8
  rw [h8z] at HCS
  clear h8z
  go_enter Tryd.func92, Tryd.ntmps92
  go_wp2_with fail
  refine HCS.out.mono ?_
  rintro e w1 ⟨rfl, rfl⟩
  go_wp2
  go_loopw [9, 10] (fun _ _ wr => ∃ k : Nat, k ≤ s.size ∧ wr.heap[w1.heap.size]? = some (.stringIter s k) ∧ Below w1.heap.size w1 wr ∧ Hid (Lib.NoAny s.data.toList chars.data.toList k)) (fun _ _ wr => s.size - wr.iterPos w1.heap.size)
  case atStart => exact ⟨0, Nat.zero_le _, World.iter_heap w1 s 0, ext_alloc _ _, hid (Lib.NoAny.zero _ _)⟩
  case round =>
    obtain ⟨k, hk, hit, hb, HN⟩ := hrel
    by_cases hlt : k < s.size
    · have hnx : ∀ ty, (Instr.next (.pointer (some ⟨w1.heap.size, 0, none⟩)) true ty).run Tryd.prog wr = _ := fun ty => Lib.run_next_any_at wr w1.heap.size s k ty hit hlt
      have hF : -2147483648 ≤ ((Utf8.decode s k).1 : Int) ∧ ((Utf8.decode s k).1 : Int) ≤ 2147483647 ∧ 1 ≤ (Utf8.decode s k).2 ∧ k + (Utf8.decode s k).2 ≤ s.size ∧ (hasB chars.data.toList ((Utf8.decode s k).1 : Int) = true → hasAny s chars = true) ∧ (hasB chars.data.toList ((Utf8.decode s k).1 : Int) = false → Lib.NoAny s.data.toList chars.data.toList (k + (Utf8.decode s k).2)) := by
        have hle := decode_le s k
        refine ⟨by omega, by omega, ?_⟩
        have hgx : s.data.toList[k]? = some (s[k]'hlt) := Lib.data_getElem? s k hlt
        by_cases ha : (s[k]'hlt).toNat < 128
        · rw [decode_ascii s k hlt ha]
          refine ⟨Nat.le_refl _, hlt, fun h => ?_, fun h => ?_⟩
          · rw [hasB_in ⟨by omega, by dsimp only; omega⟩] at h
            exact any_hit hlt (by simpa using h)
          · rw [hasB_in ⟨by omega, by dsimp only; omega⟩] at h
            exact HN.out.succ hgx (by simpa using h)
        · have h1 := decode_high s k hlt (by omega)
          have h2 := decode_cont s k hlt (by omega)
          refine ⟨h1.2, h2.1, fun h => ?_, fun _ => ?_⟩
          · rw [hasB_out (by omega)] at h; cases h
          · intro j b hj hb
            rcases Nat.lt_or_ge j k with h3 | h3
            · exact HN.out j b h3 hb
            · obtain ⟨d, rfl⟩ : ∃ d, j = k + d := ⟨j - k, by omega⟩
              have hkd : k + d < s.size := by omega
              have h4 := h2.2 d (by omega)
              rw [getx s (k + d) hkd] at h4
              rw [Lib.data_getElem? s (k + d) hkd] at hb
              injection hb with hb
              rw [hb] at h4
              cases hcb : chars.data.toList.contains b with
              | false => rfl
              | true => have := HAC.out b (List.contains_iff_mem.1 hcb); omega
      obtain ⟨⟨r, n⟩, hd⟩ : ∃ x, Utf8.decode s k = x := ⟨_, rfl⟩
      rw [hd] at hnx hF
      obtain ⟨hr1, hr2, hn1', hkn, hf1, hf2⟩ := hF
      dsimp only at hnx hr1 hr2 hn1' hkn hf1 hf2
      have HF1 := hid hf1
      have HF2 := hid hf2
      have HCI := hid (CI.out (r : Int) ⟨hr1, hr2⟩)
      obtain ⟨q, hq⟩ : ∃ q, hasB chars.data.toList (r : Int) = q := ⟨_, rfl⟩
      have hit2 := Lib.iterAt_heap wr w1.heap.size s k (k + n) hit
      have hB2 := Lib.below_iterAt hb (k := w1.heap.size) (Nat.le_refl _) s (k + n)
      have hp0 : wr.iterPos w1.heap.size = k := by simp [World.iterPos, hit]
      obtain ⟨W, hWd⟩ : ∃ W, wr.iterAt w1.heap.size s (k + n) = W := ⟨_, rfl⟩
      rw [hWd] at hnx hit2 hB2
      have hWs : w1.heap.size < W.heap.size := (Array.getElem?_eq_some_iff.1 hit2).1
      clear hd hWd hit hb hf1 hf2 hr1 hr2
      go_wp2_with fail
      refine (HCI.out W).mono ?_
      rintro e w3 ⟨z, rfl, hz, hb3⟩
      rw [hq] at hz
      have hit3 := (hb3.block w1.heap.size hWs).trans hit2
      have hB3 := hB2.trans (hb3.mono (Nat.le_of_lt hWs))
      have hp3 : w3.iterPos w1.heap.size = k + n := by simp [World.iterPos, hit3]
      cases q with
      | true =>
        have hz1 : (0 : Int) ≤ z := of_decide_eq_true hz
        have HA := hid (HF1.out hq)
        have hkz : decide ((0 : Int) ≤ (k : Int)) = true := decide_eq_true (by omega)
        clear hnx hit2 hB2 hit3
        go_wp2
        go_ret
        exact ⟨(k : Int), rfl, by rw [HA.out, hkz], hB3⟩
      | false =>
        have hz1 : ¬ (0 : Int) ≤ z := of_decide_eq_false hz
        have HA := hid (HF2.out hq)
        clear hnx hit2 hB2
        go_wp2
        go_roundw
        case rel => exact ⟨k + n, hkn, hit3, hB3, HA⟩
        case measure => omega
    · have hnx : ∀ ty, (Instr.next (.pointer (some ⟨w1.heap.size, 0, none⟩)) true ty).run Tryd.prog wr = _ := fun ty => Lib.run_next_end_at wr w1.heap.size s k ty hit hlt
      obtain rfl : k = s.size := by omega
      clear hit
      go_wp2
      go_ret
      exact ⟨-1, rfl, by rw [any_none HN.out]; rfl, hb⟩
set_option maxHeartbeats 4000000 in
set_option maxRecDepth 100000 in
theorem implContainsAny (s chars : ByteArray) (w : World) (hac : ∀ b ∈ chars.data.toList, b.toNat < 128) (h2 : 2 ≤ chars.size) (hcs : chars.size ≤ 100) (hs : s.size ≤ 1000000) :
    Calls Tryd.prog 75 #[.string s, .string chars] w fun e w' => e = .returned (.bool (hasAny s chars)) ∧ Below w.heap.size w w' := by
  have C := hid (implIndexAny s chars w hac h2 hcs hs)
  clear hac h2 hcs hs
  go_enter Tryd.func75, Tryd.ntmps75
  go_wp2_with fail
  refine C.out.mono ?_
  rintro e w1 ⟨z, rfl, hz, hb⟩
  have HB := hid hb
  have HZ := hid hz
  clear hz hb
  go_wp2
  go_ret
  exact ⟨by rw [← HZ.out] <;> rfl, HB.out⟩
end Go.Proofs.YtommldonooicjaaDoor
