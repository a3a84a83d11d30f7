/-
  What is proved here: the program's runesOf, TextOk, Runes beside the reference's. The condition 'Tabs' says that the library's tables for UTF-8 lie in the world.
-/
import Derived.Test.YtlfkfofeenakhaaDoorRunesS
import Derived.Test.YtlfkfofeenakhaaDoorTabs
import Derived.Lib.OthersKept
namespace Go.Proofs.YtlfkfofeenakhaaDoor
open Go.RowKit Go.Lib
set_option linter.unusedVariables false
set_option linter.unusedSimpArgs false

theorem own_iter {w : World} {base : Nat} {e : TypeId} {size : Nat} {v : Value} {n : Nat} {xs : List Value} (h : w.ownsRow base e size v n xs) {K : Nat} (hK : K < base) (s : ByteArray) (pos : Nat) : (w.iterAt K s pos).ownsRow base e size v n xs := by
  refine ⟨h.1, ?_⟩
  rcases h.2 with h2 | ⟨g, cap, cur, rfl, hb, hg, h3⟩
  · exact Or.inl h2
  · exact Or.inr ⟨g, cap, cur, rfl, hb, (iterAt_other w K g s pos (by omega)).trans hg, h3⟩
theorem own_nil (w : World) (base : Nat) (e : TypeId) : w.ownsRow base e 1 (.slice none 0 0) 0 [] := ⟨rfl, Or.inl ⟨rfl, rfl⟩⟩
theorem own_base {w : World} {base base' : Nat} {e : TypeId} {size : Nat} {v : Value} {n : Nat} {xs : List Value} (h : w.ownsRow base e size v n xs) (hb : base' ≤ base) : w.ownsRow base' e size v n xs := by
  refine ⟨h.1, ?_⟩
  rcases h.2 with h2 | ⟨g, cap, cur, rfl, hg, h3⟩
  · exact Or.inl h2
  · exact Or.inr ⟨g, cap, cur, rfl, Nat.le_trans hb hg, h3⟩

theorem index_ge_of_mem {l : List UInt8} (h : (0 : UInt8) ∈ l) : (0 : Int) ≤ Lib.indexByte l 0 := by
  have h1 := Lib.indexByte_ge l 0
  by_cases h2 : Lib.indexByte l 0 = -1
  · obtain ⟨i, hi, hi'⟩ := List.mem_iff_getElem.1 h
    exact absurd (by rw [List.getElem?_eq_getElem hi, hi']) (Lib.indexByte_none h2 i)
  · omega
theorem index_of_not_mem {l : List UInt8} (h : (0 : UInt8) ∉ l) : Lib.indexByte l 0 < 0 := by
  have h1 := Lib.indexByte_ge l 0
  by_cases h2 : 0 ≤ Lib.indexByte l 0
  · obtain ⟨n, hn⟩ := Int.eq_ofNat_of_zero_le h2
    obtain ⟨h3, _⟩ := Lib.indexByte_some hn
    exact absurd (List.mem_of_getElem? h3) h
  · omega
theorem next_decode {l : List UInt8} (h : (runesAll l).isSome = true) (hl : l ≠ []) : next l = decodeL l ∧ (decodeL l).2 ≠ 0 := by
  by_cases hz : (next l).2 = 0
  · rw [runesAll_bad hl hz] at h; cases h
  · have : next l = decodeL l := by
      unfold next at hz ⊢
      split
      · rename_i h1; rw [if_pos h1] at hz; exact absurd rfl hz
      · rfl
    exact ⟨this, this ▸ hz⟩

theorem info_intI : (Tryd.prog.info? 3).map (fun i => (i.zero, i.size, i.bytes)) = some (some (.int .i64 0), 1, 8) := by kernel_rfl
set_option maxHeartbeats 4000000 in
set_option maxRecDepth 100000 in
theorem implRunesOf (s : ByteArray) (w : World) (hT : Tabs w) :
    Calls Tryd.prog 38 #[.string s] w fun e w' => ∃ u, e = .returned (.tuple #[u, .bool (textOk s.data.toList)]) ∧ w'.ownsRow w.heap.size 3 1 u (runesN s.data.toList).length (intVals (runesN s.data.toList)) ∧ Below w.heap.size w w' := by
  obtain ⟨l, hl⟩ : ∃ l, s.data.toList = l := ⟨_, rfl⟩
  have hsl : s.size = l.length := by rw [Lib.size_eq, hl]
  rw [hl]
  obtain ⟨i0, hi, hz0, hz1, hz2⟩ := info_parts info_intI
  by_cases hbig : (1000 : Int) < s.size
  · obtain ⟨e1, e2⟩ := runes_none (l := l) (Or.inl (by omega))
    rw [e1, e2]
    clear hi hz0 hz1 hz2 e1 e2
    go_enter Tryd.func38, Tryd.ntmps38
    go_wp2_with fail
    go_ret2
    exact ⟨_, rfl, own_nil _ _ _, Below.refl _ _⟩
  have HL := hid hl
  have HSL := hid hsl
  clear hl hsl
  have hlen : l.length ≤ 1000 := by have := HSL.out; omega
  have hsz : s.size ≤ 1000 := by omega
  have HV := hid (valid_runes l)
  have CV := Any.utf8_ValidString Tryd.laysValid s w (by omega) hT
  rw [HL.out] at CV
  by_cases hv : validD l = true
  · have CI : ∀ w, Calls Tryd.prog 72 #[.string s, .int .u8 0] w fun e w' => e = .returned (.int .i64 (Lib.indexByte l 0)) ∧ w' = w := fun w => by
      have := Tryd.strings_IndexByte s 0 w
      rw [HL.out] at this
      exact this
    rw [hv] at CV
    by_cases h0 : (0 : UInt8) ∈ l
    · obtain ⟨e1, e2⟩ := runes_none (l := l) (Or.inr (by
        cases hr : runesAll l with
        | none => rfl
        | some x => exact absurd h0 ((HV.out.2 (by rw [hr]; rfl)).2)))
      have hix := index_ge_of_mem h0
      rw [e1, e2]
      clear hi hz0 hz1 hz2 e1 e2 h0 hv
      go_enter Tryd.func38, Tryd.ntmps38
      go_wp2_with (first | (go_at_call 88; refine CV.mono ?_; rintro e w1 ⟨rfl, hb1⟩) | (go_at_call 72; refine (CI _).mono ?_; rintro e w1 ⟨rfl, rfl⟩))
      go_ret2
      exact ⟨_, rfl, own_nil _ _ _, hb1⟩
    · have hix := index_of_not_mem h0
      have hrs : (runesAll l).isSome = true := HV.out.1 ⟨hv, h0⟩
      have HR0 := hid hrs
      clear hv h0 hrs
      go_enter Tryd.func38, Tryd.ntmps38
      go_wp2_with (first | (go_at_call 88; refine CV.mono ?_; rintro e w1 ⟨rfl, hb1⟩) | (go_at_call 72; refine (CI _).mono ?_; rintro e w1 ⟨rfl, rfl⟩))
      have hs1 := hb1.size
      go_loopw [4] (fun out wr => ∃ (k : Nat) (rs : List Nat), k ≤ s.size ∧ wr.heap[w1.heap.size]? = some (.stringIter s k) ∧ Hid (runesAll l = (runesAll (l.drop k)).map (rs ++ ·)) ∧ wr.ownsRow (w1.heap.size + 1) 3 1 out rs.length (intVals rs) ∧ Below w.heap.size w wr ∧ rs.length ≤ k ∧ w1.heap.size < wr.heap.size) (fun _ wr => s.size - wr.iterPos w1.heap.size)
      case atStart => exact ⟨0, [], Nat.zero_le _, World.iter_heap w1 s 0, by show runesAll l = _; simp, own_nil _ _ _, ext_trans hb1 (ext_alloc _ _), Nat.le_refl _, by simp [World.iter]⟩
      case round =>
        obtain ⟨k, rs, hk, hit, HR, hown, hb, hrk, hsz1⟩ := hrel
        by_cases hlt : k < s.size
        · have hne : l.drop k ≠ [] := by
            intro h
            have := congrArg List.length h
            rw [List.length_drop] at this
            have := HSL.out
            simp at *
            omega
          have hsome : (runesAll (l.drop k)).isSome = true := by
            have := HR0.out
            rw [HR.out, Option.isSome_map] at this
            exact this
          obtain ⟨hnd, hnz⟩ := next_decode hsome hne
          have hnx : ∀ ty, (Instr.next (.pointer (some ⟨w1.heap.size, 0, none⟩)) true ty).run Tryd.prog wr = _ := fun ty => Lib.run_next_any_at wr w1.heap.size s k ty hit hlt
          have hdl := decodeL_drop s k
          rw [HL.out] at hdl
          obtain ⟨c, hc⟩ : ∃ c, (Utf8.decode s k).1 = c := ⟨_, rfl⟩
          obtain ⟨n, hn⟩ : ∃ n, (Utf8.decode s k).2 = n := ⟨_, rfl⟩
          have hcl := Lib.rune_le s k
          rw [hc] at hcl
          have hnl : n ≤ s.size - k := by
            have := next_le (l.drop k)
            rw [hnd, hdl, hn, List.length_drop] at this
            have := HSL.out
            omega
          have hn0 : n ≠ 0 := by rw [← hn, ← hdl]; exact hnz
          have HR' := hid (show runesAll l = (runesAll (l.drop (k + n))).map ((rs ++ [c]) ++ ·) by
            rw [HR.out, runesAll_step hne (by rw [hnd]; exact hnz), hnd, hdl, hc, hn, List.drop_drop]
            cases runesAll (List.drop (k + n) l) <;> simp)
          rw [hc, hn] at hnx
          have hit2 := Lib.iterAt_heap wr w1.heap.size s k (k + n) hit
          have hB2 := Lib.below_iterAt hb (k := w1.heap.size) hs1 s (k + n)
          have hown2 := own_iter hown (Nat.lt_succ_self _) s (k + n)
          have hp0 : wr.iterPos w1.heap.size = k := by simp [World.iterPos, hit]
          have hszW := hid (show (wr.iterAt w1.heap.size s (k + n)).heap.size = wr.heap.size from iterAt_size _ _ _ _)
          obtain ⟨W, hWd⟩ : ∃ W, wr.iterAt w1.heap.size s (k + n) = W := ⟨_, rfl⟩
          rw [hWd] at hnx hit2 hB2 hown2 hszW
          clear hc hn hne hsome hnd hnz hdl HR hown hWd hit hb
          go_wp2_with ((at_builtin; refine wpList_append_own _ rfl _ _ 61 rfl (w1.heap.size + 1) 3 i0 (.int .i64 0) 1 8 Tryd.underlying61 hi hz0 hz1 hz2 rfl (by decide) _ _ _ rfl (hown2.alloc _) ⟨W.heap.size, 0, none⟩ 1 1 [.int .i64 (c : Int)] rfl rfl ?c1 ?c2 ?c3 ?c4 ?c5 ?_))
          case c1 => exact cell_one_new _ _ _
          case c2 => intro u hu; simp at hu; subst hu; rfl
          case c3 => unfold maxLen; omega
          case c4 => omega
          case c5 => have := hszW.out; simp; omega
          intro v' w2 hown3 hgrow _
          have hlt' := (hown2.alloc (.cells #[.int .i64 (c : Int)] 3)).lt
          have hszW := hszW.out
          have hBW := ext_trans hB2 (ext_alloc W (.cells #[.int .i64 (c : Int)] 3))
          have hB3 : Below w.heap.size w w2 := hBW.grown hgrow hBW.size (fun q hq => by have := (hlt' q hq).1; omega)
          have hB4 : Below (w1.heap.size + 1) W w2 := ((Below.refl _ _).alloc (by omega) _).grown hgrow (by simp; omega) (fun q hq => (hlt' q hq).1)
          have hit3 : w2.heap[w1.heap.size]? = some (.stringIter s (k + n)) := (hB4.block _ (Nat.lt_succ_self _)).trans hit2
          have hp2 : w2.iterPos w1.heap.size = k + n := by simp [World.iterPos, hit3]
          have hs2 := hB4.size
          clear hi hz0 hz1 hz2 hgrow hown2 hlt'
          go_wp2
          go_roundw
          case rel => exact ⟨k + n, rs ++ [c], by omega, hit3, HR'.out, by rw [intVals_snoc, List.length_append]; exact hown3, hB3, by rw [List.length_append]; simp; omega, by omega⟩
          case measure => omega
        · have hnx : ∀ ty, (Instr.next (.pointer (some ⟨w1.heap.size, 0, none⟩)) true ty).run Tryd.prog wr = _ := fun ty => Lib.run_next_end_at wr w1.heap.size s k ty hit hlt
          have : k = s.size := by omega
          subst this
          have hd : l.drop s.size = [] := List.drop_eq_nil_of_le (by rw [HSL.out]; exact Nat.le_refl _)
          obtain ⟨e1, e2⟩ := runes_some (l := l) (rs := rs) hlen (by rw [HR.out, hd, runesAll_nil]; simp)
          have E1 := hid e1
          have E2 := hid e2
          clear e1 e2 hd hi hz0 hz1 hz2 hit
          go_wp2
          go_ret2
          rw [E1.out, E2.out]
          exact ⟨_, rfl, own_base hown (by omega), hb⟩
  · have hv' : validD l = false := by simpa using hv
    rw [hv'] at CV
    obtain ⟨e1, e2⟩ := runes_none (l := l) (Or.inr (by
        cases hr : runesAll l with
        | none => rfl
        | some x => exact absurd ((HV.out.2 (by rw [hr]; rfl)).1) hv))
    rw [e1, e2]
    clear hi hz0 hz1 hz2 e1 e2 hv hv'
    go_enter Tryd.func38, Tryd.ntmps38
    go_wp2_with (first | (go_at_call 88; refine CV.mono ?_; rintro e w1 ⟨rfl, hb1⟩))
    go_ret2
    exact ⟨_, rfl, own_nil _ _ _, hb1⟩
end Go.Proofs.YtlfkfofeenakhaaDoor
