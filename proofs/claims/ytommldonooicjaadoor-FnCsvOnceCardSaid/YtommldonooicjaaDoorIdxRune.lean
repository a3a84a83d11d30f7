/-
  What is proved here: strings.IndexRune in a string of ASCII signs, at every rune. No condition.
-/
import Derived.Test.YtommldonooicjaaDoorNat
import Derived.Test.YtommldonooicjaaDoorShelfA
import Derived.Laws.RangeString
import Derived.Laws.RangeAny
import Derived.Lib.OthersKept
import Derived.Laws.Concat
import Derived.Laws.Cover1
import Derived.WalkMore
import Derived.IntWalk
namespace Go.Proofs.YtommldonooicjaaDoor
open Go.RowKit
set_option linter.unusedVariables false
set_option linter.unusedSimpArgs false

def hasB (sp : List UInt8) (c : Int) : Bool := decide (0 ≤ c ∧ c < 128) && sp.contains (UInt8.ofNat c.toNat)
def encN (x : Nat) : ByteArray := if x < 0x80 then ⟨#[UInt8.ofNat x]⟩ else if x < 0x800 then ⟨#[UInt8.ofNat (0xC0 + x / 64), UInt8.ofNat (0x80 + x % 64)]⟩ else if x < 0x10000 then ⟨#[UInt8.ofNat (0xE0 + x / 4096), UInt8.ofNat (0x80 + x / 64 % 64), UInt8.ofNat (0x80 + x % 64)]⟩ else ⟨#[UInt8.ofNat (0xF0 + x / 262144), UInt8.ofNat (0x80 + x / 4096 % 64), UInt8.ofNat (0x80 + x / 64 % 64), UInt8.ofNat (0x80 + x % 64)]⟩
theorem encode_eq (r : Int) : Utf8.encode r = encN (if Utf8.valid r then r.toNat else Utf8.runeError) := rfl
theorem runeErr_eq : Utf8.runeError = 65533 := rfl
theorem bel_dn {B : Nat} {a w : World} (h : Below B a w) (n : Nat) : Below B a (w.drewN n) := h.trans ⟨rfl, rfl, rfl, Nat.le_refl _, fun _ _ => rfl⟩
theorem has_index (l : List UInt8) (b : UInt8) : decide (0 ≤ Lib.indexByte l b) = l.contains b := by
  have h1 := Lib.indexByte_ge l b
  by_cases hm : b ∈ l
  · rw [List.contains_iff_mem.2 hm]
    refine decide_eq_true ?_
    by_cases h2 : Lib.indexByte l b = -1
    · obtain ⟨i, hi, hi'⟩ := List.mem_iff_getElem.1 hm
      exact absurd (by rw [List.getElem?_eq_getElem hi, hi']) (Lib.indexByte_none h2 i)
    · omega
  · have hc : l.contains b = false := by
      cases h : l.contains b with
      | false => rfl
      | true => exact absurd (List.contains_iff_mem.1 h) hm
    rw [hc]
    refine decide_eq_false (fun h2 => ?_)
    obtain ⟨n, hn⟩ := Int.eq_ofNat_of_zero_le h2
    obtain ⟨h3, _⟩ := Lib.indexByte_some hn
    exact hm (List.mem_of_getElem? h3)
theorem hasB_out {l : List UInt8} {r : Int} (h : ¬ (0 ≤ r ∧ r < 128)) : hasB l r = false := by unfold hasB; rw [decide_eq_false h]; rfl
theorem hasB_in {l : List UInt8} {r : Int} (h : 0 ≤ r ∧ r < 128) : hasB l r = l.contains (UInt8.ofNat r.toNat) := by unfold hasB; rw [decide_eq_true h]; rfl
/-- the last byte of a rune that is no ASCII sign -/
theorem enc_last {r : Int} (h : 128 ≤ r) : 2 ≤ (Utf8.encode r).size ∧ (Utf8.encode r).size ≤ 4 ∧ ∀ i (hi : i < (Utf8.encode r).size), i + 1 = (Utf8.encode r).size → 128 ≤ ((Utf8.encode r)[i]'hi).toNat := by
  have key : ∀ x : Nat, 128 ≤ x → 2 ≤ (encN x).size ∧ (encN x).size ≤ 4 ∧ ∀ i (hi : i < (encN x).size), i + 1 = (encN x).size → 128 ≤ ((encN x)[i]'hi).toNat := by
    intro x hx
    unfold encN
    rw [if_neg (by omega)]
    split
    · refine ⟨by show 2 ≤ 2; omega, by show 2 ≤ 4; omega, fun i hi he => ?_⟩
      have : i = 1 := by have h2 : i + 1 = 2 := he; omega
      subst this
      show 128 ≤ (UInt8.ofNat (0x80 + x % 64)).toNat
      rw [UInt8.toNat_ofNat']; omega
    · split
      · refine ⟨by show 2 ≤ 3; omega, by show 3 ≤ 4; omega, fun i hi he => ?_⟩
        have : i = 2 := by have h2 : i + 1 = 3 := he; omega
        subst this
        show 128 ≤ (UInt8.ofNat (0x80 + x % 64)).toNat
        rw [UInt8.toNat_ofNat']; omega
      · refine ⟨by show 2 ≤ 4; omega, by show 4 ≤ 4; omega, fun i hi he => ?_⟩
        have : i = 3 := by have h2 : i + 1 = 4 := he; omega
        subst this
        show 128 ≤ (UInt8.ofNat (0x80 + x % 64)).toNat
        rw [UInt8.toNat_ofNat']; omega
  rw [encode_eq]
  by_cases hv : Utf8.valid r = true
  · rw [if_pos hv]; exact key _ (by omega)
  · rw [if_neg hv, runeErr_eq]; exact key _ (by omega)
def okRune (r : Int) : Bool := decide ((0 ≤ r ∧ r < 55296) ∨ (57343 < r ∧ r ≤ 1114111))
theorem implValidRune (r : Int) (w : World) : Calls Tryd.prog 118 #[.int .i32 r] w fun e w' => e = .returned (.bool (okRune r)) ∧ w = w' := by
  by_cases h1 : 0 ≤ r
  · by_cases h2 : r < 55296
    · have HR := hid (show okRune r = true by unfold okRune; exact decide_eq_true (by omega))
      go_enter Tryd.func118, Tryd.ntmps118
      go_wp2
      go_ret
      exact ⟨end_bool HR.out.symm, rfl⟩
    · by_cases h3 : 57343 < r
      · by_cases h4 : r ≤ 1114111
        · have HR := hid (show okRune r = true by unfold okRune; exact decide_eq_true (by omega))
          go_enter Tryd.func118, Tryd.ntmps118
          go_wp2
          go_ret
          exact ⟨end_bool HR.out.symm, rfl⟩
        · have HR := hid (show okRune r = false by unfold okRune; exact decide_eq_false (by omega))
          go_enter Tryd.func118, Tryd.ntmps118
          go_wp2
          go_ret
          exact ⟨end_bool HR.out.symm, rfl⟩
      · have HR := hid (show okRune r = false by unfold okRune; exact decide_eq_false (by omega))
        go_enter Tryd.func118, Tryd.ntmps118
        go_wp2
        go_ret
        exact ⟨end_bool HR.out.symm, rfl⟩
  · have h3 : ¬ 57343 < r := by omega
    have HR := hid (show okRune r = false by unfold okRune; exact decide_eq_false (by omega))
    go_enter Tryd.func118, Tryd.ntmps118
    go_wp2
    go_ret
    exact ⟨end_bool HR.out.symm, rfl⟩
def SomeIdx (l : List UInt8) (r : Int) (w : World) (e : Ending) (w' : World) : Prop := ∃ z : Int, e = .returned (.int .i64 z) ∧ decide (0 ≤ z) = hasB l r ∧ Below w.heap.size w w'
set_option maxHeartbeats 4000000 in
set_option maxRecDepth 100000 in
theorem implIndexRune (s : ByteArray) (r : Int) (w : World) (hs : ∀ b ∈ s.data.toList, b.toNat < 128) (hsz : s.size ≤ 100) (hr : -2147483648 ≤ r ∧ r ≤ 2147483647) :
    Calls Tryd.prog 105 #[.string s, .int .i32 r] w (SomeIdx s.data.toList r w) := by
  have CI : ∀ (s : ByteArray) (b : UInt8) (w : World), Calls Tryd.prog 79 #[.string s, .int .u8 (b.toNat : Int)] w fun e w' => e = .returned (.int .i64 (Lib.indexByte s.data.toList b)) ∧ w' = w := fun s b w => by
    have := Tryd.strings_IndexByte s (b.toNat : Int) w
    rw [show ((b.toNat : Int)).toNat.toUInt8 = b by simp] at this
    exact this
  have HCI := hid CI
  clear CI
  have HS := hid hs
  clear hs
  by_cases h1 : 0 ≤ r ∧ r < 128
  · obtain ⟨ha, hb⟩ := h1
    obtain ⟨b, hbn⟩ : ∃ b : UInt8, (b.toNat : Int) = r := ⟨UInt8.ofNat r.toNat, by rw [UInt8.toNat_ofNat']; omega⟩
    have HB := hid (show hasB s.data.toList r = decide (0 ≤ Lib.indexByte s.data.toList b) by rw [hasB_in ⟨ha, hb⟩, has_index, ← hbn]; simp)
    subst hbn
    have C1 := HCI.out s b
    obtain ⟨z, hz⟩ : ∃ z, Lib.indexByte s.data.toList b = z := ⟨_, rfl⟩
    rw [hz] at C1 HB
    have C2 := hid C1
    clear hz C1
    go_enter Tryd.func105, Tryd.ntmps105
    go_wp2_with fail
    refine (C2.out _).mono ?_
    rintro e w1 ⟨rfl, rfl⟩
    go_wp2
    go_ret
    exact ⟨z, rfl, HB.out.symm, Below.refl _ _⟩
  have HO := hid (hasB_out (l := s.data.toList) h1)
  by_cases h2 : r = 65533
  · subst h2
    clear h1 hr
    go_enter Tryd.func105, Tryd.ntmps105
    go_wp2
    go_loopw [] (fun wr => ∃ k : Nat, k ≤ s.size ∧ wr.heap[w.heap.size]? = some (.stringIter s k) ∧ Below w.heap.size w wr) (fun wr => s.size - wr.iterPos w.heap.size)
    case atStart => exact ⟨0, Nat.zero_le _, World.iter_heap w s 0, ext_alloc _ _⟩
    case round =>
      obtain ⟨k, hk, hit, hb⟩ := hrel
      by_cases hlt : k < s.size
      · have hnx : ∀ ty, (Instr.next (.pointer (some ⟨w.heap.size, 0, none⟩)) true ty).run Tryd.prog wr = _ := fun ty => Lib.run_next_any_at wr w.heap.size s k ty hit hlt
        have ha := HS.out (s[k]'hlt) (by rw [← get_list s k hlt]; exact List.getElem_mem _)
        have hde := decode_ascii s k hlt ha
        obtain ⟨c, hc⟩ : ∃ c, (s[k]'hlt).toNat = c := ⟨_, rfl⟩
        rw [hc] at ha hde
        rw [hde] at hnx
        have hc1 : ((c : Int) == 65533) = false := by rw [beq_eq_false_iff_ne]; omega
        have hc2 : ¬ (c : Int) = 65533 := by omega
        have hit2 := Lib.iterAt_heap wr w.heap.size s k (k + 1) hit
        have hB2 := Lib.below_iterAt hb (k := w.heap.size) (Nat.le_refl _) s (k + 1)
        have hp0 : wr.iterPos w.heap.size = k := by simp [World.iterPos, hit]
        have hp2 : (wr.iterAt w.heap.size s (k + 1)).iterPos w.heap.size = k + 1 := by simp [World.iterPos, hit2]
        obtain ⟨W, hWd⟩ : ∃ W, wr.iterAt w.heap.size s (k + 1) = W := ⟨_, rfl⟩
        rw [hWd] at hnx hit2 hB2 hp2
        clear hc hde hWd hit hb
        go_wp2
        go_roundw
        case rel => exact ⟨k + 1, by omega, hit2, hB2⟩
        case measure => omega
      · have hnx : ∀ ty, (Instr.next (.pointer (some ⟨w.heap.size, 0, none⟩)) true ty).run Tryd.prog wr = _ := fun ty => Lib.run_next_end_at wr w.heap.size s k ty hit hlt
        clear hit
        go_wp2
        go_ret
        exact ⟨-1, rfl, HO.out.symm, hb⟩
  · have h3 : (r == 65533) = false := by rw [beq_eq_false_iff_ne]; exact h2
    have CV := hid (fun w => implValidRune r w)
    obtain ⟨q, hq⟩ : ∃ q, okRune r = q := ⟨_, rfl⟩
    rw [hq] at CV
    by_cases h0 : 0 ≤ r
    · have h4 : ¬ r < 128 := fun h => h1 ⟨h0, h⟩
      cases q with
      | false =>
        clear hq h1
        go_enter Tryd.func105, Tryd.ntmps105
        go_wp2_with fail
        refine (CV.out _).mono ?_
        rintro e w1 ⟨rfl, rfl⟩
        go_wp2
        go_ret
        exact ⟨-1, rfl, HO.out.symm, Below.refl _ _⟩
      | true =>
        obtain ⟨e1, e2, e3⟩ := enc_last (r := r) (by omega)
        obtain ⟨E, hE⟩ : ∃ E, Utf8.encode r = E := ⟨_, rfl⟩
        rw [hE] at e1 e2
        have e3' : ∀ i (hi : i < E.size), i + 1 = E.size → 128 ≤ (E[i]'hi).toNat := by subst hE; exact e3
        clear e3
        obtain ⟨n, hn⟩ : ∃ n, E.size = n + 1 := ⟨E.size - 1, by omega⟩
        have hnE : n < E.size := by omega
        have hlast := e3' n hnE hn.symm
        obtain ⟨b, hb⟩ : ∃ b, E[n]'hnE = b := ⟨_, rfl⟩
        rw [hb] at hlast
        have hcv : IntKind.i64.wrap ((n : Int) + 1 - 1) = (n : Int) := by
          rw [show (n : Int) + 1 - 1 = (n : Int) by omega]
          exact IntWalk.i64_in _ (by omega)
        have hi1 : (0 : Int) ≤ (n : Int) := by omega
        have hi2 : (n : Int) < (E.size : Int) := by omega
        have hes : (E.size : Int) - 1 = (n : Int) := by omega
        clear e3' hq h1 hr
        by_cases h5 : n < s.size
        · have ha := HS.out (s[n]'h5) (by rw [← get_list s n h5]; exact List.getElem_mem _)
          obtain ⟨a, hsa⟩ : ∃ a, s[n]'h5 = a := ⟨_, rfl⟩
          rw [hsa] at ha
          have hne : ((a.toNat : Int) == (b.toNat : Int)) = false := by rw [beq_eq_false_iff_ne]; omega
          have hne2 : ((a.toNat : Int) != (b.toNat : Int)) = true := by rw [bne_iff_ne]; omega
          have h5i : (n : Int) < (s.size : Int) := by omega
          have C3 := hid (fun (w : World) => HCI.out (s.extract (n + 1) s.size) b w)
          have hno : Lib.indexByte (s.extract (n + 1) s.size).data.toList b < 0 := by
            by_cases hc : 0 ≤ Lib.indexByte (s.extract (n + 1) s.size).data.toList b
            · exfalso
              have h8 : decide (0 ≤ Lib.indexByte (s.extract (n + 1) s.size).data.toList b) = true := decide_eq_true hc
              rw [has_index] at h8
              have h9 := List.contains_iff_mem.1 h8
              have h10 : b ∈ s.data.toList := by
                rw [ByteArray.data_extract, Array.toList_extract] at h9
                exact List.mem_of_mem_drop (List.mem_of_mem_take h9)
              have := HS.out b h10
              omega
            · omega
          obtain ⟨z, hz⟩ : ∃ z, Lib.indexByte (s.extract (n + 1) s.size).data.toList b = z := ⟨_, rfl⟩
          rw [hz] at C3 hno
          clear hz
          go_enter Tryd.func105, Tryd.ntmps105
          go_wp2_with fail
          refine (CV.out _).mono ?_
          rintro e w1 ⟨rfl, rfl⟩
          go_wp2
          go_step3
          go_wp2
          go_loopw [9] (fun i wr => i = .int .i64 (n : Int) ∧ Below w.heap.size w wr) (fun _ _ => 0)
          case atStart => exact ⟨rfl, Below.refl _ _⟩
          case round =>
            obtain ⟨rfl, hB⟩ := hrel
            go_wp2_with fail
            go_step3
            go_wp2_with fail
            go_quiet (fail)
            obtain ⟨wq, hwq⟩ : ∃ W, wr.drewN nq = W := ⟨_, rfl⟩
            have hBq : Below w.heap.size w wq := by rw [← hwq]; exact bel_dn hB _
            rw [hwq]
            have g1 : IntKind.i64.wrap ((n : Int) + 1) = (n : Int) + 1 := IntWalk.i64_in _ (by omega)
            have g2 : (0 : Int) ≤ (n : Int) + 1 := by omega
            have g3 : ((n : Int) + 1).toNat = n + 1 := by omega
            have g4 : (n : Int) + 1 ≤ (s.size : Int) := by omega
            clear hwq
            go_wp2_with fail
            go_quiet ((go_at_call 79; exact Calls.quiet_of_same (C3.out _)))
            go_wp2
            rw [Exit.noGoto_ret]
            go_ret
            exact ⟨-1, rfl, HO.out.symm, bel_dn hBq _⟩
        · have h5i : ¬ (n : Int) < (s.size : Int) := by omega
          go_enter Tryd.func105, Tryd.ntmps105
          go_wp2_with fail
          refine (CV.out _).mono ?_
          rintro e w1 ⟨rfl, rfl⟩
          go_wp2
          go_step3
          go_wp2
          go_loopw [9] (fun i wr => i = .int .i64 (n : Int) ∧ Below w.heap.size w wr) (fun _ _ => 0)
          case atStart => exact ⟨rfl, Below.refl _ _⟩
          case round =>
            obtain ⟨rfl, hB⟩ := hrel
            go_wp2
            rw [Exit.noGoto_ret]
            go_ret
            exact ⟨-1, rfl, HO.out.symm, hB⟩
    · have hq0 : q = false := by rw [← hq]; unfold okRune; exact decide_eq_false (by omega)
      subst hq0
      clear hq h1
      go_enter Tryd.func105, Tryd.ntmps105
      go_wp2_with fail
      refine (CV.out _).mono ?_
      rintro e w1 ⟨rfl, rfl⟩
      go_wp2
      go_ret
      exact ⟨-1, rfl, HO.out.symm, Below.refl _ _⟩
end Go.Proofs.YtommldonooicjaaDoor
