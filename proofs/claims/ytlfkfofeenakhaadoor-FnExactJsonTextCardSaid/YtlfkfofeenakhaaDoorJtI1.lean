/-
  What is proved here: impl.jsonString and impl.JsonString write a string of JSON. The conditions: its length; 'Tabs' speaks of the library's tables.
-/
import Derived.Test.YtlfkfofeenakhaaDoorJsI4
import Derived.Test.YtlfkfofeenakhaaDoorJsL7
namespace Go.Proofs.YtlfkfofeenakhaaDoor
open Go.RowKit
set_option linter.unusedVariables false
set_option linter.unusedSimpArgs false

def quoH (l : List UInt8) (k : Nat) : List UInt8 := 34 :: (l.take k).flatMap escT
theorem quoH_succ {l : List UInt8} {k : Nat} (h : k < l.length) : quoH l (k + 1) = quoH l k ++ escT l[k] := by
  unfold quoH
  rw [List.take_add_one, List.getElem?_eq_getElem h]
  show 34 :: (l.take k ++ [l[k]]).flatMap escT = 34 :: (l.take k).flatMap escT ++ escT l[k]
  rw [List.flatMap_append]
  simp only [List.flatMap_cons, List.flatMap_nil, List.append_nil, List.cons_append]
theorem quoH_len (l : List UInt8) (k : Nat) : (quoH l k).length ≤ 6 * k + 1 := by
  have h : ∀ (l : List UInt8), (l.flatMap escT).length ≤ 6 * l.length := by
    intro l
    induction l with
    | nil => simp
    | cons c r ih =>
      have := (escT_len c).2
      rw [List.flatMap_cons, List.length_append, List.length_cons]
      omega
  have h1 := h (l.take k)
  have h2 : (l.take k).length ≤ k := by rw [List.length_take]; omega
  unfold quoH
  rw [List.length_cons]
  omega
theorem quoH_all (l : List UInt8) : quoT l = quoH l l.length ++ [34] := by
  unfold quoT quoH
  rw [List.take_length]
  rfl
theorem quoT_len (l : List UInt8) : (quoT l).length ≤ 6 * l.length + 2 := by
  have := quoH_len l l.length
  rw [quoH_all, List.length_append, List.length_singleton]
  omega
def wspL : List UInt8 := [34, 92, 8, 12, 10, 13, 9]
def wspI (c : Nat) : Int := Lib.indexByte wspL (UInt8.ofNat c)
def wspChk (c : Nat) : Bool := if wspI c < 0 then (if c < 32 then decide (escT (UInt8.ofNat c) = [92, 117, 48, 48, hx (c / 16), hx (c % 16)]) else decide (escT (UInt8.ofNat c) = [UInt8.ofNat c])) else (List.range 7).any fun j => wspI c == (j : Int) && decide (escT (UInt8.ofNat c) = [92, ([34, 92, 98, 102, 110, 114, 116] : List UInt8).getD j 0])
set_option maxRecDepth 100000 in
theorem wspChk_256 : ∀ c, c < 256 → wspChk c = true := by decide
theorem wsp_cases {c : Nat} (hc : c < 256) : (∃ j : Nat, j < 7 ∧ wspI c = (j : Int) ∧ escT (UInt8.ofNat c) = [92, ([34, 92, 98, 102, 110, 114, 116] : List UInt8).getD j 0]) ∨ (wspI c < 0 ∧ c < 32 ∧ escT (UInt8.ofNat c) = [92, 117, 48, 48, hx (c / 16), hx (c % 16)]) ∨ (wspI c < 0 ∧ ¬ c < 32 ∧ escT (UInt8.ofNat c) = [UInt8.ofNat c]) := by
  have h := wspChk_256 c hc
  unfold wspChk at h
  split at h
  · rename_i h0
    split at h
    · rename_i h1
      exact Or.inr (Or.inl ⟨h0, h1, of_decide_eq_true h⟩)
    · rename_i h1
      exact Or.inr (Or.inr ⟨h0, h1, of_decide_eq_true h⟩)
  · simp only [List.any_eq_true, List.mem_range, Bool.and_eq_true, beq_iff_eq, decide_eq_true_eq] at h
    obtain ⟨j, h1, h2, h3⟩ := h
    exact Or.inl ⟨j, h1, h2, h3⟩
theorem implWspIdx (c : Nat) (w : World) : Calls Tryd.prog 72 #[.string ⟨#[34, 92, 8, 12, 10, 13, 9]⟩, .int .u8 (c : Int)] w fun e w' => e = .returned (.int .i64 (wspI c)) ∧ w = w' := by
  have h := Tryd.strings_IndexByte ⟨#[34, 92, 8, 12, 10, 13, 9]⟩ (c : Int) w
  refine h.mono ?_
  rintro e w' ⟨rfl, rfl⟩
  exact ⟨rfl, rfl⟩
theorem letB_at {j : Nat} (hj : j < 7) : ∃ hj : j < (⟨#[34, 92, 98, 102, 110, 114, 116]⟩ : ByteArray).size, ((⟨#[34, 92, 98, 102, 110, 114, 116]⟩ : ByteArray)[j]'hj) = ([34, 92, 98, 102, 110, 114, 116] : List UInt8).getD j 0 := by
  refine ⟨hj, ?_⟩
  have key : ∀ j : Fin 7, ((⟨#[34, 92, 98, 102, 110, 114, 116]⟩ : ByteArray)[j.val]'(show j.val < 7 from j.isLt)) = ([34, 92, 98, 102, 110, 114, 116] : List UInt8).getD j.val 0 := by decide
  exact key ⟨j, hj⟩
theorem hxB_at {j : Nat} (hj : j < 16) : ∃ hj : j < (⟨#[48, 49, 50, 51, 52, 53, 54, 55, 56, 57, 97, 98, 99, 100, 101, 102]⟩ : ByteArray).size, ((⟨#[48, 49, 50, 51, 52, 53, 54, 55, 56, 57, 97, 98, 99, 100, 101, 102]⟩ : ByteArray)[j]'hj) = hx j := by
  refine ⟨hj, ?_⟩
  have key : ∀ j : Fin 16, ((⟨#[48, 49, 50, 51, 52, 53, 54, 55, 56, 57, 97, 98, 99, 100, 101, 102]⟩ : ByteArray)[j.val]'(show j.val < 16 from j.isLt)) = hx j.val := by decide
  exact key ⟨j, hj⟩
set_option maxHeartbeats 16000000 in
set_option maxRecDepth 100000 in
theorem implJStr (s : ByteArray) (w : World) (hsz : s.size ≤ 1000000) :
    Calls Tryd.prog 130 #[.string s] w fun e w' => e = .returned (.string (mkB (quoT s.data.toList))) ∧ Below w.heap.size w w' := by
  obtain ⟨l, hl⟩ : ∃ l, s.data.toList = l := ⟨_, rfl⟩
  have hsl : s.size = l.length := by rw [Lib.size_eq, hl]
  rw [hl]
  have HL := hid hl
  have HSL := hid hsl
  clear hl hsl
  have HI0 := hid (Lib.IsBuilderF.of (Lib.fresh_isBuilder 119 5 w))
  go_enter Tryd.func130, Tryd.ntmps130
  go_wp2_with fail
  refine (Tryd.Builder_WriteByte_k w.heap.size w.heap.size [] 34 _ HI0.out (by simp) (ext_alloc w _).size).mono ?_
  rintro e W0 ⟨rfl, h0, b0, k0⟩
  have HI1 := hid (show Lib.IsBuilderF 119 5 w.heap.size w.heap.size (Lib.byteCells [34]) W0 from Or.inr h0)
  have HB0 := hid (Below.trans (ext_alloc w (.cells #[.pointer none, .slice none 0 0] 119)) b0)
  clear h0 b0 k0
  go_wp2
  go_loopw [10] (fun i wr => ∃ k : Nat, k ≤ s.size ∧ i = .int .i64 (k : Int) ∧ Lib.IsBuilderF 119 5 w.heap.size w.heap.size (Lib.byteCells (quoH l k)) wr ∧ Below w.heap.size w wr) (fun i _ => s.size - (intOf i).toNat)
  case atStart => exact ⟨0, Nat.zero_le _, rfl, HI1.out, HB0.out⟩
  case round =>
    obtain ⟨k, hk, rfl, hI, hb⟩ := hrel
    have hlen := quoH_len l k
    have HI := hid hI
    have HB := hid hb
    clear hI hb
    by_cases hlt : k < s.size
    · obtain ⟨x, hx⟩ : ∃ x, s[k] = x := ⟨_, rfl⟩
      have hkl : k < l.length := by rw [← HSL.out]; exact hlt
      have hlx : l[k] = x := by
        rw [← hx]
        have := get_list s k hlt
        rw [← this]
        congr 1
        exact HL.out.symm
      have hstep := quoH_succ hkl
      rw [hlx] at hstep
      obtain ⟨c, hc⟩ : ∃ c, x.toNat = c := ⟨_, rfl⟩
      have hcx : UInt8.ofNat c = x := by rw [← hc]; exact UInt8.ofNat_toNat
      have hc256 : c < 256 := by rw [← hc]; exact x.toNat_lt
      have hix : ((s[k] : UInt8).toNat : Int) = (c : Int) := by rw [hx, hc]
      have hi1 : (0 : Int) ≤ (k : Int) := by omega
      have hi2 : (k : Int) < (s.size : Int) := by omega
      rw [← hcx] at hstep
      have HST := hid hstep
      have CX := hid (fun w => implWspIdx c w)
      have hcs := wsp_cases hc256
      obtain ⟨Z, hZ⟩ : ∃ Z, wspI c = Z := ⟨_, rfl⟩
      rw [hZ] at CX hcs
      clear hlx hx hc hcx hstep hZ
      go_wp2_with fail
      refine (CX.out _).mono ?_
      rintro e w1 ⟨rfl, rfl⟩
      rcases hcs with ⟨j, hj, rfl, he⟩ | ⟨hz, h32, he⟩ | ⟨hz, h32, he⟩
      · as_aux_lemma =>
        have HE := hid (show quoH l (k + 1) = (quoH l k ++ [92]) ++ [([34, 92, 98, 102, 110, 114, 116] : List UInt8).getD j 0] by rw [HST.out, he]; simp)
        have hj0 : (0 : Int) ≤ (j : Int) := by omega
        have hj7 : (j : Int) < 7 := by omega
        obtain ⟨hj8, hjx⟩ := letB_at hj
        obtain ⟨Y, hY⟩ : ∃ Y, ([34, 92, 98, 102, 110, 114, 116] : List UInt8).getD j 0 = Y := ⟨_, rfl⟩
        rw [hY] at hjx HE
        have hjy : ((((⟨#[34, 92, 98, 102, 110, 114, 116]⟩ : ByteArray)[j]'hj8).toNat : Nat) : Int) = (Y.toNat : Int) := by rw [hjx]
        clear he hY hjx
        go_wp2_with fail
        refine (Tryd.Builder_WriteByte_k w.heap.size w.heap.size _ 92 _ HI.out (by rw [Lib.byteCells_length]; omega) HB.out.size).mono ?_
        rintro e w2 ⟨rfl, h2, b2, _⟩
        have HI2 := hid (show Lib.IsBuilderF 119 5 w.heap.size w.heap.size (Lib.byteCells (quoH l k ++ [92])) w2 by rw [← byteCells1J]; exact Or.inr h2)
        have HB2 := hid (HB.out.trans b2)
        clear h2 b2
        go_wp2_with fail
        refine (Tryd.Builder_WriteByte_k w.heap.size w.heap.size _ _ _ HI2.out (by rw [Lib.byteCells_length, List.length_append, List.length_singleton]; omega) HB2.out.size).mono ?_
        rintro e w3 ⟨rfl, h3, b3, _⟩
        have HI3 := hid (show Lib.IsBuilderF 119 5 w.heap.size w.heap.size (Lib.byteCells (quoH l (k + 1))) w3 by rw [HE.out, ← byteCells1J]; exact Or.inr h3)
        have HB3 := hid (HB2.out.trans b3)
        clear h3 b3
        go_wp2
        go_roundw
        case rel => exact ⟨k + 1, by omega, by go_num, HI3.out, HB3.out⟩
        case measure => simp [intOf]; omega
      · as_aux_lemma =>
        have HE := hid (show quoH l (k + 1) = ((quoH l k ++ [92, 117, 48, 48]) ++ [hx (c / 16)]) ++ [hx (c % 16)] by rw [HST.out, he]; simp)
        have hz2 : ¬ (0 : Int) ≤ Z := by omega
        have h32i : (c : Int) < 32 := by omega
        obtain ⟨ha8, hax⟩ := hxB_at (show c / 16 < 16 by omega)
        obtain ⟨hb8, hbx⟩ := hxB_at (show c % 16 < 16 by omega)
        obtain ⟨YA, hYA⟩ : ∃ Y, hx (c / 16) = Y := ⟨_, rfl⟩
        obtain ⟨YB, hYB⟩ : ∃ Y, hx (c % 16) = Y := ⟨_, rfl⟩
        rw [hYA] at hax HE
        rw [hYB] at hbx HE
        have hja : ((((⟨#[48, 49, 50, 51, 52, 53, 54, 55, 56, 57, 97, 98, 99, 100, 101, 102]⟩ : ByteArray)[c / 16]'ha8).toNat : Nat) : Int) = (YA.toNat : Int) := by rw [hax]
        have hjb : ((((⟨#[48, 49, 50, 51, 52, 53, 54, 55, 56, 57, 97, 98, 99, 100, 101, 102]⟩ : ByteArray)[c % 16]'hb8).toNat : Nat) : Int) = (YB.toNat : Int) := by rw [hbx]
        have ha0 : (0 : Int) ≤ (c : Int) / 16 := by omega
        have ha1 : (c : Int) / 16 < 16 := by omega
        have hb0 : (0 : Int) ≤ (c : Int) % 16 := by omega
        have hb1 : (c : Int) % 16 < 16 := by omega
        clear he hYA hYB hax hbx
        go_wp2_with fail
        refine (Tryd.Builder_WriteString_k w.heap.size w.heap.size _ _ _ HI.out (by rw [Lib.byteCells_length]; show _ + 4 ≤ _; omega) HB.out.size).mono ?_
        rintro e w2 ⟨rfl, h2, b2, _⟩
        have HI2 := hid (show Lib.IsBuilderF 119 5 w.heap.size w.heap.size (Lib.byteCells (quoH l k ++ [92, 117, 48, 48])) w2 by rw [Lib.byteCells_append]; exact Or.inr h2)
        have HB2 := hid (HB.out.trans b2)
        clear h2 b2
        go_wp2_with fail
        refine (Tryd.Builder_WriteByte_k w.heap.size w.heap.size _ _ _ HI2.out (by rw [Lib.byteCells_length, List.length_append]; show _ + 4 + 1 ≤ _; omega) HB2.out.size).mono ?_
        rintro e w3 ⟨rfl, h3, b3, _⟩
        have HI3 := hid (show Lib.IsBuilderF 119 5 w.heap.size w.heap.size (Lib.byteCells ((quoH l k ++ [92, 117, 48, 48]) ++ [YA])) w3 by rw [← byteCells1J]; exact Or.inr h3)
        have HB3 := hid (HB2.out.trans b3)
        clear h3 b3
        go_wp2_with fail
        refine (Tryd.Builder_WriteByte_k w.heap.size w.heap.size _ _ _ HI3.out (by rw [Lib.byteCells_length, List.length_append, List.length_append]; show _ + 4 + 1 + 1 ≤ _; omega) HB3.out.size).mono ?_
        rintro e w4 ⟨rfl, h4, b4, _⟩
        have HI4 := hid (show Lib.IsBuilderF 119 5 w.heap.size w.heap.size (Lib.byteCells (quoH l (k + 1))) w4 by rw [HE.out, ← byteCells1J]; exact Or.inr h4)
        have HB4 := hid (HB3.out.trans b4)
        clear h4 b4
        go_wp2
        go_roundw
        case rel => exact ⟨k + 1, by omega, by go_num, HI4.out, HB4.out⟩
        case measure => simp [intOf]; omega
      · as_aux_lemma =>
        have HE := hid (show quoH l (k + 1) = quoH l k ++ [UInt8.ofNat c] by rw [HST.out, he])
        have hz2 : ¬ (0 : Int) ≤ Z := by omega
        have h32i : ¬ (c : Int) < 32 := by omega
        have HBB := hid (show ((UInt8.ofNat c).toNat : Int) = (c : Int) by rw [UInt8.toNat_ofNat']; omega)
        clear he
        go_wp2_with fail
        refine (Tryd.Builder_WriteByte_k w.heap.size w.heap.size _ _ _ HI.out (by rw [Lib.byteCells_length]; omega) HB.out.size).mono ?_
        rintro e w2 ⟨rfl, h2, b2, _⟩
        have HI2 := hid (show Lib.IsBuilderF 119 5 w.heap.size w.heap.size (Lib.byteCells (quoH l (k + 1))) w2 by rw [HE.out, ← byteCells1J, HBB.out]; exact Or.inr h2)
        have HB2 := hid (HB.out.trans b2)
        clear h2 b2
        go_wp2
        go_roundw
        case rel => exact ⟨k + 1, by omega, by go_num, HI2.out, HB2.out⟩
        case measure => simp [intOf]; omega
    · obtain rfl : k = s.size := by omega
      have HE := hid (show quoT l = quoH l s.size ++ [34] by rw [HSL.out]; exact quoH_all l)
      go_wp2_with fail
      refine (Tryd.Builder_WriteByte_k w.heap.size w.heap.size _ 34 _ HI.out (by rw [Lib.byteCells_length]; omega) HB.out.size).mono ?_
      rintro e w2 ⟨rfl, h2, b2, _⟩
      have HI2 := hid (show Lib.IsBuilderF 119 5 w.heap.size w.heap.size (Lib.byteCells (quoT l)) w2 by rw [HE.out, ← byteCells1J]; exact Or.inr h2)
      have HB2 := hid (HB.out.trans b2)
      clear h2 b2
      go_wp2_with fail
      refine (Tryd.Builder_String_any_k w.heap.size w.heap.size _ _ HI2.out HB2.out.size).mono ?_
      rintro e w3 ⟨rfl, _, b3, _⟩
      have HB3 := hid (HB2.out.trans b3)
      clear b3
      go_wp2
      go_ret
      exact ⟨rfl, HB3.out⟩
def jstrP (s : ByteArray) : ByteArray := if okText s = true then mkB (quoT s.data.toList) else ⟨#[]⟩
set_option maxHeartbeats 1000000 in
theorem implJStrT (s : ByteArray) (w : World) (hT : Tabs w) :
    Calls Tryd.prog 129 #[.string s] w fun e w' => e = .returned (.string (jstrP s)) ∧ Below w.heap.size w w' := by
  have CK := hid (implTextOk s w hT)
  have hln := okText_size (s := s)
  obtain ⟨B, hB⟩ : ∃ B, okText s = B := ⟨_, rfl⟩
  rw [hB] at CK hln
  obtain ⟨R, hR⟩ : ∃ R, jstrP s = R := ⟨_, rfl⟩
  have HR := hid (show R = if B = true then mkB (quoT s.data.toList) else ⟨#[]⟩ by rw [← hR, ← hB]; rfl)
  rw [hR]
  clear hT hB hR
  cases B with
  | false =>
    have HR2 := hid (show R = ⟨#[]⟩ from HR.out)
    go_enter Tryd.func129, Tryd.ntmps129
    go_wp2_with fail
    refine CK.out.mono ?_
    rintro e w1 ⟨rfl, hb1⟩
    have HB1 := hid hb1
    clear hb1
    go_wp2
    go_ret
    rw [HR2.out]
    exact ⟨rfl, HB1.out⟩
  | true =>
    have HR2 := hid (show R = mkB (quoT s.data.toList) from HR.out)
    have CJ := hid (fun w => implJStr s w (by have := hln rfl; omega))
    clear hln
    go_enter Tryd.func129, Tryd.ntmps129
    go_wp2_with fail
    refine CK.out.mono ?_
    rintro e w1 ⟨rfl, hb1⟩
    have HB1 := hid hb1
    clear hb1
    go_wp2_with fail
    refine (CJ.out _).mono ?_
    rintro e w2 ⟨rfl, hb2⟩
    have HB2 := hid (HB1.out.trans (hb2.mono HB1.out.size))
    clear hb2
    go_wp2
    go_ret
    rw [HR2.out]
    exact ⟨rfl, HB2.out⟩
end Go.Proofs.YtlfkfofeenakhaaDoor
