/-
  What is proved here: from what a row lists of the tables of unicode-utf8 to what the contract of ValidString asks of the world. No condition.
  What is proved here: the program's runesOf, TextOk, Runes beside the reference's. The condition 'Tabs' says that the library's tables for UTF-8 lie in the world.
  What is proved here: the laws' sizes, copies and comparisons of the program's structs. No condition. Written by gensz.py.
  What is proved here: naturals in digits ('natOk'), numbers ('decOk'): what isNat, NatOk, isDec, DecOk return. No condition.
  What is proved here: the value none, and its reading. No condition.
  What is proved here: TextOk, Runes, Length, ValOk, TextVal on both sides. The condition 'Tabs' says that the library's tables for UTF-8 lie in the world.
  What is proved here: Runes and Length on both sides; a row of the call's own as a slice. The condition 'Tabs' says that the library's tables for UTF-8 lie in the world.
  What is proved here: impl.textOf and impl.TextOf return the bytes of a list of code points (TextOf: of at most 1000 bytes). No condition.
  What is proved here: impl.Part, spec.Part and spec.l01Text return the bytes of the chosen code points. The condition 'Tabs' says that the library's tables for UTF-8 lie in the world.
  What is proved here: spec.l01Text and spec.Part return the bytes of the chosen code points. No condition.
  What is proved here: spec.l02Zeros returns a row of noughts, impl.natShift a natural with noughts behind it. No condition.
-/
import Derived.Test.YtomcoilmpkpoeaaGreatDoorVShelfA
import Derived.MakeChecks
import Derived.Test.YtomcoilmpkpoeaaGreatDoorVA
import Derived.Lib.OthersKept
import Derived.Deep.RegionHeld3
import Derived.Lib.ConvBytes
import Derived.Laws.IdiomStrings
import Derived.Lib.Repeat
namespace Go.Proofs.YtomcoilmpkpoeaaGreatDoor
open Go.Shelf Go.Lib

def Tabs (w : World) : Prop := Lib.Utf8Tabs (Tryz.laysValid_ren.g 3) (Tryz.laysValid_ren.g 4) w
theorem tabs_below {w w' : World} (h : Tabs w) (hb : Go.RowKit.Below w.heap.size w w') : Tabs w' := Utf8Tabs_below h hb

theorem tabs_of_reads {P : Program} {ρ : Ren} {n1 n2 : String} (L : Lays.n196 P ρ) (hn3 : P.globalNamed n1 = some (ρ.g 3)) (hn4 : P.globalNamed n2 = some (ρ.g 4))
    (y3 : (P.globals[ρ.g 3]?).map (·.type) = some (ρ.t 119)) (y4 : (P.globals[ρ.g 4]?).map (·.type) = some (ρ.t 139)) (c5 : P.cellsOf (ρ.t 5) = 1) (c119 : P.cellsOf (ρ.t 119) = 256) (c138 : P.cellsOf (ρ.t 138) = 2)
    {w : World} (h3 : VarReads P w n1 firstData) (h4 : VarReads P w n2 acceptData) : Lib.Utf8Tabs (ρ.g 3) (ρ.g 4) w := by
  refine ⟨fun c hc => ?_, fun i hi => ?_⟩
  · obtain ⟨g, t, cs, fuel, p, hg, hty, hvar, hd⟩ := h3
    obtain rfl := Option.some.inj (hn3.symm.trans hg)
    obtain rfl := Option.some.inj (y3.symm.trans hty)
    have hcs := cells_of_tab L.t119 L.t5 c5 c119 hd
    have := World.var?_cell hg hvar c
    rw [this, ← Array.getElem?_toList, hcs]
    simp [firstTab, hc]
  · obtain ⟨g, t, cs, fuel, p, hg, hty, hvar, hd⟩ := h4
    obtain rfl := Option.some.inj (hn4.symm.trans hg)
    obtain rfl := Option.some.inj (y4.symm.trans hty)
    obtain ⟨fuel', d, q, hdi, he⟩ := array_elem L.t139 hd i hi
    simp only [List.getElem?_map, List.getElem?_range hi, Option.map_some, Option.some.injEq] at hdi
    subst hdi
    rw [c138] at he
    have hcs := ints_of_struct L.t138 (fun j f hj => by
      match j, hj with
      | 0, hj => simp at hj; subst hj; exact ⟨L.t5, rfl, c5⟩
      | 1, hj => simp at hj; subst hj; exact ⟨L.t5, rfl, c5⟩
      | j + 2, hj => simp at hj) (by rw [c138]; rfl) he
    have e0 := congrArg (·[0]?) hcs
    have e1 := congrArg (·[1]?) hcs
    simp only [List.getElem?_take, List.getElem?_drop] at e0 e1
    constructor
    · rw [World.var?_cell hg hvar (2 * i), ← Array.getElem?_toList]
      simpa [Nat.mul_comm] using e0
    · rw [World.var?_cell hg hvar (2 * i + 1), ← Array.getElem?_toList]
      simpa [Nat.mul_comm] using e1

theorem tabs_of_list {n1 n2 : String} {d1 d2 : DataW Unit} {rest : List (String × DataW Unit)} {W : World} (hp : (((n1, d1) :: (n2, d2) :: rest).all fun x => x.2.handleName?.isNone) = true) (e1 : d1 = acceptData) (e2 : d2 = firstData)
    (hn2 : Tryz.prog.globalNamed n2 = some (Tryz.laysValid_ren.g 3)) (hn1 : Tryz.prog.globalNamed n1 = some (Tryz.laysValid_ren.g 4)) (h : laidMetH Tryz.prog ((n1, d1) :: (n2, d2) :: rest) W) : Tabs W := by
  rw [Go.MakeChecks.laidMetH_plain _ _ _ hp] at h
  subst e1 e2
  exact tabs_of_reads Tryz.laysValid hn2 hn1 (by kernel_rfl) (by kernel_rfl) (by kernel_rfl) (by kernel_rfl) (by kernel_rfl) (laidMet.reads h (by simp)) (laidMet.reads h (by simp))
end Go.Proofs.YtomcoilmpkpoeaaGreatDoor

namespace Go.Proofs.YtomcoilmpkpoeaaGreatDoor
open Go.RowKit Go.Lib
set_option linter.unusedVariables false
set_option linter.unusedSimpArgs false

theorem own_iter {w : World} {base : Nat} {e : TypeId} {size : Nat} {v : Value} {n : Nat} {xs : List Value} (h : w.ownsRow base e size v n xs) {K : Nat} (hK : K < base) (s : ByteArray) (pos : Nat) : (w.iterAt K s pos).ownsRow base e size v n xs := by
  refine ⟨h.1, ?_⟩
  rcases h.2 with h2 | ⟨g, cap, cur, rfl, hb, hg, h3⟩
  · exact Or.inl h2
  · exact Or.inr ⟨g, cap, cur, rfl, hb, (iterAt_other w K g s pos (by omega)).trans hg, h3⟩
theorem own_nil (w : World) (base : Nat) (e : TypeId) : w.ownsRow base e 1 (.slice none 0 0) 0 [] := ⟨rfl, Or.inl ⟨rfl, rfl⟩⟩
theorem own_base {w : World} {base base' : Nat} {e : TypeId} {size : Nat} {v : Value} {n : Nat} {xs : List Value} (h : w.ownsRow base e size v n xs) (hb : base' ≤ base) : w.ownsRow base' e size v n xs := by
  refine ⟨h.1, ?_⟩
  rcases h.2 with h2 | ⟨g, cap, cur, rfl, hg, h3⟩
  · exact Or.inl h2
  · exact Or.inr ⟨g, cap, cur, rfl, Nat.le_trans hb hg, h3⟩

theorem index_ge_of_mem {l : List UInt8} (h : (0 : UInt8) ∈ l) : (0 : Int) ≤ Lib.indexByte l 0 := by
  have h1 := Lib.indexByte_ge l 0
  by_cases h2 : Lib.indexByte l 0 = -1
  · obtain ⟨i, hi, hi'⟩ := List.mem_iff_getElem.1 h
    exact absurd (by rw [List.getElem?_eq_getElem hi, hi']) (Lib.indexByte_none h2 i)
  · omega
theorem index_of_not_mem {l : List UInt8} (h : (0 : UInt8) ∉ l) : Lib.indexByte l 0 < 0 := by
  have h1 := Lib.indexByte_ge l 0
  by_cases h2 : 0 ≤ Lib.indexByte l 0
  · obtain ⟨n, hn⟩ := Int.eq_ofNat_of_zero_le h2
    obtain ⟨h3, _⟩ := Lib.indexByte_some hn
    exact absurd (List.mem_of_getElem? h3) h
  · omega
theorem next_decode {l : List UInt8} (h : (runesAll l).isSome = true) (hl : l ≠ []) : next l = decodeL l ∧ (decodeL l).2 ≠ 0 := by
  by_cases hz : (next l).2 = 0
  · rw [runesAll_bad hl hz] at h; cases h
  · have : next l = decodeL l := by
      unfold next at hz ⊢
      split
      · rename_i h1; rw [if_pos h1] at hz; exact absurd rfl hz
      · rfl
    exact ⟨this, this ▸ hz⟩

theorem info_intI : (Tryz.prog.info? 3).map (fun i => (i.zero, i.size, i.bytes)) = some (some (.int .i64 0), 1, 8) := by kernel_rfl
set_option maxHeartbeats 4000000 in
set_option maxRecDepth 100000 in
theorem implRunesOf (s : ByteArray) (w : World) (hT : Tabs w) :
    Calls Tryz.prog 77 #[.string s] w fun e w' => ∃ u, e = .returned (.tuple #[u, .bool (textOk s.data.toList)]) ∧ w'.ownsRow w.heap.size 3 1 u (runesN s.data.toList).length (intVals (runesN s.data.toList)) ∧ Below w.heap.size w w' := by
  obtain ⟨l, hl⟩ : ∃ l, s.data.toList = l := ⟨_, rfl⟩
  have hsl : s.size = l.length := by rw [Lib.size_eq, hl]
  rw [hl]
  obtain ⟨i0, hi, hz0, hz1, hz2⟩ := info_parts info_intI
  by_cases hbig : (1000 : Int) < s.size
  · obtain ⟨e1, e2⟩ := runes_none (l := l) (Or.inl (by omega))
    rw [e1, e2]
    clear hi hz0 hz1 hz2 e1 e2
    go_enter Tryz.func77, Tryz.ntmps77
    go_wp2_with fail
    go_ret2
    exact ⟨_, rfl, own_nil _ _ _, Below.refl _ _⟩
  have HL := hid hl
  have HSL := hid hsl
  clear hl hsl
  have hlen : l.length ≤ 1000 := by have := HSL.out; omega
  have hsz : s.size ≤ 1000 := by omega
  have HV := hid (valid_runes l)
  have CV := Any.utf8_ValidString Tryz.laysValid s w (by omega) hT
  rw [HL.out] at CV
  by_cases hv : validD l = true
  · have CI : ∀ w, Calls Tryz.prog 122 #[.string s, .int .u8 0] w fun e w' => e = .returned (.int .i64 (Lib.indexByte l 0)) ∧ w' = w := fun w => by
      have := Tryz.strings_IndexByte s 0 w
      rw [HL.out] at this
      exact this
    rw [hv] at CV
    by_cases h0 : (0 : UInt8) ∈ l
    · obtain ⟨e1, e2⟩ := runes_none (l := l) (Or.inr (by
        cases hr : runesAll l with
        | none => rfl
        | some x => exact absurd h0 ((HV.out.2 (by rw [hr]; rfl)).2)))
      have hix := index_ge_of_mem h0
      rw [e1, e2]
      clear hi hz0 hz1 hz2 e1 e2 h0 hv
      go_enter Tryz.func77, Tryz.ntmps77
      go_wp2_with (first | (go_at_call 121; refine CV.mono ?_; rintro e w1 ⟨rfl, hb1⟩) | (go_at_call 122; refine (CI _).mono ?_; rintro e w1 ⟨rfl, rfl⟩))
      go_ret2
      exact ⟨_, rfl, own_nil _ _ _, hb1⟩
    · have hix := index_of_not_mem h0
      have hrs : (runesAll l).isSome = true := HV.out.1 ⟨hv, h0⟩
      have HR0 := hid hrs
      clear hv h0 hrs
      go_enter Tryz.func77, Tryz.ntmps77
      go_wp2_with (first | (go_at_call 121; refine CV.mono ?_; rintro e w1 ⟨rfl, hb1⟩) | (go_at_call 122; refine (CI _).mono ?_; rintro e w1 ⟨rfl, rfl⟩))
      have hs1 := hb1.size
      go_loopw [4] (fun out wr => ∃ (k : Nat) (rs : List Nat), k ≤ s.size ∧ wr.heap[w1.heap.size]? = some (.stringIter s k) ∧ Hid (runesAll l = (runesAll (l.drop k)).map (rs ++ ·)) ∧ wr.ownsRow (w1.heap.size + 1) 3 1 out rs.length (intVals rs) ∧ Below w.heap.size w wr ∧ rs.length ≤ k ∧ w1.heap.size < wr.heap.size) (fun _ wr => s.size - wr.iterPos w1.heap.size)
      case atStart => exact ⟨0, [], Nat.zero_le _, World.iter_heap w1 s 0, by show runesAll l = _; simp, own_nil _ _ _, ext_trans hb1 (ext_alloc _ _), Nat.le_refl _, by simp [World.iter]⟩
      case round =>
        obtain ⟨k, rs, hk, hit, HR, hown, hb, hrk, hsz1⟩ := hrel
        by_cases hlt : k < s.size
        · have hne : l.drop k ≠ [] := by
            intro h
            have := congrArg List.length h
            rw [List.length_drop] at this
            have := HSL.out
            simp at *
            omega
          have hsome : (runesAll (l.drop k)).isSome = true := by
            have := HR0.out
            rw [HR.out, Option.isSome_map] at this
            exact this
          obtain ⟨hnd, hnz⟩ := next_decode hsome hne
          have hnx : ∀ ty, (Instr.next (.pointer (some ⟨w1.heap.size, 0, none⟩)) true ty).run Tryz.prog wr = _ := fun ty => Lib.run_next_any_at wr w1.heap.size s k ty hit hlt
          have hdl := decodeL_drop s k
          rw [HL.out] at hdl
          obtain ⟨c, hc⟩ : ∃ c, (Utf8.decode s k).1 = c := ⟨_, rfl⟩
          obtain ⟨n, hn⟩ : ∃ n, (Utf8.decode s k).2 = n := ⟨_, rfl⟩
          have hcl := Lib.rune_le s k
          rw [hc] at hcl
          have hnl : n ≤ s.size - k := by
            have := next_le (l.drop k)
            rw [hnd, hdl, hn, List.length_drop] at this
            have := HSL.out
            omega
          have hn0 : n ≠ 0 := by rw [← hn, ← hdl]; exact hnz
          have HR' := hid (show runesAll l = (runesAll (l.drop (k + n))).map ((rs ++ [c]) ++ ·) by
            rw [HR.out, runesAll_step hne (by rw [hnd]; exact hnz), hnd, hdl, hc, hn, List.drop_drop]
            cases runesAll (List.drop (k + n) l) <;> simp)
          rw [hc, hn] at hnx
          have hit2 := Lib.iterAt_heap wr w1.heap.size s k (k + n) hit
          have hB2 := Lib.below_iterAt hb (k := w1.heap.size) hs1 s (k + n)
          have hown2 := own_iter hown (Nat.lt_succ_self _) s (k + n)
          have hp0 : wr.iterPos w1.heap.size = k := by simp [World.iterPos, hit]
          have hszW := hid (show (wr.iterAt w1.heap.size s (k + n)).heap.size = wr.heap.size from iterAt_size _ _ _ _)
          obtain ⟨W, hWd⟩ : ∃ W, wr.iterAt w1.heap.size s (k + n) = W := ⟨_, rfl⟩
          rw [hWd] at hnx hit2 hB2 hown2 hszW
          clear hc hn hne hsome hnd hnz hdl HR hown hWd hit hb
          go_wp2_with ((at_builtin; refine wpList_append_own _ rfl _ _ 78 rfl (w1.heap.size + 1) 3 i0 (.int .i64 0) 1 8 Tryz.underlying78 hi hz0 hz1 hz2 rfl (by decide) _ _ _ rfl (hown2.alloc _) ⟨W.heap.size, 0, none⟩ 1 1 [.int .i64 (c : Int)] rfl rfl ?c1 ?c2 ?c3 ?c4 ?c5 ?_))
          case c1 => exact cell_one_new _ _ _
          case c2 => intro u hu; simp at hu; subst hu; rfl
          case c3 => unfold maxLen; omega
          case c4 => omega
          case c5 => have := hszW.out; simp; omega
          intro v' w2 hown3 hgrow _
          have hlt' := (hown2.alloc (.cells #[.int .i64 (c : Int)] 3)).lt
          have hszW := hszW.out
          have hBW := ext_trans hB2 (ext_alloc W (.cells #[.int .i64 (c : Int)] 3))
          have hB3 : Below w.heap.size w w2 := hBW.grown hgrow hBW.size (fun q hq => by have := (hlt' q hq).1; omega)
          have hB4 : Below (w1.heap.size + 1) W w2 := ((Below.refl _ _).alloc (by omega) _).grown hgrow (by simp; omega) (fun q hq => (hlt' q hq).1)
          have hit3 : w2.heap[w1.heap.size]? = some (.stringIter s (k + n)) := (hB4.block _ (Nat.lt_succ_self _)).trans hit2
          have hp2 : w2.iterPos w1.heap.size = k + n := by simp [World.iterPos, hit3]
          have hs2 := hB4.size
          clear hi hz0 hz1 hz2 hgrow hown2 hlt'
          go_wp2
          go_roundw
          case rel => exact ⟨k + n, rs ++ [c], by omega, hit3, HR'.out, by rw [intVals_snoc, List.length_append]; exact hown3, hB3, by rw [List.length_append]; simp; omega, by omega⟩
          case measure => omega
        · have hnx : ∀ ty, (Instr.next (.pointer (some ⟨w1.heap.size, 0, none⟩)) true ty).run Tryz.prog wr = _ := fun ty => Lib.run_next_end_at wr w1.heap.size s k ty hit hlt
          have : k = s.size := by omega
          subst this
          have hd : l.drop s.size = [] := List.drop_eq_nil_of_le (by rw [HSL.out]; exact Nat.le_refl _)
          obtain ⟨e1, e2⟩ := runes_some (l := l) (rs := rs) hlen (by rw [HR.out, hd, runesAll_nil]; simp)
          have E1 := hid e1
          have E2 := hid e2
          clear e1 e2 hd hi hz0 hz1 hz2 hit
          go_wp2
          go_ret2
          rw [E1.out, E2.out]
          exact ⟨_, rfl, own_base hown (by omega), hb⟩
  · have hv' : validD l = false := by simpa using hv
    rw [hv'] at CV
    obtain ⟨e1, e2⟩ := runes_none (l := l) (Or.inr (by
        cases hr : runesAll l with
        | none => rfl
        | some x => exact absurd ((HV.out.2 (by rw [hr]; rfl)).1) hv))
    rw [e1, e2]
    clear hi hz0 hz1 hz2 e1 e2 hv hv'
    go_enter Tryz.func77, Tryz.ntmps77
    go_wp2_with (first | (go_at_call 121; refine CV.mono ?_; rintro e w1 ⟨rfl, hb1⟩))
    go_ret2
    exact ⟨_, rfl, own_nil _ _ _, hb1⟩
end Go.Proofs.YtomcoilmpkpoeaaGreatDoor

namespace Go.Proofs.YtomcoilmpkpoeaaGreatDoor
open Go.RowKit
set_option linter.unusedVariables false
set_option linter.unusedSimpArgs false
theorem rdDec {S : Nat → Prop} {w : World} {cs : List Value} {x : Dec} (h : Rd.rd S w cs x) : cs = [.bool x.neg, .string x.dig, .int .i64 x.exp] ∧ (x.dig.size ≤ 9223372036854775807) ∧ (-9223372036854775808 ≤ x.exp ∧ x.exp ≤ 9223372036854775807) := by
  obtain ⟨_, _, rfl, rfl, ⟨_, _, rfl, ⟨rfl, h1⟩, ⟨rfl, h2⟩⟩⟩ := h
  exact ⟨rfl, h1, h2⟩
theorem rdDec_mk {S : Nat → Prop} {w : World} {x : Dec} (h0 : x.dig.size ≤ 9223372036854775807) (h1 : -9223372036854775808 ≤ x.exp ∧ x.exp ≤ 9223372036854775807) : Rd.rd S w [.bool x.neg, .string x.dig, .int .i64 x.exp] x :=
  ⟨_, _, rfl, rfl, ⟨_, _, rfl, ⟨rfl, h0⟩, ⟨rfl, h1⟩⟩⟩
instance : Sz Dec := ⟨fun x => x.dig.size⟩

theorem rdVal {S : Nat → Prop} {w : World} {cs : List Value} {x : Val} (h : Rd.rd S w cs x) : cs = [.int .i64 x.kind, .bool x.num.neg, .string x.num.dig, .int .i64 x.num.exp, .string x.text] ∧ (-9223372036854775808 ≤ x.kind ∧ x.kind ≤ 9223372036854775807) ∧ (x.num.dig.size ≤ 9223372036854775807) ∧ (-9223372036854775808 ≤ x.num.exp ∧ x.num.exp ≤ 9223372036854775807) ∧ (x.text.size ≤ 9223372036854775807) := by
  obtain ⟨_, _, rfl, ⟨rfl, h0⟩, ⟨_, _, rfl, ⟨_, _, rfl, rfl, ⟨_, _, rfl, ⟨rfl, h2⟩, ⟨rfl, h3⟩⟩⟩, ⟨rfl, h4⟩⟩⟩ := h
  exact ⟨rfl, h0, h2, h3, h4⟩
theorem rdVal_mk {S : Nat → Prop} {w : World} {x : Val} (h0 : -9223372036854775808 ≤ x.kind ∧ x.kind ≤ 9223372036854775807) (h1 : x.num.dig.size ≤ 9223372036854775807) (h2 : -9223372036854775808 ≤ x.num.exp ∧ x.num.exp ≤ 9223372036854775807) (h3 : x.text.size ≤ 9223372036854775807) : Rd.rd S w [.int .i64 x.kind, .bool x.num.neg, .string x.num.dig, .int .i64 x.num.exp, .string x.text] x :=
  ⟨_, _, rfl, ⟨rfl, h0⟩, ⟨_, _, rfl, ⟨_, _, rfl, rfl, ⟨_, _, rfl, ⟨rfl, h1⟩, ⟨rfl, h2⟩⟩⟩, ⟨rfl, h3⟩⟩⟩
instance : Sz Val := ⟨fun x => Sz.sz x.num + x.text.size⟩


theorem rdArr {S : Nat → Prop} {w : World} {cs : List Value} {x : Arr} (h : Rd.rd S w cs x) : ∃ (a0 : Option Addr) (c0 : Nat), ∃ (a1 : Option Addr) (c1 : Nat), cs = [.slice a0 x.keys.length c0, .slice a1 x.vals.length c1] ∧ (Rd.rd S w [.slice a0 x.keys.length c0] x.keys) ∧ (Rd.rd S w [.slice a1 x.vals.length c1] x.vals) := by
  obtain ⟨_, _, rfl, h0, h1⟩ := h
  obtain ⟨a0, c0, e0⟩ := rdSlc h0
  subst e0
  obtain ⟨a1, c1, e1⟩ := rdSlc h1
  subst e1
  exact ⟨a0, c0, a1, c1, rfl, h0, h1⟩
theorem rdArr_mk {S : Nat → Prop} {w : World} {x : Arr} {a0 : Option Addr} {c0 : Nat} {a1 : Option Addr} {c1 : Nat} (h0 : Rd.rd S w [.slice a0 x.keys.length c0] x.keys) (h1 : Rd.rd S w [.slice a1 x.vals.length c1] x.vals) : Rd.rd S w [.slice a0 x.keys.length c0, .slice a1 x.vals.length c1] x :=
  ⟨_, _, rfl, h0, h1⟩
instance : Sz Arr := ⟨fun x => Sz.sz x.keys + Sz.sz x.vals⟩

theorem rdLeaf {S : Nat → Prop} {w : World} {cs : List Value} {x : Leaf} (h : Rd.rd S w cs x) : cs = [.string x.path, .int .i64 x.kind, .string x.text] ∧ (x.path.size ≤ 9223372036854775807) ∧ (-9223372036854775808 ≤ x.kind ∧ x.kind ≤ 9223372036854775807) ∧ (x.text.size ≤ 9223372036854775807) := by
  obtain ⟨_, _, rfl, ⟨rfl, h0⟩, ⟨_, _, rfl, ⟨rfl, h1⟩, ⟨rfl, h2⟩⟩⟩ := h
  exact ⟨rfl, h0, h1, h2⟩
theorem rdLeaf_mk {S : Nat → Prop} {w : World} {x : Leaf} (h0 : x.path.size ≤ 9223372036854775807) (h1 : -9223372036854775808 ≤ x.kind ∧ x.kind ≤ 9223372036854775807) (h2 : x.text.size ≤ 9223372036854775807) : Rd.rd S w [.string x.path, .int .i64 x.kind, .string x.text] x :=
  ⟨_, _, rfl, ⟨rfl, h0⟩, ⟨_, _, rfl, ⟨rfl, h1⟩, ⟨rfl, h2⟩⟩⟩
instance : Sz Leaf := ⟨fun x => x.path.size + x.text.size⟩


end Go.Proofs.YtomcoilmpkpoeaaGreatDoor

namespace Go.Proofs.YtomcoilmpkpoeaaGreatDoor
open Go.RowKit
set_option linter.unusedVariables false
set_option linter.unusedSimpArgs false

def isDig (c : UInt8) : Bool := decide (48 ≤ c.toNat ∧ c.toNat ≤ 57)
def natOk (l : List UInt8) : Bool := l.all isDig && decide (1 ≤ l.length ∧ l.length ≤ 600) && (decide (l.length = 1) || decide (l.head? ≠ some 48))
theorem isDig_iff {c : UInt8} : isDig c = true ↔ 48 ≤ c.toNat ∧ c.toNat ≤ 57 := by simp [isDig]
theorem natOk_iff {l : List UInt8} : natOk l = true ↔ (∀ c ∈ l, 48 ≤ c.toNat ∧ c.toNat ≤ 57) ∧ 1 ≤ l.length ∧ l.length ≤ 600 ∧ (l.length = 1 ∨ l.head? ≠ some 48) := by
  unfold natOk
  simp only [Bool.and_eq_true, Bool.or_eq_true, decide_eq_true_eq, List.all_eq_true, isDig_iff]
  constructor
  · rintro ⟨⟨h1, h2, h3⟩, h4⟩; exact ⟨h1, h2, h3, h4⟩
  · rintro ⟨h1, h2, h3, h4⟩; exact ⟨⟨h1, h2, h3⟩, h4⟩
theorem size_list (s : ByteArray) : s.size = s.data.toList.length := Lib.size_eq s
theorem get_list (s : ByteArray) (i : Nat) (h : i < s.size) : s.data.toList[i]'(by rw [← size_list]; exact h) = s[i] := rfl
theorem mem_list {s : ByteArray} {P : UInt8 → Prop} (h : ∀ i (hi : i < s.size), P s[i]) : ∀ c ∈ s.data.toList, P c := by
  intro c hc
  obtain ⟨i, hi, rfl⟩ := List.mem_iff_getElem.1 hc
  exact h i (by rw [size_list]; exact hi)
theorem head_list (s : ByteArray) (h : 0 < s.size) : s.data.toList.head? = some s[0] := by
  rw [List.head?_eq_getElem?, List.getElem?_eq_getElem (by rw [← size_list]; exact h)]
  rfl
theorem toNat_eq_48 {c : UInt8} : c.toNat = 48 ↔ c = 48 := by
  constructor
  · intro h; exact UInt8.toNat_inj.1 h
  · rintro rfl; rfl

set_option maxHeartbeats 1000000 in
theorem implIsNat (s : ByteArray) (w : World) (hs : s.size ≤ 9223372036854775807) :
    Calls Tryz.prog 87 #[.string s] w fun e w' => e = .returned (.bool (natOk s.data.toList)) ∧ w = w' := by
  go_enter Tryz.func87, Tryz.ntmps87
  go_wp2
  go_loop [6] (fun i => ∃ k : Nat, k ≤ s.size ∧ i = .int .i64 k ∧ ∀ i (hi : i < k) (hi' : i < s.size), 48 ≤ s[i].toNat ∧ s[i].toNat ≤ 57) (fun i => s.size - (intOf i).toNat)
  case atStart => exact ⟨0, Nat.zero_le _, rfl, fun i hi => absurd hi (by omega)⟩
  case round =>
    obtain ⟨k, hk, rfl, hr⟩ := hrel
    have HR := hid hr
    clear hr
    by_cases hlt : k < s.size
    · by_cases hd : 48 ≤ s[k].toNat ∧ s[k].toNat ≤ 57
      · have h1 : ¬ (s[k].toNat : Int) < 48 := by omega
        have h2 : ¬ (57 : Int) < (s[k].toNat : Int) := by omega
        have HD := hid hd
        clear hd
        go_wp2
        go_round
        case rel => exact ⟨k + 1, by omega, by go_num, fun i hi hi' => by
          by_cases hik : i = k
          · subst hik; exact HD.out
          · exact HR.out i (by omega) hi'⟩
        case measure => simp [intOf]; omega
      · have hbad : natOk s.data.toList = false := by
          rw [Bool.eq_false_iff]
          intro h
          exact hd ((natOk_iff.1 h).1 s[k] (by rw [← get_list s k hlt]; exact List.getElem_mem _))
        have HB := hid hbad
        clear hbad
        have hd' : s[k].toNat < 48 ∨ 57 < s[k].toNat := by omega
        clear hd
        rcases hd' with hd' | hd'
        · have h1 : (s[k].toNat : Int) < 48 := by omega
          go_wp2
          go_ret
          exact ⟨end_bool HB.out.symm, rfl⟩
        · have h1 : ¬ (s[k].toNat : Int) < 48 := by omega
          have h2 : (57 : Int) < (s[k].toNat : Int) := by omega
          go_wp2
          go_ret
          exact ⟨end_bool HB.out.symm, rfl⟩
    · have : k = s.size := by omega
      subst this
      have hall : ∀ c ∈ s.data.toList, 48 ≤ c.toNat ∧ c.toNat ≤ 57 := mem_list (fun i hi => HR.out i hi hi)
      have HA := hid hall
      clear hall
      by_cases hin : 1 ≤ s.size ∧ s.size ≤ 600
      · have hb : inB 1 (s.size : Int) 600 = true := inB_true (by omega)
        have h0 : 0 < s.size := by omega
        by_cases hz : s[0].toNat = 48
        · by_cases hone : s.size = 1
          · have hn : ((s[0].toNat : Int) != 48) = false := by rw [hz]; rfl
            have hl : s.data.toList = [48] := by
              have h1 : s.data.toList.length = 1 := by rw [← size_list]; exact hone
              match hm : s.data.toList, h1 with
              | [c], _ =>
                have := head_list s h0
                rw [hm] at this
                simp at this
                rw [this, toNat_eq_48.1 hz]
            have he : (s.toList == [48]) = true := by rw [Lib.toList_data, hl]; rfl
            have hok : natOk s.data.toList = true := natOk_iff.2 ⟨HA.out, by rw [← size_list]; omega, by rw [← size_list]; omega, Or.inl (by rw [← size_list]; exact hone)⟩
            have HO := hid hok
            clear hok hl hone hz hlt
            go_wp2_with (go_at_call 55; refine (within_any _ _ _ _).mono ?_; rintro e w1 ⟨rfl, rfl⟩)
            go_ret
            exact ⟨end_bool HO.out.symm, rfl⟩
          · have hn : ((s[0].toNat : Int) != 48) = false := by rw [hz]; rfl
            have he : (s.toList == [48]) = false := by
              rw [Lib.toList_data]
              simp only [beq_eq_false_iff_ne]
              intro h
              have := size_list s
              rw [h] at this
              exact hone this
            have hok : natOk s.data.toList = false := by
              rw [Bool.eq_false_iff]
              intro h
              rcases (natOk_iff.1 h).2.2.2 with h1 | h1
              · exact hone (by rw [size_list]; exact h1)
              · exact h1 (by rw [head_list s h0, toNat_eq_48.1 hz])
            have HO := hid hok
            clear hok hone hz hlt
            go_wp2_with (go_at_call 55; refine (within_any _ _ _ _).mono ?_; rintro e w1 ⟨rfl, rfl⟩)
            go_ret
            exact ⟨end_bool HO.out.symm, rfl⟩
        · have hn : ((s[0].toNat : Int) != 48) = true := by rw [bne_iff_ne]; omega
          have hok : natOk s.data.toList = true := natOk_iff.2 ⟨HA.out, by rw [← size_list]; omega, by rw [← size_list]; omega, Or.inr (by rw [head_list s h0]; simp; exact fun h => hz (toNat_eq_48.2 h))⟩
          have HO := hid hok
          clear hok hz hlt
          go_wp2_with (go_at_call 55; refine (within_any _ _ _ _).mono ?_; rintro e w1 ⟨rfl, rfl⟩)
          go_ret
          exact ⟨end_bool HO.out.symm, rfl⟩
      · have hb : inB 1 (s.size : Int) 600 = false := inB_false (by omega)
        have hok : natOk s.data.toList = false := by
          rw [Bool.eq_false_iff]
          intro h
          have := natOk_iff.1 h
          rw [← size_list] at this
          omega
        have HO := hid hok
        clear hok hlt
        go_wp2_with (go_at_call 55; refine (within_any _ _ _ _).mono ?_; rintro e w1 ⟨rfl, rfl⟩)
        go_ret
        exact ⟨end_bool HO.out.symm, rfl⟩

set_option maxHeartbeats 1000000 in
theorem specNatOk (s : ByteArray) (w : World) (hs : s.size ≤ 9223372036854775807) :
    Calls Tryz.prog 40 #[.string s] w fun e w' => e = .returned (.bool (natOk s.data.toList)) ∧ w = w' := by
  by_cases hin : 1 ≤ s.size ∧ s.size ≤ 600
  · have h0 : 0 < s.size := by omega
    have i1 : ¬ (s.size : Int) < 1 := by omega
    have i2 : ¬ (600 : Int) < (s.size : Int) := by omega
    by_cases hz : s.size ≠ 1 ∧ s[0].toNat = 48
    · have hok : natOk s.data.toList = false := by
        rw [Bool.eq_false_iff]
        intro h
        rcases (natOk_iff.1 h).2.2.2 with h1 | h1
        · exact hz.1 (by rw [size_list]; exact h1)
        · exact h1 (by rw [head_list s h0, toNat_eq_48.1 hz.2])
      have HO := hid hok
      have g1 : (1 : Int) < (s.size : Int) := by omega
      have g2 : ((s[0].toNat : Int) == 48) = true := by rw [hz.2]; rfl
      clear hok hz hin
      go_enter Tryz.func40, Tryz.ntmps40
      go_wp2
      go_ret
      exact ⟨end_bool HO.out.symm, rfl⟩
    · have HZ := hid hz
      have HI := hid hin
      have hcase : s.size = 1 ∨ (s.size ≠ 1 ∧ s[0].toNat ≠ 48) := by omega
      clear hz hin
      have key : (¬ (1 : Int) < (s.size : Int)) ∨ ((1 : Int) < (s.size : Int) ∧ ((s[0].toNat : Int) == 48) = false) := by
        rcases hcase with h | ⟨h1, h2⟩
        · left; omega
        · right; exact ⟨by omega, by rw [beq_eq_false_iff_ne]; omega⟩
      have HC := hid hcase
      clear hcase
      rcases key with g1 | ⟨g1, g2⟩
      all_goals
        go_enter Tryz.func40, Tryz.ntmps40
        go_wp2
        go_loop [3] (fun i => ∃ k : Nat, k ≤ s.size ∧ i = .int .i64 k ∧ ∀ i (hi : i < k) (hi' : i < s.size), 48 ≤ s[i].toNat ∧ s[i].toNat ≤ 57) (fun i => s.size - (intOf i).toNat)
        case atStart => exact ⟨0, Nat.zero_le _, rfl, fun i hi => absurd hi (by omega)⟩
        case round =>
          obtain ⟨k, hk, rfl, hr⟩ := hrel
          have HR := hid hr
          clear hr
          by_cases hlt : k < s.size
          · have hb256 : s[k].toNat < 256 := s[k].toNat_lt
            have hcv : 0 ≤ (s[k].toNat : Int) ∧ (s[k].toNat : Int) < 256 := by omega
            by_cases hd : 48 ≤ s[k].toNat ∧ s[k].toNat ≤ 57
            · have hb : inB 48 (s[k].toNat : Int) 57 = true := inB_true (by omega)
              have HD := hid hd
              clear hd
              go_wp2_with fail
              refine (between_any _ _ _ _).mono ?_
              rintro e w1 ⟨rfl, rfl⟩
              (try simp only [wrap64_byte])
              go_wp2
              go_round
              case rel => exact ⟨k + 1, by omega, by go_num, fun i hi hi' => by
                by_cases hik : i = k
                · subst hik; exact HD.out
                · exact HR.out i (by omega) hi'⟩
              case measure => simp [intOf]; omega
            · have hb : inB 48 (s[k].toNat : Int) 57 = false := inB_false (by omega)
              have hbad : natOk s.data.toList = false := by
                rw [Bool.eq_false_iff]
                intro h
                exact hd ((natOk_iff.1 h).1 s[k] (by rw [← get_list s k hlt]; exact List.getElem_mem _))
              have HB := hid hbad
              clear hbad hd
              go_wp2_with fail
              refine (between_any _ _ _ _).mono ?_
              rintro e w1 ⟨rfl, rfl⟩
              (try simp only [wrap64_byte])
              go_wp2
              go_ret
              exact ⟨end_bool HB.out.symm, rfl⟩
          · have : k = s.size := by omega
            subst this
            have hok : natOk s.data.toList = true := natOk_iff.2 ⟨mem_list (fun i hi => HR.out i hi hi), by rw [← size_list]; exact HI.out.1, by rw [← size_list]; exact HI.out.2, by
              rcases HC.out with h | ⟨_, h⟩
              · left; rw [← size_list]; exact h
              · right; rw [head_list s h0]; simp; exact fun h' => h (toNat_eq_48.2 h')⟩
            have HO := hid hok
            clear hok
            go_wp2
            go_ret
            exact ⟨end_bool HO.out.symm, rfl⟩
  · have hok : natOk s.data.toList = false := by
      rw [Bool.eq_false_iff]
      intro h
      have := natOk_iff.1 h
      rw [← size_list] at this
      omega
    have HO := hid hok
    have hcase : (s.size : Int) < 1 ∨ (¬ (s.size : Int) < 1 ∧ (600 : Int) < (s.size : Int)) := by omega
    clear hok hin
    rcases hcase with g1 | ⟨g1, g2⟩
    all_goals
      go_enter Tryz.func40, Tryz.ntmps40
      go_wp2
      go_ret
      exact ⟨end_bool HO.out.symm, rfl⟩

/-- a number in form -/
def decOk (d : Dec) : Bool :=
  if d.dig.size = 0 then !d.neg && decide (d.exp = 0)
  else natOk d.dig.data.toList && decide (d.dig.size ≤ 20) && decide (d.dig.data.toList.head? ≠ some 48) && decide (d.dig.data.toList.getLast? ≠ some 48) && decide (-98 - (d.dig.size : Int) ≤ d.exp ∧ d.exp ≤ 100 - (d.dig.size : Int))
theorem decOk_nil (neg : Bool) (exp : Int) : decOk ⟨neg, ⟨#[]⟩, exp⟩ = (!neg && decide (exp = 0)) := by
  unfold decOk
  exact if_pos rfl
theorem last_list (s : ByteArray) (h : 0 < s.size) : s.data.toList.getLast? = some (s[s.size - 1]'(by omega)) := by
  rw [List.getLast?_eq_getElem?, List.getElem?_eq_getElem (by rw [← size_list]; omega)]
  simp only [← size_list]
  rfl
theorem decOk_pos {d : Dec} (h : 0 < d.dig.size) : decOk d = (natOk d.dig.data.toList && decide (d.dig.size ≤ 20) && !decide (d.dig[0].toNat = 48) && !decide ((d.dig[d.dig.size - 1]'(by omega)).toNat = 48) && decide (-98 - (d.dig.size : Int) ≤ d.exp ∧ d.exp ≤ 100 - (d.dig.size : Int))) := by
  unfold decOk
  rw [if_neg (by omega), head_list _ h, last_list _ h]
  simp only [ne_eq, Option.some.injEq, toNat_eq_48, decide_not]
theorem ba_nil {s : ByteArray} (h : s.size = 0) : s = ⟨#[]⟩ := by
  cases s with
  | mk a => simp [ByteArray.size] at h; simp [h]
theorem ba_nil_list {s : ByteArray} (h : ¬ s.size = 0) : ¬ s.toList = [] := by
  intro h'
  rw [Lib.toList_data] at h'
  rw [size_list, h'] at h
  exact h rfl
theorem ba_nil_empty {s : ByteArray} (h : ¬ s.size = 0) : s.toList.isEmpty = false := by
  cases hl : s.toList with
  | nil => exact absurd hl (ba_nil_list h)
  | cons a r => rfl
theorem ba_nil_beq {s : ByteArray} (h : ¬ s.size = 0) : (s.toList == []) = false := by
  rw [beq_eq_false_iff_ne]; exact ba_nil_list h

set_option maxHeartbeats 4000000 in
theorem implIsDec {cs : Array Value} {d : Dec} (w : World) (hrd : Rd.rd (Old w) w cs.toList d) :
    Calls Tryz.prog 39 #[.agg cs] w fun e w' => e = .returned (.bool (decOk d)) ∧ Below w.heap.size w w' := by
  obtain ⟨hcs, hs, he⟩ := rdDec hrd
  obtain rfl := arr_of_list hcs
  clear hcs hrd
  obtain ⟨neg, dig, exp⟩ := d
  dsimp only at hs he ⊢
  by_cases h0 : dig.size = 0
  · obtain rfl := ba_nil h0
    clear h0 hs
    have hb : inB 1 0 20 = false := inB_false (by omega)
    cases neg
    · by_cases hx : exp = 0
      · subst hx
        go_enter Tryz.func39, Tryz.ntmps39
        go_wp2
        go_ret
        exact ⟨end_bool (by rfl), ext_alloc _ _⟩
      · have hx' : (exp == 0) = false := by rw [beq_eq_false_iff_ne]; exact hx
        have hok : decOk ⟨false, ⟨#[]⟩, exp⟩ = false := by rw [decOk_nil]; simp [hx]
        have HO := hid hok
        clear hok
        go_enter Tryz.func39, Tryz.ntmps39
        go_wp2_with (go_at_call 55; refine (within_any _ _ _ _).mono ?_; rintro e w1 ⟨rfl, rfl⟩)
        go_ret
        exact ⟨end_bool HO.out.symm, ext_alloc _ _⟩
    · have hok : decOk ⟨true, ⟨#[]⟩, exp⟩ = false := by rw [decOk_nil]; rfl
      have HO := hid hok
      clear hok
      go_enter Tryz.func39, Tryz.ntmps39
      go_wp2_with (go_at_call 55; refine (within_any _ _ _ _).mono ?_; rintro e w1 ⟨rfl, rfl⟩)
      go_ret
      exact ⟨end_bool HO.out.symm, ext_alloc _ _⟩
  · have hpos : 0 < dig.size := by omega
    have hne := ba_nil_list h0
    have hE := hid (decOk_pos (d := ⟨neg, dig, exp⟩) hpos)
    obtain ⟨n, hn⟩ : ∃ b, natOk dig.data.toList = b := ⟨_, rfl⟩
    have HN := hid hn
    clear h0 hn
    by_cases h20 : dig.size ≤ 20
    · have hb : inB 1 (dig.size : Int) 20 = true := inB_true (by omega)
      by_cases hx : -98 - (dig.size : Int) ≤ exp ∧ exp ≤ 100 - (dig.size : Int)
      all_goals
        first
          | (have hb2 : inB (-99 - (dig.size : Int) + 1) exp (99 - (dig.size : Int) + 1) = true := inB_true (by omega))
          | (have hb2 : inB (-99 - (dig.size : Int) + 1) exp (99 - (dig.size : Int) + 1) = false := inB_false (by omega))
        have HX := hid hx
        clear hx
        by_cases hz : dig[0].toNat = 48
        all_goals
          first
            | (have hz' : ((dig[0].toNat : Int) != 48) = false := by rw [hz]; rfl)
            | (have hz' : ((dig[0].toNat : Int) != 48) = true := by rw [bne_iff_ne]; omega)
          have HZ := hid hz
          clear hz
          by_cases hl : (dig[dig.size - 1]'(by omega)).toNat = 48
          all_goals
            first
              | (have hl' : (((dig[dig.size - 1]'(by omega)).toNat : Int) != 48) = false := by rw [hl]; rfl)
              | (have hl' : (((dig[dig.size - 1]'(by omega)).toNat : Int) != 48) = true := by rw [bne_iff_ne]; omega)
            have HL := hid hl
            clear hl
            cases n
            all_goals
              go_enter Tryz.func39, Tryz.ntmps39
              go_wp2_with (first | (go_at_call 55; refine (within_any _ _ _ _).mono ?_; rintro e w1 ⟨rfl, rfl⟩) | (go_at_call 87; refine (implIsNat _ _ hs).mono ?_; rintro e w1 ⟨rfl, rfl⟩; rw [HN.out]))
              all_goals (go_ret; exact ⟨end_bool (by rw [hE.out, HN.out]; simp [HX.out, HZ.out, HL.out, h20]), ext_alloc _ _⟩)
    · have hb : inB 1 (dig.size : Int) 20 = false := inB_false (by omega)
      go_enter Tryz.func39, Tryz.ntmps39
      go_wp2_with (first | (go_at_call 55; refine (within_any _ _ _ _).mono ?_; rintro e w1 ⟨rfl, rfl⟩))
      all_goals (go_ret; exact ⟨end_bool (by rw [hE.out]; simp [h20]), ext_alloc _ _⟩)

set_option maxHeartbeats 4000000 in
theorem specDecOk {cs : Array Value} {d : Dec} (w : World) (hrd : Rd.rd (Old w) w cs.toList d) :
    Calls Tryz.prog 14 #[.agg cs] w fun e w' => e = .returned (.bool (decOk d)) ∧ Below w.heap.size w w' := by
  obtain ⟨hcs, hs, he⟩ := rdDec hrd
  obtain rfl := arr_of_list hcs
  clear hcs hrd
  obtain ⟨neg, dig, exp⟩ := d
  dsimp only at hs he ⊢
  by_cases h0 : dig.size = 0
  · obtain rfl := ba_nil h0
    clear h0 hs
    cases neg
    · by_cases hx : exp = 0
      · subst hx
        go_enter Tryz.func14, Tryz.ntmps14
        go_wp2
        go_ret
        exact ⟨end_bool (by rfl), ext_alloc _ _⟩
      · have hx' : (exp == 0) = false := by rw [beq_eq_false_iff_ne]; exact hx
        have hok : decOk ⟨false, ⟨#[]⟩, exp⟩ = false := by rw [decOk_nil]; simp [hx]
        have HO := hid hok
        clear hok
        go_enter Tryz.func14, Tryz.ntmps14
        go_wp2
        go_ret
        exact ⟨end_bool HO.out.symm, ext_alloc _ _⟩
    · have hok : decOk ⟨true, ⟨#[]⟩, exp⟩ = false := by rw [decOk_nil]; rfl
      have HO := hid hok
      clear hok
      go_enter Tryz.func14, Tryz.ntmps14
      go_wp2
      go_ret
      exact ⟨end_bool HO.out.symm, ext_alloc _ _⟩
  · have hpos : 0 < dig.size := by omega
    have hne := ba_nil_list h0
    have hne2 := ba_nil_empty h0
    have hE := hid (decOk_pos (d := ⟨neg, dig, exp⟩) hpos)
    obtain ⟨n, hn⟩ : ∃ b, natOk dig.data.toList = b := ⟨_, rfl⟩
    have HN := hid hn
    clear h0 hn
    by_cases h20 : dig.size ≤ 20
    · have hb : ¬ (20 : Int) < (dig.size : Int) := by omega
      have hz3 : ((dig[0].toNat : Int) == 48) = true ∨ (((dig[0].toNat : Int) == 48) = false ∧ (((dig[dig.size - 1]'(by omega)).toNat : Int) == 48) = true) ∨ (((dig[0].toNat : Int) == 48) = false ∧ (((dig[dig.size - 1]'(by omega)).toNat : Int) == 48) = false ∧ n = false) ∨
        (((dig[0].toNat : Int) == 48) = false ∧ (((dig[dig.size - 1]'(by omega)).toNat : Int) == 48) = false ∧ n = true) := by
        by_cases hz : dig[0].toNat = 48
        · left; rw [hz]; rfl
        · by_cases hl : (dig[dig.size - 1]'(by omega)).toNat = 48
          · right; left; exact ⟨by rw [beq_eq_false_iff_ne]; omega, by rw [hl]; rfl⟩
          · cases n
            · right; right; left; exact ⟨by rw [beq_eq_false_iff_ne]; omega, by rw [beq_eq_false_iff_ne]; omega, rfl⟩
            · right; right; right; exact ⟨by rw [beq_eq_false_iff_ne]; omega, by rw [beq_eq_false_iff_ne]; omega, rfl⟩
      rcases hz3 with hz | ⟨hz, hl⟩ | ⟨hz, hl, rfl⟩ | ⟨hz, hl, rfl⟩
      · have HZ := hid hz
        go_enter Tryz.func14, Tryz.ntmps14
        go_wp2
        go_ret
        exact ⟨end_bool (by
                          rw [hE.out]
                          have : dig[0].toNat = 48 := by have h := HZ.out; rw [beq_iff_eq] at h; omega
                          simp [this]), ext_alloc _ _⟩
      · have HL := hid hl
        go_enter Tryz.func14, Tryz.ntmps14
        go_wp2
        go_ret
        exact ⟨end_bool (by
                          rw [hE.out]
                          have : (dig[dig.size - 1]'(by omega)).toNat = 48 := by have h := HL.out; rw [beq_iff_eq] at h; omega
                          simp [this]), ext_alloc _ _⟩
      · go_enter Tryz.func14, Tryz.ntmps14
        go_wp2_with (go_at_call 40; refine (specNatOk _ _ hs).mono ?_; rintro e w1 ⟨rfl, rfl⟩; rw [HN.out])
        go_ret
        exact ⟨end_bool (by rw [hE.out, HN.out]; simp), ext_alloc _ _⟩
      · have HZ := hid hz
        have HL := hid hl
        have hx3 : (-98 - (dig.size : Int) ≤ exp ∧ exp ≤ 100 - (dig.size : Int)) ∨ (-98 - (dig.size : Int) ≤ exp ∧ ¬ exp ≤ 100 - (dig.size : Int)) ∨ ¬ (-98 - (dig.size : Int) ≤ exp) := by omega
        rcases hx3 with ⟨x1, x2⟩ | ⟨x1, x2⟩ | x1
        all_goals
          go_enter Tryz.func14, Tryz.ntmps14
          go_wp2_with (go_at_call 40; refine (specNatOk _ _ hs).mono ?_; rintro e w1 ⟨rfl, rfl⟩; rw [HN.out])
          go_ret
          exact ⟨end_bool (by
            rw [hE.out, HN.out]
            have a1 : ¬ dig[0].toNat = 48 := by have := HZ.out; rw [beq_eq_false_iff_ne] at this; omega
            have a2 : ¬ (dig[dig.size - 1]'(by omega)).toNat = 48 := by have := HL.out; rw [beq_eq_false_iff_ne] at this; omega
            simp [a1, a2, h20]
            first | omega | (rw [Bool.eq_iff_iff]; simp; omega)), ext_alloc _ _⟩
    · have hb : (20 : Int) < (dig.size : Int) := by omega
      go_enter Tryz.func14, Tryz.ntmps14
      go_wp2
      go_ret
      exact ⟨end_bool (by rw [hE.out]; simp [h20]), ext_alloc _ _⟩
end Go.Proofs.YtomcoilmpkpoeaaGreatDoor

namespace Go.Proofs.YtomcoilmpkpoeaaGreatDoor
open Go.RowKit

def val0 : Val := ⟨0, ⟨false, ⟨#[]⟩, 0⟩, ⟨#[]⟩⟩
theorem rd_val0 {S : Nat → Prop} {w : World} : Rd.rd S w [.int .i64 0, .bool false, .string ⟨#[]⟩, .int .i64 0, .string ⟨#[]⟩] val0 :=
  rdVal_mk (x := val0) (by decide) (by decide) (by decide) (by decide)

end Go.Proofs.YtomcoilmpkpoeaaGreatDoor

namespace Go.Proofs.YtomcoilmpkpoeaaGreatDoor
open Go.RowKit Go.Lib
set_option linter.unusedVariables false
set_option linter.unusedSimpArgs false

def okText (s : ByteArray) : Bool := textOk s.data.toList
theorem implTextOk (s : ByteArray) (w : World) (hT : Tabs w) : Calls Tryz.prog 43 #[.string s] w fun e w' => e = .returned (.bool (okText s)) ∧ Below w.heap.size w w' := by
  go_enter Tryz.func43, Tryz.ntmps43
  go_wp2_with fail
  refine (implRunesOf s _ hT).mono ?_
  rintro e w1 ⟨u, rfl, _, hb⟩
  go_wp2
  go_ret
  exact ⟨rfl, hb⟩

def isDec0 (d : Dec) : Bool := !d.neg && decide (d.dig.toList = []) && decide (d.exp = 0)
def valOk (v : Val) : Bool :=
  if v.kind = 0 then isDec0 v.num && decide (v.text.toList = [])
  else if v.kind = 1 then decOk v.num && decide (v.text.toList = [])
  else if v.kind = 2 ∨ v.kind = 3 then isDec0 v.num && okText v.text
  else false
theorem valOk_0 (d : Dec) (t : ByteArray) : valOk ⟨0, d, t⟩ = (isDec0 d && decide (t.toList = [])) := rfl
theorem valOk_1 (d : Dec) (t : ByteArray) : valOk ⟨1, d, t⟩ = (decOk d && decide (t.toList = [])) := rfl
theorem valOk_2 (d : Dec) (t : ByteArray) : valOk ⟨2, d, t⟩ = (isDec0 d && okText t) := rfl
theorem valOk_3 (d : Dec) (t : ByteArray) : valOk ⟨3, d, t⟩ = (isDec0 d && okText t) := rfl
theorem empty_dec (t : ByteArray) : t.toList.isEmpty = decide (t.toList = []) := by cases t.toList <;> rfl
theorem valOk_else {k : Int} (d : Dec) (t : ByteArray) (h0 : ¬ k = 0) (h1 : ¬ k = 1) (h2 : ¬ k = 2) (h3 : ¬ k = 3) : valOk ⟨k, d, t⟩ = false := by simp [valOk, h0, h1, h2, h3]

set_option maxHeartbeats 4000000 in
theorem implIsVal {cs : Array Value} {x : Val} (w : World) (hrd : Rd.rd (Old w) w cs.toList x) (hT : Tabs w) :
    Calls Tryz.prog 92 #[.agg cs] w fun e w' => e = .returned (.bool (valOk x)) ∧ Below w.heap.size w w' := by
  obtain ⟨hcs, g0, g1, g2, g3⟩ := rdVal hrd
  obtain rfl := arr_of_list hcs
  clear hcs hrd
  obtain ⟨kind, ⟨neg, dig, exp⟩, text⟩ := x
  dsimp only at g0 g1 g2 g3 ⊢
  by_cases k0 : kind = 0
  · subst k0
    go_enter Tryz.func92, Tryz.ntmps92
    go_wp2
    all_goals (go_ret; exact ⟨end_bool (by simp [valOk_0, isDec0, *]), ext_alloc _ _⟩)
  have t0 : (kind == 0) = false := by rw [beq_eq_false_iff_ne]; exact k0
  by_cases k1 : kind = 1
  · subst k1
    obtain ⟨b, hb⟩ : ∃ b, decOk ⟨neg, dig, exp⟩ = b := ⟨_, rfl⟩
    have HB := hid hb
    clear hb
    cases b
    · go_enter Tryz.func92, Tryz.ntmps92
      go_wp2_with fail
      refine (implIsDec (d := ⟨neg, dig, exp⟩) _ (by exact rdDec_mk (x := ⟨neg, dig, exp⟩) g1 g2)).mono ?_
      rintro e w1 ⟨rfl, hb⟩
      rw [HB.out]
      go_wp2
      go_ret
      exact ⟨end_bool (by rw [valOk_1, HB.out]; rfl), ext_trans (ext_alloc _ _) hb⟩
    · go_enter Tryz.func92, Tryz.ntmps92
      go_wp2_with fail
      refine (implIsDec (d := ⟨neg, dig, exp⟩) _ (by exact rdDec_mk (x := ⟨neg, dig, exp⟩) g1 g2)).mono ?_
      rintro e w1 ⟨rfl, hb⟩
      rw [HB.out]
      obtain ⟨hc1, hf1⟩ := bcell hb
      go_wp2
      go_ret
      exact ⟨end_bool (by rw [valOk_1, HB.out, Bool.true_and, empty_dec]), ext_trans (ext_alloc _ _) hb⟩
  have t1 : (kind == 1) = false := by rw [beq_eq_false_iff_ne]; exact k1
  by_cases k2 : kind = 2
  · subst k2
    go_enter Tryz.func92, Tryz.ntmps92
    go_wp2_with ((go_at_call 43; refine (implTextOk text _ (tabs_below hT (ext_alloc _ _))).mono ?_; rintro e w1 ⟨rfl, hb⟩))
    all_goals (go_ret; first | exact ⟨end_bool (by simp [valOk_2, isDec0, *]), ext_alloc _ _⟩ | exact ⟨end_bool (by simp [valOk_2, isDec0, *]), ext_trans (ext_alloc _ _) hb⟩)
  have t2 : (kind == 2) = false := by rw [beq_eq_false_iff_ne]; exact k2
  by_cases k3 : kind = 3
  · subst k3
    go_enter Tryz.func92, Tryz.ntmps92
    go_wp2_with ((go_at_call 43; refine (implTextOk text _ (tabs_below hT (ext_alloc _ _))).mono ?_; rintro e w1 ⟨rfl, hb⟩))
    all_goals (go_ret; first | exact ⟨end_bool (by simp [valOk_3, isDec0, *]), ext_alloc _ _⟩ | exact ⟨end_bool (by simp [valOk_3, isDec0, *]), ext_trans (ext_alloc _ _) hb⟩)
  have t3 : (kind == 3) = false := by rw [beq_eq_false_iff_ne]; exact k3
  go_enter Tryz.func92, Tryz.ntmps92
  go_wp2
  go_ret
  exact ⟨end_bool (valOk_else _ _ k0 k1 k2 k3).symm, ext_alloc _ _⟩



/-- a value, or none where it is not ok -/
def soundVal (v : Val) : Val := if valOk v then v else val0
theorem rd_sound {S : Nat → Prop} {w : World} {v : Val} (g0 : -9223372036854775808 ≤ v.kind ∧ v.kind ≤ 9223372036854775807) (g1 : v.num.dig.size ≤ 9223372036854775807) (g2 : -9223372036854775808 ≤ v.num.exp ∧ v.num.exp ≤ 9223372036854775807) (g3 : v.text.size ≤ 9223372036854775807) :
    Rd.rd S w [.int .i64 (soundVal v).kind, .bool (soundVal v).num.neg, .string (soundVal v).num.dig, .int .i64 (soundVal v).num.exp, .string (soundVal v).text] (soundVal v) := by
  unfold soundVal
  split
  · exact rdVal_mk g0 g1 g2 g3
  · exact rd_val0


def dec0 : Dec := ⟨false, ⟨#[]⟩, 0⟩
def textVal (s : ByteArray) : Val := if okText s then ⟨2, dec0, s⟩ else val0
theorem isDec0_dec0 : isDec0 dec0 = true := by
  have : (⟨#[]⟩ : ByteArray).toList = [] := by rw [Lib.toList_data]
  unfold isDec0 dec0
  rw [this]
  rfl
theorem rd_text {S : Nat → Prop} {w : World} {s : ByteArray} (hs : s.size ≤ 9223372036854775807) : Rd.rd S w [.int .i64 2, .bool false, .string ⟨#[]⟩, .int .i64 0, .string s] (⟨2, dec0, s⟩ : Val) :=
  rdVal_mk (x := ⟨2, dec0, s⟩) (show (-9223372036854775808 : Int) ≤ 2 ∧ (2 : Int) ≤ 9223372036854775807 by decide) (show (⟨#[]⟩ : ByteArray).size ≤ 9223372036854775807 by decide) (show (-9223372036854775808 : Int) ≤ 0 ∧ (0 : Int) ≤ 9223372036854775807 by decide) hs
theorem sound_text (s : ByteArray) : soundVal ⟨2, dec0, s⟩ = textVal s := by
  unfold soundVal textVal
  rw [valOk_2, isDec0_dec0, Bool.true_and]


set_option maxHeartbeats 1000000 in
theorem implTextVal (s : ByteArray) (w : World) (hs : s.size ≤ 9223372036854775807) (hT : Tabs w) :
    Calls Tryz.prog 17 #[.string s] w fun e w' => ∃ cs' : Array Value, e = .returned (.agg cs') ∧ Rd.rd (Old w') w' cs'.toList (textVal s) ∧ Below w.heap.size w w' := by
  obtain ⟨b, hb⟩ : ∃ b, okText s = b := ⟨_, rfl⟩
  have HB := hid hb
  clear hb
  cases b
  · have HS := hid (show textVal s = val0 by unfold textVal; rw [HB.out]; rfl)
    go_enter Tryz.func17, Tryz.ntmps17
    go_wp2_with fail
    refine (implTextOk s _ (tabs_below hT (ext_alloc _ _))).mono ?_
    rintro e w1 ⟨rfl, hb⟩
    rw [HB.out]
    obtain ⟨hc1, hf1⟩ := bcell hb
    have hl' : w.heap.size < w1.heap.size := by have := hb.size; (try simp at this); omega
    have hbw : Below w.heap.size w w1 := ext_trans (ext_alloc _ _) hb
    go_wp2
    refine bodyPost_ret (v := .agg #[.int .i64 0, .bool false, .string ⟨#[]⟩, .int .i64 0, .string ⟨#[]⟩]) (by simp [results, Tryz.results17, go_sem, hc1, hl']) rfl ⟨_, rfl, ?_, ?_⟩
    · rw [HS.out]; exact rd_val0
    · repeat' (first | (with_reducible exact hbw) | (with_reducible refine Below.setCell ?_ ?_ _) | (simp; done) | (simp; omega) | omega)
  · have HS := hid (show textVal s = ⟨2, dec0, s⟩ by unfold textVal; rw [HB.out]; rfl)
    go_enter Tryz.func17, Tryz.ntmps17
    go_wp2_with fail
    refine (implTextOk s _ (tabs_below hT (ext_alloc _ _))).mono ?_
    rintro e w1 ⟨rfl, hb⟩
    rw [HB.out]
    obtain ⟨hc1, hf1⟩ := bcell hb
    have hl' : w.heap.size < w1.heap.size := by have := hb.size; (try simp at this); omega
    have hbw : Below w.heap.size w w1 := ext_trans (ext_alloc _ _) hb
    go_wp2
    refine bodyPost_ret (v := .agg #[.int .i64 2, .bool false, .string ⟨#[]⟩, .int .i64 0, .string s]) (by simp [results, Tryz.results17, go_sem, hc1, hl']) rfl ⟨_, rfl, ?_, ?_⟩
    · rw [HS.out]; exact rd_text hs
    · repeat' (first | (with_reducible exact hbw) | (with_reducible refine Below.setCell ?_ ?_ _) | (simp; done) | (simp; omega) | omega)
end Go.Proofs.YtomcoilmpkpoeaaGreatDoor

namespace Go.Proofs.YtomcoilmpkpoeaaGreatDoor
open Go.RowKit
set_option linter.unusedVariables false
set_option linter.unusedSimpArgs false

theorem own_slice {w : World} {base : Nat} {e : TypeId} {size : Nat} {v : Value} {n : Nat} {xs : List Value} (h : w.ownsRow base e size v n xs) : ∃ a c, v = .slice a n c := by
  rcases h.2 with ⟨rfl, rfl⟩ | ⟨g, cap, cur, rfl, _⟩
  · exact ⟨none, 0, rfl⟩
  · exact ⟨_, _, rfl⟩
/-- how many code points a text has; -1 of what is none -/
def lenOf (s : ByteArray) : Int := if okText s then ((runesN s.data.toList).length : Int) else -1
theorem lenOf_ok {s : ByteArray} (h : okText s = true) : lenOf s = (runesN s.data.toList).length := by unfold lenOf; rw [if_pos h]
theorem lenOf_no {s : ByteArray} (h : okText s = false) : lenOf s = -1 := by unfold lenOf; rw [h]; rfl
theorem ok_runes {s : ByteArray} (h : okText s = true) : runesAll s.data.toList = some (runesN s.data.toList) ∧ s.size ≤ 1000 ∧ (runesN s.data.toList).length ≤ s.size := by
  unfold okText textOk runes? at h
  unfold runesN runes?
  by_cases hl : s.data.toList.length ≤ 1000
  · rw [if_pos hl] at h ⊢
    obtain ⟨rs, hr⟩ := Option.isSome_iff_exists.1 h
    rw [hr]
    have := (runesAll_len _ _ _ rfl hr).1
    exact ⟨rfl, by rw [Lib.size_eq]; exact hl, by rw [Lib.size_eq]; exact this⟩
  · rw [if_neg hl] at h; cases h
theorem ok_size {s : ByteArray} (h : okText s = true) : s.size ≤ 1000 := (ok_runes h).2.1
theorem lenOf_zero {s : ByteArray} (h : okText s = true) : lenOf s = 0 ↔ s.size = 0 := by
  rw [lenOf_ok h]
  obtain ⟨h1, _, h3⟩ := ok_runes h
  constructor
  · intro hz
    by_cases h0 : s.size = 0
    · exact h0
    · have hne : s.data.toList ≠ [] := by
        intro h'
        rw [Lib.size_eq, h'] at h0
        exact h0 rfl
      exact absurd (List.eq_nil_of_length_eq_zero (by omega)) ((runesAll_len _ _ _ rfl h1).2.2 hne)
  · intro h0; omega

end Go.Proofs.YtomcoilmpkpoeaaGreatDoor

namespace Go.Proofs.YtomcoilmpkpoeaaGreatDoor
open Go.RowKit
set_option linter.unusedVariables false
set_option linter.unusedSimpArgs false

theorem runeCells_enc {c : Nat} (h : isPt c) : Lib.runeCells (c : Int) = byteVals (enc c) := by
  obtain ⟨h1, h2, h3⟩ := h
  unfold Lib.runeCells enc byteVals
  by_cases a1 : c < 128
  · rw [Lib.encodeRuneZ_one (by omega) (by omega), if_pos a1]
    simp only [List.map_cons, List.map_nil]
    rw [u8_cast (by omega)]
  · by_cases a2 : c < 2048
    · rw [Lib.encodeRuneZ_two (by omega) (by omega), if_neg a1, if_pos a2]
      simp only [List.map_cons, List.map_nil]
      rw [u8_cast (by omega), u8_cast (by omega)]
      simp only [List.cons.injEq, Value.int.injEq, true_and, and_true]
      refine ⟨?_, ?_⟩ <;> omega
    · by_cases a3 : c < 65536
      · rw [Lib.encodeRuneZ_three (by omega), if_neg a1, if_neg a2, if_pos a3]
        simp only [List.map_cons, List.map_nil]
        rw [u8_cast (by omega), u8_cast (by omega), u8_cast (by omega)]
        simp only [List.cons.injEq, Value.int.injEq, true_and, and_true]
        refine ⟨?_, ?_, ?_⟩ <;> omega
      · rw [Lib.encodeRuneZ_four (by omega) (by omega), if_neg a1, if_neg a2, if_neg a3]
        simp only [List.map_cons, List.map_nil]
        rw [u8_cast (by omega), u8_cast (by omega), u8_cast (by omega), u8_cast (by omega)]
        simp only [List.cons.injEq, Value.int.injEq, true_and, and_true]
        refine ⟨?_, ?_, ?_, ?_⟩ <;> omega
theorem byteVals_append (a b : List UInt8) : byteVals (a ++ b) = byteVals a ++ byteVals b := by simp [byteVals]
theorem texts_snoc (rs : List Nat) (c : Nat) : texts (rs ++ [c]) = texts rs ++ enc c := by rw [texts_append]; simp [texts]
theorem texts_le (rs : List Nat) : (texts rs).length ≤ 4 * rs.length := by
  induction rs with
  | nil => simp [texts]
  | cons c rs ih =>
    have := enc_pos c
    simp only [texts, List.flatMap_cons, List.length_append, List.length_cons] at *
    omega
/-- a row of numbers that a call owns, told by its cells -/
theorem own_ints {w : World} {B : Nat} {e : TypeId} {v : Value} {rs : List Nat} (h : w.ownsRow B e 1 v rs.length (intVals rs)) :
    ∃ a cap, v = .slice a rs.length cap ∧ (0 < rs.length → ∃ b, a = some ⟨b, 0, none⟩ ∧ b < w.heap.size ∧ ∀ i (hi : i < rs.length), w.cell? ⟨b, i, none⟩ = some (.int .i64 (rs[i] : Int))) := by
  obtain ⟨a, cap, hv⟩ := own_slice h
  refine ⟨a, cap, hv, fun h0 => ?_⟩
  subst hv
  rcases h.2 with ⟨hv, h1⟩ | ⟨g, cap', cur, hv, hB, hg, _⟩
  · omega
  · simp only [Value.slice.injEq, true_and] at hv
    obtain ⟨rfl, rfl⟩ := hv
    refine ⟨g, rfl, ?_, fun i hi => ?_⟩
    · exact (Array.getElem?_eq_some_iff.1 hg).1
    · have hx := h.cells (g := g) rfl i (.int .i64 (rs[i] : Int)) (by
        unfold intVals
        rw [List.getElem?_map, List.getElem?_eq_getElem hi]; rfl)
      simpa [Addr.add_lit] using hx
theorem implPoint (c : Int) (w : World) : Calls Tryz.prog 151 #[.int .i64 c] w fun e w' => e = .returned (.bool (ptB c)) ∧ w = w' := by
  by_cases h1 : 1 ≤ c ∧ c ≤ 1114111
  · have b1 : inB 1 c 1114111 = true := inB_true h1
    by_cases h2 : 55296 ≤ c ∧ c ≤ 57343
    · have b2 : inB 55296 c 57343 = true := inB_true h2
      have hr := hid (show ptB c = false by unfold ptB; simp [h1, h2])
      clear h1 h2
      go_enter Tryz.func151, Tryz.ntmps151
      go_wp2_with (go_at_call 55; refine (within_any _ _ _ _).mono ?_; rintro e w1 ⟨rfl, rfl⟩)
      go_ret
      exact ⟨end_bool hr.out.symm, rfl⟩
    · have b2 : inB 55296 c 57343 = false := inB_false h2
      have hr := hid (show ptB c = true by unfold ptB; rw [decide_eq_true h1, decide_eq_false h2]; rfl)
      clear h1 h2
      go_enter Tryz.func151, Tryz.ntmps151
      go_wp2_with (go_at_call 55; refine (within_any _ _ _ _).mono ?_; rintro e w1 ⟨rfl, rfl⟩)
      go_ret
      exact ⟨end_bool hr.out.symm, rfl⟩
  · have b1 : inB 1 c 1114111 = false := inB_false h1
    have hr := hid (show ptB c = false by unfold ptB; rw [decide_eq_false h1]; rfl)
    clear h1
    go_enter Tryz.func151, Tryz.ntmps151
    go_wp2_with (go_at_call 55; refine (within_any _ _ _ _).mono ?_; rintro e w1 ⟨rfl, rfl⟩)
    go_ret
    exact ⟨end_bool hr.out.symm, rfl⟩


end Go.Proofs.YtomcoilmpkpoeaaGreatDoor

namespace Go.Proofs.YtomcoilmpkpoeaaGreatDoor
open Go.RowKit
set_option linter.unusedVariables false
set_option linter.unusedSimpArgs false

def selB (f c : Int) (i : Nat) : Bool := decide (f ≤ (i : Int) + 1) && decide (0 < c) && decide ((i : Int) + 1 - c < f)
def partK (rs : List Nat) (f c : Int) (k : Nat) : List Nat := ((List.range k).filter (selB f c)).map (fun i => rs.getD i 0)
def partL (rs : List Nat) (f c : Int) : List Nat := partK rs f c rs.length
theorem partK_yes {rs : List Nat} {f c : Int} {k : Nat} (h : selB f c k = true) (hk : k < rs.length) : partK rs f c (k + 1) = partK rs f c k ++ [rs[k]] := by
  unfold partK
  rw [List.range_succ, List.filter_append, List.map_append]
  simp [h, List.getD_eq_getElem?_getD, List.getElem?_eq_getElem hk]
theorem partK_no {rs : List Nat} {f c : Int} {k : Nat} (h : selB f c k = false) : partK rs f c (k + 1) = partK rs f c k := by
  unfold partK
  rw [List.range_succ, List.filter_append, List.map_append]
  simp [h]
theorem partK_len (rs : List Nat) (f c : Int) (k : Nat) : (partK rs f c k).length ≤ k := by
  unfold partK
  rw [List.length_map]
  exact Nat.le_trans (List.length_filter_le _ _) (by simp)
theorem partK_none {rs : List Nat} {f c : Int} (h : c < 1) (k : Nat) : partK rs f c k = [] := by
  unfold partK
  have : (List.range k).filter (selB f c) = [] := by
    rw [List.filter_eq_nil_iff]
    intro i _
    unfold selB
    rw [decide_eq_false (show ¬ 0 < c by omega)]
    simp
  rw [this]; rfl
theorem partK_pt {rs : List Nat} {f c : Int} (h : ∀ x ∈ rs, isPt x) {k : Nat} (hk : k ≤ rs.length) : ∀ x ∈ partK rs f c k, isPt x := by
  intro x hx
  unfold partK at hx
  obtain ⟨i, hi, rfl⟩ := List.mem_map.1 hx
  have := (List.mem_filter.1 hi).1
  rw [List.mem_range] at this
  rw [List.getD_eq_getElem?_getD, List.getElem?_eq_getElem (show i < rs.length by omega)]
  exact h _ (List.getElem_mem _)
def partT (s : ByteArray) (f c : Int) : ByteArray := if okText s then mkB (texts (partL (runesN s.data.toList) f c)) else ⟨#[]⟩
theorem ok_pts {s : ByteArray} (h : okText s = true) : (∀ c ∈ runesN s.data.toList, isPt c) ∧ (runesN s.data.toList).length ≤ 1000 := by
  obtain ⟨h1, h2, h3⟩ := ok_runes h
  exact ⟨(runesAll_len _ _ _ rfl h1).2.1, by omega⟩

end Go.Proofs.YtomcoilmpkpoeaaGreatDoor

namespace Go.Proofs.YtomcoilmpkpoeaaGreatDoor
open Go.RowKit
set_option linter.unusedVariables false
set_option linter.unusedSimpArgs false

theorem texts_take {rs : List Nat} {k : Nat} (h : k < rs.length) : texts (rs.take (k + 1)) = texts (rs.take k) ++ enc rs[k] := by
  rw [List.take_add_one, List.getElem?_eq_getElem h, texts_append]
  congr 1
  simp [texts]
/-- a row of bytes that a call owns, as a string -/
theorem own_string {P : Program} {w : World} {B : Nat} {src dst e : TypeId} {v : Value} {l : List UInt8} (h : w.ownsRow B e 1 v l.length (byteVals l)) (hs : P.underlying src = some (.slice e)) (he : P.underlying e = some (.int .u8)) (hd : P.underlying dst = some .string) :
    (convert src dst v).run P w = .ok (.string (mkB l)) w := by
  rcases h.2 with ⟨rfl, h0⟩ | ⟨g, cap, cur, rfl, _, hg, _⟩
  · have : l = [] := List.eq_nil_of_length_eq_zero h0
    subst this
    rw [run_convert_bytes_string w src dst e none 0 0 hs he hd]
    have hl := run_loadCells_list (P := P) w ⟨0, 0, none⟩ ([] : List Value) (fun j v hj => by simp at hj)
    simp [Conv.bytesToString, mkB] at hl ⊢
    rfl
  · refine run_convert_bytes_back w src dst e ⟨g, 0, none⟩ cap l hs he hd (fun j hj => ?_)
    exact h.cells (g := g) rfl j _ (by unfold byteVals; rw [List.getElem?_map, List.getElem?_eq_getElem hj]; rfl)
theorem cells_new (w : World) (cs : Array Value) (e : TypeId) : ∀ j u, cs.toList[j]? = some u → (w.alloc (.cells cs e)).cell? ((⟨w.heap.size, 0, none⟩ : Addr).add j) = some u := by
  intro j u h
  rw [Addr.add_lit, Nat.zero_add]
  rw [cell_of_row _ _ j _ _ _ (heap_alloc_new w _)]
  simpa using h
theorem info_u8 : (Tryz.prog.info? 5).map (fun i => (i.zero, i.size, i.bytes)) = some (some (.int .u8 0), 1, 1) := by kernel_rfl
set_option maxHeartbeats 4000000 in
set_option maxRecDepth 100000 in
theorem specText {v : Value} {B0 : Nat} {rs : List Nat} (w : World) (hown : w.ownsRow B0 3 1 v rs.length (intVals rs)) (hpt : ∀ c ∈ rs, isPt c) (hn : rs.length ≤ 1000000) :
    Calls Tryz.prog 117 #[v] w fun e w' => e = .returned (.string (mkB (texts rs))) ∧ Below w.heap.size w w' := by
  obtain ⟨i0, hi, hz0, hz1, hz2⟩ := info_parts info_u8
  obtain ⟨a, cap, rfl, hc⟩ := own_ints hown
  have HP := hid hpt
  clear hown hpt
  go_enter Tryz.func117, Tryz.ntmps117
  go_wp2
  go_loopw [3, 4] (fun out i wr => ∃ k : Nat, k ≤ rs.length ∧ i = .int .i64 k ∧ wr.ownsRow w.heap.size 5 1 out (texts (rs.take k)).length (byteVals (texts (rs.take k))) ∧ Below w.heap.size w wr) (fun _ i _ => rs.length - (intOf i).toNat)
  case atStart => exact ⟨0, Nat.zero_le _, rfl, own_none (Nat.le_refl _) _, ext_alloc _ _⟩
  case round =>
    obtain ⟨k, hk, rfl, hown, hb⟩ := hrel
    have hlen : (texts (rs.take k)).length ≤ 4000000 := by
      have := texts_le (rs.take k)
      rw [List.length_take] at this
      omega
    by_cases hlt : k < rs.length
    · obtain ⟨b, rfl, hbl, hcell⟩ := hc (by omega)
      have hce1 : wr.cell? ⟨b, k, none⟩ = some (.int .i64 (rs[k] : Int)) := (hb.cell hbl).trans (hcell k hlt)
      have hp := HP.out rs[k] (List.getElem_mem hlt)
      have htk := texts_take hlt
      obtain ⟨c, hcc⟩ : ∃ c, rs[k] = c := ⟨_, rfl⟩
      rw [hcc] at hce1 hp htk
      have hc1 := hp.1
      have hc2 := hp.2.1
      have hel := enc_pos c
      have HTK := hid htk
      clear hcell hp htk hcc hc
      go_wp2_with (go_at_call 147; refine (specBytes c hc1 hc2 _).mono ?_; rintro e w1 ⟨rfl, rfl⟩; refine Hid.out ?_)
      refine hid ?_
      go_wp2_with ((at_builtin; refine wpList_append_own _ rfl _ _ 33 rfl w.heap.size 5 i0 (.int .u8 0) 1 1 Tryz.underlying33 hi hz0 hz1 hz2 rfl (by decide) _ _ _ rfl (hown.alloc _) ⟨wr.heap.size, 0, none⟩ (enc c).length (enc c).length (byteVals (enc c)) rfl (by rw [byteVals_length, Nat.mul_one]) ?c1 ?c2 ?c3 ?c4 ?c5 ?_))
      case c1 => exact cells_new wr (byteVals (enc c)).toArray _
      case c2 =>
        intro u hu
        unfold byteVals at hu
        obtain ⟨x, _, rfl⟩ := List.mem_map.1 hu
        rfl
      case c3 => unfold maxLen; omega
      case c4 => omega
      case c5 => simp; exact Nat.le_trans hb.size (by omega)
      intro v' w2 hown2 hgrow _
      have hlt' := (hown.alloc (.cells (byteVals (enc c)).toArray 5)).lt
      have hB2 : Below w.heap.size w w2 := (ext_trans hb (ext_alloc _ _)).grown hgrow (ext_trans hb (ext_alloc _ _)).size (fun q hq => (hlt' q hq).1)
      clear hi hz0 hz1 hz2 hgrow hown hlt'
      go_wp2
      go_roundw
      case rel => exact ⟨k + 1, by omega, by go_num, by rw [HTK.out, byteVals_append, List.length_append]; exact hown2, hB2⟩
      case measure => simp [intOf]; omega
    · have hkk : k = rs.length := by omega
      subst hkk
      rw [List.take_length] at hown
      have hcv := own_string (P := Tryz.prog) (src := 33) (dst := 9) hown Tryz.underlying33 Tryz.underlying5 Tryz.underlying9
      obtain ⟨oa, oc, rfl⟩ := own_slice hown
      clear hc hlen hi hz0 hz1 hz2 hown
      go_wp2
      go_ret
      exact ⟨rfl, hb⟩
end Go.Proofs.YtomcoilmpkpoeaaGreatDoor

namespace Go.Proofs.YtomcoilmpkpoeaaGreatDoor
open Go.RowKit
set_option linter.unusedVariables false
set_option linter.unusedSimpArgs false

def zeroL (n : Nat) : List UInt8 := List.replicate n 48
def zeroB (n : Nat) : ByteArray := mkB (zeroL n)
theorem zeroL_len (n : Nat) : (zeroL n).length = n := by unfold zeroL; rw [List.length_replicate]
theorem zeroB_size (n : Nat) : (zeroB n).size = n := by unfold zeroB; rw [mkB_size, zeroL_len]
theorem zeroL_succ (n : Nat) : zeroL (n + 1) = zeroL n ++ [48] := by unfold zeroL; rw [List.replicate_succ']
theorem repeat_zero : ∀ n : Nat, Lib.repeatL [48] n = zeroL n
  | 0 => rfl
  | n + 1 => by
    show [48] ++ Lib.repeatL [48] n = zeroL (n + 1)
    rw [repeat_zero n]
    rfl
theorem zRepeat (m : Nat) (w : World) (hm : m ≤ 1000000) : Calls Tryz.prog 98 #[.string ⟨#[48]⟩, .int .i64 m] w fun e w' => e = .returned (.string (zeroB m)) ∧ Below w.heap.size w w' := by
  refine (Tryz.strings_Repeat ⟨#[48]⟩ m w (by omega) (by show 1 * m ≤ _; omega)).mono ?_
  rintro e w' ⟨rfl, hb⟩
  exact ⟨end_string (by show mkB (Lib.repeatL [48] m) = zeroB m; rw [repeat_zero]; rfl), hb⟩
set_option maxHeartbeats 1000000 in
theorem implShift (s : ByteArray) (m : Nat) (w : World) (hm : m ≤ 1000000) (hs : s.size ≤ 1000000) (h0 : (s.toList == [48]) = false) :
    Calls Tryz.prog 96 #[.string s, .int .i64 (m : Int)] w fun e w' => e = .returned (.string (s ++ zeroB m)) ∧ Below w.heap.size w w' := by
  have hz := zeroB_size m
  obtain ⟨z, hzz⟩ : ∃ z, zeroB m = z := ⟨_, rfl⟩
  rw [hzz] at hz
  have HZ := hid hzz
  rw [hzz]
  clear hzz
  have hq : ¬ 9223372036854775807 < s.size + m := by omega
  go_enter Tryz.func96, Tryz.ntmps96
  go_wp2_with fail
  refine (zRepeat m _ hm).mono ?_
  rw [HZ.out]
  rintro e w1 ⟨rfl, hb⟩
  go_wp2
  go_ret
  exact ⟨rfl, hb⟩
theorem info_u8Z : (Tryz.prog.info? 5).map (fun i => (i.zero, i.size, i.bytes)) = some (some (.int .u8 0), 1, 1) := by kernel_rfl
set_option maxHeartbeats 4000000 in
set_option maxRecDepth 100000 in
theorem specZeros (m : Nat) (w : World) (hm : m ≤ 1000000) :
    Calls Tryz.prog 45 #[.int .i64 (m : Int)] w fun e w' => e = .returned (.string (zeroB m)) ∧ Below w.heap.size w w' := by
  obtain ⟨i0, hi, hz0, hz1, hz2⟩ := info_parts info_u8Z
  go_enter Tryz.func45, Tryz.ntmps45
  go_wp2
  go_loopw [3, 4] (fun out i wr => ∃ k : Nat, k ≤ m ∧ i = .int .i64 (k : Int) ∧ wr.ownsRow w.heap.size 5 1 out (zeroL k).length (byteVals (zeroL k)) ∧ Below w.heap.size w wr) (fun _ i _ => m - (intOf i).toNat)
  case atStart => exact ⟨0, Nat.zero_le _, rfl, own_none (Nat.le_refl _) _, ext_alloc _ _⟩
  case round =>
    obtain ⟨k, hk, rfl, hown, hb⟩ := hrel
    have hlen : (zeroL k).length ≤ 1000000 := by rw [zeroL_len]; omega
    by_cases hlt : k < m
    · have HST := hid (zeroL_succ k)
      go_wp2_with ((at_builtin; refine wpList_append_own _ rfl _ _ 33 rfl w.heap.size 5 i0 (.int .u8 0) 1 1 Tryz.underlying33 hi hz0 hz1 hz2 rfl (by decide) _ _ _ rfl (hown.alloc _) ⟨wr.heap.size, 0, none⟩ 1 1 [.int .u8 48] rfl rfl ?c1 ?c2 ?c3 ?c4 ?c5 ?_))
      case c1 => exact cells_new wr #[.int .u8 48] _
      case c2 => intro u hu; simp at hu; subst hu; rfl
      case c3 => unfold maxLen; omega
      case c4 => omega
      case c5 => simp; exact Nat.le_trans hb.size (by omega)
      intro v' w2 hown2 hgrow _
      have hlt' := (hown.alloc (.cells #[.int .u8 48] 5)).lt
      have hB2 : Below w.heap.size w w2 := (ext_trans hb (ext_alloc _ _)).grown hgrow (ext_trans hb (ext_alloc _ _)).size (fun q hq => (hlt' q hq).1)
      clear hi hz0 hz1 hz2 hgrow hown hlt'
      go_wp2
      go_roundw
      case rel => exact ⟨k + 1, by omega, by go_num, by rw [HST.out, byteVals_append, List.length_append]; exact hown2, hB2⟩
      case measure => simp [intOf]; omega
    · have hkk : k = m := by omega
      subst hkk
      have hcv := own_string (P := Tryz.prog) (src := 33) (dst := 9) hown Tryz.underlying33 Tryz.underlying5 Tryz.underlying9
      obtain ⟨oa, oc, rfl⟩ := own_slice hown
      clear hlen hi hz0 hz1 hz2 hown
      go_wp2
      go_ret
      exact ⟨rfl, hb⟩
end Go.Proofs.YtomcoilmpkpoeaaGreatDoor
