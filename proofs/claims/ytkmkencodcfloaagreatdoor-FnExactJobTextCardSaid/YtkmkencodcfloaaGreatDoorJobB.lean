/-
  What is proved here: impl.textOf and impl.TextOf return the bytes of a list of code points (TextOf: of at most 1000 bytes). No condition.
  What is proved here: impl.Part, spec.Part and spec.l01Text return the bytes of the chosen code points. The condition 'Tabs' says that the library's tables for UTF-8 lie in the world.
  What is proved here: spec.l01Text and spec.Part return the bytes of the chosen code points. No condition.
  What is proved here: spec.Quote and impl.Quote return the quoted text. The condition 'Tabs' says that the library's tables for UTF-8 lie in the world.
  What is proved here: spec.NumText and impl.NumText return the decimal numeral of an int. The condition 'PT' says that the library's table of powers of ten lies in the world.
  What is proved here: spec.l24Quote. No condition.
  What is proved here: from what a row lists (the tables of unicode-utf8, the powers of ten) to what the library's contracts ask of the world. No condition.
  What is proved here: which worlds are sound, in impl and in the reference. The condition 'Tabs' says that the library's tables for UTF-8 lie in the world.
-/
import Derived.Test.YtkmkencodcfloaaGreatDoorJobA
import Derived.Lib.OthersKept
import Derived.Lib.ConvBytes
import Derived.Laws.IdiomStrings
import Derived.Test.YtkmkencodcfloaaGreatDoorShelfA
import Derived.Lib.ItoaLen
import Derived.Lib.AppendIntMem
import Derived.Shelf.Unicode.PredsPay
import Derived.Test.YtkmkencodcfloaaGreatDoorTabs
import Derived.Laws.Slices
namespace Go.Proofs.YtkmkencodcfloaaGreatDoor
open Go.RowKit
set_option linter.unusedVariables false
set_option linter.unusedSimpArgs false

theorem runeCells_enc {c : Nat} (h : isPt c) : Lib.runeCells (c : Int) = byteVals (enc c) := by
  obtain ⟨h1, h2, h3⟩ := h
  unfold Lib.runeCells enc byteVals
  by_cases a1 : c < 128
  · rw [Lib.encodeRuneZ_one (by omega) (by omega), if_pos a1]
    simp only [List.map_cons, List.map_nil]
    rw [u8_cast (by omega)]
  · by_cases a2 : c < 2048
    · rw [Lib.encodeRuneZ_two (by omega) (by omega), if_neg a1, if_pos a2]
      simp only [List.map_cons, List.map_nil]
      rw [u8_cast (by omega), u8_cast (by omega)]
      simp only [List.cons.injEq, Value.int.injEq, true_and, and_true]
      refine ⟨?_, ?_⟩ <;> omega
    · by_cases a3 : c < 65536
      · rw [Lib.encodeRuneZ_three (by omega), if_neg a1, if_neg a2, if_pos a3]
        simp only [List.map_cons, List.map_nil]
        rw [u8_cast (by omega), u8_cast (by omega), u8_cast (by omega)]
        simp only [List.cons.injEq, Value.int.injEq, true_and, and_true]
        refine ⟨?_, ?_, ?_⟩ <;> omega
      · rw [Lib.encodeRuneZ_four (by omega) (by omega), if_neg a1, if_neg a2, if_neg a3]
        simp only [List.map_cons, List.map_nil]
        rw [u8_cast (by omega), u8_cast (by omega), u8_cast (by omega), u8_cast (by omega)]
        simp only [List.cons.injEq, Value.int.injEq, true_and, and_true]
        refine ⟨?_, ?_, ?_, ?_⟩ <;> omega
theorem byteVals_append (a b : List UInt8) : byteVals (a ++ b) = byteVals a ++ byteVals b := by simp [byteVals]
theorem texts_snoc (rs : List Nat) (c : Nat) : texts (rs ++ [c]) = texts rs ++ enc c := by rw [texts_append]; simp [texts]
theorem texts_le (rs : List Nat) : (texts rs).length ≤ 4 * rs.length := by
  induction rs with
  | nil => simp [texts]
  | cons c rs ih =>
    have := enc_pos c
    simp only [texts, List.flatMap_cons, List.length_append, List.length_cons] at *
    omega
/-- a row of numbers that a call owns, told by its cells -/
theorem own_ints {w : World} {B : Nat} {e : TypeId} {v : Value} {rs : List Nat} (h : w.ownsRow B e 1 v rs.length (intVals rs)) :
    ∃ a cap, v = .slice a rs.length cap ∧ (0 < rs.length → ∃ b, a = some ⟨b, 0, none⟩ ∧ b < w.heap.size ∧ ∀ i (hi : i < rs.length), w.cell? ⟨b, i, none⟩ = some (.int .i64 (rs[i] : Int))) := by
  obtain ⟨a, cap, hv⟩ := own_slice h
  refine ⟨a, cap, hv, fun h0 => ?_⟩
  subst hv
  rcases h.2 with ⟨hv, h1⟩ | ⟨g, cap', cur, hv, hB, hg, _⟩
  · omega
  · simp only [Value.slice.injEq, true_and] at hv
    obtain ⟨rfl, rfl⟩ := hv
    refine ⟨g, rfl, ?_, fun i hi => ?_⟩
    · exact (Array.getElem?_eq_some_iff.1 hg).1
    · have hx := h.cells (g := g) rfl i (.int .i64 (rs[i] : Int)) (by
        unfold intVals
        rw [List.getElem?_map, List.getElem?_eq_getElem hi]; rfl)
      simpa [Addr.add_lit] using hx
theorem implPoint (c : Int) (w : World) : Calls Tryz.prog 115 #[.int .i64 c] w fun e w' => e = .returned (.bool (ptB c)) ∧ w = w' := by
  by_cases h1 : 1 ≤ c ∧ c ≤ 1114111
  · have b1 : inB 1 c 1114111 = true := inB_true h1
    by_cases h2 : 55296 ≤ c ∧ c ≤ 57343
    · have b2 : inB 55296 c 57343 = true := inB_true h2
      have hr := hid (show ptB c = false by unfold ptB; simp [h1, h2])
      clear h1 h2
      go_enter Tryz.func115, Tryz.ntmps115
      go_wp2_with (go_at_call 51; refine (within_any _ _ _ _).mono ?_; rintro e w1 ⟨rfl, rfl⟩)
      go_ret
      exact ⟨end_bool hr.out.symm, rfl⟩
    · have b2 : inB 55296 c 57343 = false := inB_false h2
      have hr := hid (show ptB c = true by unfold ptB; rw [decide_eq_true h1, decide_eq_false h2]; rfl)
      clear h1 h2
      go_enter Tryz.func115, Tryz.ntmps115
      go_wp2_with (go_at_call 51; refine (within_any _ _ _ _).mono ?_; rintro e w1 ⟨rfl, rfl⟩)
      go_ret
      exact ⟨end_bool hr.out.symm, rfl⟩
  · have b1 : inB 1 c 1114111 = false := inB_false h1
    have hr := hid (show ptB c = false by unfold ptB; rw [decide_eq_false h1]; rfl)
    clear h1
    go_enter Tryz.func115, Tryz.ntmps115
    go_wp2_with (go_at_call 51; refine (within_any _ _ _ _).mono ?_; rintro e w1 ⟨rfl, rfl⟩)
    go_ret
    exact ⟨end_bool hr.out.symm, rfl⟩


end Go.Proofs.YtkmkencodcfloaaGreatDoor

namespace Go.Proofs.YtkmkencodcfloaaGreatDoor
open Go.RowKit
set_option linter.unusedVariables false
set_option linter.unusedSimpArgs false

def selB (f c : Int) (i : Nat) : Bool := decide (f ≤ (i : Int) + 1) && decide (0 < c) && decide ((i : Int) + 1 - c < f)
def partK (rs : List Nat) (f c : Int) (k : Nat) : List Nat := ((List.range k).filter (selB f c)).map (fun i => rs.getD i 0)
def partL (rs : List Nat) (f c : Int) : List Nat := partK rs f c rs.length
theorem partK_yes {rs : List Nat} {f c : Int} {k : Nat} (h : selB f c k = true) (hk : k < rs.length) : partK rs f c (k + 1) = partK rs f c k ++ [rs[k]] := by
  unfold partK
  rw [List.range_succ, List.filter_append, List.map_append]
  simp [h, List.getD_eq_getElem?_getD, List.getElem?_eq_getElem hk]
theorem partK_no {rs : List Nat} {f c : Int} {k : Nat} (h : selB f c k = false) : partK rs f c (k + 1) = partK rs f c k := by
  unfold partK
  rw [List.range_succ, List.filter_append, List.map_append]
  simp [h]
theorem partK_len (rs : List Nat) (f c : Int) (k : Nat) : (partK rs f c k).length ≤ k := by
  unfold partK
  rw [List.length_map]
  exact Nat.le_trans (List.length_filter_le _ _) (by simp)
theorem partK_none {rs : List Nat} {f c : Int} (h : c < 1) (k : Nat) : partK rs f c k = [] := by
  unfold partK
  have : (List.range k).filter (selB f c) = [] := by
    rw [List.filter_eq_nil_iff]
    intro i _
    unfold selB
    rw [decide_eq_false (show ¬ 0 < c by omega)]
    simp
  rw [this]; rfl
theorem partK_pt {rs : List Nat} {f c : Int} (h : ∀ x ∈ rs, isPt x) {k : Nat} (hk : k ≤ rs.length) : ∀ x ∈ partK rs f c k, isPt x := by
  intro x hx
  unfold partK at hx
  obtain ⟨i, hi, rfl⟩ := List.mem_map.1 hx
  have := (List.mem_filter.1 hi).1
  rw [List.mem_range] at this
  rw [List.getD_eq_getElem?_getD, List.getElem?_eq_getElem (show i < rs.length by omega)]
  exact h _ (List.getElem_mem _)
def partT (s : ByteArray) (f c : Int) : ByteArray := if okText s then mkB (texts (partL (runesN s.data.toList) f c)) else ⟨#[]⟩
theorem ok_pts {s : ByteArray} (h : okText s = true) : (∀ c ∈ runesN s.data.toList, isPt c) ∧ (runesN s.data.toList).length ≤ 1000 := by
  obtain ⟨h1, h2, h3⟩ := ok_runes h
  exact ⟨(runesAll_len _ _ _ rfl h1).2.1, by omega⟩

end Go.Proofs.YtkmkencodcfloaaGreatDoor

namespace Go.Proofs.YtkmkencodcfloaaGreatDoor
open Go.RowKit
set_option linter.unusedVariables false
set_option linter.unusedSimpArgs false

theorem texts_take {rs : List Nat} {k : Nat} (h : k < rs.length) : texts (rs.take (k + 1)) = texts (rs.take k) ++ enc rs[k] := by
  rw [List.take_add_one, List.getElem?_eq_getElem h, texts_append]
  congr 1
  simp [texts]
/-- a row of bytes that a call owns, as a string -/
theorem own_string {P : Program} {w : World} {B : Nat} {src dst e : TypeId} {v : Value} {l : List UInt8} (h : w.ownsRow B e 1 v l.length (byteVals l)) (hs : P.underlying src = some (.slice e)) (he : P.underlying e = some (.int .u8)) (hd : P.underlying dst = some .string) :
    (convert src dst v).run P w = .ok (.string (mkB l)) w := by
  rcases h.2 with ⟨rfl, h0⟩ | ⟨g, cap, cur, rfl, _, hg, _⟩
  · have : l = [] := List.eq_nil_of_length_eq_zero h0
    subst this
    rw [run_convert_bytes_string w src dst e none 0 0 hs he hd]
    have hl := run_loadCells_list (P := P) w ⟨0, 0, none⟩ ([] : List Value) (fun j v hj => by simp at hj)
    simp [Conv.bytesToString, mkB] at hl ⊢
    rfl
  · refine run_convert_bytes_back w src dst e ⟨g, 0, none⟩ cap l hs he hd (fun j hj => ?_)
    exact h.cells (g := g) rfl j _ (by unfold byteVals; rw [List.getElem?_map, List.getElem?_eq_getElem hj]; rfl)
theorem cells_new (w : World) (cs : Array Value) (e : TypeId) : ∀ j u, cs.toList[j]? = some u → (w.alloc (.cells cs e)).cell? ((⟨w.heap.size, 0, none⟩ : Addr).add j) = some u := by
  intro j u h
  rw [Addr.add_lit, Nat.zero_add]
  rw [cell_of_row _ _ j _ _ _ (heap_alloc_new w _)]
  simpa using h
theorem info_u8 : (Tryz.prog.info? 5).map (fun i => (i.zero, i.size, i.bytes)) = some (some (.int .u8 0), 1, 1) := by kernel_rfl
set_option maxHeartbeats 4000000 in
set_option maxRecDepth 100000 in
theorem specText {v : Value} {B0 : Nat} {rs : List Nat} (w : World) (hown : w.ownsRow B0 3 1 v rs.length (intVals rs)) (hpt : ∀ c ∈ rs, isPt c) (hn : rs.length ≤ 1000000) :
    Calls Tryz.prog 98 #[v] w fun e w' => e = .returned (.string (mkB (texts rs))) ∧ Below w.heap.size w w' := by
  obtain ⟨i0, hi, hz0, hz1, hz2⟩ := info_parts info_u8
  obtain ⟨a, cap, rfl, hc⟩ := own_ints hown
  have HP := hid hpt
  clear hown hpt
  go_enter Tryz.func98, Tryz.ntmps98
  go_wp2
  go_loopw [3, 4] (fun out i wr => ∃ k : Nat, k ≤ rs.length ∧ i = .int .i64 k ∧ wr.ownsRow w.heap.size 5 1 out (texts (rs.take k)).length (byteVals (texts (rs.take k))) ∧ Below w.heap.size w wr) (fun _ i _ => rs.length - (intOf i).toNat)
  case atStart => exact ⟨0, Nat.zero_le _, rfl, own_none (Nat.le_refl _) _, ext_alloc _ _⟩
  case round =>
    obtain ⟨k, hk, rfl, hown, hb⟩ := hrel
    have hlen : (texts (rs.take k)).length ≤ 4000000 := by
      have := texts_le (rs.take k)
      rw [List.length_take] at this
      omega
    by_cases hlt : k < rs.length
    · obtain ⟨b, rfl, hbl, hcell⟩ := hc (by omega)
      have hce1 : wr.cell? ⟨b, k, none⟩ = some (.int .i64 (rs[k] : Int)) := (hb.cell hbl).trans (hcell k hlt)
      have hp := HP.out rs[k] (List.getElem_mem hlt)
      have htk := texts_take hlt
      obtain ⟨c, hcc⟩ : ∃ c, rs[k] = c := ⟨_, rfl⟩
      rw [hcc] at hce1 hp htk
      have hc1 := hp.1
      have hc2 := hp.2.1
      have hel := enc_pos c
      have HTK := hid htk
      clear hcell hp htk hcc hc
      go_wp2_with (go_at_call 79; refine (specBytes c hc1 hc2 _).mono ?_; rintro e w1 ⟨rfl, rfl⟩; refine Hid.out ?_)
      refine hid ?_
      go_wp2_with ((at_builtin; refine wpList_append_own _ rfl _ _ 115 rfl w.heap.size 5 i0 (.int .u8 0) 1 1 Tryz.underlying115 hi hz0 hz1 hz2 rfl (by decide) _ _ _ rfl (hown.alloc _) ⟨wr.heap.size, 0, none⟩ (enc c).length (enc c).length (byteVals (enc c)) rfl (by rw [byteVals_length, Nat.mul_one]) ?c1 ?c2 ?c3 ?c4 ?c5 ?_))
      case c1 => exact cells_new wr (byteVals (enc c)).toArray _
      case c2 =>
        intro u hu
        unfold byteVals at hu
        obtain ⟨x, _, rfl⟩ := List.mem_map.1 hu
        rfl
      case c3 => unfold maxLen; omega
      case c4 => omega
      case c5 => simp; exact Nat.le_trans hb.size (by omega)
      intro v' w2 hown2 hgrow _
      have hlt' := (hown.alloc (.cells (byteVals (enc c)).toArray 5)).lt
      have hB2 : Below w.heap.size w w2 := (ext_trans hb (ext_alloc _ _)).grown hgrow (ext_trans hb (ext_alloc _ _)).size (fun q hq => (hlt' q hq).1)
      clear hi hz0 hz1 hz2 hgrow hown hlt'
      go_wp2
      go_roundw
      case rel => exact ⟨k + 1, by omega, by go_num, by rw [HTK.out, byteVals_append, List.length_append]; exact hown2, hB2⟩
      case measure => simp [intOf]; omega
    · have hkk : k = rs.length := by omega
      subst hkk
      rw [List.take_length] at hown
      have hcv := own_string (P := Tryz.prog) (src := 115) (dst := 9) hown Tryz.underlying115 Tryz.underlying5 Tryz.underlying9
      obtain ⟨oa, oc, rfl⟩ := own_slice hown
      clear hc hlen hi hz0 hz1 hz2 hown
      go_wp2
      go_ret
      exact ⟨rfl, hb⟩
end Go.Proofs.YtkmkencodcfloaaGreatDoor

namespace Go.Proofs.YtkmkencodcfloaaGreatDoor
open Go.RowKit
set_option linter.unusedVariables false
set_option linter.unusedSimpArgs false

def quoteB (b : UInt8) : List UInt8 :=
  if b.toNat = 34 then [92, 34] else if b.toNat = 92 then [92, 92] else if b.toNat = 10 then [92, 110] else if b.toNat = 9 then [92, 116] else if b.toNat = 13 then [92, 114] else [b]
def quoteH (l : List UInt8) (k : Nat) : List UInt8 := 34 :: (l.take k).flatMap quoteB
def quoteL (l : List UInt8) : List UInt8 := quoteH l l.length ++ [34]
def quoteT (s : ByteArray) : ByteArray := if okText s then mkB (quoteL s.data.toList) else ⟨#[]⟩
theorem quoteB_len (b : UInt8) : (quoteB b).length ≤ 2 := by
  unfold quoteB
  repeat' split
  all_goals (first | decide | (simp; done))
theorem quoteH_succ {l : List UInt8} {k : Nat} (h : k < l.length) : quoteH l (k + 1) = quoteH l k ++ quoteB l[k] := by
  unfold quoteH
  rw [List.take_add_one, List.getElem?_eq_getElem h]
  show 34 :: (l.take k ++ [l[k]]).flatMap quoteB = 34 :: (l.take k).flatMap quoteB ++ quoteB l[k]
  rw [List.flatMap_append]
  simp only [List.flatMap_cons, List.flatMap_nil, List.append_nil, List.cons_append]
theorem quoteH_len (l : List UInt8) (k : Nat) : (quoteH l k).length ≤ 2 * k + 1 := by
  have : ∀ m : List UInt8, (m.flatMap quoteB).length ≤ 2 * m.length := by
    intro m
    induction m with
    | nil => simp
    | cons b m ih =>
      have := quoteB_len b
      simp only [List.flatMap_cons, List.length_append, List.length_cons]
      omega
  have h := this (l.take k)
  rw [List.length_take] at h
  unfold quoteH
  simp only [List.length_cons]
  omega
theorem quoteT_size (s : ByteArray) : (quoteT s).size ≤ 2002 := by
  unfold quoteT
  split
  · rename_i h
    have h1 := quoteH_len s.data.toList s.data.toList.length
    have h2 := ok_size h
    rw [Lib.size_eq] at h2
    rw [mkB_size]
    unfold quoteL
    rw [List.length_append]
    simp only [List.length_cons, List.length_nil]
    omega
  · exact Nat.zero_le _
theorem byteVals_cons (b : UInt8) (l : List UInt8) : byteVals (b :: l) = .int .u8 (b.toNat : Int) :: byteVals l := rfl
theorem info_u8Q : (Tryz.prog.info? 5).map (fun i => (i.zero, i.size, i.bytes)) = some (some (.int .u8 0), 1, 1) := by kernel_rfl
set_option maxHeartbeats 8000000 in
set_option maxRecDepth 100000 in
theorem specQuote (s : ByteArray) (w : World) :
    Calls Tryz.prog 43 #[.string s] w fun e w' => e = .returned (.string (quoteT s)) ∧ Below w.heap.size w w' := by
  obtain ⟨i0, hi, hz0, hz1, hz2⟩ := info_parts info_u8Q
  obtain ⟨ok, hok⟩ : ∃ ok, okText s = ok := ⟨_, rfl⟩
  cases ok with
  | false =>
    have HR := hid (show quoteT s = ⟨#[]⟩ by unfold quoteT; rw [hok]; rfl)
    have HO := hid hok
    clear hok hi hz0 hz1 hz2
    go_enter Tryz.func43, Tryz.ntmps43
    go_wp2_with fail
    refine (specTextOk s _).mono ?_
    rintro e w1 ⟨rfl, hb1⟩
    rw [HO.out]
    go_wp2
    go_ret
    rw [HR.out]
    exact ⟨rfl, hb1⟩
  | true =>
    have hsz := ok_size hok
    have hqt : quoteT s = mkB (quoteL s.data.toList) := by unfold quoteT; rw [hok]; rfl
    obtain ⟨l, hl⟩ : ∃ l, s.data.toList = l := ⟨_, rfl⟩
    have hsl : s.size = l.length := by rw [Lib.size_eq, hl]
    rw [hl] at hqt
    have HR := hid hqt
    have HO := hid hok
    have HL := hid hl
    have HSL := hid hsl
    clear hok hqt hl hsl
    go_enter Tryz.func43, Tryz.ntmps43
    go_wp2_with fail
    refine (specTextOk s _).mono ?_
    rintro e w1 ⟨rfl, hb1⟩
    rw [HO.out]
    go_wp2
    go_loopw [3, 4] (fun out i wr => ∃ k : Nat, k ≤ s.size ∧ i = .int .i64 (k : Int) ∧ wr.ownsRow w.heap.size 5 1 out (quoteH l k).length (byteVals (quoteH l k)) ∧ Below w.heap.size w wr) (fun _ i _ => s.size - (intOf i).toNat)
    case atStart => exact ⟨0, Nat.zero_le _, rfl, World.ownsRow_lit w1 #[.int .u8 34] 1 hb1.size (by decide) rfl, ext_trans hb1 (ext_alloc _ _)⟩
    case round =>
      obtain ⟨k, hk, rfl, hown, hb⟩ := hrel
      have hlen := quoteH_len l k
      by_cases hlt : k < s.size
      · obtain ⟨x, hx⟩ : ∃ x, s[k] = x := ⟨_, rfl⟩
        have hkl : k < l.length := by rw [← HSL.out]; exact hlt
        have hlx : l[k] = x := by
          rw [← hx]
          have := get_list s k hlt
          rw [← this]
          congr 1
          exact HL.out.symm
        have hstep := quoteH_succ hkl
        rw [hlx] at hstep
        have hix : (s[k] : UInt8).toNat = x.toNat := by rw [hx]
        have hi1 : (0 : Int) ≤ (k : Int) := by omega
        have hi2 : (k : Int) < (s.size : Int) := by omega
        clear hlx hx
        by_cases h34 : x.toNat = 34
        · have HST := hid (show quoteH l (k + 1) = quoteH l k ++ [92, 34] by rw [hstep]; unfold quoteB; simp [h34])
          clear hstep
          go_wp2_with ((at_builtin; refine wpList_append_own _ rfl _ _ 115 rfl w.heap.size 5 i0 (.int .u8 0) 1 1 Tryz.underlying115 hi hz0 hz1 hz2 rfl (by decide) _ _ _ rfl (hown.alloc _) ⟨wr.heap.size, 0, none⟩ 2 2 [.int .u8 92, .int .u8 34] rfl rfl ?c1 ?c2 ?c3 ?c4 ?c5 ?_))
          case c1 => exact cells_new wr #[.int .u8 92, .int .u8 34] _
          case c2 => intro u hu; simp at hu; first | (subst hu; rfl) | (rcases hu with rfl | rfl <;> rfl)
          case c3 => unfold maxLen; omega
          case c4 => omega
          case c5 => simp; exact Nat.le_trans hb.size (by omega)
          intro v' w2 hown2 hgrow _
          have hlt' := (hown.alloc (.cells #[.int .u8 92, .int .u8 34] 5)).lt
          have hB2 : Below w.heap.size w w2 := (ext_trans hb (ext_alloc _ _)).grown hgrow (ext_trans hb (ext_alloc _ _)).size (fun q hq => (hlt' q hq).1)
          clear hi hz0 hz1 hz2 hgrow hown hlt'
          go_wp2
          go_roundw
          case rel => exact ⟨k + 1, by omega, by go_num, by rw [HST.out, byteVals_append, List.length_append]; exact hown2, hB2⟩
          case measure => simp [intOf]; omega
        by_cases h92 : x.toNat = 92
        · have HST := hid (show quoteH l (k + 1) = quoteH l k ++ [92, 92] by rw [hstep]; unfold quoteB; simp [h92])
          clear hstep
          go_wp2_with ((at_builtin; refine wpList_append_own _ rfl _ _ 115 rfl w.heap.size 5 i0 (.int .u8 0) 1 1 Tryz.underlying115 hi hz0 hz1 hz2 rfl (by decide) _ _ _ rfl (hown.alloc _) ⟨wr.heap.size, 0, none⟩ 2 2 [.int .u8 92, .int .u8 92] rfl rfl ?c1 ?c2 ?c3 ?c4 ?c5 ?_))
          case c1 => exact cells_new wr #[.int .u8 92, .int .u8 92] _
          case c2 => intro u hu; simp at hu; first | (subst hu; rfl) | (rcases hu with rfl | rfl <;> rfl)
          case c3 => unfold maxLen; omega
          case c4 => omega
          case c5 => simp; exact Nat.le_trans hb.size (by omega)
          intro v' w2 hown2 hgrow _
          have hlt' := (hown.alloc (.cells #[.int .u8 92, .int .u8 92] 5)).lt
          have hB2 : Below w.heap.size w w2 := (ext_trans hb (ext_alloc _ _)).grown hgrow (ext_trans hb (ext_alloc _ _)).size (fun q hq => (hlt' q hq).1)
          clear hi hz0 hz1 hz2 hgrow hown hlt'
          go_wp2
          go_roundw
          case rel => exact ⟨k + 1, by omega, by go_num, by rw [HST.out, byteVals_append, List.length_append]; exact hown2, hB2⟩
          case measure => simp [intOf]; omega
        by_cases h10 : x.toNat = 10
        · have HST := hid (show quoteH l (k + 1) = quoteH l k ++ [92, 110] by rw [hstep]; unfold quoteB; simp [h10])
          clear hstep
          go_wp2_with ((at_builtin; refine wpList_append_own _ rfl _ _ 115 rfl w.heap.size 5 i0 (.int .u8 0) 1 1 Tryz.underlying115 hi hz0 hz1 hz2 rfl (by decide) _ _ _ rfl (hown.alloc _) ⟨wr.heap.size, 0, none⟩ 2 2 [.int .u8 92, .int .u8 110] rfl rfl ?c1 ?c2 ?c3 ?c4 ?c5 ?_))
          case c1 => exact cells_new wr #[.int .u8 92, .int .u8 110] _
          case c2 => intro u hu; simp at hu; first | (subst hu; rfl) | (rcases hu with rfl | rfl <;> rfl)
          case c3 => unfold maxLen; omega
          case c4 => omega
          case c5 => simp; exact Nat.le_trans hb.size (by omega)
          intro v' w2 hown2 hgrow _
          have hlt' := (hown.alloc (.cells #[.int .u8 92, .int .u8 110] 5)).lt
          have hB2 : Below w.heap.size w w2 := (ext_trans hb (ext_alloc _ _)).grown hgrow (ext_trans hb (ext_alloc _ _)).size (fun q hq => (hlt' q hq).1)
          clear hi hz0 hz1 hz2 hgrow hown hlt'
          go_wp2
          go_roundw
          case rel => exact ⟨k + 1, by omega, by go_num, by rw [HST.out, byteVals_append, List.length_append]; exact hown2, hB2⟩
          case measure => simp [intOf]; omega
        by_cases h9 : x.toNat = 9
        · have HST := hid (show quoteH l (k + 1) = quoteH l k ++ [92, 116] by rw [hstep]; unfold quoteB; simp [h9])
          clear hstep
          go_wp2_with ((at_builtin; refine wpList_append_own _ rfl _ _ 115 rfl w.heap.size 5 i0 (.int .u8 0) 1 1 Tryz.underlying115 hi hz0 hz1 hz2 rfl (by decide) _ _ _ rfl (hown.alloc _) ⟨wr.heap.size, 0, none⟩ 2 2 [.int .u8 92, .int .u8 116] rfl rfl ?c1 ?c2 ?c3 ?c4 ?c5 ?_))
          case c1 => exact cells_new wr #[.int .u8 92, .int .u8 116] _
          case c2 => intro u hu; simp at hu; first | (subst hu; rfl) | (rcases hu with rfl | rfl <;> rfl)
          case c3 => unfold maxLen; omega
          case c4 => omega
          case c5 => simp; exact Nat.le_trans hb.size (by omega)
          intro v' w2 hown2 hgrow _
          have hlt' := (hown.alloc (.cells #[.int .u8 92, .int .u8 116] 5)).lt
          have hB2 : Below w.heap.size w w2 := (ext_trans hb (ext_alloc _ _)).grown hgrow (ext_trans hb (ext_alloc _ _)).size (fun q hq => (hlt' q hq).1)
          clear hi hz0 hz1 hz2 hgrow hown hlt'
          go_wp2
          go_roundw
          case rel => exact ⟨k + 1, by omega, by go_num, by rw [HST.out, byteVals_append, List.length_append]; exact hown2, hB2⟩
          case measure => simp [intOf]; omega
        by_cases h13 : x.toNat = 13
        · have HST := hid (show quoteH l (k + 1) = quoteH l k ++ [92, 114] by rw [hstep]; unfold quoteB; simp [h13])
          clear hstep
          go_wp2_with ((at_builtin; refine wpList_append_own _ rfl _ _ 115 rfl w.heap.size 5 i0 (.int .u8 0) 1 1 Tryz.underlying115 hi hz0 hz1 hz2 rfl (by decide) _ _ _ rfl (hown.alloc _) ⟨wr.heap.size, 0, none⟩ 2 2 [.int .u8 92, .int .u8 114] rfl rfl ?c1 ?c2 ?c3 ?c4 ?c5 ?_))
          case c1 => exact cells_new wr #[.int .u8 92, .int .u8 114] _
          case c2 => intro u hu; simp at hu; first | (subst hu; rfl) | (rcases hu with rfl | rfl <;> rfl)
          case c3 => unfold maxLen; omega
          case c4 => omega
          case c5 => simp; exact Nat.le_trans hb.size (by omega)
          intro v' w2 hown2 hgrow _
          have hlt' := (hown.alloc (.cells #[.int .u8 92, .int .u8 114] 5)).lt
          have hB2 : Below w.heap.size w w2 := (ext_trans hb (ext_alloc _ _)).grown hgrow (ext_trans hb (ext_alloc _ _)).size (fun q hq => (hlt' q hq).1)
          clear hi hz0 hz1 hz2 hgrow hown hlt'
          go_wp2
          go_roundw
          case rel => exact ⟨k + 1, by omega, by go_num, by rw [HST.out, byteVals_append, List.length_append]; exact hown2, hB2⟩
          case measure => simp [intOf]; omega
        have HST := hid (show quoteH l (k + 1) = quoteH l k ++ [x] by rw [hstep]; unfold quoteB; simp [h34, h92, h10, h9, h13])
        clear hstep
        have g34 : ((x.toNat : Int) == 34) = false := by rw [beq_eq_false_iff_ne]; omega
        have g92 : ((x.toNat : Int) == 92) = false := by rw [beq_eq_false_iff_ne]; omega
        have g10 : ((x.toNat : Int) == 10) = false := by rw [beq_eq_false_iff_ne]; omega
        have g9 : ((x.toNat : Int) == 9) = false := by rw [beq_eq_false_iff_ne]; omega
        have g13 : ((x.toNat : Int) == 13) = false := by rw [beq_eq_false_iff_ne]; omega
        clear h34 h92 h10 h9 h13
        go_wp2_with ((at_builtin; refine wpList_append_own _ rfl _ _ 115 rfl w.heap.size 5 i0 (.int .u8 0) 1 1 Tryz.underlying115 hi hz0 hz1 hz2 rfl (by decide) _ _ _ rfl (hown.alloc _) ⟨wr.heap.size, 0, none⟩ 1 1 [.int .u8 (x.toNat : Int)] rfl rfl ?c1 ?c2 ?c3 ?c4 ?c5 ?_))
        case c1 => exact cells_new wr #[.int .u8 (x.toNat : Int)] _
        case c2 => intro u hu; simp at hu; first | (subst hu; rfl) | (rcases hu with rfl | rfl <;> rfl)
        case c3 => unfold maxLen; omega
        case c4 => omega
        case c5 => simp; exact Nat.le_trans hb.size (by omega)
        intro v' w2 hown2 hgrow _
        have hlt' := (hown.alloc (.cells #[.int .u8 (x.toNat : Int)] 5)).lt
        have hB2 : Below w.heap.size w w2 := (ext_trans hb (ext_alloc _ _)).grown hgrow (ext_trans hb (ext_alloc _ _)).size (fun q hq => (hlt' q hq).1)
        clear hi hz0 hz1 hz2 hgrow hown hlt'
        go_wp2
        go_roundw
        case rel => exact ⟨k + 1, by omega, by go_num, by rw [HST.out, byteVals_append, List.length_append]; exact hown2, hB2⟩
        case measure => simp [intOf]; omega
      · have hkk : k = s.size := by omega
        subst hkk
        have HQ := hid (show quoteL l = quoteH l s.size ++ [34] by unfold quoteL; rw [← HSL.out])
        clear hlt
        go_wp2_with ((at_builtin; refine wpList_append_own _ rfl _ _ 115 rfl w.heap.size 5 i0 (.int .u8 0) 1 1 Tryz.underlying115 hi hz0 hz1 hz2 rfl (by decide) _ _ _ rfl (hown.alloc _) ⟨wr.heap.size, 0, none⟩ 1 1 [.int .u8 34] rfl rfl ?c1 ?c2 ?c3 ?c4 ?c5 ?_))
        case c1 => exact cells_new wr #[.int .u8 34] _
        case c2 => intro u hu; simp at hu; first | (subst hu; rfl) | (rcases hu with rfl | rfl <;> rfl)
        case c3 => unfold maxLen; omega
        case c4 => omega
        case c5 => simp; exact Nat.le_trans hb.size (by omega)
        intro v' w2 hown2 hgrow _
        have hlt' := (hown.alloc (.cells #[.int .u8 34] 5)).lt
        have hB2 : Below w.heap.size w w2 := (ext_trans hb (ext_alloc _ _)).grown hgrow (ext_trans hb (ext_alloc _ _)).size (fun q hq => (hlt' q hq).1)
        clear hi hz0 hz1 hz2 hgrow hown hlt'
        have hown3 : w2.ownsRow w.heap.size 5 1 v' (quoteL l).length (byteVals (quoteL l)) := by rw [HQ.out, byteVals_append, List.length_append]; exact hown2
        have hcv := own_string (P := Tryz.prog) (src := 115) (dst := 9) hown3 Tryz.underlying115 Tryz.underlying5 Tryz.underlying9
        clear hown2
        obtain ⟨oa, oc, rfl⟩ := own_slice hown3
        clear hown3
        go_wp2
        go_ret
        rw [HR.out]
        exact ⟨rfl, hB2⟩
theorem byteCells1 (l : List UInt8) (b : UInt8) : Lib.byteCells l ++ [Value.int .u8 (b.toNat : Int)] = Lib.byteCells (l ++ [b]) := by simp [Lib.byteCells]
theorem byteCells2 (l : List UInt8) (a b : UInt8) : Lib.byteCells l ++ [Value.int .u8 (a.toNat : Int)] ++ [Value.int .u8 (b.toNat : Int)] = Lib.byteCells (l ++ [a, b]) := by simp [Lib.byteCells]
set_option maxHeartbeats 8000000 in
set_option maxRecDepth 100000 in
theorem implQuoted (s : ByteArray) (w : World) (hsz : s.size ≤ 1000000) :
    Calls Tryz.prog 56 #[.string s] w fun e w' => e = .returned (.string (mkB (quoteL s.data.toList))) ∧ Below w.heap.size w w' := by
  obtain ⟨l, hl⟩ : ∃ l, s.data.toList = l := ⟨_, rfl⟩
  have hsl : s.size = l.length := by rw [Lib.size_eq, hl]
  rw [hl]
  have HL := hid hl
  have HSL := hid hsl
  clear hl hsl
  have hI0 := Lib.IsBuilderF.of (Lib.fresh_isBuilder 125 5 w)
  go_enter Tryz.func56, Tryz.ntmps56
  go_wp2_with (go_at_call 90; refine (Tryz.Builder_WriteByte_k w.heap.size w.heap.size [] 34 _ hI0 (by simp) (ext_alloc w _).size).mono ?_; rintro e W0 ⟨rfl, h0, b0, k0⟩; refine Hid.out ?_)
  refine hid ?_
  have hB0 := Below.trans (ext_alloc w (.cells #[.pointer none, .slice none 0 0] 125)) b0
  go_wp2
  go_loopw [8] (fun i wr => ∃ k : Nat, k ≤ s.size ∧ i = .int .i64 k ∧ Lib.IsBuilderF 125 5 w.heap.size w.heap.size (Lib.byteCells (quoteH l k)) wr ∧ Below w.heap.size w wr) (fun i _ => s.size - (intOf i).toNat)
  case atStart => exact ⟨0, Nat.zero_le _, rfl, Or.inr h0, hB0⟩
  case round =>
    obtain ⟨k, hk, rfl, hI, hb⟩ := hrel
    have hlen := quoteH_len l k
    by_cases hlt : k < s.size
    · obtain ⟨x, hx⟩ : ∃ x, s[k] = x := ⟨_, rfl⟩
      have hkl : k < l.length := by rw [← HSL.out]; exact hlt
      have hlx : l[k] = x := by
        rw [← hx]
        have := get_list s k hlt
        rw [← this]
        congr 1
        exact HL.out.symm
      have hstep := quoteH_succ hkl
      rw [hlx] at hstep
      have hix : (s[k] : UInt8).toNat = x.toNat := by rw [hx]
      have hi1 : (0 : Int) ≤ (k : Int) := by omega
      have hi2 : (k : Int) < (s.size : Int) := by omega
      clear hlx hx
      by_cases h34 : x.toNat = 34
      · have HST := hid (show quoteH l (k + 1) = quoteH l k ++ [92, 34] by rw [hstep]; unfold quoteB; simp [h34])
        clear hstep
        go_wp2_with (go_at_call 90; refine (Tryz.Builder_WriteByte_k w.heap.size w.heap.size _ (92) _ hI (by rw [Lib.byteCells_length]; omega) (hb).size).mono ?_; rintro e W1 ⟨rfl, h1, b1, k1⟩; refine Hid.out ?_)
        refine hid ?_
        have hI1 : Lib.IsBuilderF 125 5 w.heap.size w.heap.size (Lib.byteCells (quoteH l k ++ [92])) W1 := by
          rw [← byteCells1]
          exact Or.inr h1
        have hlen1 : (quoteH l k ++ [92]).length ≤ 2000002 := by rw [List.length_append]; simp only [List.length_cons, List.length_nil]; omega
        clear h1 hI
        go_wp2_with fail
        refine (Tryz.Builder_WriteByte_k w.heap.size w.heap.size _ (34) _ hI1 (by rw [Lib.byteCells_length]; omega) (hb.trans b1).size).mono ?_
        rintro e W2 ⟨rfl, h2, b2, k2⟩
        have hI2 : Lib.IsBuilderF 125 5 w.heap.size w.heap.size (Lib.byteCells (quoteH l (k + 1))) W2 := by
          rw [HST.out, show quoteH l k ++ [92, 34] = (quoteH l k ++ [92]) ++ [34] by simp, ← byteCells1]
          exact Or.inr h2
        clear h2
        go_wp2
        go_round
        case rel => exact ⟨k + 1, by omega, by go_num, hI2, (hb.trans b1).trans b2⟩
        case measure => simp [intOf]; omega
      by_cases h92 : x.toNat = 92
      · have HST := hid (show quoteH l (k + 1) = quoteH l k ++ [92, 92] by rw [hstep]; unfold quoteB; simp [h92])
        clear hstep
        go_wp2_with (go_at_call 90; refine (Tryz.Builder_WriteByte_k w.heap.size w.heap.size _ (92) _ hI (by rw [Lib.byteCells_length]; omega) (hb).size).mono ?_; rintro e W1 ⟨rfl, h1, b1, k1⟩; refine Hid.out ?_)
        refine hid ?_
        have hI1 : Lib.IsBuilderF 125 5 w.heap.size w.heap.size (Lib.byteCells (quoteH l k ++ [92])) W1 := by
          rw [← byteCells1]
          exact Or.inr h1
        have hlen1 : (quoteH l k ++ [92]).length ≤ 2000002 := by rw [List.length_append]; simp only [List.length_cons, List.length_nil]; omega
        clear h1 hI
        go_wp2_with fail
        refine (Tryz.Builder_WriteByte_k w.heap.size w.heap.size _ (92) _ hI1 (by rw [Lib.byteCells_length]; omega) (hb.trans b1).size).mono ?_
        rintro e W2 ⟨rfl, h2, b2, k2⟩
        have hI2 : Lib.IsBuilderF 125 5 w.heap.size w.heap.size (Lib.byteCells (quoteH l (k + 1))) W2 := by
          rw [HST.out, show quoteH l k ++ [92, 92] = (quoteH l k ++ [92]) ++ [92] by simp, ← byteCells1]
          exact Or.inr h2
        clear h2
        go_wp2
        go_round
        case rel => exact ⟨k + 1, by omega, by go_num, hI2, (hb.trans b1).trans b2⟩
        case measure => simp [intOf]; omega
      by_cases h10 : x.toNat = 10
      · have HST := hid (show quoteH l (k + 1) = quoteH l k ++ [92, 110] by rw [hstep]; unfold quoteB; simp [h10])
        clear hstep
        go_wp2_with (go_at_call 91; refine (Tryz.Builder_WriteString_k w.heap.size w.heap.size _ ⟨#[92, 110]⟩ _ hI (by rw [Lib.byteCells_length]; show _ + 2 ≤ _; omega) hb.size).mono ?_; rintro e W1 ⟨rfl, h1, b1, k1⟩; refine Hid.out ?_)
        refine hid ?_
        go_wp2
        go_round
        case rel => exact ⟨k + 1, by omega, by go_num, by rw [HST.out, Lib.byteCells_append]; exact Or.inr h1, hb.trans b1⟩
        case measure => simp [intOf]; omega
      by_cases h9 : x.toNat = 9
      · have HST := hid (show quoteH l (k + 1) = quoteH l k ++ [92, 116] by rw [hstep]; unfold quoteB; simp [h9])
        clear hstep
        go_wp2_with (go_at_call 91; refine (Tryz.Builder_WriteString_k w.heap.size w.heap.size _ ⟨#[92, 116]⟩ _ hI (by rw [Lib.byteCells_length]; show _ + 2 ≤ _; omega) hb.size).mono ?_; rintro e W1 ⟨rfl, h1, b1, k1⟩; refine Hid.out ?_)
        refine hid ?_
        go_wp2
        go_round
        case rel => exact ⟨k + 1, by omega, by go_num, by rw [HST.out, Lib.byteCells_append]; exact Or.inr h1, hb.trans b1⟩
        case measure => simp [intOf]; omega
      by_cases h13 : x.toNat = 13
      · have HST := hid (show quoteH l (k + 1) = quoteH l k ++ [92, 114] by rw [hstep]; unfold quoteB; simp [h13])
        clear hstep
        go_wp2_with (go_at_call 91; refine (Tryz.Builder_WriteString_k w.heap.size w.heap.size _ ⟨#[92, 114]⟩ _ hI (by rw [Lib.byteCells_length]; show _ + 2 ≤ _; omega) hb.size).mono ?_; rintro e W1 ⟨rfl, h1, b1, k1⟩; refine Hid.out ?_)
        refine hid ?_
        go_wp2
        go_round
        case rel => exact ⟨k + 1, by omega, by go_num, by rw [HST.out, Lib.byteCells_append]; exact Or.inr h1, hb.trans b1⟩
        case measure => simp [intOf]; omega
      have HST := hid (show quoteH l (k + 1) = quoteH l k ++ [x] by rw [hstep]; unfold quoteB; simp [h34, h92, h10, h9, h13])
      clear hstep
      have g34 : ((x.toNat : Int) == 34) = false := by rw [beq_eq_false_iff_ne]; omega
      have g92 : ((x.toNat : Int) == 92) = false := by rw [beq_eq_false_iff_ne]; omega
      have g10 : ((x.toNat : Int) == 10) = false := by rw [beq_eq_false_iff_ne]; omega
      have g9 : ((x.toNat : Int) == 9) = false := by rw [beq_eq_false_iff_ne]; omega
      have g13 : ((x.toNat : Int) == 13) = false := by rw [beq_eq_false_iff_ne]; omega
      clear h34 h92 h10 h9 h13
      go_wp2_with (go_at_call 90; refine (Tryz.Builder_WriteByte_k w.heap.size w.heap.size _ ((x.toNat : Int)) _ hI (by rw [Lib.byteCells_length]; omega) (hb).size).mono ?_; rintro e W1 ⟨rfl, h1, b1, k1⟩; refine Hid.out ?_)
      refine hid ?_
      go_wp2
      go_round
      case rel => exact ⟨k + 1, by omega, by go_num, by rw [HST.out, Lib.byteCells_append]; exact (by rw [byteCells1] at h1; rw [← Lib.byteCells_append]; exact Or.inr h1), hb.trans b1⟩
      case measure => simp [intOf]; omega
    · have hkk : k = s.size := by omega
      subst hkk
      have HQ := hid (show quoteL l = quoteH l s.size ++ [34] by unfold quoteL; rw [← HSL.out])
      clear hlt
      go_wp2_with (go_at_call 90; refine (Tryz.Builder_WriteByte_k w.heap.size w.heap.size _ (34) _ hI (by rw [Lib.byteCells_length]; omega) (hb).size).mono ?_; rintro e W1 ⟨rfl, h1, b1, k1⟩; refine Hid.out ?_)
      refine hid ?_
      have hI1 : Lib.IsBuilderF 125 5 w.heap.size w.heap.size (Lib.byteCells (quoteL l)) W1 := by
        rw [HQ.out, Lib.byteCells_append]
        exact Or.inr h1
      clear h1
      go_wp2_with (go_at_call 92; refine (Tryz.Builder_String_any_k w.heap.size w.heap.size _ _ hI1 (hb.trans b1).size).mono ?_; rintro e W2 ⟨rfl, _, b2, _⟩)
      go_ret
      exact ⟨rfl, (hb.trans b1).trans b2⟩
end Go.Proofs.YtkmkencodcfloaaGreatDoor

namespace Go.Proofs.YtkmkencodcfloaaGreatDoor
open Go.RowKit
set_option linter.unusedVariables false
set_option linter.unusedSimpArgs false

theorem ba_list {a b : ByteArray} (h : a.data.toList = b.data.toList) : a = b := ba_toList_inj (by rw [Lib.toList_data, Lib.toList_data]; exact h)
def numB (n : Int) : ByteArray := mkB (Lib.itoa n)
theorem numB_size {n : Int} (h : -9223372036854775808 ≤ n ∧ n ≤ 9223372036854775807) : (numB n).size ≤ 21 := by
  unfold numB
  rw [mkB_size]
  exact Lib.itoa_length_le n h.1 h.2
def PT (w : World) : Prop := Lib.TabIs Tryz.prog w "internal/strconv.uint64pow10" .u64 Lib.pow10Tab
theorem pt_below {w w' : World} (h : PT w) (hb : Below w.heap.size w w') : PT w' := TabIs_below (g := 3) (by kernel_rfl) h hb
theorem implItoa (n : Int) (w : World) (hP : PT w) (hn : -9223372036854775808 ≤ n ∧ n ≤ 9223372036854775807) :
    Calls Tryz.prog 93 #[.int .i64 n] w fun e w' => e = .returned (.string (numB n)) ∧ Below w.heap.size w w' := by
  refine (Tryz.strconv_Itoa n hn.1 hn.2 w hP).mono ?_
  rintro e w' ⟨rfl, k, os, rfl⟩
  exact ⟨rfl, Lib.below_grow _ _ (Nat.le_refl _) _ _⟩
theorem implNumText (n : Int) (w : World) (hP : PT w) (hn : -9223372036854775808 ≤ n ∧ n ≤ 9223372036854775807) :
    Calls Tryz.prog 57 #[.int .i64 n] w fun e w' => e = .returned (.string (numB n)) ∧ Below w.heap.size w w' := by
  go_enter Tryz.func57, Tryz.ntmps57
  go_wp2_with fail
  refine (implItoa n _ hP hn).mono ?_
  rintro e w1 ⟨rfl, hb⟩
  go_wp2
  go_ret
  exact ⟨rfl, hb⟩
theorem info_u8M : (Tryz.prog.info? 5).map (fun i => (i.zero, i.size, i.bytes)) = some (some (.int .u8 0), 1, 1) := by kernel_rfl
/-- the digits ahead of those that are laid -/
def restD (m : Nat) : List UInt8 := if m = 0 then [] else Lib.decDigits m
theorem restD_step {m : Nat} (h : m ≠ 0) : restD m = restD (m / 10) ++ [UInt8.ofNat (48 + m % 10)] := by
  unfold restD
  rw [if_neg h, Lib.decDigits]
  by_cases h10 : m < 10
  · rw [dif_pos h10, if_pos (by omega), Nat.mod_eq_of_lt h10]; rfl
  · rw [dif_neg h10, if_neg (by omega)]
theorem own_some {w : World} {base : Nat} {e : TypeId} {size : Nat} {v : Value} {n : Nat} {xs : List Value} (h : w.ownsRow base e size v n xs) (hn : 0 < n) : ∃ g cap, v = .slice (some ⟨g, 0, none⟩) n cap ∧ v.ownBlock = some g := by
  rcases h.2 with ⟨rfl, h0⟩ | ⟨g, cap, cur, rfl, _⟩
  · omega
  · exact ⟨g, cap, rfl, rfl⟩
set_option maxHeartbeats 4000000 in
set_option maxRecDepth 100000 in
theorem specNumText (n : Int) (w : World) (hn : -9223372036854775808 ≤ n ∧ n ≤ 9223372036854775807) :
    Calls Tryz.prog 45 #[.int .i64 n] w fun e w' => e = .returned (.string (numB n)) ∧ Below w.heap.size w w' := by
  obtain ⟨i0, hi, hz0, hz1, hz2⟩ := info_parts info_u8M
  by_cases h0 : n = 0
  · subst h0
    have HR := hid (show numB 0 = ⟨#[48]⟩ by unfold numB Lib.itoa; rw [if_neg (by omega), Lib.decDigits]; rfl)
    clear hi hz0 hz1 hz2
    go_enter Tryz.func45, Tryz.ntmps45
    go_wp2
    go_ret
    rw [HR.out]
    exact ⟨rfl, Below.refl _ _⟩
  have g0 : (n == 0) = false := by rw [beq_eq_false_iff_ne]; exact h0
  have hnd : Lib.nDigits n.natAbs ≤ 20 := Lib.nDigits_le20 _ (by omega)
  have hst := hid (show Lib.decDigits n.natAbs = restD n.natAbs ++ [] by unfold restD; rw [if_neg (by omega), List.append_nil])
  have hdl : ∀ ds m, Lib.decDigits n.natAbs = restD m ++ ds → ds.length ≤ 20 := by
    intro ds m h
    have := congrArg List.length h
    rw [Lib.decDigits_length, List.length_append] at this
    omega
  have HDL := hid hdl
  clear hdl
  have HG := hid h0
  clear h0
  go_enter Tryz.func45, Tryz.ntmps45
  go_wp2
  go_loopw [3, 4] (fun out m wr => ∃ (mv : Int) (ds : List UInt8) (g cap : Nat), m = .int .i64 mv ∧ (-9223372036854775808 ≤ mv ∧ mv ≤ 9223372036854775807) ∧ Hid (Lib.decDigits n.natAbs = restD mv.natAbs ++ ds) ∧ out = .slice (some ⟨g, 0, none⟩) ds.length cap ∧ wr.ownsRow w.heap.size 5 1 out ds.length (byteVals ds) ∧ Below w.heap.size w wr) (fun _ m _ => (intOf m).natAbs)
  case atStart => exact ⟨n, [], w.heap.size, 0, rfl, hn, hst, rfl, own_none (Nat.le_refl _) _, ext_alloc _ _⟩
  case round =>
    obtain ⟨mv, ds, g, cap, rfl, hmv, HS, rfl, hown, hb⟩ := hrel
    have hdl := HDL.out ds _ HS.out
    by_cases hm : mv = 0
    · subst hm
      have HE := hid (show Lib.decDigits n.natAbs = ds by have := HS.out; unfold restD at this; simpa using this)
      clear HS
      by_cases hneg : n < 0
      · have HR := hid (show numB n = mkB (45 :: ds) by unfold numB Lib.itoa; rw [if_pos hneg, HE.out])
        have hlit : (wr.alloc (.cells #[.int .u8 (45)] 5)).ownsRow w.heap.size 5 1 (.slice (some ⟨wr.heap.size, 0, none⟩) 1 1) 1 [.int .u8 (45)] := World.ownsRow_lit wr #[.int .u8 (45)] 1 hb.size (by decide) rfl
        go_wp2_with ((at_builtin; refine wpList_append_own _ rfl _ _ 115 rfl w.heap.size 5 i0 (.int .u8 0) 1 1 Tryz.underlying115 hi hz0 hz1 hz2 rfl (by decide) _ _ _ rfl hlit ⟨g, 0, none⟩ ds.length cap (byteVals ds) rfl (by rw [byteVals_length, Nat.mul_one]) ?c1 ?c2 ?c3 ?c4 ?c5 ?_))
        case c1 => first | exact fun j u hu => (hown.alloc _).cells (g := g) rfl j u hu | (intro j u hu; have hcl := (hown.alloc (.cells #[.int .u8 (45)] 5)).cells (g := g) rfl j u hu; rw [Addr.add_lit, Nat.zero_add] at hcl; exact hcl)
        case c2 =>
          intro u hu
          unfold byteVals at hu
          obtain ⟨y, _, rfl⟩ := List.mem_map.1 hu
          rfl
        case c3 => unfold maxLen; omega
        case c4 => omega
        case c5 => first | (simp; exact Nat.le_trans hb.size (by omega)) | (exact Nat.le_trans hb.size (by omega))
        intro v' w2 hown2 hgrow _
        have hlt' := hlit.lt
        have hB2 : Below w.heap.size w w2 := (ext_trans hb (ext_alloc _ _)).grown hgrow (ext_trans hb (ext_alloc _ _)).size (fun q hq => (hlt' q hq).1)
        obtain ⟨g', cap', rfl, hob⟩ := own_some hown2 (by omega)
        clear hi hz0 hz1 hz2 hgrow hown hlt' hlit
        have hown3 : w2.ownsRow w.heap.size 5 1 (.slice (some ⟨g', 0, none⟩) (1 + ds.length) cap') (45 :: ds : List UInt8).length (byteVals (45 :: ds)) := by
          have e1 : (45 :: ds : List UInt8).length = 1 + ds.length := by rw [List.length_cons]; omega
          have e2 : byteVals (45 :: ds) = [.int .u8 45] ++ byteVals ds := rfl
          rw [e1, e2]
          exact hown2
        have hcv := own_string (P := Tryz.prog) (src := 115) (dst := 9) hown3 Tryz.underlying115 Tryz.underlying5 Tryz.underlying9
        clear hown2 hown3
        go_wp2
        go_ret
        rw [HR.out]
        exact ⟨rfl, hB2⟩
      · have HR := hid (show numB n = mkB ds by unfold numB Lib.itoa; rw [if_neg hneg, ← HE.out, show n.toNat = n.natAbs by omega])
        have hcv := own_string (P := Tryz.prog) (src := 115) (dst := 9) hown Tryz.underlying115 Tryz.underlying5 Tryz.underlying9
        clear hown hi hz0 hz1 hz2
        go_wp2
        go_ret
        rw [HR.out]
        exact ⟨rfl, hb⟩
    · have gm : (mv == 0) = false := by rw [beq_eq_false_iff_ne]; exact hm
      have hstep := restD_step (m := mv.natAbs) (by omega)
      obtain ⟨dg, hdg⟩ : ∃ dg, mv.natAbs % 10 = dg := ⟨_, rfl⟩
      rw [hdg] at hstep
      have hd10 : dg < 10 := by omega
      have hv1 : IntKind.u8.wrap (48 + (dg : Int)) = 48 + (dg : Int) := by simp [IntKind.wrap, IntKind.bits, IntKind.signed]; omega
      have hv2 : (48 + (dg : Int)) % 256 = 48 + (dg : Int) := by omega
      have gd : ¬ (dg : Int) < 0 := by omega
      by_cases hpos : 0 < mv
      · obtain ⟨q, hq⟩ : ∃ q, mv / 10 = q := ⟨_, rfl⟩
        have hq1 : mv.tdiv 10 = q := by rw [Int.tdiv_eq_ediv_of_nonneg (by omega)]; exact hq
        have hr : mv % 10 = (dg : Int) := by omega
        have hr1 : mv.tmod 10 = (dg : Int) := by rw [Int.tmod_eq_emod_of_nonneg (by omega)]; exact hr
        have hqa : q.natAbs = mv.natAbs / 10 := by omega
        have HN := hid (show Lib.decDigits n.natAbs = restD q.natAbs ++ (UInt8.ofNat (48 + dg) :: ds) by rw [HS.out, hstep, hqa]; simp)
        have hqb : -9223372036854775808 ≤ q ∧ q ≤ 9223372036854775807 := by omega
        have hqm : q.natAbs < mv.natAbs := by omega
        clear hstep hdg HS hqa hm
        have hlit : (wr.alloc (.cells #[.int .u8 (48 + (dg : Int))] 5)).ownsRow w.heap.size 5 1 (.slice (some ⟨wr.heap.size, 0, none⟩) 1 1) 1 [.int .u8 (48 + (dg : Int))] := World.ownsRow_lit wr #[.int .u8 (48 + (dg : Int))] 1 hb.size (by decide) rfl
        go_wp2_with ((at_builtin; refine wpList_append_own _ rfl _ _ 115 rfl w.heap.size 5 i0 (.int .u8 0) 1 1 Tryz.underlying115 hi hz0 hz1 hz2 rfl (by decide) _ _ _ rfl hlit ⟨g, 0, none⟩ ds.length cap (byteVals ds) rfl (by rw [byteVals_length, Nat.mul_one]) ?c1 ?c2 ?c3 ?c4 ?c5 ?_))
        case c1 => first | exact fun j u hu => (hown.alloc _).cells (g := g) rfl j u hu | (intro j u hu; have hcl := (hown.alloc (.cells #[.int .u8 (48 + (dg : Int))] 5)).cells (g := g) rfl j u hu; rw [Addr.add_lit, Nat.zero_add] at hcl; exact hcl)
        case c2 =>
          intro u hu
          unfold byteVals at hu
          obtain ⟨y, _, rfl⟩ := List.mem_map.1 hu
          rfl
        case c3 => unfold maxLen; omega
        case c4 => omega
        case c5 => first | (simp; exact Nat.le_trans hb.size (by omega)) | (exact Nat.le_trans hb.size (by omega))
        intro v' w2 hown2 hgrow _
        have hlt' := hlit.lt
        have hB2 : Below w.heap.size w w2 := (ext_trans hb (ext_alloc _ _)).grown hgrow (ext_trans hb (ext_alloc _ _)).size (fun q hq => (hlt' q hq).1)
        obtain ⟨g', cap', rfl, hob⟩ := own_some hown2 (by omega)
        clear hi hz0 hz1 hz2 hgrow hown hlt' hlit
        have hown3 : w2.ownsRow w.heap.size 5 1 (.slice (some ⟨g', 0, none⟩) (1 + ds.length) cap') (UInt8.ofNat (48 + dg) :: ds).length (byteVals (UInt8.ofNat (48 + dg) :: ds)) := by
          have e1 : (UInt8.ofNat (48 + dg) :: ds).length = 1 + ds.length := by rw [List.length_cons]; omega
          have e2 : byteVals (UInt8.ofNat (48 + dg) :: ds) = [.int .u8 (48 + (dg : Int))] ++ byteVals ds := by
            unfold byteVals
            rw [List.map_cons, u8_cast (show 48 + dg < 256 by omega)]
            rfl
          rw [e1, e2]
          exact hown2
        clear hown2
        go_wp2
        go_roundw
        case rel => exact ⟨q, UInt8.ofNat (48 + dg) :: ds, g', cap', rfl, by omega, HN, by rw [List.length_cons, Nat.add_comm], hown3, hB2⟩
        case measure => simp only [intOf]; omega
      · obtain ⟨q, hq⟩ : ∃ q, -((-mv) / 10) = q := ⟨_, rfl⟩
        have hq1 : mv.tdiv 10 = q := by
          rw [← hq, ← Int.tdiv_eq_ediv_of_nonneg (show 0 ≤ -mv by omega), ← Int.neg_tdiv, Int.neg_neg]
        have hr1 : mv.tmod 10 = -(dg : Int) := by
          have e : (-mv) % 10 = (dg : Int) := by omega
          rw [← e, ← Int.tmod_eq_emod_of_nonneg (show 0 ≤ -mv by omega), ← Int.neg_tmod, Int.neg_neg]
        have hqa : q.natAbs = mv.natAbs / 10 := by omega
        have HN := hid (show Lib.decDigits n.natAbs = restD q.natAbs ++ (UInt8.ofNat (48 + dg) :: ds) by rw [HS.out, hstep, hqa]; simp)
        have hqb : -9223372036854775808 ≤ q ∧ q ≤ 9223372036854775807 := by omega
        have hqm : q.natAbs < mv.natAbs := by omega
        clear hstep hdg HS hqa hm hq
        by_cases hdz : dg = 0
        · subst hdz
          have hr2 : mv.tmod 10 = 0 := by rw [hr1]; rfl
          clear hr1
          have hlit : (wr.alloc (.cells #[.int .u8 (48 + ((0 : Nat) : Int))] 5)).ownsRow w.heap.size 5 1 (.slice (some ⟨wr.heap.size, 0, none⟩) 1 1) 1 [.int .u8 (48 + ((0 : Nat) : Int))] := World.ownsRow_lit wr #[.int .u8 (48 + ((0 : Nat) : Int))] 1 hb.size (by decide) rfl
          go_wp2_with ((at_builtin; refine wpList_append_own _ rfl _ _ 115 rfl w.heap.size 5 i0 (.int .u8 0) 1 1 Tryz.underlying115 hi hz0 hz1 hz2 rfl (by decide) _ _ _ rfl hlit ⟨g, 0, none⟩ ds.length cap (byteVals ds) rfl (by rw [byteVals_length, Nat.mul_one]) ?c1 ?c2 ?c3 ?c4 ?c5 ?_))
          case c1 => first | exact fun j u hu => (hown.alloc _).cells (g := g) rfl j u hu | (intro j u hu; have hcl := (hown.alloc (.cells #[.int .u8 (48)] 5)).cells (g := g) rfl j u hu; rw [Addr.add_lit, Nat.zero_add] at hcl; exact hcl)
          case c2 =>
            intro u hu
            unfold byteVals at hu
            obtain ⟨y, _, rfl⟩ := List.mem_map.1 hu
            rfl
          case c3 => unfold maxLen; omega
          case c4 => omega
          case c5 => first | (simp; exact Nat.le_trans hb.size (by omega)) | (exact Nat.le_trans hb.size (by omega))
          intro v' w2 hown2 hgrow _
          have hlt' := hlit.lt
          have hB2 : Below w.heap.size w w2 := (ext_trans hb (ext_alloc _ _)).grown hgrow (ext_trans hb (ext_alloc _ _)).size (fun q hq => (hlt' q hq).1)
          obtain ⟨g', cap', rfl, hob⟩ := own_some hown2 (by omega)
          clear hi hz0 hz1 hz2 hgrow hown hlt' hlit
          have hown3 : w2.ownsRow w.heap.size 5 1 (.slice (some ⟨g', 0, none⟩) (1 + ds.length) cap') (UInt8.ofNat (48 + 0) :: ds).length (byteVals (UInt8.ofNat (48 + 0) :: ds)) := by
            have e1 : (UInt8.ofNat (48 + 0) :: ds).length = 1 + ds.length := by rw [List.length_cons]; omega
            have e2 : byteVals (UInt8.ofNat (48 + 0) :: ds) = [.int .u8 (48 + (0 : Int))] ++ byteVals ds := by
              unfold byteVals
              rw [List.map_cons, u8_cast (show 48 + 0 < 256 by omega)]
              rfl
            rw [e1, e2]
            exact hown2
          clear hown2
          go_wp2
          go_roundw
          case rel => exact ⟨q, UInt8.ofNat (48 + 0) :: ds, g', cap', rfl, by omega, HN, by rw [List.length_cons, Nat.add_comm], hown3, hB2⟩
          case measure => simp only [intOf]; omega
        · have gd2 : -(dg : Int) < 0 := by omega
          have hlit : (wr.alloc (.cells #[.int .u8 (48 + (dg : Int))] 5)).ownsRow w.heap.size 5 1 (.slice (some ⟨wr.heap.size, 0, none⟩) 1 1) 1 [.int .u8 (48 + (dg : Int))] := World.ownsRow_lit wr #[.int .u8 (48 + (dg : Int))] 1 hb.size (by decide) rfl
          go_wp2_with ((at_builtin; refine wpList_append_own _ rfl _ _ 115 rfl w.heap.size 5 i0 (.int .u8 0) 1 1 Tryz.underlying115 hi hz0 hz1 hz2 rfl (by decide) _ _ _ rfl hlit ⟨g, 0, none⟩ ds.length cap (byteVals ds) rfl (by rw [byteVals_length, Nat.mul_one]) ?c1 ?c2 ?c3 ?c4 ?c5 ?_))
          case c1 => first | exact fun j u hu => (hown.alloc _).cells (g := g) rfl j u hu | (intro j u hu; have hcl := (hown.alloc (.cells #[.int .u8 (48 + (dg : Int))] 5)).cells (g := g) rfl j u hu; rw [Addr.add_lit, Nat.zero_add] at hcl; exact hcl)
          case c2 =>
            intro u hu
            unfold byteVals at hu
            obtain ⟨y, _, rfl⟩ := List.mem_map.1 hu
            rfl
          case c3 => unfold maxLen; omega
          case c4 => omega
          case c5 => first | (simp; exact Nat.le_trans hb.size (by omega)) | (exact Nat.le_trans hb.size (by omega))
          intro v' w2 hown2 hgrow _
          have hlt' := hlit.lt
          have hB2 : Below w.heap.size w w2 := (ext_trans hb (ext_alloc _ _)).grown hgrow (ext_trans hb (ext_alloc _ _)).size (fun q hq => (hlt' q hq).1)
          obtain ⟨g', cap', rfl, hob⟩ := own_some hown2 (by omega)
          clear hi hz0 hz1 hz2 hgrow hown hlt' hlit
          have hown3 : w2.ownsRow w.heap.size 5 1 (.slice (some ⟨g', 0, none⟩) (1 + ds.length) cap') (UInt8.ofNat (48 + dg) :: ds).length (byteVals (UInt8.ofNat (48 + dg) :: ds)) := by
            have e1 : (UInt8.ofNat (48 + dg) :: ds).length = 1 + ds.length := by rw [List.length_cons]; omega
            have e2 : byteVals (UInt8.ofNat (48 + dg) :: ds) = [.int .u8 (48 + (dg : Int))] ++ byteVals ds := by
              unfold byteVals
              rw [List.map_cons, u8_cast (show 48 + dg < 256 by omega)]
              rfl
            rw [e1, e2]
            exact hown2
          clear hown2
          go_wp2
          go_roundw
          case rel => exact ⟨q, UInt8.ofNat (48 + dg) :: ds, g', cap', rfl, by omega, HN, by rw [List.length_cons, Nat.add_comm], hown3, hB2⟩
          case measure => simp only [intOf]; omega
end Go.Proofs.YtkmkencodcfloaaGreatDoor

namespace Go.Proofs.YtkmkencodcfloaaGreatDoor
open Go.RowKit
set_option linter.unusedVariables false
set_option linter.unusedSimpArgs false

def fileQT (s : ByteArray) : ByteArray := if fileOk s then mkB (quoteL s.data.toList) else ⟨#[]⟩
theorem fileQT_size (s : ByteArray) : (fileQT s).size ≤ 8002 := by
  unfold fileQT
  split
  · rename_i h
    have h1 := quoteH_len s.data.toList s.data.toList.length
    have h2 := file_size h
    rw [Lib.size_eq] at h2
    rw [mkB_size]
    unfold quoteL
    rw [List.length_append]
    simp only [List.length_cons, List.length_nil]
    omega
  · exact Nat.zero_le _
theorem info_u8F : (Tryz.prog.info? 5).map (fun i => (i.zero, i.size, i.bytes)) = some (some (.int .u8 0), 1, 1) := by kernel_rfl
set_option maxHeartbeats 8000000 in
set_option maxRecDepth 100000 in
theorem specFileQuote (s : ByteArray) (w : World) :
    Calls Tryz.prog 44 #[.string s] w fun e w' => e = .returned (.string (fileQT s)) ∧ Below w.heap.size w w' := by
  obtain ⟨i0, hi, hz0, hz1, hz2⟩ := info_parts info_u8F
  obtain ⟨ok, hok⟩ : ∃ ok, fileOk s = ok := ⟨_, rfl⟩
  cases ok with
  | false =>
    have HR := hid (show fileQT s = ⟨#[]⟩ by unfold fileQT; rw [hok]; rfl)
    have HO := hid hok
    clear hok hi hz0 hz1 hz2
    go_enter Tryz.func44, Tryz.ntmps44
    go_wp2_with fail
    refine (specFileOk s _).mono ?_
    rintro e w1 ⟨rfl, hb1⟩
    rw [HO.out]
    go_wp2
    go_ret
    rw [HR.out]
    exact ⟨rfl, hb1⟩
  | true =>
    have hsz := file_size hok
    have hqt : fileQT s = mkB (quoteL s.data.toList) := by unfold fileQT; rw [hok]; rfl
    obtain ⟨l, hl⟩ : ∃ l, s.data.toList = l := ⟨_, rfl⟩
    have hsl : s.size = l.length := by rw [Lib.size_eq, hl]
    rw [hl] at hqt
    have HR := hid hqt
    have HO := hid hok
    have HL := hid hl
    have HSL := hid hsl
    clear hok hqt hl hsl
    go_enter Tryz.func44, Tryz.ntmps44
    go_wp2_with fail
    refine (specFileOk s _).mono ?_
    rintro e w1 ⟨rfl, hb1⟩
    rw [HO.out]
    go_wp2
    go_loopw [3, 4] (fun out i wr => ∃ k : Nat, k ≤ s.size ∧ i = .int .i64 (k : Int) ∧ wr.ownsRow w.heap.size 5 1 out (quoteH l k).length (byteVals (quoteH l k)) ∧ Below w.heap.size w wr) (fun _ i _ => s.size - (intOf i).toNat)
    case atStart => exact ⟨0, Nat.zero_le _, rfl, World.ownsRow_lit w1 #[.int .u8 34] 1 hb1.size (by decide) rfl, ext_trans hb1 (ext_alloc _ _)⟩
    case round =>
      obtain ⟨k, hk, rfl, hown, hb⟩ := hrel
      have hlen := quoteH_len l k
      by_cases hlt : k < s.size
      · obtain ⟨x, hx⟩ : ∃ x, s[k] = x := ⟨_, rfl⟩
        have hkl : k < l.length := by rw [← HSL.out]; exact hlt
        have hlx : l[k] = x := by
          rw [← hx]
          have := get_list s k hlt
          rw [← this]
          congr 1
          exact HL.out.symm
        have hstep := quoteH_succ hkl
        rw [hlx] at hstep
        have hix : (s[k] : UInt8).toNat = x.toNat := by rw [hx]
        have hi1 : (0 : Int) ≤ (k : Int) := by omega
        have hi2 : (k : Int) < (s.size : Int) := by omega
        clear hlx hx
        by_cases h34 : x.toNat = 34
        · have HST := hid (show quoteH l (k + 1) = quoteH l k ++ [92, 34] by rw [hstep]; unfold quoteB; simp [h34])
          clear hstep
          go_wp2_with ((at_builtin; refine wpList_append_own _ rfl _ _ 115 rfl w.heap.size 5 i0 (.int .u8 0) 1 1 Tryz.underlying115 hi hz0 hz1 hz2 rfl (by decide) _ _ _ rfl (hown.alloc _) ⟨wr.heap.size, 0, none⟩ 2 2 [.int .u8 92, .int .u8 34] rfl rfl ?c1 ?c2 ?c3 ?c4 ?c5 ?_))
          case c1 => exact cells_new wr #[.int .u8 92, .int .u8 34] _
          case c2 => intro u hu; simp at hu; first | (subst hu; rfl) | (rcases hu with rfl | rfl <;> rfl)
          case c3 => unfold maxLen; omega
          case c4 => omega
          case c5 => simp; exact Nat.le_trans hb.size (by omega)
          intro v' w2 hown2 hgrow _
          have hlt' := (hown.alloc (.cells #[.int .u8 92, .int .u8 34] 5)).lt
          have hB2 : Below w.heap.size w w2 := (ext_trans hb (ext_alloc _ _)).grown hgrow (ext_trans hb (ext_alloc _ _)).size (fun q hq => (hlt' q hq).1)
          clear hi hz0 hz1 hz2 hgrow hown hlt'
          go_wp2
          go_roundw
          case rel => exact ⟨k + 1, by omega, by go_num, by rw [HST.out, byteVals_append, List.length_append]; exact hown2, hB2⟩
          case measure => simp [intOf]; omega
        by_cases h92 : x.toNat = 92
        · have HST := hid (show quoteH l (k + 1) = quoteH l k ++ [92, 92] by rw [hstep]; unfold quoteB; simp [h92])
          clear hstep
          go_wp2_with ((at_builtin; refine wpList_append_own _ rfl _ _ 115 rfl w.heap.size 5 i0 (.int .u8 0) 1 1 Tryz.underlying115 hi hz0 hz1 hz2 rfl (by decide) _ _ _ rfl (hown.alloc _) ⟨wr.heap.size, 0, none⟩ 2 2 [.int .u8 92, .int .u8 92] rfl rfl ?c1 ?c2 ?c3 ?c4 ?c5 ?_))
          case c1 => exact cells_new wr #[.int .u8 92, .int .u8 92] _
          case c2 => intro u hu; simp at hu; first | (subst hu; rfl) | (rcases hu with rfl | rfl <;> rfl)
          case c3 => unfold maxLen; omega
          case c4 => omega
          case c5 => simp; exact Nat.le_trans hb.size (by omega)
          intro v' w2 hown2 hgrow _
          have hlt' := (hown.alloc (.cells #[.int .u8 92, .int .u8 92] 5)).lt
          have hB2 : Below w.heap.size w w2 := (ext_trans hb (ext_alloc _ _)).grown hgrow (ext_trans hb (ext_alloc _ _)).size (fun q hq => (hlt' q hq).1)
          clear hi hz0 hz1 hz2 hgrow hown hlt'
          go_wp2
          go_roundw
          case rel => exact ⟨k + 1, by omega, by go_num, by rw [HST.out, byteVals_append, List.length_append]; exact hown2, hB2⟩
          case measure => simp [intOf]; omega
        by_cases h10 : x.toNat = 10
        · have HST := hid (show quoteH l (k + 1) = quoteH l k ++ [92, 110] by rw [hstep]; unfold quoteB; simp [h10])
          clear hstep
          go_wp2_with ((at_builtin; refine wpList_append_own _ rfl _ _ 115 rfl w.heap.size 5 i0 (.int .u8 0) 1 1 Tryz.underlying115 hi hz0 hz1 hz2 rfl (by decide) _ _ _ rfl (hown.alloc _) ⟨wr.heap.size, 0, none⟩ 2 2 [.int .u8 92, .int .u8 110] rfl rfl ?c1 ?c2 ?c3 ?c4 ?c5 ?_))
          case c1 => exact cells_new wr #[.int .u8 92, .int .u8 110] _
          case c2 => intro u hu; simp at hu; first | (subst hu; rfl) | (rcases hu with rfl | rfl <;> rfl)
          case c3 => unfold maxLen; omega
          case c4 => omega
          case c5 => simp; exact Nat.le_trans hb.size (by omega)
          intro v' w2 hown2 hgrow _
          have hlt' := (hown.alloc (.cells #[.int .u8 92, .int .u8 110] 5)).lt
          have hB2 : Below w.heap.size w w2 := (ext_trans hb (ext_alloc _ _)).grown hgrow (ext_trans hb (ext_alloc _ _)).size (fun q hq => (hlt' q hq).1)
          clear hi hz0 hz1 hz2 hgrow hown hlt'
          go_wp2
          go_roundw
          case rel => exact ⟨k + 1, by omega, by go_num, by rw [HST.out, byteVals_append, List.length_append]; exact hown2, hB2⟩
          case measure => simp [intOf]; omega
        by_cases h9 : x.toNat = 9
        · have HST := hid (show quoteH l (k + 1) = quoteH l k ++ [92, 116] by rw [hstep]; unfold quoteB; simp [h9])
          clear hstep
          go_wp2_with ((at_builtin; refine wpList_append_own _ rfl _ _ 115 rfl w.heap.size 5 i0 (.int .u8 0) 1 1 Tryz.underlying115 hi hz0 hz1 hz2 rfl (by decide) _ _ _ rfl (hown.alloc _) ⟨wr.heap.size, 0, none⟩ 2 2 [.int .u8 92, .int .u8 116] rfl rfl ?c1 ?c2 ?c3 ?c4 ?c5 ?_))
          case c1 => exact cells_new wr #[.int .u8 92, .int .u8 116] _
          case c2 => intro u hu; simp at hu; first | (subst hu; rfl) | (rcases hu with rfl | rfl <;> rfl)
          case c3 => unfold maxLen; omega
          case c4 => omega
          case c5 => simp; exact Nat.le_trans hb.size (by omega)
          intro v' w2 hown2 hgrow _
          have hlt' := (hown.alloc (.cells #[.int .u8 92, .int .u8 116] 5)).lt
          have hB2 : Below w.heap.size w w2 := (ext_trans hb (ext_alloc _ _)).grown hgrow (ext_trans hb (ext_alloc _ _)).size (fun q hq => (hlt' q hq).1)
          clear hi hz0 hz1 hz2 hgrow hown hlt'
          go_wp2
          go_roundw
          case rel => exact ⟨k + 1, by omega, by go_num, by rw [HST.out, byteVals_append, List.length_append]; exact hown2, hB2⟩
          case measure => simp [intOf]; omega
        by_cases h13 : x.toNat = 13
        · have HST := hid (show quoteH l (k + 1) = quoteH l k ++ [92, 114] by rw [hstep]; unfold quoteB; simp [h13])
          clear hstep
          go_wp2_with ((at_builtin; refine wpList_append_own _ rfl _ _ 115 rfl w.heap.size 5 i0 (.int .u8 0) 1 1 Tryz.underlying115 hi hz0 hz1 hz2 rfl (by decide) _ _ _ rfl (hown.alloc _) ⟨wr.heap.size, 0, none⟩ 2 2 [.int .u8 92, .int .u8 114] rfl rfl ?c1 ?c2 ?c3 ?c4 ?c5 ?_))
          case c1 => exact cells_new wr #[.int .u8 92, .int .u8 114] _
          case c2 => intro u hu; simp at hu; first | (subst hu; rfl) | (rcases hu with rfl | rfl <;> rfl)
          case c3 => unfold maxLen; omega
          case c4 => omega
          case c5 => simp; exact Nat.le_trans hb.size (by omega)
          intro v' w2 hown2 hgrow _
          have hlt' := (hown.alloc (.cells #[.int .u8 92, .int .u8 114] 5)).lt
          have hB2 : Below w.heap.size w w2 := (ext_trans hb (ext_alloc _ _)).grown hgrow (ext_trans hb (ext_alloc _ _)).size (fun q hq => (hlt' q hq).1)
          clear hi hz0 hz1 hz2 hgrow hown hlt'
          go_wp2
          go_roundw
          case rel => exact ⟨k + 1, by omega, by go_num, by rw [HST.out, byteVals_append, List.length_append]; exact hown2, hB2⟩
          case measure => simp [intOf]; omega
        have HST := hid (show quoteH l (k + 1) = quoteH l k ++ [x] by rw [hstep]; unfold quoteB; simp [h34, h92, h10, h9, h13])
        clear hstep
        have g34 : ((x.toNat : Int) == 34) = false := by rw [beq_eq_false_iff_ne]; omega
        have g92 : ((x.toNat : Int) == 92) = false := by rw [beq_eq_false_iff_ne]; omega
        have g10 : ((x.toNat : Int) == 10) = false := by rw [beq_eq_false_iff_ne]; omega
        have g9 : ((x.toNat : Int) == 9) = false := by rw [beq_eq_false_iff_ne]; omega
        have g13 : ((x.toNat : Int) == 13) = false := by rw [beq_eq_false_iff_ne]; omega
        clear h34 h92 h10 h9 h13
        go_wp2_with ((at_builtin; refine wpList_append_own _ rfl _ _ 115 rfl w.heap.size 5 i0 (.int .u8 0) 1 1 Tryz.underlying115 hi hz0 hz1 hz2 rfl (by decide) _ _ _ rfl (hown.alloc _) ⟨wr.heap.size, 0, none⟩ 1 1 [.int .u8 (x.toNat : Int)] rfl rfl ?c1 ?c2 ?c3 ?c4 ?c5 ?_))
        case c1 => exact cells_new wr #[.int .u8 (x.toNat : Int)] _
        case c2 => intro u hu; simp at hu; first | (subst hu; rfl) | (rcases hu with rfl | rfl <;> rfl)
        case c3 => unfold maxLen; omega
        case c4 => omega
        case c5 => simp; exact Nat.le_trans hb.size (by omega)
        intro v' w2 hown2 hgrow _
        have hlt' := (hown.alloc (.cells #[.int .u8 (x.toNat : Int)] 5)).lt
        have hB2 : Below w.heap.size w w2 := (ext_trans hb (ext_alloc _ _)).grown hgrow (ext_trans hb (ext_alloc _ _)).size (fun q hq => (hlt' q hq).1)
        clear hi hz0 hz1 hz2 hgrow hown hlt'
        go_wp2
        go_roundw
        case rel => exact ⟨k + 1, by omega, by go_num, by rw [HST.out, byteVals_append, List.length_append]; exact hown2, hB2⟩
        case measure => simp [intOf]; omega
      · have hkk : k = s.size := by omega
        subst hkk
        have HQ := hid (show quoteL l = quoteH l s.size ++ [34] by unfold quoteL; rw [← HSL.out])
        clear hlt
        go_wp2_with ((at_builtin; refine wpList_append_own _ rfl _ _ 115 rfl w.heap.size 5 i0 (.int .u8 0) 1 1 Tryz.underlying115 hi hz0 hz1 hz2 rfl (by decide) _ _ _ rfl (hown.alloc _) ⟨wr.heap.size, 0, none⟩ 1 1 [.int .u8 34] rfl rfl ?c1 ?c2 ?c3 ?c4 ?c5 ?_))
        case c1 => exact cells_new wr #[.int .u8 34] _
        case c2 => intro u hu; simp at hu; first | (subst hu; rfl) | (rcases hu with rfl | rfl <;> rfl)
        case c3 => unfold maxLen; omega
        case c4 => omega
        case c5 => simp; exact Nat.le_trans hb.size (by omega)
        intro v' w2 hown2 hgrow _
        have hlt' := (hown.alloc (.cells #[.int .u8 34] 5)).lt
        have hB2 : Below w.heap.size w w2 := (ext_trans hb (ext_alloc _ _)).grown hgrow (ext_trans hb (ext_alloc _ _)).size (fun q hq => (hlt' q hq).1)
        clear hi hz0 hz1 hz2 hgrow hown hlt'
        have hown3 : w2.ownsRow w.heap.size 5 1 v' (quoteL l).length (byteVals (quoteL l)) := by rw [HQ.out, byteVals_append, List.length_append]; exact hown2
        have hcv := own_string (P := Tryz.prog) (src := 115) (dst := 9) hown3 Tryz.underlying115 Tryz.underlying5 Tryz.underlying9
        clear hown2
        obtain ⟨oa, oc, rfl⟩ := own_slice hown3
        clear hown3
        go_wp2
        go_ret
        rw [HR.out]
        exact ⟨rfl, hB2⟩
end Go.Proofs.YtkmkencodcfloaaGreatDoor

namespace Go.Proofs.YtkmkencodcfloaaGreatDoor
open Go.Shelf Go.Lib

def TP (w : World) : Prop := Tabs w ∧ PT w
theorem tp_below {w w' : World} (h : TP w) (hb : Go.RowKit.Below w.heap.size w w') : TP w' := ⟨tabs_below h.1 hb, pt_below h.2 hb⟩
theorem pt_of_reads {w : World} (h : VarReads Tryz.prog w "internal/strconv.uint64pow10" (tabData .u64 pow10Tab)) : PT w := by
  obtain ⟨g, t, cs, fuel, p, hg, hty, hvar, hd⟩ := h
  obtain rfl : 3 = g := Option.some.inj ((show Tryz.prog.globalNamed "internal/strconv.uint64pow10" = some 3 by kernel_rfl).symm.trans hg)
  obtain rfl : 175 = t := Option.some.inj ((show (Tryz.prog.globals[3]?).map (·.type) = some 175 by kernel_rfl).symm.trans hty)
  unfold PT TabIs
  rw [hvar, ← cells_of_tab Tryz.underlying175 Tryz.underlying152 (by kernel_rfl) (by kernel_rfl) hd]
theorem tp_of_list {n3 n4 n0 n1 n2 : String} {d3 d4 d0 d1 d2 : DataW Unit} {W : World} {l : List (String × DataW Unit)} (hl : l = [(n3, d3), (n4, d4), (n0, d0), (n1, d1), (n2, d2)]) (hp : (l.all fun x => x.2.handleName?.isNone) = true) (e0 : d0 = tabData .u64 pow10Tab) (e1 : d1 = acceptData) (e2 : d2 = firstData)
    (hn0 : n0 = "internal/strconv.uint64pow10") (hn2 : Tryz.prog.globalNamed n2 = some (Tryz.laysValid_ren.g 3)) (hn1 : Tryz.prog.globalNamed n1 = some (Tryz.laysValid_ren.g 4)) (h : laidMetH Tryz.prog l W) : TP W := by
  rw [Go.MakeChecks.laidMetH_plain _ _ _ hp] at h
  subst hl e0 e1 e2 hn0
  exact ⟨tabs_of_reads Tryz.laysValid hn2 hn1 (by kernel_rfl) (by kernel_rfl) (by kernel_rfl) (by kernel_rfl) (by kernel_rfl) (laidMet.reads h (by simp)) (laidMet.reads h (by simp)), pt_of_reads (laidMet.reads h (by simp))⟩
theorem tp_of_list7 {n3 n4 n0 n1 n5 n6 n2 : String} {d3 d4 d0 d1 d5 d6 d2 : DataW Unit} {W : World} {l : List (String × DataW Unit)} (hl : l = [(n3, d3), (n4, d4), (n0, d0), (n1, d1), (n5, d5), (n6, d6), (n2, d2)]) (hp : (l.all fun x => x.2.handleName?.isNone) = true) (e0 : d0 = tabData .u64 pow10Tab) (e1 : d1 = acceptData) (e2 : d2 = firstData)
    (hn0 : n0 = "internal/strconv.uint64pow10") (hn2 : Tryz.prog.globalNamed n2 = some (Tryz.laysValid_ren.g 3)) (hn1 : Tryz.prog.globalNamed n1 = some (Tryz.laysValid_ren.g 4)) (h : laidMetH Tryz.prog l W) : TP W := by
  rw [Go.MakeChecks.laidMetH_plain _ _ _ hp] at h
  subst hl e0 e1 e2 hn0
  exact ⟨tabs_of_reads Tryz.laysValid hn2 hn1 (by kernel_rfl) (by kernel_rfl) (by kernel_rfl) (by kernel_rfl) (by kernel_rfl) (laidMet.reads h (by simp)) (laidMet.reads h (by simp)), pt_of_reads (laidMet.reads h (by simp))⟩
end Go.Proofs.YtkmkencodcfloaaGreatDoor

namespace Go.Proofs.YtkmkencodcfloaaGreatDoor
open Go.RowKit
set_option linter.unusedVariables false
set_option linter.unusedSimpArgs false

noncomputable def fileFine (fs : List File) (k : Nat) (f : File) : Bool :=
  !decide (f.name = ⟨#[]⟩) && (okText f.name && (fileOk f.text && !((fs.take k).any fun g => decide (g.name = f.name))))
noncomputable def filesFine (fs : List File) : Bool := (List.range fs.length).all fun k => match fs[k]? with | some f => fileFine fs k f | none => true
noncomputable def worldOk (x : WorldT) : Bool := confOk x.inp && (confOk x.out && (decide (x.files.length ≤ 8) && (decide (x.args.length ≤ 8) && (filesFine x.files && x.args.all okText))))
theorem filesFine_bad {fs : List File} {k : Nat} (h : k < fs.length) (hf : fileFine fs k fs[k] = false) : filesFine fs = false := by
  unfold filesFine
  rw [List.all_eq_false]
  exact ⟨k, by simpa using h, by rw [List.getElem?_eq_getElem h]; simp [hf]⟩
theorem filesFine_good {fs : List File} (h : ∀ k (hk : k < fs.length), fileFine fs k fs[k] = true) : filesFine fs = true := by
  unfold filesFine
  rw [List.all_eq_true]
  intro k hk
  have hk' : k < fs.length := by simpa using hk
  rw [List.getElem?_eq_getElem hk']
  exact h k hk'
theorem worldOk_files {x : WorldT} (h : filesFine x.files = false) : worldOk x = false := by simp [worldOk, h]
theorem idx_first {α : Type} {p : α → Bool} {fs : List α} {k : Nat} (h : k < fs.length) (hp : p fs[k] = true) (hd : (fs.take k).any p = false) : idxP p fs = (k : Int) := by
  refine idxP_hit h hp (fun j hj hjk => ?_)
  rw [List.any_eq_false] at hd
  have hm : fs[j] ∈ fs.take k := by
    rw [List.mem_iff_getElem]
    exact ⟨j, by rw [List.length_take]; omega, by rw [List.getElem_take]⟩
  simpa using hd _ hm
theorem idx_dup {α : Type} {p : α → Bool} {fs : List α} {k : Nat} (h : k < fs.length) (hd : (fs.take k).any p = true) : idxP p fs ≠ (k : Int) := by
  intro hi
  obtain ⟨y, hy, hpy⟩ := List.any_eq_true.1 hd
  obtain ⟨j, hj, rfl⟩ := List.mem_iff_getElem.1 hy
  have hj' : j < k := by rw [List.length_take] at hj; omega
  rw [List.getElem_take] at hpy
  have key : ∀ (m : Nat) (hm : m < fs.length), m ≤ j → p fs[m] = true → (∀ i (hi : i < fs.length), i < m → p fs[i] = false) → False := fun m hm hmj hpm hl => by
    have := idxP_hit hm hpm hl
    omega
  have : ∀ m, m ≤ j → ∀ i (hi : i < fs.length), i < m → p fs[i] = false := by
    intro m
    induction m with
    | zero => intro _ i _ h0; exact absurd h0 (Nat.not_lt_zero _)
    | succ m ih =>
      intro hm i hi him
      by_cases e : i = m
      · subst e
        cases hp : p fs[i] with
        | false => rfl
        | true => exact (key i hi (by omega) hp (fun q hq hqi => ih (by omega) q hq hqi)).elim
      · exact ih (by omega) i hi (by omega)
  exact key j (by omega) (Nat.le_refl _) hpy (fun i hi hij => this j (Nat.le_refl _) i hi hij)
theorem args_not (xs : List ByteArray) : (!(xs.any fun s => !okText s)) = xs.all okText := by
  induction xs with
  | nil => rfl
  | cons a r ih => simp only [List.any_cons, List.all_cons, ← ih]; cases okText a <;> simp
theorem blk14c {w : World} {g : Nat} {x0 x1 x2 x3 x4 x5 x6 x7 x8 x9 x10 x11 x12 x13 : Value} {t : TypeId} (h : w.heap[g]? = some (.cells #[x0, x1, x2, x3, x4, x5, x6, x7, x8, x9, x10, x11, x12, x13] t (0, 0))) :
    w.cell? ⟨g, 0, none⟩ = some x0 ∧ w.cell? ⟨g, 1, none⟩ = some x1 ∧ w.cell? ⟨g, 2, none⟩ = some x2 ∧ w.cell? ⟨g, 3, none⟩ = some x3 ∧ w.cell? ⟨g, 4, none⟩ = some x4 ∧ w.cell? ⟨g, 5, none⟩ = some x5 ∧ w.cell? ⟨g, 6, none⟩ = some x6 ∧ w.cell? ⟨g, 7, none⟩ = some x7 ∧ w.cell? ⟨g, 8, none⟩ = some x8 ∧ w.cell? ⟨g, 9, none⟩ = some x9 ∧ w.cell? ⟨g, 10, none⟩ = some x10 ∧ w.cell? ⟨g, 11, none⟩ = some x11 ∧ w.cell? ⟨g, 12, none⟩ = some x12 ∧ w.cell? ⟨g, 13, none⟩ = some x13 := by
  have h' : w.heap[g]? = some (.cells ([x0, x1, x2, x3, x4, x5, x6, x7, x8, x9, x10, x11, x12, x13] : List Value).toArray t (0, 0)) := h
  exact ⟨cell_of_block h', cell_of_block h', cell_of_block h', cell_of_block h', cell_of_block h', cell_of_block h', cell_of_block h', cell_of_block h', cell_of_block h', cell_of_block h', cell_of_block h', cell_of_block h', cell_of_block h', cell_of_block h'⟩
theorem isWorldArg (s : ByteArray) (W : World) (hT : Tabs W) :
    Calls Tryz.prog 86 (#[.string s] ++ #[]) W fun e W' => e = .returned (.bool (!okText s)) ∧ Below W.heap.size W W' := by
  have C := hid (implTextOk s W hT)
  show Calls Tryz.prog 86 #[.string s] W _
  go_enter Tryz.func86, Tryz.ntmps86
  go_wp2_with fail
  refine C.out.mono ?_
  rintro e w1 ⟨rfl, hb1⟩
  go_wp2
  go_ret
  exact ⟨rfl, hb1⟩
set_option maxHeartbeats 16000000 in
set_option maxRecDepth 100000 in
theorem implIsWorld {cs : Array Value} {x : WorldT} (w : World) (h : Rd.rd (Old w) w cs.toList x) (hT : Tabs w) :
    Calls Tryz.prog 49 #[.agg cs] w fun e w' => e = .returned (.bool (worldOk x)) ∧ Below w.heap.size w w' := by
  obtain ⟨a12, c12, a13, c13, hcs, f0, f1, f2, f3, f4, f6, f7, f8, f9, f10, f12, f13⟩ := rdWorldT h
  obtain rfl := arr_of_list hcs
  have hl12 : x.files.length ≤ c12 ∧ c12 ≤ 9223372036854775807 := by obtain ⟨_, _, e, h1, h2, _⟩ := f12; cases e; exact ⟨h1, h2⟩
  have hl13 : x.args.length ≤ c13 ∧ c13 ≤ 9223372036854775807 := by obtain ⟨_, _, e, h1, h2, _⟩ := f13; cases e; exact ⟨h1, h2⟩
  clear hcs h
  have hW0 := heap_alloc_new w (.cells #[.int .i64 x.inp.tag, .string x.inp.fs, .string x.inp.rs, .string x.inp.ofs, .string x.inp.ors, .bool x.inp.head, .int .i64 x.out.tag, .string x.out.fs, .string x.out.rs, .string x.out.ofs, .string x.out.ors, .bool x.out.head, .slice a12 x.files.length c12, .slice a13 x.args.length c13] 35)
  have HBX := hid (fun (w' : World) (hb : Below (w.heap.size + 1) (w.alloc (.cells #[.int .i64 x.inp.tag, .string x.inp.fs, .string x.inp.rs, .string x.inp.ofs, .string x.inp.ors, .bool x.inp.head, .int .i64 x.out.tag, .string x.out.fs, .string x.out.rs, .string x.out.ofs, .string x.out.ors, .bool x.out.head, .slice a12 x.files.length c12, .slice a13 x.args.length c13] 35)) w') => blk14c ((hb.block w.heap.size (Nat.lt_succ_self _)).trans hW0))
  have HBW := hid (fun (w' : World) (hb : Below (w.heap.size + 1) (w.alloc (.cells #[.int .i64 x.inp.tag, .string x.inp.fs, .string x.inp.rs, .string x.inp.ofs, .string x.inp.ors, .bool x.inp.head, .int .i64 x.out.tag, .string x.out.fs, .string x.out.rs, .string x.out.ofs, .string x.out.ors, .bool x.out.head, .slice a12 x.files.length c12, .slice a13 x.args.length c13] 35)) w') => (ext_alloc w (.cells #[.int .i64 x.inp.tag, .string x.inp.fs, .string x.inp.rs, .string x.inp.ofs, .string x.inp.ors, .bool x.inp.head, .int .i64 x.out.tag, .string x.out.fs, .string x.out.rs, .string x.out.ofs, .string x.out.ors, .bool x.out.head, .slice a12 x.files.length c12, .slice a13 x.args.length c13] 35)).trans (hb.mono (Nat.le_succ _)))
  have HSZ := hid (fun (w' : World) (hb : Below (w.heap.size + 1) (w.alloc (.cells #[.int .i64 x.inp.tag, .string x.inp.fs, .string x.inp.rs, .string x.inp.ofs, .string x.inp.ors, .bool x.inp.head, .int .i64 x.out.tag, .string x.out.fs, .string x.out.rs, .string x.out.ofs, .string x.out.ors, .bool x.out.head, .slice a12 x.files.length c12, .slice a13 x.args.length c13] 35)) w') => (show w.heap.size + 1 ≤ w'.heap.size from by have := hb.size; simp at this; exact this))
  clear hW0
  have hb0 := Below.refl (w.heap.size + 1) (w.alloc (.cells #[.int .i64 x.inp.tag, .string x.inp.fs, .string x.inp.rs, .string x.inp.ofs, .string x.inp.ors, .bool x.inp.head, .int .i64 x.out.tag, .string x.out.fs, .string x.out.rs, .string x.out.ofs, .string x.out.ors, .bool x.out.head, .slice a12 x.files.length c12, .slice a13 x.args.length c13] 35))
  obtain ⟨z0, z1, z2, z3, z4, z5, z6, z7, z8, z9, z10, z11, z12, z13⟩ := HBX.out _ hb0
  go_enter Tryz.func49, Tryz.ntmps49
  go_wp2_with fail
  refine (implIsConf _ (by exact rdConf_mk (x := x.inp) f0 f1 f2 f3 f4) (tabs_below hT (HBW.out _ hb0))).mono ?_
  rintro e w1 ⟨rfl, hb⟩
  have b1 := hb0.trans (hb.mono (HSZ.out _ hb0))
  clear hb z0 z1 z2 z3 z4 z5 z6 z7 z8 z9 z10 z11 z12 z13
  obtain ⟨z0, z1, z2, z3, z4, z5, z6, z7, z8, z9, z10, z11, z12, z13⟩ := HBX.out _ b1
  obtain ⟨q1, hq1⟩ : ∃ b, confOk x.inp = b := ⟨_, rfl⟩
  rw [hq1]
  have HQ1 := hid hq1
  clear hq1
  cases q1 with
  | false =>
    go_wp2
    go_ret
    exact ⟨by simp [worldOk, HQ1.out], HBW.out _ b1⟩
  | true =>
    go_wp2_with fail
    refine (implIsConf _ (by exact rdConf_mk (x := x.out) f6 f7 f8 f9 f10) (tabs_below hT (HBW.out _ b1))).mono ?_
    rintro e w2 ⟨rfl, hb⟩
    have b2 := b1.trans (hb.mono (HSZ.out _ b1))
    clear hb z0 z1 z2 z3 z4 z5 z6 z7 z8 z9 z10 z11 z12 z13
    obtain ⟨z0, z1, z2, z3, z4, z5, z6, z7, z8, z9, z10, z11, z12, z13⟩ := HBX.out _ b2
    obtain ⟨q2, hq2⟩ : ∃ b, confOk x.out = b := ⟨_, rfl⟩
    rw [hq2]
    have HQ2 := hid hq2
    clear hq2
    cases q2 with
    | false =>
      go_wp2
      go_ret
      exact ⟨by simp [worldOk, HQ2.out], HBW.out _ b2⟩
    | true =>
      by_cases hn : (8 : Int) < x.files.length
      · go_wp2
        go_ret
        exact ⟨end_bool (show worldOk x = false by simp [worldOk, show ¬ x.files.length ≤ 8 by omega]).symm, HBW.out _ b2⟩
      by_cases hm : (8 : Int) < x.args.length
      · go_wp2
        go_ret
        exact ⟨end_bool (show worldOk x = false by simp [worldOk, show ¬ x.args.length ≤ 8 by omega]).symm, HBW.out _ b2⟩
      have HN := hid (show x.files.length ≤ 8 by omega)
      have HM := hid (show x.args.length ≤ 8 by omega)
      have hl12n : x.files.length ≤ 9223372036854775807 := by omega
      have hl13n : x.args.length ≤ 9223372036854775807 := by omega
      have hl12i : (x.files.length : Int) ≤ (c12 : Int) := by omega
      go_wp2
      have CN := hid (fun (nm : ByteArray) (fb : Nat) (g : File) (W : World) (h1 : fb < W.heap.size) (h2 : W.cell? ⟨fb, 0, none⟩ = some (.string nm)) => isWorldName nm fb g W h1 h2)
      have eg1 := enters_of Tryz.func84 (by kernel_rfl) rfl
      have EG1 := hid eg1
      have eg2 := enters_of Tryz.func86 (by kernel_rfl) rfl
      have EG2 := hid eg2
      clear eg1 eg2
      go_loopw [30] (fun i wr => ∃ k : Nat, k ≤ x.files.length ∧ i = .int .i64 (k : Int) ∧ Hid (∀ j (hj : j < x.files.length), j < k → fileFine x.files j x.files[j] = true) ∧ Below (w.heap.size + 1) (w.alloc (.cells #[.int .i64 x.inp.tag, .string x.inp.fs, .string x.inp.rs, .string x.inp.ofs, .string x.inp.ors, .bool x.inp.head, .int .i64 x.out.tag, .string x.out.fs, .string x.out.rs, .string x.out.ofs, .string x.out.ors, .bool x.out.head, .slice a12 x.files.length c12, .slice a13 x.args.length c13] 35)) wr) (fun i _ => x.files.length - (intOf i).toNat)
      case atStart => exact ⟨0, Nat.zero_le _, rfl, hid (fun j _ hj => absurd hj (Nat.not_lt_zero _)), b2⟩
      case round =>
        obtain ⟨k, hk, rfl, HA, hB⟩ := hrel
        clear z0 z1 z2 z3 z4 z5 z6 z7 z8 z9 z10 z11 z12 z13
        obtain ⟨z0, z1, z2, z3, z4, z5, z6, z7, z8, z9, z10, z11, z12, z13⟩ := HBX.out _ hB
        have hBw := HBW.out _ hB
        have hsr := HSZ.out _ hB
        by_cases hlt : k < x.files.length
        · have hF := f12
          obtain ⟨a, cap, hv, h1, h2, hF⟩ := hF
          obtain ⟨rfl, rfl⟩ : a12 = a ∧ c12 = cap := by simpa using hv
          obtain ⟨b, off, rfl, hBk, hrow⟩ := hF (by omega)
          obtain ⟨cs, hcell, hx⟩ := hrow k hlt
          obtain ⟨hcs, g0, g1⟩ := rdFile hx
          subst hcs
          have t0 : wr.cell? ⟨b, off + k * 2, none⟩ = some (.string x.files[k].name) := (hBw.cell (p := ⟨b, off + k * 2, none⟩) hBk).trans (hcell 0 (by decide))
          have t1 : wr.cell? ⟨b, off + k * 2 + 1, none⟩ = some (.string x.files[k].text) := (hBw.cell (p := ⟨b, off + k * 2 + 1, none⟩) hBk).trans (hcell 1 (by decide))
          have HFF := hid (show fileFine x.files k x.files[k] = fileFine x.files k ⟨x.files[k].name, x.files[k].text⟩ from rfl)
          obtain ⟨nm, hnm⟩ : ∃ z, x.files[k].name = z := ⟨_, rfl⟩
          obtain ⟨tx, htx⟩ : ∃ z, x.files[k].text = z := ⟨_, rfl⟩
          rw [hnm] at t0 HFF
          rw [htx] at t1 HFF
          have hki : (k : Int) < (x.files.length : Int) := by omega
          have hk0 : (0 : Int) ≤ (k : Int) := by omega
          have hkc : (k : Int) ≤ (c12 : Int) := by omega
          clear hrow hcell hx hnm htx hv hF h1 h2
          by_cases he : nm = ⟨#[]⟩
          · subst he
            have HBAD := hid (worldOk_files (filesFine_bad hlt (by rw [HFF.out]; simp [fileFine])))
            go_wp2
            go_ret
            exact ⟨end_bool HBAD.out.symm, ext_trans hBw (ext_alloc _ _)⟩
          have e1 : (nm.toList == []) = false := by have h9 := ba_ne he; rwa [Lib.toList_data ⟨#[]⟩] at h9
          have e2 : nm.toList.isEmpty = false := by cases hz : nm.toList with | nil => rw [hz] at e1; cases e1 | cons a r => rfl
          have e3 : ¬ nm.toList = [] := by intro hz; rw [hz] at e1; cases e1
          have HE := hid he
          clear he
          obtain ⟨q3, hq3⟩ : ∃ z, okText nm = z := ⟨_, rfl⟩
          have C3 := hid (fun (w : World) (h : Tabs w) => implTextOk nm w h)
          have HQ3 := hid hq3
          rw [hq3] at C3
          clear hq3
          obtain ⟨q4, hq4⟩ : ∃ z, fileOk tx = z := ⟨_, rfl⟩
          have C4 := hid (fun (w : World) (h : Tabs w) => implIsFile tx w h)
          have HQ4 := hid hq4
          rw [hq4] at C4
          clear hq4
          have HTB := hid (tabs_below hT hBw)
          go_wp2_with fail
          refine (C3.out _ (tabs_below HTB.out (ext_alloc _ _))).mono ?_
          rintro e w3 ⟨rfl, hb3⟩
          obtain ⟨hc3, hf3⟩ := bcell hb3
          have u0 : w3.cell? ⟨wr.heap.size, 0, none⟩ = some (.string nm) := (hc3 _ _ (by simp)).trans (by go_simp)
          have u1 : w3.cell? ⟨wr.heap.size, 1, none⟩ = some (.string tx) := (hc3 _ _ (by simp)).trans (by go_simp)
          have h3l : wr.heap.size < w3.heap.size := by have := hb3.size; (try simp at this); omega
          have hB3 := ext_trans (ext_alloc _ _) hb3
          clear hc3 hf3 hb3
          cases q3 with
          | false =>
            have HBAD := hid (worldOk_files (filesFine_bad hlt (by rw [HFF.out]; simp [fileFine, HQ3.out])))
            go_wp2
            go_ret
            exact ⟨end_bool HBAD.out.symm, ext_trans hBw hB3⟩
          | true =>
            go_wp2_with fail
            refine (C4.out _ (tabs_below HTB.out hB3)).mono ?_
            rintro e w4 ⟨rfl, hb4⟩
            have v0 := keeps_cells hb4 _ _ u0
            have v1 := keeps_cells hb4 _ _ u1
            have hB4 := ext_trans hB3 hb4
            have h4l : wr.heap.size < w4.heap.size := by have := hb4.size; omega
            clear u0 u1 hb4
            cases q4 with
            | false =>
              have HBAD := hid (worldOk_files (filesFine_bad hlt (by rw [HFF.out]; simp [fileFine, HQ4.out])))
              go_wp2
              go_ret
              exact ⟨end_bool HBAD.out.symm, ext_trans hBw hB4⟩
            | true =>
              have d12 : w4.cell? ⟨w.heap.size, 12, none⟩ = some (.slice (some ⟨b, off, none⟩) x.files.length c12) := keeps_cells hB4 _ _ z12
              go_wp2_with fail
              refine (anyFile (fun g => decide (g.name = nm)) 84 #[.pointer (some ⟨wr.heap.size, 0, none⟩)] EG1.out (xs := x.files.take k) _ (rd_take (Rd.later (ext_trans hBw hB4) f12) hk) (by rw [List.length_take]; omega) (fun g W hbW => isWorldName nm wr.heap.size g W (Nat.lt_of_lt_of_le h4l hbW.size) (keeps_cells hbW _ _ v0))).mono ?_
              rintro e w5 ⟨rfl, hb5⟩
              obtain ⟨q5, hq5⟩ : ∃ z, ((x.files.take k).any fun g => decide (g.name = nm)) = z := ⟨_, rfl⟩
              rw [hq5]
              have HQ5 := hid hq5
              clear hq5
              have hB5 := ext_trans hB4 hb5
              clear hb5
              cases q5 with
              | true =>
                have HBAD := hid (worldOk_files (filesFine_bad hlt (by rw [HFF.out]; simp only [fileFine, HQ5.out]; simp)))
                go_wp2
                go_ret
                exact ⟨end_bool HBAD.out.symm, ext_trans hBw hB5⟩
              | false =>
                have HGOOD := hid (show fileFine x.files k x.files[k] = true by rw [HFF.out]; simp only [fileFine, HQ3.out, HQ4.out, HQ5.out, decide_eq_false HE.out]; rfl)
                go_wp2
                go_roundw
                case rel =>
                  refine ⟨k + 1, by omega, by go_num, hid (fun j hj hjk => ?_), hB.trans (hB5.mono hsr)⟩
                  by_cases ej : j = k
                  · subst ej; exact HGOOD.out
                  · exact HA.out j hj (by omega)
                case measure => simp [intOf]; omega
        · have hki : ¬ (k : Int) < (x.files.length : Int) := by omega
          have HG := hid (filesFine_good (fs := x.files) (fun j hj => HA.out j hj (by omega)))
          go_wp2_with fail
          refine (anyText (fun s => !okText s) 86 #[] EG2.out (xs := x.args) _ (Rd.later hBw f13) hl13n (fun s W hbW => isWorldArg s W (tabs_below hT (ext_trans hBw hbW)))).mono ?_
          rintro e w6 ⟨rfl, hb6⟩
          obtain ⟨q6, hq6⟩ : ∃ z, (x.args.any fun s => !okText s) = z := ⟨_, rfl⟩
          rw [hq6]
          have HQ6 := hid (show x.args.all okText = !q6 by rw [← hq6, args_not])
          clear hq6
          go_wp2
          go_ret
          exact ⟨end_bool (by simp [worldOk, HQ1.out, HQ2.out, HN.out, HM.out, HG.out, HQ6.out]), ext_trans hBw hb6⟩
set_option maxHeartbeats 16000000 in
set_option maxRecDepth 100000 in
theorem specWorldOk {cs : Array Value} {x : WorldT} (w : World) (h : Rd.rd (Old w) w cs.toList x) :
    Calls Tryz.prog 19 #[.agg cs] w fun e w' => e = .returned (.bool (worldOk x)) ∧ Below w.heap.size w w' := by
  obtain ⟨a12, c12, a13, c13, hcs, f0, f1, f2, f3, f4, f6, f7, f8, f9, f10, f12, f13⟩ := rdWorldT h
  obtain rfl := arr_of_list hcs
  have hl12 : x.files.length ≤ c12 ∧ c12 ≤ 9223372036854775807 := by obtain ⟨_, _, e, h1, h2, _⟩ := f12; cases e; exact ⟨h1, h2⟩
  have hl13 : x.args.length ≤ c13 ∧ c13 ≤ 9223372036854775807 := by obtain ⟨_, _, e, h1, h2, _⟩ := f13; cases e; exact ⟨h1, h2⟩
  clear hcs h
  have hW0 := heap_alloc_new w (.cells #[.int .i64 x.inp.tag, .string x.inp.fs, .string x.inp.rs, .string x.inp.ofs, .string x.inp.ors, .bool x.inp.head, .int .i64 x.out.tag, .string x.out.fs, .string x.out.rs, .string x.out.ofs, .string x.out.ors, .bool x.out.head, .slice a12 x.files.length c12, .slice a13 x.args.length c13] 35)
  have HBX := hid (fun (w' : World) (hb : Below (w.heap.size + 1) (w.alloc (.cells #[.int .i64 x.inp.tag, .string x.inp.fs, .string x.inp.rs, .string x.inp.ofs, .string x.inp.ors, .bool x.inp.head, .int .i64 x.out.tag, .string x.out.fs, .string x.out.rs, .string x.out.ofs, .string x.out.ors, .bool x.out.head, .slice a12 x.files.length c12, .slice a13 x.args.length c13] 35)) w') => blk14c ((hb.block w.heap.size (Nat.lt_succ_self _)).trans hW0))
  have HBW := hid (fun (w' : World) (hb : Below (w.heap.size + 1) (w.alloc (.cells #[.int .i64 x.inp.tag, .string x.inp.fs, .string x.inp.rs, .string x.inp.ofs, .string x.inp.ors, .bool x.inp.head, .int .i64 x.out.tag, .string x.out.fs, .string x.out.rs, .string x.out.ofs, .string x.out.ors, .bool x.out.head, .slice a12 x.files.length c12, .slice a13 x.args.length c13] 35)) w') => (ext_alloc w (.cells #[.int .i64 x.inp.tag, .string x.inp.fs, .string x.inp.rs, .string x.inp.ofs, .string x.inp.ors, .bool x.inp.head, .int .i64 x.out.tag, .string x.out.fs, .string x.out.rs, .string x.out.ofs, .string x.out.ors, .bool x.out.head, .slice a12 x.files.length c12, .slice a13 x.args.length c13] 35)).trans (hb.mono (Nat.le_succ _)))
  have HSZ := hid (fun (w' : World) (hb : Below (w.heap.size + 1) (w.alloc (.cells #[.int .i64 x.inp.tag, .string x.inp.fs, .string x.inp.rs, .string x.inp.ofs, .string x.inp.ors, .bool x.inp.head, .int .i64 x.out.tag, .string x.out.fs, .string x.out.rs, .string x.out.ofs, .string x.out.ors, .bool x.out.head, .slice a12 x.files.length c12, .slice a13 x.args.length c13] 35)) w') => (show w.heap.size + 1 ≤ w'.heap.size from by have := hb.size; simp at this; exact this))
  clear hW0
  have hb0 := Below.refl (w.heap.size + 1) (w.alloc (.cells #[.int .i64 x.inp.tag, .string x.inp.fs, .string x.inp.rs, .string x.inp.ofs, .string x.inp.ors, .bool x.inp.head, .int .i64 x.out.tag, .string x.out.fs, .string x.out.rs, .string x.out.ofs, .string x.out.ors, .bool x.out.head, .slice a12 x.files.length c12, .slice a13 x.args.length c13] 35))
  obtain ⟨z0, z1, z2, z3, z4, z5, z6, z7, z8, z9, z10, z11, z12, z13⟩ := HBX.out _ hb0
  go_enter Tryz.func19, Tryz.ntmps19
  go_wp2_with fail
  refine (specConfOk _ (by exact rdConf_mk (x := x.inp) f0 f1 f2 f3 f4)).mono ?_
  rintro e w1 ⟨rfl, hb⟩
  have b1 := hb0.trans (hb.mono (HSZ.out _ hb0))
  clear hb z0 z1 z2 z3 z4 z5 z6 z7 z8 z9 z10 z11 z12 z13
  obtain ⟨z0, z1, z2, z3, z4, z5, z6, z7, z8, z9, z10, z11, z12, z13⟩ := HBX.out _ b1
  obtain ⟨q1, hq1⟩ : ∃ b, confOk x.inp = b := ⟨_, rfl⟩
  rw [hq1]
  have HQ1 := hid hq1
  clear hq1
  cases q1 with
  | false =>
    go_wp2
    go_ret
    exact ⟨by simp [worldOk, HQ1.out], HBW.out _ b1⟩
  | true =>
    go_wp2_with fail
    refine (specConfOk _ (by exact rdConf_mk (x := x.out) f6 f7 f8 f9 f10)).mono ?_
    rintro e w2 ⟨rfl, hb⟩
    have b2 := b1.trans (hb.mono (HSZ.out _ b1))
    clear hb z0 z1 z2 z3 z4 z5 z6 z7 z8 z9 z10 z11 z12 z13
    obtain ⟨z0, z1, z2, z3, z4, z5, z6, z7, z8, z9, z10, z11, z12, z13⟩ := HBX.out _ b2
    obtain ⟨q2, hq2⟩ : ∃ b, confOk x.out = b := ⟨_, rfl⟩
    rw [hq2]
    have HQ2 := hid hq2
    clear hq2
    cases q2 with
    | false =>
      go_wp2
      go_ret
      exact ⟨by simp [worldOk, HQ2.out], HBW.out _ b2⟩
    | true =>
      by_cases hn : (8 : Int) < x.files.length
      · go_wp2
        go_ret
        exact ⟨end_bool (show worldOk x = false by simp [worldOk, show ¬ x.files.length ≤ 8 by omega]).symm, HBW.out _ b2⟩
      by_cases hm : (8 : Int) < x.args.length
      · go_wp2
        go_ret
        exact ⟨end_bool (show worldOk x = false by simp [worldOk, show ¬ x.args.length ≤ 8 by omega]).symm, HBW.out _ b2⟩
      have HN := hid (show x.files.length ≤ 8 by omega)
      have HM := hid (show x.args.length ≤ 8 by omega)
      have hl12n : x.files.length ≤ 9223372036854775807 := by omega
      have hl13n : x.args.length ≤ 9223372036854775807 := by omega
      have hl12i : (x.files.length : Int) ≤ (c12 : Int) := by omega
      go_wp2
      go_loopw [3] (fun i wr => ∃ k : Nat, k ≤ x.files.length ∧ i = .int .i64 (k : Int) ∧ Hid (∀ j (hj : j < x.files.length), j < k → fileFine x.files j x.files[j] = true) ∧ Below (w.heap.size + 1) (w.alloc (.cells #[.int .i64 x.inp.tag, .string x.inp.fs, .string x.inp.rs, .string x.inp.ofs, .string x.inp.ors, .bool x.inp.head, .int .i64 x.out.tag, .string x.out.fs, .string x.out.rs, .string x.out.ofs, .string x.out.ors, .bool x.out.head, .slice a12 x.files.length c12, .slice a13 x.args.length c13] 35)) wr) (fun i _ => x.files.length - (intOf i).toNat)
      case atStart => exact ⟨0, Nat.zero_le _, rfl, hid (fun j _ hj => absurd hj (Nat.not_lt_zero _)), b2⟩
      case round =>
        obtain ⟨k, hk, rfl, HA, hB⟩ := hrel
        clear z0 z1 z2 z3 z4 z5 z6 z7 z8 z9 z10 z11 z12 z13
        obtain ⟨z0, z1, z2, z3, z4, z5, z6, z7, z8, z9, z10, z11, z12, z13⟩ := HBX.out _ hB
        have hBw := HBW.out _ hB
        have hsr := HSZ.out _ hB
        by_cases hlt : k < x.files.length
        · have hF := f12
          obtain ⟨a, cap, hv, h1, h2, hF⟩ := hF
          obtain ⟨rfl, rfl⟩ : a12 = a ∧ c12 = cap := by simpa using hv
          obtain ⟨b, off, rfl, hBk, hrow⟩ := hF (by omega)
          obtain ⟨cs, hcell, hx⟩ := hrow k hlt
          obtain ⟨hcs, g0, g1⟩ := rdFile hx
          subst hcs
          have t0 : wr.cell? ⟨b, off + k * 2, none⟩ = some (.string x.files[k].name) := (hBw.cell (p := ⟨b, off + k * 2, none⟩) hBk).trans (hcell 0 (by decide))
          have t1 : wr.cell? ⟨b, off + k * 2 + 1, none⟩ = some (.string x.files[k].text) := (hBw.cell (p := ⟨b, off + k * 2 + 1, none⟩) hBk).trans (hcell 1 (by decide))
          have HFF := hid (show fileFine x.files k x.files[k] = fileFine x.files k ⟨x.files[k].name, x.files[k].text⟩ from rfl)
          have HNM := hid (show x.files[k].name = x.files[k].name from rfl)
          obtain ⟨nm, hnm⟩ : ∃ z, x.files[k].name = z := ⟨_, rfl⟩
          obtain ⟨tx, htx⟩ : ∃ z, x.files[k].text = z := ⟨_, rfl⟩
          rw [hnm] at t0 HFF
          rw [htx] at t1 HFF
          have HNM := hid hnm
          have hki : (k : Int) < (x.files.length : Int) := by omega
          have hk0 : (0 : Int) ≤ (k : Int) := by omega
          clear hrow hcell hx hnm htx hv hF h1 h2
          by_cases he : nm = ⟨#[]⟩
          · subst he
            have HBAD := hid (worldOk_files (filesFine_bad hlt (by rw [HFF.out]; simp [fileFine])))
            go_wp2_with fail
            refine wp_region_held_drew (S := fun w' => w'.cell? ⟨w.heap.size, 12, none⟩ = some (.slice (some ⟨b, off, none⟩) x.files.length c12) ∧ w'.cell? ⟨b, off + k * 2, none⟩ = some (.string ⟨#[]⟩) ∧ w'.cell? ⟨b, off + k * 2 + 1, none⟩ = some (.string tx)) (by kernel_rfl) ?_ (fun hHeld => ?_)
            · simp [*]
            refine wpAnyH_take (i := 0) (v := ?_) rfl (by kernel_rfl) (by kernel_rfl) (by kernel_rfl) (fun _ _ _ h => h) (Or.inl ⟨by rfl, ?_⟩) (by assumption) ?_
            rotate_left
            · (intro w' hSw; (try dsimp only at hSw); go_simp; try (with_reducible rfl))
            change wpAnyH _ _ _ _ _ _ _ (Act.put _ (some 34) _) _
            try simp only [Act.put, List.setIfInBounds_toArray, List.set_cons_zero, List.set_cons_succ]
            refine wpAnyH_take (i := 1) (v := ?_) rfl (by kernel_rfl) (by kernel_rfl) (by kernel_rfl) (fun _ _ _ h => h) (Or.inl ⟨by rfl, ?_⟩) (by assumption) ?_
            rotate_left
            · (intro w' hSw; (try dsimp only at hSw); go_simp; try (with_reducible rfl))
            change wpAnyH _ _ _ _ _ _ _ (Act.put _ (some 35) _) _
            try simp only [Act.put, List.setIfInBounds_toArray, List.set_cons_zero, List.set_cons_succ]
            refine wpAnyH_take (i := 2) (v := ?_) rfl (by kernel_rfl) (by kernel_rfl) (by kernel_rfl) (fun _ _ _ h => h) (Or.inl ⟨by rfl, ?_⟩) (by assumption) ?_
            rotate_left
            · (intro w' hSw; (try dsimp only at hSw); go_simp; try (with_reducible rfl))
            change wpAnyH _ _ _ _ _ _ _ (Act.put _ (some 36) _) _
            try simp only [Act.put, List.setIfInBounds_toArray, List.set_cons_zero, List.set_cons_succ]
            refine wpAnyH_take (i := 3) (v := ?_) rfl (by kernel_rfl) (by kernel_rfl) (by kernel_rfl) (fun _ _ _ h => h) (Or.inl ⟨by rfl, ?_⟩) (by assumption) ?_
            rotate_left
            · (intro w' hSw; (try dsimp only at hSw); go_simp; try (with_reducible rfl))
            change wpAnyH _ _ _ _ _ _ _ (Act.put _ (some 37) _) _
            try simp only [Act.put, List.setIfInBounds_toArray, List.set_cons_zero, List.set_cons_succ]
            refine wpAnyH_take (i := 4) (v := ?_) rfl (by kernel_rfl) (by kernel_rfl) (by kernel_rfl) (fun _ _ _ h => h) (Or.inl ⟨by rfl, ?_⟩) (by assumption) ?_
            rotate_left
            · (intro w' hSw; (try dsimp only at hSw); go_simp; try (with_reducible rfl))
            change wpAnyH _ _ _ _ _ _ _ (Act.put _ (some 38) _) _
            try simp only [Act.put, List.setIfInBounds_toArray, List.set_cons_zero, List.set_cons_succ]
            refine wpAnyH_take (i := 5) (v := ?_) rfl (by kernel_rfl) (by kernel_rfl) (by kernel_rfl) (fun _ _ _ h => h) (Or.inl ⟨by rfl, ?_⟩) (by assumption) ?_
            rotate_left
            · (intro w' hSw; (try dsimp only at hSw); go_simp; try (with_reducible rfl))
            change wpAnyH _ _ _ _ _ _ _ (Act.put _ (some 39) _) _
            try simp only [Act.put, List.setIfInBounds_toArray, List.set_cons_zero, List.set_cons_succ]
            refine wpAnyH_take (i := 6) (v := ?_) rfl (by kernel_rfl) (by kernel_rfl) (by kernel_rfl) (fun _ _ _ h => h) (Or.inl ⟨by rfl, ?_⟩) (by assumption) ?_
            rotate_left
            · (intro w' hSw; (try dsimp only at hSw); go_simp; try (with_reducible rfl))
            change wpAnyH _ _ _ _ _ _ _ (Act.put _ (some 40) _) _
            try simp only [Act.put, List.setIfInBounds_toArray, List.set_cons_zero, List.set_cons_succ]
            refine wpAnyH_take (i := 7) (v := ?_) rfl (by kernel_rfl) (by kernel_rfl) (by kernel_rfl) (fun _ _ _ h => h) (Or.inl ⟨by rfl, ?_⟩) (by assumption) ?_
            rotate_left
            · (intro w' hSw; (try dsimp only at hSw); go_simp; try (with_reducible rfl))
            change wpAnyH _ _ _ _ _ _ _ (Act.put _ (some 41) _) _
            try simp only [Act.put, List.setIfInBounds_toArray, List.set_cons_zero, List.set_cons_succ]
            refine wpAnyH_take (i := 8) (v := undef) rfl (by kernel_rfl) (by kernel_rfl) (by kernel_rfl) (fun _ _ _ h => h) (Or.inr ⟨by rfl, rfl⟩) (by assumption) ?_
            change wpAnyH _ _ _ _ _ _ _ (Act.put _ (some 42) _) _
            try simp only [Act.put, List.setIfInBounds_toArray, List.set_cons_zero, List.set_cons_succ]
            refine wpAnyH_take (i := 9) (v := undef) rfl (by kernel_rfl) (by kernel_rfl) (by kernel_rfl) (fun _ _ _ h => h) (Or.inr ⟨by rfl, rfl⟩) (by assumption) ?_
            change wpAnyH _ _ _ _ _ _ _ (Act.put _ (some 43) _) _
            try simp only [Act.put, List.setIfInBounds_toArray, List.set_cons_zero, List.set_cons_succ]
            refine wpAnyH_take (i := 10) (v := undef) rfl (by kernel_rfl) (by kernel_rfl) (by kernel_rfl) (fun _ _ _ h => h) (Or.inr ⟨by rfl, rfl⟩) (by assumption) ?_
            change wpAnyH _ _ _ _ _ _ _ (Act.put _ (some 44) _) _
            try simp only [Act.put, List.setIfInBounds_toArray, List.set_cons_zero, List.set_cons_succ]
            refine wpAnyH_take (i := 11) (v := undef) rfl (by kernel_rfl) (by kernel_rfl) (by kernel_rfl) (fun _ _ _ h => h) (Or.inr ⟨by rfl, rfl⟩) (by assumption) ?_
            change wpAnyH _ _ _ _ _ _ _ (Act.put _ (some 45) _) _
            try simp only [Act.put, List.setIfInBounds_toArray, List.set_cons_zero, List.set_cons_succ]
            refine wpAnyH_take (i := 12) (v := undef) rfl (by kernel_rfl) (by kernel_rfl) (by kernel_rfl) (fun _ _ _ h => h) (Or.inr ⟨by rfl, rfl⟩) (by assumption) ?_
            change wpAnyH _ _ _ _ _ _ _ (Act.put _ (some 46) _) _
            try simp only [Act.put, List.setIfInBounds_toArray, List.set_cons_zero, List.set_cons_succ]
            refine wpAnyH_take (i := 13) (v := undef) rfl (by kernel_rfl) (by kernel_rfl) (by kernel_rfl) (fun _ _ _ h => h) (Or.inr ⟨by rfl, rfl⟩) (by assumption) ?_
            change wpAnyH _ _ _ _ _ _ _ (Act.put _ (some 47) _) _
            try simp only [Act.put, List.setIfInBounds_toArray, List.set_cons_zero, List.set_cons_succ]
            refine wpAnyH_take (i := 14) (v := undef) rfl (by kernel_rfl) (by kernel_rfl) (by kernel_rfl) (fun _ _ _ h => h) (Or.inr ⟨by rfl, rfl⟩) (by assumption) ?_
            change wpAnyH _ _ _ _ _ _ _ (Act.put _ (some 48) _) _
            try simp only [Act.put, List.setIfInBounds_toArray, List.set_cons_zero, List.set_cons_succ]
            refine wpAnyH_take (i := 15) (v := undef) rfl (by kernel_rfl) (by kernel_rfl) (by kernel_rfl) (fun _ _ _ h => h) (Or.inr ⟨by rfl, rfl⟩) (by assumption) ?_
            change wpAnyH _ _ _ _ _ _ _ (Act.put _ (some 49) _) _
            try simp only [Act.put, List.setIfInBounds_toArray, List.set_cons_zero, List.set_cons_succ]
            refine wpAnyH_take (i := 16) (v := ?_) rfl (by kernel_rfl) (by kernel_rfl) (by kernel_rfl) (fun _ _ _ h => h) (Or.inl ⟨by rfl, ?_⟩) (by assumption) ?_
            rotate_left
            · (intro w' hSw; (try dsimp only at hSw); go_simp; try (with_reducible rfl))
            change wpAnyH _ _ _ _ _ _ _ (Act.put _ (some 50) _) _
            try simp only [Act.put, List.setIfInBounds_toArray, List.set_cons_zero, List.set_cons_succ]
            refine wpAnyH_take (i := 17) (v := ?_) rfl (by kernel_rfl) (by kernel_rfl) (by kernel_rfl) (fun _ _ _ h => h) (Or.inl ⟨by rfl, ?_⟩) (by assumption) ?_
            rotate_left
            · (intro w' hSw; (try dsimp only at hSw); go_simp; try (with_reducible rfl))
            change wpAnyH _ _ _ _ _ _ _ (Act.put _ (some 51) _) _
            try simp only [Act.put, List.setIfInBounds_toArray, List.set_cons_zero, List.set_cons_succ]
            refine wpAnyH_take (i := 18) (v := undef) rfl (by kernel_rfl) (by kernel_rfl) (by kernel_rfl) (fun _ _ _ h => h) (Or.inr ⟨by rfl, rfl⟩) (by assumption) ?_
            change wpAnyH _ _ _ _ _ _ _ (Act.put _ (some 52) _) _
            try simp only [Act.put, List.setIfInBounds_toArray, List.set_cons_zero, List.set_cons_succ]
            refine wpAnyH_take (i := 19) (v := undef) rfl (by kernel_rfl) (by kernel_rfl) (by kernel_rfl) (fun _ _ _ h => h) (Or.inr ⟨by rfl, rfl⟩) (by assumption) ?_
            change wpAnyH _ _ _ _ _ _ _ (Act.put _ (some 53) _) _
            try simp only [Act.put, List.setIfInBounds_toArray, List.set_cons_zero, List.set_cons_succ]
            refine wpAnyH_take (i := 20) (v := undef) rfl (by kernel_rfl) (by kernel_rfl) (by kernel_rfl) (fun _ _ _ h => h) (Or.inr ⟨by rfl, rfl⟩) (by assumption) ?_
            change wpAnyH _ _ _ _ _ _ _ (Act.put _ (some 54) _) _
            try simp only [Act.put, List.setIfInBounds_toArray, List.set_cons_zero, List.set_cons_succ]
            refine wpAnyH_take (i := 21) (v := undef) rfl (by kernel_rfl) (by kernel_rfl) (by kernel_rfl) (fun _ _ _ h => h) (Or.inr ⟨by rfl, rfl⟩) (by assumption) ?_
            change wpAnyH _ _ _ _ _ _ _ (Act.put _ (some 55) _) _
            try simp only [Act.put, List.setIfInBounds_toArray, List.set_cons_zero, List.set_cons_succ]
            refine wpAnyH_take (i := 22) (v := undef) rfl (by kernel_rfl) (by kernel_rfl) (by kernel_rfl) (fun _ _ _ h => h) (Or.inr ⟨by rfl, rfl⟩) (by assumption) ?_
            change wpAnyH _ _ _ _ _ _ _ (Act.put _ (some 56) _) _
            try simp only [Act.put, List.setIfInBounds_toArray, List.set_cons_zero, List.set_cons_succ]
            refine wpAnyH_take (i := 23) (v := undef) rfl (by kernel_rfl) (by kernel_rfl) (by kernel_rfl) (fun _ _ _ h => h) (Or.inr ⟨by rfl, rfl⟩) (by assumption) ?_
            change wpAnyH _ _ _ _ _ _ _ (Act.put _ (some 57) _) _
            try simp only [Act.put, List.setIfInBounds_toArray, List.set_cons_zero, List.set_cons_succ]
            refine wpAnyH_take (i := 24) (v := undef) rfl (by kernel_rfl) (by kernel_rfl) (by kernel_rfl) (fun _ _ _ h => h) (Or.inr ⟨by rfl, rfl⟩) (by assumption) ?_
            change wpAnyH _ _ _ _ _ _ _ (Act.put _ (some 58) _) _
            try simp only [Act.put, List.setIfInBounds_toArray, List.set_cons_zero, List.set_cons_succ]
            refine wpAnyH_take (i := 25) (v := undef) rfl (by kernel_rfl) (by kernel_rfl) (by kernel_rfl) (fun _ _ _ h => h) (Or.inr ⟨by rfl, rfl⟩) (by assumption) ?_
            change wpAnyH _ _ _ _ _ _ _ (Act.put _ (some 59) _) _
            try simp only [Act.put, List.setIfInBounds_toArray, List.set_cons_zero, List.set_cons_succ]
            refine wpAnyH_take (i := 26) (v := ?_) rfl (by kernel_rfl) (by kernel_rfl) (by kernel_rfl) (fun _ _ _ h => h) (Or.inl ⟨by rfl, ?_⟩) (by assumption) ?_
            rotate_left
            · (intro w' hSw; (try dsimp only at hSw); go_simp; try (with_reducible rfl))
            change wpAnyH _ _ _ _ _ _ _ (Act.put _ (some 60) _) _
            try simp only [Act.put, List.setIfInBounds_toArray, List.set_cons_zero, List.set_cons_succ]
            refine wpAnyH_take (i := 27) (v := ?_) rfl (by kernel_rfl) (by kernel_rfl) (by kernel_rfl) (fun _ _ _ h => h) (Or.inl ⟨by rfl, ?_⟩) (by assumption) ?_
            rotate_left
            · (intro w' hSw; (try dsimp only at hSw); go_simp; try (with_reducible rfl))
            change wpAnyH _ _ _ _ _ _ _ (Act.put _ (some 61) _) _
            try simp only [Act.put, List.setIfInBounds_toArray, List.set_cons_zero, List.set_cons_succ]
            refine wpAnyH_take (i := 28) (v := undef) rfl (by kernel_rfl) (by kernel_rfl) (by kernel_rfl) (fun _ _ _ h => h) (Or.inr ⟨by rfl, rfl⟩) (by assumption) ?_
            change wpAnyH _ _ _ _ _ _ _ (Act.put _ (some 62) _) _
            try simp only [Act.put, List.setIfInBounds_toArray, List.set_cons_zero, List.set_cons_succ]
            refine wpAnyH_take (i := 29) (v := undef) rfl (by kernel_rfl) (by kernel_rfl) (by kernel_rfl) (fun _ _ _ h => h) (Or.inr ⟨by rfl, rfl⟩) (by assumption) ?_
            change wpAnyH _ _ _ _ _ _ _ (Act.put _ (some 63) _) _
            try simp only [Act.put, List.setIfInBounds_toArray, List.set_cons_zero, List.set_cons_succ]
            refine wpAnyH_take (i := 30) (v := undef) rfl (by kernel_rfl) (by kernel_rfl) (by kernel_rfl) (fun _ _ _ h => h) (Or.inr ⟨by rfl, rfl⟩) (by assumption) ?_
            change wpAnyH _ _ _ _ _ _ _ (Act.put _ (some 64) _) _
            try simp only [Act.put, List.setIfInBounds_toArray, List.set_cons_zero, List.set_cons_succ]
            refine wpAnyH_take (i := 31) (v := undef) rfl (by kernel_rfl) (by kernel_rfl) (by kernel_rfl) (fun _ _ _ h => h) (Or.inr ⟨by rfl, rfl⟩) (by assumption) ?_
            change wpAnyH _ _ _ _ _ _ _ (Act.put _ (some 65) _) _
            try simp only [Act.put, List.setIfInBounds_toArray, List.set_cons_zero, List.set_cons_succ]
            refine wpAnyH_take (i := 32) (v := undef) rfl (by kernel_rfl) (by kernel_rfl) (by kernel_rfl) (fun _ _ _ h => h) (Or.inr ⟨by rfl, rfl⟩) (by assumption) ?_
            change wpAnyH _ _ _ _ _ _ _ (Act.put _ (some 66) _) _
            try simp only [Act.put, List.setIfInBounds_toArray, List.set_cons_zero, List.set_cons_succ]
            refine wpAnyH_take (i := 33) (v := undef) rfl (by kernel_rfl) (by kernel_rfl) (by kernel_rfl) (fun _ _ _ h => h) (Or.inr ⟨by rfl, rfl⟩) (by assumption) ?_
            change wpAnyH _ _ _ _ _ _ _ (Act.put _ (some 67) _) _
            try simp only [Act.put, List.setIfInBounds_toArray, List.set_cons_zero, List.set_cons_succ]
            refine wpAnyH_take (i := 34) (v := undef) rfl (by kernel_rfl) (by kernel_rfl) (by kernel_rfl) (fun _ _ _ h => h) (Or.inr ⟨by rfl, rfl⟩) (by assumption) ?_
            change wpAnyH _ _ _ _ _ _ _ (Act.put _ (some 68) _) _
            try simp only [Act.put, List.setIfInBounds_toArray, List.set_cons_zero, List.set_cons_succ]
            refine wpAnyH_take (i := 35) (v := undef) rfl (by kernel_rfl) (by kernel_rfl) (by kernel_rfl) (fun _ _ _ h => h) (Or.inr ⟨by rfl, rfl⟩) (by assumption) ?_
            change wpAnyH _ _ _ _ _ _ _ (Act.put _ (some 69) _) _
            try simp only [Act.put, List.setIfInBounds_toArray, List.set_cons_zero, List.set_cons_succ]
            refine wpAnyH_take (i := 37) (v := undef) rfl (by kernel_rfl) (by kernel_rfl) (by kernel_rfl) (fun _ _ _ h => h) (Or.inr ⟨by rfl, rfl⟩) (by assumption) ?_
            change wpAnyH _ _ _ _ _ _ _ (Act.put _ (some 71) _) _
            try simp only [Act.put, List.setIfInBounds_toArray, List.set_cons_zero, List.set_cons_succ]
            refine wpAnyH_take (i := 36) (v := undef) rfl (by kernel_rfl) (by kernel_rfl) (by kernel_rfl) (fun _ _ _ h => h) (Or.inr ⟨by rfl, rfl⟩) (by assumption) ?_
            change wpAnyH _ _ _ _ _ _ _ (Act.put _ (some 70) _) _
            try simp only [Act.put, List.setIfInBounds_toArray, List.set_cons_zero, List.set_cons_succ]
            refine wpAnyH_take (i := 38) (v := undef) rfl (by kernel_rfl) (by kernel_rfl) (by kernel_rfl) (fun _ _ _ h => h) (Or.inr ⟨by rfl, rfl⟩) (by assumption) ?_
            change wpAnyH _ _ _ _ _ _ _ (Act.put _ (some 72) _) _
            try simp only [Act.put, List.setIfInBounds_toArray, List.set_cons_zero, List.set_cons_succ]
            refine wpAnyH_take (i := 39) (v := ?_) rfl (by kernel_rfl) (by kernel_rfl) (by kernel_rfl) (fun _ _ _ h => h) (Or.inl ⟨by rfl, ?_⟩) (by assumption) ?_
            rotate_left
            · (intro w' hSw; (try dsimp only at hSw); go_simp; try (with_reducible rfl))
            change wpAnyH _ _ _ _ _ _ _ (Act.put _ (some 73) _) _
            try simp only [Act.put, List.setIfInBounds_toArray, List.set_cons_zero, List.set_cons_succ]
            refine wpAnyH_done (by kernel_rfl) ?_ _
            go_wp2
            go_ret
            exact ⟨end_bool HBAD.out.symm, ext_trans hBw (by repeat' (first | (with_reducible exact Below.refl _ _) | (with_reducible refine ext_trans ?_ hb5) | (with_reducible refine ext_trans ?_ hb4) | (with_reducible refine ext_trans ?_ hb3) | (with_reducible refine Below.drew ?_)))⟩
          have e1 : (nm.toList == []) = false := by have h9 := ba_ne he; rwa [Lib.toList_data ⟨#[]⟩] at h9
          have e2 : nm.toList.isEmpty = false := by cases hz : nm.toList with | nil => rw [hz] at e1; cases e1 | cons a r => rfl
          have e3 : ¬ nm.toList = [] := by intro hz; rw [hz] at e1; cases e1
          have HE := hid he
          clear he
          obtain ⟨q3, hq3⟩ : ∃ z, okText nm = z := ⟨_, rfl⟩
          have C3 := hid (fun (w : World) => specTextOk nm w)
          have HQ3 := hid hq3
          rw [hq3] at C3
          clear hq3
          cases q3 with
          | false =>
            have HBAD := hid (worldOk_files (filesFine_bad hlt (by rw [HFF.out]; simp [fileFine, HQ3.out])))
            go_wp2_with fail
            refine wp_region_held_drew (S := fun w' => w'.cell? ⟨w.heap.size, 12, none⟩ = some (.slice (some ⟨b, off, none⟩) x.files.length c12) ∧ w'.cell? ⟨b, off + k * 2, none⟩ = some (.string nm) ∧ w'.cell? ⟨b, off + k * 2 + 1, none⟩ = some (.string tx)) (by kernel_rfl) ?_ (fun hHeld => ?_)
            · simp [*]
            refine wpAnyH_take (i := 0) (v := ?_) rfl (by kernel_rfl) (by kernel_rfl) (by kernel_rfl) (fun _ _ _ h => h) (Or.inl ⟨by rfl, ?_⟩) (by assumption) ?_
            rotate_left
            · (intro w' hSw; (try dsimp only at hSw); go_simp; try (with_reducible rfl))
            change wpAnyH _ _ _ _ _ _ _ (Act.put _ (some 34) _) _
            try simp only [Act.put, List.setIfInBounds_toArray, List.set_cons_zero, List.set_cons_succ]
            refine wpAnyH_take (i := 1) (v := ?_) rfl (by kernel_rfl) (by kernel_rfl) (by kernel_rfl) (fun _ _ _ h => h) (Or.inl ⟨by rfl, ?_⟩) (by assumption) ?_
            rotate_left
            · (intro w' hSw; (try dsimp only at hSw); go_simp; try (with_reducible rfl))
            change wpAnyH _ _ _ _ _ _ _ (Act.put _ (some 35) _) _
            try simp only [Act.put, List.setIfInBounds_toArray, List.set_cons_zero, List.set_cons_succ]
            refine wpAnyH_take (i := 2) (v := ?_) rfl (by kernel_rfl) (by kernel_rfl) (by kernel_rfl) (fun _ _ _ h => h) (Or.inl ⟨by rfl, ?_⟩) (by assumption) ?_
            rotate_left
            · (intro w' hSw; (try dsimp only at hSw); go_simp; try (with_reducible rfl))
            change wpAnyH _ _ _ _ _ _ _ (Act.put _ (some 36) _) _
            try simp only [Act.put, List.setIfInBounds_toArray, List.set_cons_zero, List.set_cons_succ]
            refine wpAnyH_take (i := 3) (v := ?_) rfl (by kernel_rfl) (by kernel_rfl) (by kernel_rfl) (fun _ _ _ h => h) (Or.inl ⟨by rfl, ?_⟩) (by assumption) ?_
            rotate_left
            · (intro w' hSw; (try dsimp only at hSw); go_simp; try (with_reducible rfl))
            change wpAnyH _ _ _ _ _ _ _ (Act.put _ (some 37) _) _
            try simp only [Act.put, List.setIfInBounds_toArray, List.set_cons_zero, List.set_cons_succ]
            refine wpAnyH_take (i := 4) (v := ?_) rfl (by kernel_rfl) (by kernel_rfl) (by kernel_rfl) (fun _ _ _ h => h) (Or.inl ⟨by rfl, ?_⟩) (by assumption) ?_
            rotate_left
            · (intro w' hSw; (try dsimp only at hSw); go_simp; try (with_reducible rfl))
            change wpAnyH _ _ _ _ _ _ _ (Act.put _ (some 38) _) _
            try simp only [Act.put, List.setIfInBounds_toArray, List.set_cons_zero, List.set_cons_succ]
            refine wpAnyH_take (i := 5) (v := ?_) rfl (by kernel_rfl) (by kernel_rfl) (by kernel_rfl) (fun _ _ _ h => h) (Or.inl ⟨by rfl, ?_⟩) (by assumption) ?_
            rotate_left
            · (intro w' hSw; (try dsimp only at hSw); go_simp; try (with_reducible rfl))
            change wpAnyH _ _ _ _ _ _ _ (Act.put _ (some 39) _) _
            try simp only [Act.put, List.setIfInBounds_toArray, List.set_cons_zero, List.set_cons_succ]
            refine wpAnyH_take (i := 6) (v := ?_) rfl (by kernel_rfl) (by kernel_rfl) (by kernel_rfl) (fun _ _ _ h => h) (Or.inl ⟨by rfl, ?_⟩) (by assumption) ?_
            rotate_left
            · (intro w' hSw; (try dsimp only at hSw); go_simp; try (with_reducible rfl))
            change wpAnyH _ _ _ _ _ _ _ (Act.put _ (some 40) _) _
            try simp only [Act.put, List.setIfInBounds_toArray, List.set_cons_zero, List.set_cons_succ]
            refine wpAnyH_take (i := 7) (v := ?_) rfl (by kernel_rfl) (by kernel_rfl) (by kernel_rfl) (fun _ _ _ h => h) (Or.inl ⟨by rfl, ?_⟩) (by assumption) ?_
            rotate_left
            · (intro w' hSw; (try dsimp only at hSw); go_simp; try (with_reducible rfl))
            change wpAnyH _ _ _ _ _ _ _ (Act.put _ (some 41) _) _
            try simp only [Act.put, List.setIfInBounds_toArray, List.set_cons_zero, List.set_cons_succ]
            refine wpAnyH_take (i := 8) (v := ?_) rfl (by kernel_rfl) (by kernel_rfl) (by kernel_rfl) (fun _ _ _ h => h) (Or.inl ⟨by rfl, ?_⟩) (by assumption) ?_
            rotate_left
            · (intro w' hSw; (try dsimp only at hSw); go_simp; try (with_reducible rfl))
            change wpAnyH _ _ _ _ _ _ _ (Act.put _ (some 42) _) _
            try simp only [Act.put, List.setIfInBounds_toArray, List.set_cons_zero, List.set_cons_succ]
            refine wpAnyH_take (i := 9) (v := ?_) rfl (by kernel_rfl) (by kernel_rfl) (by kernel_rfl) (fun _ _ _ h => h) (Or.inl ⟨by rfl, ?_⟩) (by assumption) ?_
            rotate_left
            · (intro w' hSw; (try dsimp only at hSw); go_simp; try (with_reducible rfl))
            change wpAnyH _ _ _ _ _ _ _ (Act.put _ (some 43) _) _
            try simp only [Act.put, List.setIfInBounds_toArray, List.set_cons_zero, List.set_cons_succ]
            refine wpAnyH_take (i := 10) (v := ?_) rfl (by kernel_rfl) (by kernel_rfl) (by kernel_rfl) (fun _ _ _ h => h) (Or.inl ⟨by rfl, ?_⟩) (by assumption) ?_
            rotate_left
            · (intro w' hSw; (try dsimp only at hSw); go_simp; try (with_reducible rfl))
            change wpAnyH _ _ _ _ _ _ _ (Act.put _ (some 44) _) _
            try simp only [Act.put, List.setIfInBounds_toArray, List.set_cons_zero, List.set_cons_succ]
            refine wpAnyH_take (i := 11) (v := ?_) rfl (by kernel_rfl) (by kernel_rfl) (by kernel_rfl) (fun _ _ _ h => h) (Or.inl ⟨by rfl, ?_⟩) (by assumption) ?_
            rotate_left
            · (intro w' hSw; (try dsimp only at hSw); go_simp; try (with_reducible rfl))
            change wpAnyH _ _ _ _ _ _ _ (Act.put _ (some 45) _) _
            try simp only [Act.put, List.setIfInBounds_toArray, List.set_cons_zero, List.set_cons_succ]
            refine wpAnyH_take (i := 12) (v := ?_) rfl (by kernel_rfl) (by kernel_rfl) (by kernel_rfl) (fun _ _ _ h => h) (Or.inl ⟨by rfl, ?_⟩) (by assumption) ?_
            rotate_left
            · (intro w' hSw; (try dsimp only at hSw); go_simp; try (with_reducible rfl))
            change wpAnyH _ _ _ _ _ _ _ (Act.put _ (some 46) _) _
            try simp only [Act.put, List.setIfInBounds_toArray, List.set_cons_zero, List.set_cons_succ]
            refine wpAnyH_take (i := 13) (v := ?_) rfl (by kernel_rfl) (by kernel_rfl) (by kernel_rfl) (fun _ _ _ h => h) (Or.inl ⟨by rfl, ?_⟩) (by assumption) ?_
            rotate_left
            · (intro w' hSw; (try dsimp only at hSw); go_simp; try (with_reducible rfl))
            change wpAnyH _ _ _ _ _ _ _ (Act.put _ (some 47) _) _
            try simp only [Act.put, List.setIfInBounds_toArray, List.set_cons_zero, List.set_cons_succ]
            refine wpAnyH_ready (rs := [14]) (by kernel_rfl) (by simp) ?_
            refine AllReadyH.cons (i := 14) rfl (fun K hK => ?_) AllReadyH.nil
            simp only [List.getElem_toArray, List.getElem_cons_succ, List.getElem_cons_zero]
            rw [if_pos (by rfl)]
            go_simp
            (go_at_call 39; refine (C3.out _).mono ?_; rintro e w3 ⟨rfl, hb3⟩; have hk3 := keeps_cells hb3; go_wp2_with fail)
            have hOld := hHeld
            clear hHeld
            refine hK.out _ _ ?_ (fun hHeld => ?_)
            · (try dsimp only); simp [*]
            clear hK K hOld
            try simp only [Act.put, List.setIfInBounds_toArray, List.set_cons_zero, List.set_cons_succ]
            refine wpAnyH_take (i := 15) (v := ?_) rfl (by kernel_rfl) (by kernel_rfl) (by kernel_rfl) (fun _ _ _ h => h) (Or.inl ⟨by rfl, ?_⟩) (by assumption) ?_
            rotate_left
            · (intro w' hSw; (try dsimp only at hSw); go_simp; try (with_reducible rfl))
            change wpAnyH _ _ _ _ _ _ _ (Act.put _ (some 49) _) _
            try simp only [Act.put, List.setIfInBounds_toArray, List.set_cons_zero, List.set_cons_succ]
            refine wpAnyH_take (i := 16) (v := ?_) rfl (by kernel_rfl) (by kernel_rfl) (by kernel_rfl) (fun _ _ _ h => h) (Or.inl ⟨by rfl, ?_⟩) (by assumption) ?_
            rotate_left
            · (intro w' hSw; (try dsimp only at hSw); go_simp; try (with_reducible rfl))
            change wpAnyH _ _ _ _ _ _ _ (Act.put _ (some 50) _) _
            try simp only [Act.put, List.setIfInBounds_toArray, List.set_cons_zero, List.set_cons_succ]
            refine wpAnyH_take (i := 17) (v := ?_) rfl (by kernel_rfl) (by kernel_rfl) (by kernel_rfl) (fun _ _ _ h => h) (Or.inl ⟨by rfl, ?_⟩) (by assumption) ?_
            rotate_left
            · (intro w' hSw; (try dsimp only at hSw); go_simp; try (with_reducible rfl))
            change wpAnyH _ _ _ _ _ _ _ (Act.put _ (some 51) _) _
            try simp only [Act.put, List.setIfInBounds_toArray, List.set_cons_zero, List.set_cons_succ]
            refine wpAnyH_take (i := 18) (v := undef) rfl (by kernel_rfl) (by kernel_rfl) (by kernel_rfl) (fun _ _ _ h => h) (Or.inr ⟨by rfl, rfl⟩) (by assumption) ?_
            change wpAnyH _ _ _ _ _ _ _ (Act.put _ (some 52) _) _
            try simp only [Act.put, List.setIfInBounds_toArray, List.set_cons_zero, List.set_cons_succ]
            refine wpAnyH_take (i := 19) (v := undef) rfl (by kernel_rfl) (by kernel_rfl) (by kernel_rfl) (fun _ _ _ h => h) (Or.inr ⟨by rfl, rfl⟩) (by assumption) ?_
            change wpAnyH _ _ _ _ _ _ _ (Act.put _ (some 53) _) _
            try simp only [Act.put, List.setIfInBounds_toArray, List.set_cons_zero, List.set_cons_succ]
            refine wpAnyH_take (i := 20) (v := undef) rfl (by kernel_rfl) (by kernel_rfl) (by kernel_rfl) (fun _ _ _ h => h) (Or.inr ⟨by rfl, rfl⟩) (by assumption) ?_
            change wpAnyH _ _ _ _ _ _ _ (Act.put _ (some 54) _) _
            try simp only [Act.put, List.setIfInBounds_toArray, List.set_cons_zero, List.set_cons_succ]
            refine wpAnyH_take (i := 21) (v := undef) rfl (by kernel_rfl) (by kernel_rfl) (by kernel_rfl) (fun _ _ _ h => h) (Or.inr ⟨by rfl, rfl⟩) (by assumption) ?_
            change wpAnyH _ _ _ _ _ _ _ (Act.put _ (some 55) _) _
            try simp only [Act.put, List.setIfInBounds_toArray, List.set_cons_zero, List.set_cons_succ]
            refine wpAnyH_take (i := 22) (v := undef) rfl (by kernel_rfl) (by kernel_rfl) (by kernel_rfl) (fun _ _ _ h => h) (Or.inr ⟨by rfl, rfl⟩) (by assumption) ?_
            change wpAnyH _ _ _ _ _ _ _ (Act.put _ (some 56) _) _
            try simp only [Act.put, List.setIfInBounds_toArray, List.set_cons_zero, List.set_cons_succ]
            refine wpAnyH_take (i := 23) (v := undef) rfl (by kernel_rfl) (by kernel_rfl) (by kernel_rfl) (fun _ _ _ h => h) (Or.inr ⟨by rfl, rfl⟩) (by assumption) ?_
            change wpAnyH _ _ _ _ _ _ _ (Act.put _ (some 57) _) _
            try simp only [Act.put, List.setIfInBounds_toArray, List.set_cons_zero, List.set_cons_succ]
            refine wpAnyH_take (i := 24) (v := undef) rfl (by kernel_rfl) (by kernel_rfl) (by kernel_rfl) (fun _ _ _ h => h) (Or.inr ⟨by rfl, rfl⟩) (by assumption) ?_
            change wpAnyH _ _ _ _ _ _ _ (Act.put _ (some 58) _) _
            try simp only [Act.put, List.setIfInBounds_toArray, List.set_cons_zero, List.set_cons_succ]
            refine wpAnyH_take (i := 25) (v := undef) rfl (by kernel_rfl) (by kernel_rfl) (by kernel_rfl) (fun _ _ _ h => h) (Or.inr ⟨by rfl, rfl⟩) (by assumption) ?_
            change wpAnyH _ _ _ _ _ _ _ (Act.put _ (some 59) _) _
            try simp only [Act.put, List.setIfInBounds_toArray, List.set_cons_zero, List.set_cons_succ]
            refine wpAnyH_take (i := 26) (v := ?_) rfl (by kernel_rfl) (by kernel_rfl) (by kernel_rfl) (fun _ _ _ h => h) (Or.inl ⟨by rfl, ?_⟩) (by assumption) ?_
            rotate_left
            · (intro w' hSw; (try dsimp only at hSw); go_simp; try (with_reducible rfl))
            change wpAnyH _ _ _ _ _ _ _ (Act.put _ (some 60) _) _
            try simp only [Act.put, List.setIfInBounds_toArray, List.set_cons_zero, List.set_cons_succ]
            refine wpAnyH_take (i := 27) (v := ?_) rfl (by kernel_rfl) (by kernel_rfl) (by kernel_rfl) (fun _ _ _ h => h) (Or.inl ⟨by rfl, ?_⟩) (by assumption) ?_
            rotate_left
            · (intro w' hSw; (try dsimp only at hSw); go_simp; try (with_reducible rfl))
            change wpAnyH _ _ _ _ _ _ _ (Act.put _ (some 61) _) _
            try simp only [Act.put, List.setIfInBounds_toArray, List.set_cons_zero, List.set_cons_succ]
            refine wpAnyH_take (i := 28) (v := undef) rfl (by kernel_rfl) (by kernel_rfl) (by kernel_rfl) (fun _ _ _ h => h) (Or.inr ⟨by rfl, rfl⟩) (by assumption) ?_
            change wpAnyH _ _ _ _ _ _ _ (Act.put _ (some 62) _) _
            try simp only [Act.put, List.setIfInBounds_toArray, List.set_cons_zero, List.set_cons_succ]
            refine wpAnyH_take (i := 29) (v := undef) rfl (by kernel_rfl) (by kernel_rfl) (by kernel_rfl) (fun _ _ _ h => h) (Or.inr ⟨by rfl, rfl⟩) (by assumption) ?_
            change wpAnyH _ _ _ _ _ _ _ (Act.put _ (some 63) _) _
            try simp only [Act.put, List.setIfInBounds_toArray, List.set_cons_zero, List.set_cons_succ]
            refine wpAnyH_take (i := 30) (v := undef) rfl (by kernel_rfl) (by kernel_rfl) (by kernel_rfl) (fun _ _ _ h => h) (Or.inr ⟨by rfl, rfl⟩) (by assumption) ?_
            change wpAnyH _ _ _ _ _ _ _ (Act.put _ (some 64) _) _
            try simp only [Act.put, List.setIfInBounds_toArray, List.set_cons_zero, List.set_cons_succ]
            refine wpAnyH_take (i := 31) (v := undef) rfl (by kernel_rfl) (by kernel_rfl) (by kernel_rfl) (fun _ _ _ h => h) (Or.inr ⟨by rfl, rfl⟩) (by assumption) ?_
            change wpAnyH _ _ _ _ _ _ _ (Act.put _ (some 65) _) _
            try simp only [Act.put, List.setIfInBounds_toArray, List.set_cons_zero, List.set_cons_succ]
            refine wpAnyH_take (i := 32) (v := undef) rfl (by kernel_rfl) (by kernel_rfl) (by kernel_rfl) (fun _ _ _ h => h) (Or.inr ⟨by rfl, rfl⟩) (by assumption) ?_
            change wpAnyH _ _ _ _ _ _ _ (Act.put _ (some 66) _) _
            try simp only [Act.put, List.setIfInBounds_toArray, List.set_cons_zero, List.set_cons_succ]
            refine wpAnyH_take (i := 33) (v := undef) rfl (by kernel_rfl) (by kernel_rfl) (by kernel_rfl) (fun _ _ _ h => h) (Or.inr ⟨by rfl, rfl⟩) (by assumption) ?_
            change wpAnyH _ _ _ _ _ _ _ (Act.put _ (some 67) _) _
            try simp only [Act.put, List.setIfInBounds_toArray, List.set_cons_zero, List.set_cons_succ]
            refine wpAnyH_take (i := 34) (v := undef) rfl (by kernel_rfl) (by kernel_rfl) (by kernel_rfl) (fun _ _ _ h => h) (Or.inr ⟨by rfl, rfl⟩) (by assumption) ?_
            change wpAnyH _ _ _ _ _ _ _ (Act.put _ (some 68) _) _
            try simp only [Act.put, List.setIfInBounds_toArray, List.set_cons_zero, List.set_cons_succ]
            refine wpAnyH_take (i := 35) (v := undef) rfl (by kernel_rfl) (by kernel_rfl) (by kernel_rfl) (fun _ _ _ h => h) (Or.inr ⟨by rfl, rfl⟩) (by assumption) ?_
            change wpAnyH _ _ _ _ _ _ _ (Act.put _ (some 69) _) _
            try simp only [Act.put, List.setIfInBounds_toArray, List.set_cons_zero, List.set_cons_succ]
            refine wpAnyH_take (i := 37) (v := undef) rfl (by kernel_rfl) (by kernel_rfl) (by kernel_rfl) (fun _ _ _ h => h) (Or.inr ⟨by rfl, rfl⟩) (by assumption) ?_
            change wpAnyH _ _ _ _ _ _ _ (Act.put _ (some 71) _) _
            try simp only [Act.put, List.setIfInBounds_toArray, List.set_cons_zero, List.set_cons_succ]
            refine wpAnyH_take (i := 36) (v := undef) rfl (by kernel_rfl) (by kernel_rfl) (by kernel_rfl) (fun _ _ _ h => h) (Or.inr ⟨by rfl, rfl⟩) (by assumption) ?_
            change wpAnyH _ _ _ _ _ _ _ (Act.put _ (some 70) _) _
            try simp only [Act.put, List.setIfInBounds_toArray, List.set_cons_zero, List.set_cons_succ]
            refine wpAnyH_take (i := 38) (v := undef) rfl (by kernel_rfl) (by kernel_rfl) (by kernel_rfl) (fun _ _ _ h => h) (Or.inr ⟨by rfl, rfl⟩) (by assumption) ?_
            change wpAnyH _ _ _ _ _ _ _ (Act.put _ (some 72) _) _
            try simp only [Act.put, List.setIfInBounds_toArray, List.set_cons_zero, List.set_cons_succ]
            refine wpAnyH_take (i := 39) (v := ?_) rfl (by kernel_rfl) (by kernel_rfl) (by kernel_rfl) (fun _ _ _ h => h) (Or.inl ⟨by rfl, ?_⟩) (by assumption) ?_
            rotate_left
            · (intro w' hSw; (try dsimp only at hSw); go_simp; try (with_reducible rfl))
            change wpAnyH _ _ _ _ _ _ _ (Act.put _ (some 73) _) _
            try simp only [Act.put, List.setIfInBounds_toArray, List.set_cons_zero, List.set_cons_succ]
            refine wpAnyH_done (by kernel_rfl) ?_ _
            go_wp2
            go_ret
            exact ⟨end_bool HBAD.out.symm, ext_trans hBw (by repeat' (first | (with_reducible exact Below.refl _ _) | (with_reducible refine ext_trans ?_ hb5) | (with_reducible refine ext_trans ?_ hb4) | (with_reducible refine ext_trans ?_ hb3) | (with_reducible refine Below.drew ?_)))⟩
          | true =>
            obtain ⟨q4, hq4⟩ : ∃ z, fileOk tx = z := ⟨_, rfl⟩
            have C4 := hid (fun (w : World) => specFileOk tx w)
            have HQ4 := hid hq4
            rw [hq4] at C4
            clear hq4
            cases q4 with
            | false =>
              have HBAD := hid (worldOk_files (filesFine_bad hlt (by rw [HFF.out]; simp [fileFine, HQ4.out])))
              go_wp2_with fail
              refine wp_region_held_drew (S := fun w' => w'.cell? ⟨w.heap.size, 12, none⟩ = some (.slice (some ⟨b, off, none⟩) x.files.length c12) ∧ w'.cell? ⟨b, off + k * 2, none⟩ = some (.string nm) ∧ w'.cell? ⟨b, off + k * 2 + 1, none⟩ = some (.string tx)) (by kernel_rfl) ?_ (fun hHeld => ?_)
              · simp [*]
              refine wpAnyH_take (i := 0) (v := ?_) rfl (by kernel_rfl) (by kernel_rfl) (by kernel_rfl) (fun _ _ _ h => h) (Or.inl ⟨by rfl, ?_⟩) (by assumption) ?_
              rotate_left
              · (intro w' hSw; (try dsimp only at hSw); go_simp; try (with_reducible rfl))
              change wpAnyH _ _ _ _ _ _ _ (Act.put _ (some 34) _) _
              try simp only [Act.put, List.setIfInBounds_toArray, List.set_cons_zero, List.set_cons_succ]
              refine wpAnyH_take (i := 1) (v := ?_) rfl (by kernel_rfl) (by kernel_rfl) (by kernel_rfl) (fun _ _ _ h => h) (Or.inl ⟨by rfl, ?_⟩) (by assumption) ?_
              rotate_left
              · (intro w' hSw; (try dsimp only at hSw); go_simp; try (with_reducible rfl))
              change wpAnyH _ _ _ _ _ _ _ (Act.put _ (some 35) _) _
              try simp only [Act.put, List.setIfInBounds_toArray, List.set_cons_zero, List.set_cons_succ]
              refine wpAnyH_take (i := 2) (v := ?_) rfl (by kernel_rfl) (by kernel_rfl) (by kernel_rfl) (fun _ _ _ h => h) (Or.inl ⟨by rfl, ?_⟩) (by assumption) ?_
              rotate_left
              · (intro w' hSw; (try dsimp only at hSw); go_simp; try (with_reducible rfl))
              change wpAnyH _ _ _ _ _ _ _ (Act.put _ (some 36) _) _
              try simp only [Act.put, List.setIfInBounds_toArray, List.set_cons_zero, List.set_cons_succ]
              refine wpAnyH_take (i := 3) (v := ?_) rfl (by kernel_rfl) (by kernel_rfl) (by kernel_rfl) (fun _ _ _ h => h) (Or.inl ⟨by rfl, ?_⟩) (by assumption) ?_
              rotate_left
              · (intro w' hSw; (try dsimp only at hSw); go_simp; try (with_reducible rfl))
              change wpAnyH _ _ _ _ _ _ _ (Act.put _ (some 37) _) _
              try simp only [Act.put, List.setIfInBounds_toArray, List.set_cons_zero, List.set_cons_succ]
              refine wpAnyH_take (i := 4) (v := ?_) rfl (by kernel_rfl) (by kernel_rfl) (by kernel_rfl) (fun _ _ _ h => h) (Or.inl ⟨by rfl, ?_⟩) (by assumption) ?_
              rotate_left
              · (intro w' hSw; (try dsimp only at hSw); go_simp; try (with_reducible rfl))
              change wpAnyH _ _ _ _ _ _ _ (Act.put _ (some 38) _) _
              try simp only [Act.put, List.setIfInBounds_toArray, List.set_cons_zero, List.set_cons_succ]
              refine wpAnyH_take (i := 5) (v := ?_) rfl (by kernel_rfl) (by kernel_rfl) (by kernel_rfl) (fun _ _ _ h => h) (Or.inl ⟨by rfl, ?_⟩) (by assumption) ?_
              rotate_left
              · (intro w' hSw; (try dsimp only at hSw); go_simp; try (with_reducible rfl))
              change wpAnyH _ _ _ _ _ _ _ (Act.put _ (some 39) _) _
              try simp only [Act.put, List.setIfInBounds_toArray, List.set_cons_zero, List.set_cons_succ]
              refine wpAnyH_take (i := 6) (v := ?_) rfl (by kernel_rfl) (by kernel_rfl) (by kernel_rfl) (fun _ _ _ h => h) (Or.inl ⟨by rfl, ?_⟩) (by assumption) ?_
              rotate_left
              · (intro w' hSw; (try dsimp only at hSw); go_simp; try (with_reducible rfl))
              change wpAnyH _ _ _ _ _ _ _ (Act.put _ (some 40) _) _
              try simp only [Act.put, List.setIfInBounds_toArray, List.set_cons_zero, List.set_cons_succ]
              refine wpAnyH_take (i := 7) (v := ?_) rfl (by kernel_rfl) (by kernel_rfl) (by kernel_rfl) (fun _ _ _ h => h) (Or.inl ⟨by rfl, ?_⟩) (by assumption) ?_
              rotate_left
              · (intro w' hSw; (try dsimp only at hSw); go_simp; try (with_reducible rfl))
              change wpAnyH _ _ _ _ _ _ _ (Act.put _ (some 41) _) _
              try simp only [Act.put, List.setIfInBounds_toArray, List.set_cons_zero, List.set_cons_succ]
              refine wpAnyH_take (i := 8) (v := ?_) rfl (by kernel_rfl) (by kernel_rfl) (by kernel_rfl) (fun _ _ _ h => h) (Or.inl ⟨by rfl, ?_⟩) (by assumption) ?_
              rotate_left
              · (intro w' hSw; (try dsimp only at hSw); go_simp; try (with_reducible rfl))
              change wpAnyH _ _ _ _ _ _ _ (Act.put _ (some 42) _) _
              try simp only [Act.put, List.setIfInBounds_toArray, List.set_cons_zero, List.set_cons_succ]
              refine wpAnyH_take (i := 9) (v := ?_) rfl (by kernel_rfl) (by kernel_rfl) (by kernel_rfl) (fun _ _ _ h => h) (Or.inl ⟨by rfl, ?_⟩) (by assumption) ?_
              rotate_left
              · (intro w' hSw; (try dsimp only at hSw); go_simp; try (with_reducible rfl))
              change wpAnyH _ _ _ _ _ _ _ (Act.put _ (some 43) _) _
              try simp only [Act.put, List.setIfInBounds_toArray, List.set_cons_zero, List.set_cons_succ]
              refine wpAnyH_take (i := 10) (v := ?_) rfl (by kernel_rfl) (by kernel_rfl) (by kernel_rfl) (fun _ _ _ h => h) (Or.inl ⟨by rfl, ?_⟩) (by assumption) ?_
              rotate_left
              · (intro w' hSw; (try dsimp only at hSw); go_simp; try (with_reducible rfl))
              change wpAnyH _ _ _ _ _ _ _ (Act.put _ (some 44) _) _
              try simp only [Act.put, List.setIfInBounds_toArray, List.set_cons_zero, List.set_cons_succ]
              refine wpAnyH_take (i := 11) (v := ?_) rfl (by kernel_rfl) (by kernel_rfl) (by kernel_rfl) (fun _ _ _ h => h) (Or.inl ⟨by rfl, ?_⟩) (by assumption) ?_
              rotate_left
              · (intro w' hSw; (try dsimp only at hSw); go_simp; try (with_reducible rfl))
              change wpAnyH _ _ _ _ _ _ _ (Act.put _ (some 45) _) _
              try simp only [Act.put, List.setIfInBounds_toArray, List.set_cons_zero, List.set_cons_succ]
              refine wpAnyH_take (i := 12) (v := ?_) rfl (by kernel_rfl) (by kernel_rfl) (by kernel_rfl) (fun _ _ _ h => h) (Or.inl ⟨by rfl, ?_⟩) (by assumption) ?_
              rotate_left
              · (intro w' hSw; (try dsimp only at hSw); go_simp; try (with_reducible rfl))
              change wpAnyH _ _ _ _ _ _ _ (Act.put _ (some 46) _) _
              try simp only [Act.put, List.setIfInBounds_toArray, List.set_cons_zero, List.set_cons_succ]
              refine wpAnyH_take (i := 13) (v := ?_) rfl (by kernel_rfl) (by kernel_rfl) (by kernel_rfl) (fun _ _ _ h => h) (Or.inl ⟨by rfl, ?_⟩) (by assumption) ?_
              rotate_left
              · (intro w' hSw; (try dsimp only at hSw); go_simp; try (with_reducible rfl))
              change wpAnyH _ _ _ _ _ _ _ (Act.put _ (some 47) _) _
              try simp only [Act.put, List.setIfInBounds_toArray, List.set_cons_zero, List.set_cons_succ]
              refine wpAnyH_ready (rs := [14]) (by kernel_rfl) (by simp) ?_
              refine AllReadyH.cons (i := 14) rfl (fun K hK => ?_) AllReadyH.nil
              simp only [List.getElem_toArray, List.getElem_cons_succ, List.getElem_cons_zero]
              rw [if_pos (by rfl)]
              go_simp
              (go_at_call 39; refine (C3.out _).mono ?_; rintro e w3 ⟨rfl, hb3⟩; have hk3 := keeps_cells hb3; go_wp2_with fail)
              have hOld := hHeld
              clear hHeld
              refine hK.out _ _ ?_ (fun hHeld => ?_)
              · (try dsimp only); simp [*]
              clear hK K hOld
              try simp only [Act.put, List.setIfInBounds_toArray, List.set_cons_zero, List.set_cons_succ]
              refine wpAnyH_take (i := 15) (v := ?_) rfl (by kernel_rfl) (by kernel_rfl) (by kernel_rfl) (fun _ _ _ h => h) (Or.inl ⟨by rfl, ?_⟩) (by assumption) ?_
              rotate_left
              · (intro w' hSw; (try dsimp only at hSw); go_simp; try (with_reducible rfl))
              change wpAnyH _ _ _ _ _ _ _ (Act.put _ (some 49) _) _
              try simp only [Act.put, List.setIfInBounds_toArray, List.set_cons_zero, List.set_cons_succ]
              refine wpAnyH_take (i := 16) (v := ?_) rfl (by kernel_rfl) (by kernel_rfl) (by kernel_rfl) (fun _ _ _ h => h) (Or.inl ⟨by rfl, ?_⟩) (by assumption) ?_
              rotate_left
              · (intro w' hSw; (try dsimp only at hSw); go_simp; try (with_reducible rfl))
              change wpAnyH _ _ _ _ _ _ _ (Act.put _ (some 50) _) _
              try simp only [Act.put, List.setIfInBounds_toArray, List.set_cons_zero, List.set_cons_succ]
              refine wpAnyH_take (i := 17) (v := ?_) rfl (by kernel_rfl) (by kernel_rfl) (by kernel_rfl) (fun _ _ _ h => h) (Or.inl ⟨by rfl, ?_⟩) (by assumption) ?_
              rotate_left
              · (intro w' hSw; (try dsimp only at hSw); go_simp; try (with_reducible rfl))
              change wpAnyH _ _ _ _ _ _ _ (Act.put _ (some 51) _) _
              try simp only [Act.put, List.setIfInBounds_toArray, List.set_cons_zero, List.set_cons_succ]
              refine wpAnyH_take (i := 18) (v := ?_) rfl (by kernel_rfl) (by kernel_rfl) (by kernel_rfl) (fun _ _ _ h => h) (Or.inl ⟨by rfl, ?_⟩) (by assumption) ?_
              rotate_left
              · (intro w' hSw; (try dsimp only at hSw); go_simp; try (with_reducible rfl))
              change wpAnyH _ _ _ _ _ _ _ (Act.put _ (some 52) _) _
              try simp only [Act.put, List.setIfInBounds_toArray, List.set_cons_zero, List.set_cons_succ]
              refine wpAnyH_take (i := 19) (v := ?_) rfl (by kernel_rfl) (by kernel_rfl) (by kernel_rfl) (fun _ _ _ h => h) (Or.inl ⟨by rfl, ?_⟩) (by assumption) ?_
              rotate_left
              · (intro w' hSw; (try dsimp only at hSw); go_simp; try (with_reducible rfl))
              change wpAnyH _ _ _ _ _ _ _ (Act.put _ (some 53) _) _
              try simp only [Act.put, List.setIfInBounds_toArray, List.set_cons_zero, List.set_cons_succ]
              refine wpAnyH_take (i := 20) (v := ?_) rfl (by kernel_rfl) (by kernel_rfl) (by kernel_rfl) (fun _ _ _ h => h) (Or.inl ⟨by rfl, ?_⟩) (by assumption) ?_
              rotate_left
              · (intro w' hSw; (try dsimp only at hSw); go_simp; try (with_reducible rfl))
              change wpAnyH _ _ _ _ _ _ _ (Act.put _ (some 54) _) _
              try simp only [Act.put, List.setIfInBounds_toArray, List.set_cons_zero, List.set_cons_succ]
              refine wpAnyH_take (i := 21) (v := ?_) rfl (by kernel_rfl) (by kernel_rfl) (by kernel_rfl) (fun _ _ _ h => h) (Or.inl ⟨by rfl, ?_⟩) (by assumption) ?_
              rotate_left
              · (intro w' hSw; (try dsimp only at hSw); go_simp; try (with_reducible rfl))
              change wpAnyH _ _ _ _ _ _ _ (Act.put _ (some 55) _) _
              try simp only [Act.put, List.setIfInBounds_toArray, List.set_cons_zero, List.set_cons_succ]
              refine wpAnyH_take (i := 22) (v := ?_) rfl (by kernel_rfl) (by kernel_rfl) (by kernel_rfl) (fun _ _ _ h => h) (Or.inl ⟨by rfl, ?_⟩) (by assumption) ?_
              rotate_left
              · (intro w' hSw; (try dsimp only at hSw); go_simp; try (with_reducible rfl))
              change wpAnyH _ _ _ _ _ _ _ (Act.put _ (some 56) _) _
              try simp only [Act.put, List.setIfInBounds_toArray, List.set_cons_zero, List.set_cons_succ]
              refine wpAnyH_take (i := 23) (v := ?_) rfl (by kernel_rfl) (by kernel_rfl) (by kernel_rfl) (fun _ _ _ h => h) (Or.inl ⟨by rfl, ?_⟩) (by assumption) ?_
              rotate_left
              · (intro w' hSw; (try dsimp only at hSw); go_simp; try (with_reducible rfl))
              change wpAnyH _ _ _ _ _ _ _ (Act.put _ (some 57) _) _
              try simp only [Act.put, List.setIfInBounds_toArray, List.set_cons_zero, List.set_cons_succ]
              refine wpAnyH_ready (rs := [24]) (by kernel_rfl) (by simp) ?_
              refine AllReadyH.cons (i := 24) rfl (fun K hK => ?_) AllReadyH.nil
              simp only [List.getElem_toArray, List.getElem_cons_succ, List.getElem_cons_zero]
              rw [if_pos (by rfl)]
              go_simp
              (go_at_call 20; refine (C4.out _).mono ?_; rintro e w4 ⟨rfl, hb4⟩; have hk4 := keeps_cells hb4; go_wp2_with fail)
              have hOld := hHeld
              clear hHeld
              refine hK.out _ _ ?_ (fun hHeld => ?_)
              · (try dsimp only); simp [*]
              clear hK K hOld
              try simp only [Act.put, List.setIfInBounds_toArray, List.set_cons_zero, List.set_cons_succ]
              refine wpAnyH_take (i := 25) (v := ?_) rfl (by kernel_rfl) (by kernel_rfl) (by kernel_rfl) (fun _ _ _ h => h) (Or.inl ⟨by rfl, ?_⟩) (by assumption) ?_
              rotate_left
              · (intro w' hSw; (try dsimp only at hSw); go_simp; try (with_reducible rfl))
              change wpAnyH _ _ _ _ _ _ _ (Act.put _ (some 59) _) _
              try simp only [Act.put, List.setIfInBounds_toArray, List.set_cons_zero, List.set_cons_succ]
              refine wpAnyH_take (i := 26) (v := ?_) rfl (by kernel_rfl) (by kernel_rfl) (by kernel_rfl) (fun _ _ _ h => h) (Or.inl ⟨by rfl, ?_⟩) (by assumption) ?_
              rotate_left
              · (intro w' hSw; (try dsimp only at hSw); go_simp; try (with_reducible rfl))
              change wpAnyH _ _ _ _ _ _ _ (Act.put _ (some 60) _) _
              try simp only [Act.put, List.setIfInBounds_toArray, List.set_cons_zero, List.set_cons_succ]
              refine wpAnyH_take (i := 27) (v := ?_) rfl (by kernel_rfl) (by kernel_rfl) (by kernel_rfl) (fun _ _ _ h => h) (Or.inl ⟨by rfl, ?_⟩) (by assumption) ?_
              rotate_left
              · (intro w' hSw; (try dsimp only at hSw); go_simp; try (with_reducible rfl))
              change wpAnyH _ _ _ _ _ _ _ (Act.put _ (some 61) _) _
              try simp only [Act.put, List.setIfInBounds_toArray, List.set_cons_zero, List.set_cons_succ]
              refine wpAnyH_take (i := 28) (v := undef) rfl (by kernel_rfl) (by kernel_rfl) (by kernel_rfl) (fun _ _ _ h => h) (Or.inr ⟨by rfl, rfl⟩) (by assumption) ?_
              change wpAnyH _ _ _ _ _ _ _ (Act.put _ (some 62) _) _
              try simp only [Act.put, List.setIfInBounds_toArray, List.set_cons_zero, List.set_cons_succ]
              refine wpAnyH_take (i := 29) (v := undef) rfl (by kernel_rfl) (by kernel_rfl) (by kernel_rfl) (fun _ _ _ h => h) (Or.inr ⟨by rfl, rfl⟩) (by assumption) ?_
              change wpAnyH _ _ _ _ _ _ _ (Act.put _ (some 63) _) _
              try simp only [Act.put, List.setIfInBounds_toArray, List.set_cons_zero, List.set_cons_succ]
              refine wpAnyH_take (i := 30) (v := undef) rfl (by kernel_rfl) (by kernel_rfl) (by kernel_rfl) (fun _ _ _ h => h) (Or.inr ⟨by rfl, rfl⟩) (by assumption) ?_
              change wpAnyH _ _ _ _ _ _ _ (Act.put _ (some 64) _) _
              try simp only [Act.put, List.setIfInBounds_toArray, List.set_cons_zero, List.set_cons_succ]
              refine wpAnyH_take (i := 31) (v := undef) rfl (by kernel_rfl) (by kernel_rfl) (by kernel_rfl) (fun _ _ _ h => h) (Or.inr ⟨by rfl, rfl⟩) (by assumption) ?_
              change wpAnyH _ _ _ _ _ _ _ (Act.put _ (some 65) _) _
              try simp only [Act.put, List.setIfInBounds_toArray, List.set_cons_zero, List.set_cons_succ]
              refine wpAnyH_take (i := 32) (v := undef) rfl (by kernel_rfl) (by kernel_rfl) (by kernel_rfl) (fun _ _ _ h => h) (Or.inr ⟨by rfl, rfl⟩) (by assumption) ?_
              change wpAnyH _ _ _ _ _ _ _ (Act.put _ (some 66) _) _
              try simp only [Act.put, List.setIfInBounds_toArray, List.set_cons_zero, List.set_cons_succ]
              refine wpAnyH_take (i := 33) (v := undef) rfl (by kernel_rfl) (by kernel_rfl) (by kernel_rfl) (fun _ _ _ h => h) (Or.inr ⟨by rfl, rfl⟩) (by assumption) ?_
              change wpAnyH _ _ _ _ _ _ _ (Act.put _ (some 67) _) _
              try simp only [Act.put, List.setIfInBounds_toArray, List.set_cons_zero, List.set_cons_succ]
              refine wpAnyH_take (i := 34) (v := undef) rfl (by kernel_rfl) (by kernel_rfl) (by kernel_rfl) (fun _ _ _ h => h) (Or.inr ⟨by rfl, rfl⟩) (by assumption) ?_
              change wpAnyH _ _ _ _ _ _ _ (Act.put _ (some 68) _) _
              try simp only [Act.put, List.setIfInBounds_toArray, List.set_cons_zero, List.set_cons_succ]
              refine wpAnyH_take (i := 35) (v := undef) rfl (by kernel_rfl) (by kernel_rfl) (by kernel_rfl) (fun _ _ _ h => h) (Or.inr ⟨by rfl, rfl⟩) (by assumption) ?_
              change wpAnyH _ _ _ _ _ _ _ (Act.put _ (some 69) _) _
              try simp only [Act.put, List.setIfInBounds_toArray, List.set_cons_zero, List.set_cons_succ]
              refine wpAnyH_take (i := 37) (v := undef) rfl (by kernel_rfl) (by kernel_rfl) (by kernel_rfl) (fun _ _ _ h => h) (Or.inr ⟨by rfl, rfl⟩) (by assumption) ?_
              change wpAnyH _ _ _ _ _ _ _ (Act.put _ (some 71) _) _
              try simp only [Act.put, List.setIfInBounds_toArray, List.set_cons_zero, List.set_cons_succ]
              refine wpAnyH_take (i := 36) (v := undef) rfl (by kernel_rfl) (by kernel_rfl) (by kernel_rfl) (fun _ _ _ h => h) (Or.inr ⟨by rfl, rfl⟩) (by assumption) ?_
              change wpAnyH _ _ _ _ _ _ _ (Act.put _ (some 70) _) _
              try simp only [Act.put, List.setIfInBounds_toArray, List.set_cons_zero, List.set_cons_succ]
              refine wpAnyH_take (i := 38) (v := undef) rfl (by kernel_rfl) (by kernel_rfl) (by kernel_rfl) (fun _ _ _ h => h) (Or.inr ⟨by rfl, rfl⟩) (by assumption) ?_
              change wpAnyH _ _ _ _ _ _ _ (Act.put _ (some 72) _) _
              try simp only [Act.put, List.setIfInBounds_toArray, List.set_cons_zero, List.set_cons_succ]
              refine wpAnyH_take (i := 39) (v := ?_) rfl (by kernel_rfl) (by kernel_rfl) (by kernel_rfl) (fun _ _ _ h => h) (Or.inl ⟨by rfl, ?_⟩) (by assumption) ?_
              rotate_left
              · (intro w' hSw; (try dsimp only at hSw); go_simp; try (with_reducible rfl))
              change wpAnyH _ _ _ _ _ _ _ (Act.put _ (some 73) _) _
              try simp only [Act.put, List.setIfInBounds_toArray, List.set_cons_zero, List.set_cons_succ]
              refine wpAnyH_done (by kernel_rfl) ?_ _
              go_wp2
              go_ret
              exact ⟨end_bool HBAD.out.symm, ext_trans hBw (by repeat' (first | (with_reducible exact Below.refl _ _) | (with_reducible refine ext_trans ?_ hb5) | (with_reducible refine ext_trans ?_ hb4) | (with_reducible refine ext_trans ?_ hb3) | (with_reducible refine Below.drew ?_)))⟩
            | true =>
              have C5 := hid (fun (w : World) (h : Rd.rd (Old w) w [.slice (some ⟨b, off, none⟩) x.files.length c12] x.files) => specFirst nm w h hl12n)
              obtain ⟨q5, hq5⟩ : ∃ z, ((x.files.take k).any fun g => decide (g.name = nm)) = z := ⟨_, rfl⟩
              have HQ5 := hid hq5
              clear hq5
              cases q5 with
              | true =>
                have HBAD := hid (worldOk_files (filesFine_bad hlt (by rw [HFF.out]; simp only [fileFine, HQ5.out]; simp)))
                have hne := idx_dup hlt HQ5.out
                obtain ⟨z, hz⟩ : ∃ z, idxP (fun f : File => decide (f.name = nm)) x.files = z := ⟨_, rfl⟩
                rw [hz] at C5 hne
                have z1 : (z == (k : Int)) = false := by rw [beq_eq_false_iff_ne]; exact hne
                have z2 : (z != (k : Int)) = true := by rw [bne_iff_ne]; exact hne
                clear hz
                go_wp2_with fail
                refine wp_region_held_drew (S := fun w' => w'.cell? ⟨w.heap.size, 12, none⟩ = some (.slice (some ⟨b, off, none⟩) x.files.length c12) ∧ w'.cell? ⟨b, off + k * 2, none⟩ = some (.string nm) ∧ w'.cell? ⟨b, off + k * 2 + 1, none⟩ = some (.string tx)) (by kernel_rfl) ?_ (fun hHeld => ?_)
                · simp [*]
                refine wpAnyH_take (i := 0) (v := ?_) rfl (by kernel_rfl) (by kernel_rfl) (by kernel_rfl) (fun _ _ _ h => h) (Or.inl ⟨by rfl, ?_⟩) (by assumption) ?_
                rotate_left
                · (intro w' hSw; (try dsimp only at hSw); go_simp; try (with_reducible rfl))
                change wpAnyH _ _ _ _ _ _ _ (Act.put _ (some 34) _) _
                try simp only [Act.put, List.setIfInBounds_toArray, List.set_cons_zero, List.set_cons_succ]
                refine wpAnyH_take (i := 1) (v := ?_) rfl (by kernel_rfl) (by kernel_rfl) (by kernel_rfl) (fun _ _ _ h => h) (Or.inl ⟨by rfl, ?_⟩) (by assumption) ?_
                rotate_left
                · (intro w' hSw; (try dsimp only at hSw); go_simp; try (with_reducible rfl))
                change wpAnyH _ _ _ _ _ _ _ (Act.put _ (some 35) _) _
                try simp only [Act.put, List.setIfInBounds_toArray, List.set_cons_zero, List.set_cons_succ]
                refine wpAnyH_take (i := 2) (v := ?_) rfl (by kernel_rfl) (by kernel_rfl) (by kernel_rfl) (fun _ _ _ h => h) (Or.inl ⟨by rfl, ?_⟩) (by assumption) ?_
                rotate_left
                · (intro w' hSw; (try dsimp only at hSw); go_simp; try (with_reducible rfl))
                change wpAnyH _ _ _ _ _ _ _ (Act.put _ (some 36) _) _
                try simp only [Act.put, List.setIfInBounds_toArray, List.set_cons_zero, List.set_cons_succ]
                refine wpAnyH_take (i := 3) (v := ?_) rfl (by kernel_rfl) (by kernel_rfl) (by kernel_rfl) (fun _ _ _ h => h) (Or.inl ⟨by rfl, ?_⟩) (by assumption) ?_
                rotate_left
                · (intro w' hSw; (try dsimp only at hSw); go_simp; try (with_reducible rfl))
                change wpAnyH _ _ _ _ _ _ _ (Act.put _ (some 37) _) _
                try simp only [Act.put, List.setIfInBounds_toArray, List.set_cons_zero, List.set_cons_succ]
                refine wpAnyH_take (i := 4) (v := ?_) rfl (by kernel_rfl) (by kernel_rfl) (by kernel_rfl) (fun _ _ _ h => h) (Or.inl ⟨by rfl, ?_⟩) (by assumption) ?_
                rotate_left
                · (intro w' hSw; (try dsimp only at hSw); go_simp; try (with_reducible rfl))
                change wpAnyH _ _ _ _ _ _ _ (Act.put _ (some 38) _) _
                try simp only [Act.put, List.setIfInBounds_toArray, List.set_cons_zero, List.set_cons_succ]
                refine wpAnyH_take (i := 5) (v := ?_) rfl (by kernel_rfl) (by kernel_rfl) (by kernel_rfl) (fun _ _ _ h => h) (Or.inl ⟨by rfl, ?_⟩) (by assumption) ?_
                rotate_left
                · (intro w' hSw; (try dsimp only at hSw); go_simp; try (with_reducible rfl))
                change wpAnyH _ _ _ _ _ _ _ (Act.put _ (some 39) _) _
                try simp only [Act.put, List.setIfInBounds_toArray, List.set_cons_zero, List.set_cons_succ]
                refine wpAnyH_take (i := 6) (v := ?_) rfl (by kernel_rfl) (by kernel_rfl) (by kernel_rfl) (fun _ _ _ h => h) (Or.inl ⟨by rfl, ?_⟩) (by assumption) ?_
                rotate_left
                · (intro w' hSw; (try dsimp only at hSw); go_simp; try (with_reducible rfl))
                change wpAnyH _ _ _ _ _ _ _ (Act.put _ (some 40) _) _
                try simp only [Act.put, List.setIfInBounds_toArray, List.set_cons_zero, List.set_cons_succ]
                refine wpAnyH_take (i := 7) (v := ?_) rfl (by kernel_rfl) (by kernel_rfl) (by kernel_rfl) (fun _ _ _ h => h) (Or.inl ⟨by rfl, ?_⟩) (by assumption) ?_
                rotate_left
                · (intro w' hSw; (try dsimp only at hSw); go_simp; try (with_reducible rfl))
                change wpAnyH _ _ _ _ _ _ _ (Act.put _ (some 41) _) _
                try simp only [Act.put, List.setIfInBounds_toArray, List.set_cons_zero, List.set_cons_succ]
                refine wpAnyH_take (i := 8) (v := ?_) rfl (by kernel_rfl) (by kernel_rfl) (by kernel_rfl) (fun _ _ _ h => h) (Or.inl ⟨by rfl, ?_⟩) (by assumption) ?_
                rotate_left
                · (intro w' hSw; (try dsimp only at hSw); go_simp; try (with_reducible rfl))
                change wpAnyH _ _ _ _ _ _ _ (Act.put _ (some 42) _) _
                try simp only [Act.put, List.setIfInBounds_toArray, List.set_cons_zero, List.set_cons_succ]
                refine wpAnyH_take (i := 9) (v := ?_) rfl (by kernel_rfl) (by kernel_rfl) (by kernel_rfl) (fun _ _ _ h => h) (Or.inl ⟨by rfl, ?_⟩) (by assumption) ?_
                rotate_left
                · (intro w' hSw; (try dsimp only at hSw); go_simp; try (with_reducible rfl))
                change wpAnyH _ _ _ _ _ _ _ (Act.put _ (some 43) _) _
                try simp only [Act.put, List.setIfInBounds_toArray, List.set_cons_zero, List.set_cons_succ]
                refine wpAnyH_take (i := 10) (v := ?_) rfl (by kernel_rfl) (by kernel_rfl) (by kernel_rfl) (fun _ _ _ h => h) (Or.inl ⟨by rfl, ?_⟩) (by assumption) ?_
                rotate_left
                · (intro w' hSw; (try dsimp only at hSw); go_simp; try (with_reducible rfl))
                change wpAnyH _ _ _ _ _ _ _ (Act.put _ (some 44) _) _
                try simp only [Act.put, List.setIfInBounds_toArray, List.set_cons_zero, List.set_cons_succ]
                refine wpAnyH_take (i := 11) (v := ?_) rfl (by kernel_rfl) (by kernel_rfl) (by kernel_rfl) (fun _ _ _ h => h) (Or.inl ⟨by rfl, ?_⟩) (by assumption) ?_
                rotate_left
                · (intro w' hSw; (try dsimp only at hSw); go_simp; try (with_reducible rfl))
                change wpAnyH _ _ _ _ _ _ _ (Act.put _ (some 45) _) _
                try simp only [Act.put, List.setIfInBounds_toArray, List.set_cons_zero, List.set_cons_succ]
                refine wpAnyH_take (i := 12) (v := ?_) rfl (by kernel_rfl) (by kernel_rfl) (by kernel_rfl) (fun _ _ _ h => h) (Or.inl ⟨by rfl, ?_⟩) (by assumption) ?_
                rotate_left
                · (intro w' hSw; (try dsimp only at hSw); go_simp; try (with_reducible rfl))
                change wpAnyH _ _ _ _ _ _ _ (Act.put _ (some 46) _) _
                try simp only [Act.put, List.setIfInBounds_toArray, List.set_cons_zero, List.set_cons_succ]
                refine wpAnyH_take (i := 13) (v := ?_) rfl (by kernel_rfl) (by kernel_rfl) (by kernel_rfl) (fun _ _ _ h => h) (Or.inl ⟨by rfl, ?_⟩) (by assumption) ?_
                rotate_left
                · (intro w' hSw; (try dsimp only at hSw); go_simp; try (with_reducible rfl))
                change wpAnyH _ _ _ _ _ _ _ (Act.put _ (some 47) _) _
                try simp only [Act.put, List.setIfInBounds_toArray, List.set_cons_zero, List.set_cons_succ]
                refine wpAnyH_ready (rs := [14]) (by kernel_rfl) (by simp) ?_
                refine AllReadyH.cons (i := 14) rfl (fun K hK => ?_) AllReadyH.nil
                simp only [List.getElem_toArray, List.getElem_cons_succ, List.getElem_cons_zero]
                rw [if_pos (by rfl)]
                go_simp
                (go_at_call 39; refine (C3.out _).mono ?_; rintro e w3 ⟨rfl, hb3⟩; have hk3 := keeps_cells hb3; go_wp2_with fail)
                have hOld := hHeld
                clear hHeld
                refine hK.out _ _ ?_ (fun hHeld => ?_)
                · (try dsimp only); simp [*]
                clear hK K hOld
                try simp only [Act.put, List.setIfInBounds_toArray, List.set_cons_zero, List.set_cons_succ]
                refine wpAnyH_take (i := 15) (v := ?_) rfl (by kernel_rfl) (by kernel_rfl) (by kernel_rfl) (fun _ _ _ h => h) (Or.inl ⟨by rfl, ?_⟩) (by assumption) ?_
                rotate_left
                · (intro w' hSw; (try dsimp only at hSw); go_simp; try (with_reducible rfl))
                change wpAnyH _ _ _ _ _ _ _ (Act.put _ (some 49) _) _
                try simp only [Act.put, List.setIfInBounds_toArray, List.set_cons_zero, List.set_cons_succ]
                refine wpAnyH_take (i := 16) (v := ?_) rfl (by kernel_rfl) (by kernel_rfl) (by kernel_rfl) (fun _ _ _ h => h) (Or.inl ⟨by rfl, ?_⟩) (by assumption) ?_
                rotate_left
                · (intro w' hSw; (try dsimp only at hSw); go_simp; try (with_reducible rfl))
                change wpAnyH _ _ _ _ _ _ _ (Act.put _ (some 50) _) _
                try simp only [Act.put, List.setIfInBounds_toArray, List.set_cons_zero, List.set_cons_succ]
                refine wpAnyH_take (i := 17) (v := ?_) rfl (by kernel_rfl) (by kernel_rfl) (by kernel_rfl) (fun _ _ _ h => h) (Or.inl ⟨by rfl, ?_⟩) (by assumption) ?_
                rotate_left
                · (intro w' hSw; (try dsimp only at hSw); go_simp; try (with_reducible rfl))
                change wpAnyH _ _ _ _ _ _ _ (Act.put _ (some 51) _) _
                try simp only [Act.put, List.setIfInBounds_toArray, List.set_cons_zero, List.set_cons_succ]
                refine wpAnyH_take (i := 18) (v := ?_) rfl (by kernel_rfl) (by kernel_rfl) (by kernel_rfl) (fun _ _ _ h => h) (Or.inl ⟨by rfl, ?_⟩) (by assumption) ?_
                rotate_left
                · (intro w' hSw; (try dsimp only at hSw); go_simp; try (with_reducible rfl))
                change wpAnyH _ _ _ _ _ _ _ (Act.put _ (some 52) _) _
                try simp only [Act.put, List.setIfInBounds_toArray, List.set_cons_zero, List.set_cons_succ]
                refine wpAnyH_take (i := 19) (v := ?_) rfl (by kernel_rfl) (by kernel_rfl) (by kernel_rfl) (fun _ _ _ h => h) (Or.inl ⟨by rfl, ?_⟩) (by assumption) ?_
                rotate_left
                · (intro w' hSw; (try dsimp only at hSw); go_simp; try (with_reducible rfl))
                change wpAnyH _ _ _ _ _ _ _ (Act.put _ (some 53) _) _
                try simp only [Act.put, List.setIfInBounds_toArray, List.set_cons_zero, List.set_cons_succ]
                refine wpAnyH_take (i := 20) (v := ?_) rfl (by kernel_rfl) (by kernel_rfl) (by kernel_rfl) (fun _ _ _ h => h) (Or.inl ⟨by rfl, ?_⟩) (by assumption) ?_
                rotate_left
                · (intro w' hSw; (try dsimp only at hSw); go_simp; try (with_reducible rfl))
                change wpAnyH _ _ _ _ _ _ _ (Act.put _ (some 54) _) _
                try simp only [Act.put, List.setIfInBounds_toArray, List.set_cons_zero, List.set_cons_succ]
                refine wpAnyH_take (i := 21) (v := ?_) rfl (by kernel_rfl) (by kernel_rfl) (by kernel_rfl) (fun _ _ _ h => h) (Or.inl ⟨by rfl, ?_⟩) (by assumption) ?_
                rotate_left
                · (intro w' hSw; (try dsimp only at hSw); go_simp; try (with_reducible rfl))
                change wpAnyH _ _ _ _ _ _ _ (Act.put _ (some 55) _) _
                try simp only [Act.put, List.setIfInBounds_toArray, List.set_cons_zero, List.set_cons_succ]
                refine wpAnyH_take (i := 22) (v := ?_) rfl (by kernel_rfl) (by kernel_rfl) (by kernel_rfl) (fun _ _ _ h => h) (Or.inl ⟨by rfl, ?_⟩) (by assumption) ?_
                rotate_left
                · (intro w' hSw; (try dsimp only at hSw); go_simp; try (with_reducible rfl))
                change wpAnyH _ _ _ _ _ _ _ (Act.put _ (some 56) _) _
                try simp only [Act.put, List.setIfInBounds_toArray, List.set_cons_zero, List.set_cons_succ]
                refine wpAnyH_take (i := 23) (v := ?_) rfl (by kernel_rfl) (by kernel_rfl) (by kernel_rfl) (fun _ _ _ h => h) (Or.inl ⟨by rfl, ?_⟩) (by assumption) ?_
                rotate_left
                · (intro w' hSw; (try dsimp only at hSw); go_simp; try (with_reducible rfl))
                change wpAnyH _ _ _ _ _ _ _ (Act.put _ (some 57) _) _
                try simp only [Act.put, List.setIfInBounds_toArray, List.set_cons_zero, List.set_cons_succ]
                refine wpAnyH_ready (rs := [24]) (by kernel_rfl) (by simp) ?_
                refine AllReadyH.cons (i := 24) rfl (fun K hK => ?_) AllReadyH.nil
                simp only [List.getElem_toArray, List.getElem_cons_succ, List.getElem_cons_zero]
                rw [if_pos (by rfl)]
                go_simp
                (go_at_call 20; refine (C4.out _).mono ?_; rintro e w4 ⟨rfl, hb4⟩; have hk4 := keeps_cells hb4; go_wp2_with fail)
                have hOld := hHeld
                clear hHeld
                refine hK.out _ _ ?_ (fun hHeld => ?_)
                · (try dsimp only); simp [*]
                clear hK K hOld
                try simp only [Act.put, List.setIfInBounds_toArray, List.set_cons_zero, List.set_cons_succ]
                refine wpAnyH_take (i := 25) (v := ?_) rfl (by kernel_rfl) (by kernel_rfl) (by kernel_rfl) (fun _ _ _ h => h) (Or.inl ⟨by rfl, ?_⟩) (by assumption) ?_
                rotate_left
                · (intro w' hSw; (try dsimp only at hSw); go_simp; try (with_reducible rfl))
                change wpAnyH _ _ _ _ _ _ _ (Act.put _ (some 59) _) _
                try simp only [Act.put, List.setIfInBounds_toArray, List.set_cons_zero, List.set_cons_succ]
                refine wpAnyH_take (i := 26) (v := ?_) rfl (by kernel_rfl) (by kernel_rfl) (by kernel_rfl) (fun _ _ _ h => h) (Or.inl ⟨by rfl, ?_⟩) (by assumption) ?_
                rotate_left
                · (intro w' hSw; (try dsimp only at hSw); go_simp; try (with_reducible rfl))
                change wpAnyH _ _ _ _ _ _ _ (Act.put _ (some 60) _) _
                try simp only [Act.put, List.setIfInBounds_toArray, List.set_cons_zero, List.set_cons_succ]
                refine wpAnyH_take (i := 27) (v := ?_) rfl (by kernel_rfl) (by kernel_rfl) (by kernel_rfl) (fun _ _ _ h => h) (Or.inl ⟨by rfl, ?_⟩) (by assumption) ?_
                rotate_left
                · (intro w' hSw; (try dsimp only at hSw); go_simp; try (with_reducible rfl))
                change wpAnyH _ _ _ _ _ _ _ (Act.put _ (some 61) _) _
                try simp only [Act.put, List.setIfInBounds_toArray, List.set_cons_zero, List.set_cons_succ]
                refine wpAnyH_take (i := 28) (v := ?_) rfl (by kernel_rfl) (by kernel_rfl) (by kernel_rfl) (fun _ _ _ h => h) (Or.inl ⟨by rfl, ?_⟩) (by assumption) ?_
                rotate_left
                · (intro w' hSw; (try dsimp only at hSw); go_simp; try (with_reducible rfl))
                change wpAnyH _ _ _ _ _ _ _ (Act.put _ (some 62) _) _
                try simp only [Act.put, List.setIfInBounds_toArray, List.set_cons_zero, List.set_cons_succ]
                refine wpAnyH_take (i := 29) (v := ?_) rfl (by kernel_rfl) (by kernel_rfl) (by kernel_rfl) (fun _ _ _ h => h) (Or.inl ⟨by rfl, ?_⟩) (by assumption) ?_
                rotate_left
                · (intro w' hSw; (try dsimp only at hSw); go_simp; try (with_reducible rfl))
                change wpAnyH _ _ _ _ _ _ _ (Act.put _ (some 63) _) _
                try simp only [Act.put, List.setIfInBounds_toArray, List.set_cons_zero, List.set_cons_succ]
                refine wpAnyH_take (i := 30) (v := ?_) rfl (by kernel_rfl) (by kernel_rfl) (by kernel_rfl) (fun _ _ _ h => h) (Or.inl ⟨by rfl, ?_⟩) (by assumption) ?_
                rotate_left
                · (intro w' hSw; (try dsimp only at hSw); go_simp; try (with_reducible rfl))
                change wpAnyH _ _ _ _ _ _ _ (Act.put _ (some 64) _) _
                try simp only [Act.put, List.setIfInBounds_toArray, List.set_cons_zero, List.set_cons_succ]
                refine wpAnyH_take (i := 31) (v := ?_) rfl (by kernel_rfl) (by kernel_rfl) (by kernel_rfl) (fun _ _ _ h => h) (Or.inl ⟨by rfl, ?_⟩) (by assumption) ?_
                rotate_left
                · (intro w' hSw; (try dsimp only at hSw); go_simp; try (with_reducible rfl))
                change wpAnyH _ _ _ _ _ _ _ (Act.put _ (some 65) _) _
                try simp only [Act.put, List.setIfInBounds_toArray, List.set_cons_zero, List.set_cons_succ]
                refine wpAnyH_take (i := 32) (v := ?_) rfl (by kernel_rfl) (by kernel_rfl) (by kernel_rfl) (fun _ _ _ h => h) (Or.inl ⟨by rfl, ?_⟩) (by assumption) ?_
                rotate_left
                · (intro w' hSw; (try dsimp only at hSw); go_simp; try (with_reducible rfl))
                change wpAnyH _ _ _ _ _ _ _ (Act.put _ (some 66) _) _
                try simp only [Act.put, List.setIfInBounds_toArray, List.set_cons_zero, List.set_cons_succ]
                refine wpAnyH_take (i := 33) (v := ?_) rfl (by kernel_rfl) (by kernel_rfl) (by kernel_rfl) (fun _ _ _ h => h) (Or.inl ⟨by rfl, ?_⟩) (by assumption) ?_
                rotate_left
                · (intro w' hSw; (try dsimp only at hSw); go_simp; try (with_reducible rfl))
                change wpAnyH _ _ _ _ _ _ _ (Act.put _ (some 67) _) _
                try simp only [Act.put, List.setIfInBounds_toArray, List.set_cons_zero, List.set_cons_succ]
                refine wpAnyH_take (i := 34) (v := ?_) rfl (by kernel_rfl) (by kernel_rfl) (by kernel_rfl) (fun _ _ _ h => h) (Or.inl ⟨by rfl, ?_⟩) (by assumption) ?_
                rotate_left
                · (intro w' hSw; (try dsimp only at hSw); go_simp; try (with_reducible rfl))
                change wpAnyH _ _ _ _ _ _ _ (Act.put _ (some 68) _) _
                try simp only [Act.put, List.setIfInBounds_toArray, List.set_cons_zero, List.set_cons_succ]
                refine wpAnyH_take (i := 35) (v := ?_) rfl (by kernel_rfl) (by kernel_rfl) (by kernel_rfl) (fun _ _ _ h => h) (Or.inl ⟨by rfl, ?_⟩) (by assumption) ?_
                rotate_left
                · (intro w' hSw; (try dsimp only at hSw); go_simp; try (with_reducible rfl))
                change wpAnyH _ _ _ _ _ _ _ (Act.put _ (some 69) _) _
                try simp only [Act.put, List.setIfInBounds_toArray, List.set_cons_zero, List.set_cons_succ]
                refine wpAnyH_take (i := 37) (v := ?_) rfl (by kernel_rfl) (by kernel_rfl) (by kernel_rfl) (fun _ _ _ h => h) (Or.inl ⟨by rfl, ?_⟩) (by assumption) ?_
                rotate_left
                · (intro w' hSw; (try dsimp only at hSw); go_simp; try (with_reducible rfl))
                change wpAnyH _ _ _ _ _ _ _ (Act.put _ (some 71) _) _
                try simp only [Act.put, List.setIfInBounds_toArray, List.set_cons_zero, List.set_cons_succ]
                refine wpAnyH_ready (rs := [36]) (by kernel_rfl) (by simp) ?_
                refine AllReadyH.cons (i := 36) rfl (fun K hK => ?_) AllReadyH.nil
                simp only [List.getElem_toArray, List.getElem_cons_succ, List.getElem_cons_zero]
                rw [if_pos (by rfl)]
                go_simp
                (go_at_call 40; refine (C5.out _ (Rd.later (by repeat' (first | (with_reducible exact hBw) | (with_reducible refine ext_trans ?_ hb4) | (with_reducible refine ext_trans ?_ hb3) | (with_reducible refine Below.drew ?_))) f12)).mono ?_; rintro e w5 ⟨rfl, hb5⟩; have hk5 := keeps_cells hb5; go_wp2_with fail)
                have hOld := hHeld
                clear hHeld
                refine hK.out _ _ ?_ (fun hHeld => ?_)
                · (try dsimp only); simp [*]
                clear hK K hOld
                try simp only [Act.put, List.setIfInBounds_toArray, List.set_cons_zero, List.set_cons_succ]
                refine wpAnyH_take (i := 38) (v := ?_) rfl (by kernel_rfl) (by kernel_rfl) (by kernel_rfl) (fun _ _ _ h => h) (Or.inl ⟨by rfl, ?_⟩) (by assumption) ?_
                rotate_left
                · (intro w' hSw; (try dsimp only at hSw); go_simp; try (with_reducible rfl))
                change wpAnyH _ _ _ _ _ _ _ (Act.put _ (some 72) _) _
                try simp only [Act.put, List.setIfInBounds_toArray, List.set_cons_zero, List.set_cons_succ]
                refine wpAnyH_take (i := 39) (v := ?_) rfl (by kernel_rfl) (by kernel_rfl) (by kernel_rfl) (fun _ _ _ h => h) (Or.inl ⟨by rfl, ?_⟩) (by assumption) ?_
                rotate_left
                · (intro w' hSw; (try dsimp only at hSw); go_simp; try (with_reducible rfl))
                change wpAnyH _ _ _ _ _ _ _ (Act.put _ (some 73) _) _
                try simp only [Act.put, List.setIfInBounds_toArray, List.set_cons_zero, List.set_cons_succ]
                refine wpAnyH_done (by kernel_rfl) ?_ _
                go_wp2
                go_ret
                exact ⟨end_bool HBAD.out.symm, ext_trans hBw (by repeat' (first | (with_reducible exact Below.refl _ _) | (with_reducible refine ext_trans ?_ hb5) | (with_reducible refine ext_trans ?_ hb4) | (with_reducible refine ext_trans ?_ hb3) | (with_reducible refine Below.drew ?_)))⟩
              | false =>
                have HGOOD := hid (show fileFine x.files k x.files[k] = true by rw [HFF.out]; simp only [fileFine, HQ3.out, HQ4.out, HQ5.out, decide_eq_false HE.out]; rfl)
                have hz := idx_first hlt (p := fun f : File => decide (f.name = nm)) (decide_eq_true HNM.out) HQ5.out
                rw [hz] at C5
                clear hz
                go_wp2_with fail
                refine wp_region_held_drew (S := fun w' => w'.cell? ⟨w.heap.size, 12, none⟩ = some (.slice (some ⟨b, off, none⟩) x.files.length c12) ∧ w'.cell? ⟨b, off + k * 2, none⟩ = some (.string nm) ∧ w'.cell? ⟨b, off + k * 2 + 1, none⟩ = some (.string tx)) (by kernel_rfl) ?_ (fun hHeld => ?_)
                · simp [*]
                refine wpAnyH_take (i := 0) (v := ?_) rfl (by kernel_rfl) (by kernel_rfl) (by kernel_rfl) (fun _ _ _ h => h) (Or.inl ⟨by rfl, ?_⟩) (by assumption) ?_
                rotate_left
                · (intro w' hSw; (try dsimp only at hSw); go_simp; try (with_reducible rfl))
                change wpAnyH _ _ _ _ _ _ _ (Act.put _ (some 34) _) _
                try simp only [Act.put, List.setIfInBounds_toArray, List.set_cons_zero, List.set_cons_succ]
                refine wpAnyH_take (i := 1) (v := ?_) rfl (by kernel_rfl) (by kernel_rfl) (by kernel_rfl) (fun _ _ _ h => h) (Or.inl ⟨by rfl, ?_⟩) (by assumption) ?_
                rotate_left
                · (intro w' hSw; (try dsimp only at hSw); go_simp; try (with_reducible rfl))
                change wpAnyH _ _ _ _ _ _ _ (Act.put _ (some 35) _) _
                try simp only [Act.put, List.setIfInBounds_toArray, List.set_cons_zero, List.set_cons_succ]
                refine wpAnyH_take (i := 2) (v := ?_) rfl (by kernel_rfl) (by kernel_rfl) (by kernel_rfl) (fun _ _ _ h => h) (Or.inl ⟨by rfl, ?_⟩) (by assumption) ?_
                rotate_left
                · (intro w' hSw; (try dsimp only at hSw); go_simp; try (with_reducible rfl))
                change wpAnyH _ _ _ _ _ _ _ (Act.put _ (some 36) _) _
                try simp only [Act.put, List.setIfInBounds_toArray, List.set_cons_zero, List.set_cons_succ]
                refine wpAnyH_take (i := 3) (v := ?_) rfl (by kernel_rfl) (by kernel_rfl) (by kernel_rfl) (fun _ _ _ h => h) (Or.inl ⟨by rfl, ?_⟩) (by assumption) ?_
                rotate_left
                · (intro w' hSw; (try dsimp only at hSw); go_simp; try (with_reducible rfl))
                change wpAnyH _ _ _ _ _ _ _ (Act.put _ (some 37) _) _
                try simp only [Act.put, List.setIfInBounds_toArray, List.set_cons_zero, List.set_cons_succ]
                refine wpAnyH_take (i := 4) (v := ?_) rfl (by kernel_rfl) (by kernel_rfl) (by kernel_rfl) (fun _ _ _ h => h) (Or.inl ⟨by rfl, ?_⟩) (by assumption) ?_
                rotate_left
                · (intro w' hSw; (try dsimp only at hSw); go_simp; try (with_reducible rfl))
                change wpAnyH _ _ _ _ _ _ _ (Act.put _ (some 38) _) _
                try simp only [Act.put, List.setIfInBounds_toArray, List.set_cons_zero, List.set_cons_succ]
                refine wpAnyH_take (i := 5) (v := ?_) rfl (by kernel_rfl) (by kernel_rfl) (by kernel_rfl) (fun _ _ _ h => h) (Or.inl ⟨by rfl, ?_⟩) (by assumption) ?_
                rotate_left
                · (intro w' hSw; (try dsimp only at hSw); go_simp; try (with_reducible rfl))
                change wpAnyH _ _ _ _ _ _ _ (Act.put _ (some 39) _) _
                try simp only [Act.put, List.setIfInBounds_toArray, List.set_cons_zero, List.set_cons_succ]
                refine wpAnyH_take (i := 6) (v := ?_) rfl (by kernel_rfl) (by kernel_rfl) (by kernel_rfl) (fun _ _ _ h => h) (Or.inl ⟨by rfl, ?_⟩) (by assumption) ?_
                rotate_left
                · (intro w' hSw; (try dsimp only at hSw); go_simp; try (with_reducible rfl))
                change wpAnyH _ _ _ _ _ _ _ (Act.put _ (some 40) _) _
                try simp only [Act.put, List.setIfInBounds_toArray, List.set_cons_zero, List.set_cons_succ]
                refine wpAnyH_take (i := 7) (v := ?_) rfl (by kernel_rfl) (by kernel_rfl) (by kernel_rfl) (fun _ _ _ h => h) (Or.inl ⟨by rfl, ?_⟩) (by assumption) ?_
                rotate_left
                · (intro w' hSw; (try dsimp only at hSw); go_simp; try (with_reducible rfl))
                change wpAnyH _ _ _ _ _ _ _ (Act.put _ (some 41) _) _
                try simp only [Act.put, List.setIfInBounds_toArray, List.set_cons_zero, List.set_cons_succ]
                refine wpAnyH_take (i := 8) (v := ?_) rfl (by kernel_rfl) (by kernel_rfl) (by kernel_rfl) (fun _ _ _ h => h) (Or.inl ⟨by rfl, ?_⟩) (by assumption) ?_
                rotate_left
                · (intro w' hSw; (try dsimp only at hSw); go_simp; try (with_reducible rfl))
                change wpAnyH _ _ _ _ _ _ _ (Act.put _ (some 42) _) _
                try simp only [Act.put, List.setIfInBounds_toArray, List.set_cons_zero, List.set_cons_succ]
                refine wpAnyH_take (i := 9) (v := ?_) rfl (by kernel_rfl) (by kernel_rfl) (by kernel_rfl) (fun _ _ _ h => h) (Or.inl ⟨by rfl, ?_⟩) (by assumption) ?_
                rotate_left
                · (intro w' hSw; (try dsimp only at hSw); go_simp; try (with_reducible rfl))
                change wpAnyH _ _ _ _ _ _ _ (Act.put _ (some 43) _) _
                try simp only [Act.put, List.setIfInBounds_toArray, List.set_cons_zero, List.set_cons_succ]
                refine wpAnyH_take (i := 10) (v := ?_) rfl (by kernel_rfl) (by kernel_rfl) (by kernel_rfl) (fun _ _ _ h => h) (Or.inl ⟨by rfl, ?_⟩) (by assumption) ?_
                rotate_left
                · (intro w' hSw; (try dsimp only at hSw); go_simp; try (with_reducible rfl))
                change wpAnyH _ _ _ _ _ _ _ (Act.put _ (some 44) _) _
                try simp only [Act.put, List.setIfInBounds_toArray, List.set_cons_zero, List.set_cons_succ]
                refine wpAnyH_take (i := 11) (v := ?_) rfl (by kernel_rfl) (by kernel_rfl) (by kernel_rfl) (fun _ _ _ h => h) (Or.inl ⟨by rfl, ?_⟩) (by assumption) ?_
                rotate_left
                · (intro w' hSw; (try dsimp only at hSw); go_simp; try (with_reducible rfl))
                change wpAnyH _ _ _ _ _ _ _ (Act.put _ (some 45) _) _
                try simp only [Act.put, List.setIfInBounds_toArray, List.set_cons_zero, List.set_cons_succ]
                refine wpAnyH_take (i := 12) (v := ?_) rfl (by kernel_rfl) (by kernel_rfl) (by kernel_rfl) (fun _ _ _ h => h) (Or.inl ⟨by rfl, ?_⟩) (by assumption) ?_
                rotate_left
                · (intro w' hSw; (try dsimp only at hSw); go_simp; try (with_reducible rfl))
                change wpAnyH _ _ _ _ _ _ _ (Act.put _ (some 46) _) _
                try simp only [Act.put, List.setIfInBounds_toArray, List.set_cons_zero, List.set_cons_succ]
                refine wpAnyH_take (i := 13) (v := ?_) rfl (by kernel_rfl) (by kernel_rfl) (by kernel_rfl) (fun _ _ _ h => h) (Or.inl ⟨by rfl, ?_⟩) (by assumption) ?_
                rotate_left
                · (intro w' hSw; (try dsimp only at hSw); go_simp; try (with_reducible rfl))
                change wpAnyH _ _ _ _ _ _ _ (Act.put _ (some 47) _) _
                try simp only [Act.put, List.setIfInBounds_toArray, List.set_cons_zero, List.set_cons_succ]
                refine wpAnyH_ready (rs := [14]) (by kernel_rfl) (by simp) ?_
                refine AllReadyH.cons (i := 14) rfl (fun K hK => ?_) AllReadyH.nil
                simp only [List.getElem_toArray, List.getElem_cons_succ, List.getElem_cons_zero]
                rw [if_pos (by rfl)]
                go_simp
                (go_at_call 39; refine (C3.out _).mono ?_; rintro e w3 ⟨rfl, hb3⟩; have hk3 := keeps_cells hb3; go_wp2_with fail)
                have hOld := hHeld
                clear hHeld
                refine hK.out _ _ ?_ (fun hHeld => ?_)
                · (try dsimp only); simp [*]
                clear hK K hOld
                try simp only [Act.put, List.setIfInBounds_toArray, List.set_cons_zero, List.set_cons_succ]
                refine wpAnyH_take (i := 15) (v := ?_) rfl (by kernel_rfl) (by kernel_rfl) (by kernel_rfl) (fun _ _ _ h => h) (Or.inl ⟨by rfl, ?_⟩) (by assumption) ?_
                rotate_left
                · (intro w' hSw; (try dsimp only at hSw); go_simp; try (with_reducible rfl))
                change wpAnyH _ _ _ _ _ _ _ (Act.put _ (some 49) _) _
                try simp only [Act.put, List.setIfInBounds_toArray, List.set_cons_zero, List.set_cons_succ]
                refine wpAnyH_take (i := 16) (v := ?_) rfl (by kernel_rfl) (by kernel_rfl) (by kernel_rfl) (fun _ _ _ h => h) (Or.inl ⟨by rfl, ?_⟩) (by assumption) ?_
                rotate_left
                · (intro w' hSw; (try dsimp only at hSw); go_simp; try (with_reducible rfl))
                change wpAnyH _ _ _ _ _ _ _ (Act.put _ (some 50) _) _
                try simp only [Act.put, List.setIfInBounds_toArray, List.set_cons_zero, List.set_cons_succ]
                refine wpAnyH_take (i := 17) (v := ?_) rfl (by kernel_rfl) (by kernel_rfl) (by kernel_rfl) (fun _ _ _ h => h) (Or.inl ⟨by rfl, ?_⟩) (by assumption) ?_
                rotate_left
                · (intro w' hSw; (try dsimp only at hSw); go_simp; try (with_reducible rfl))
                change wpAnyH _ _ _ _ _ _ _ (Act.put _ (some 51) _) _
                try simp only [Act.put, List.setIfInBounds_toArray, List.set_cons_zero, List.set_cons_succ]
                refine wpAnyH_take (i := 18) (v := ?_) rfl (by kernel_rfl) (by kernel_rfl) (by kernel_rfl) (fun _ _ _ h => h) (Or.inl ⟨by rfl, ?_⟩) (by assumption) ?_
                rotate_left
                · (intro w' hSw; (try dsimp only at hSw); go_simp; try (with_reducible rfl))
                change wpAnyH _ _ _ _ _ _ _ (Act.put _ (some 52) _) _
                try simp only [Act.put, List.setIfInBounds_toArray, List.set_cons_zero, List.set_cons_succ]
                refine wpAnyH_take (i := 19) (v := ?_) rfl (by kernel_rfl) (by kernel_rfl) (by kernel_rfl) (fun _ _ _ h => h) (Or.inl ⟨by rfl, ?_⟩) (by assumption) ?_
                rotate_left
                · (intro w' hSw; (try dsimp only at hSw); go_simp; try (with_reducible rfl))
                change wpAnyH _ _ _ _ _ _ _ (Act.put _ (some 53) _) _
                try simp only [Act.put, List.setIfInBounds_toArray, List.set_cons_zero, List.set_cons_succ]
                refine wpAnyH_take (i := 20) (v := ?_) rfl (by kernel_rfl) (by kernel_rfl) (by kernel_rfl) (fun _ _ _ h => h) (Or.inl ⟨by rfl, ?_⟩) (by assumption) ?_
                rotate_left
                · (intro w' hSw; (try dsimp only at hSw); go_simp; try (with_reducible rfl))
                change wpAnyH _ _ _ _ _ _ _ (Act.put _ (some 54) _) _
                try simp only [Act.put, List.setIfInBounds_toArray, List.set_cons_zero, List.set_cons_succ]
                refine wpAnyH_take (i := 21) (v := ?_) rfl (by kernel_rfl) (by kernel_rfl) (by kernel_rfl) (fun _ _ _ h => h) (Or.inl ⟨by rfl, ?_⟩) (by assumption) ?_
                rotate_left
                · (intro w' hSw; (try dsimp only at hSw); go_simp; try (with_reducible rfl))
                change wpAnyH _ _ _ _ _ _ _ (Act.put _ (some 55) _) _
                try simp only [Act.put, List.setIfInBounds_toArray, List.set_cons_zero, List.set_cons_succ]
                refine wpAnyH_take (i := 22) (v := ?_) rfl (by kernel_rfl) (by kernel_rfl) (by kernel_rfl) (fun _ _ _ h => h) (Or.inl ⟨by rfl, ?_⟩) (by assumption) ?_
                rotate_left
                · (intro w' hSw; (try dsimp only at hSw); go_simp; try (with_reducible rfl))
                change wpAnyH _ _ _ _ _ _ _ (Act.put _ (some 56) _) _
                try simp only [Act.put, List.setIfInBounds_toArray, List.set_cons_zero, List.set_cons_succ]
                refine wpAnyH_take (i := 23) (v := ?_) rfl (by kernel_rfl) (by kernel_rfl) (by kernel_rfl) (fun _ _ _ h => h) (Or.inl ⟨by rfl, ?_⟩) (by assumption) ?_
                rotate_left
                · (intro w' hSw; (try dsimp only at hSw); go_simp; try (with_reducible rfl))
                change wpAnyH _ _ _ _ _ _ _ (Act.put _ (some 57) _) _
                try simp only [Act.put, List.setIfInBounds_toArray, List.set_cons_zero, List.set_cons_succ]
                refine wpAnyH_ready (rs := [24]) (by kernel_rfl) (by simp) ?_
                refine AllReadyH.cons (i := 24) rfl (fun K hK => ?_) AllReadyH.nil
                simp only [List.getElem_toArray, List.getElem_cons_succ, List.getElem_cons_zero]
                rw [if_pos (by rfl)]
                go_simp
                (go_at_call 20; refine (C4.out _).mono ?_; rintro e w4 ⟨rfl, hb4⟩; have hk4 := keeps_cells hb4; go_wp2_with fail)
                have hOld := hHeld
                clear hHeld
                refine hK.out _ _ ?_ (fun hHeld => ?_)
                · (try dsimp only); simp [*]
                clear hK K hOld
                try simp only [Act.put, List.setIfInBounds_toArray, List.set_cons_zero, List.set_cons_succ]
                refine wpAnyH_take (i := 25) (v := ?_) rfl (by kernel_rfl) (by kernel_rfl) (by kernel_rfl) (fun _ _ _ h => h) (Or.inl ⟨by rfl, ?_⟩) (by assumption) ?_
                rotate_left
                · (intro w' hSw; (try dsimp only at hSw); go_simp; try (with_reducible rfl))
                change wpAnyH _ _ _ _ _ _ _ (Act.put _ (some 59) _) _
                try simp only [Act.put, List.setIfInBounds_toArray, List.set_cons_zero, List.set_cons_succ]
                refine wpAnyH_take (i := 26) (v := ?_) rfl (by kernel_rfl) (by kernel_rfl) (by kernel_rfl) (fun _ _ _ h => h) (Or.inl ⟨by rfl, ?_⟩) (by assumption) ?_
                rotate_left
                · (intro w' hSw; (try dsimp only at hSw); go_simp; try (with_reducible rfl))
                change wpAnyH _ _ _ _ _ _ _ (Act.put _ (some 60) _) _
                try simp only [Act.put, List.setIfInBounds_toArray, List.set_cons_zero, List.set_cons_succ]
                refine wpAnyH_take (i := 27) (v := ?_) rfl (by kernel_rfl) (by kernel_rfl) (by kernel_rfl) (fun _ _ _ h => h) (Or.inl ⟨by rfl, ?_⟩) (by assumption) ?_
                rotate_left
                · (intro w' hSw; (try dsimp only at hSw); go_simp; try (with_reducible rfl))
                change wpAnyH _ _ _ _ _ _ _ (Act.put _ (some 61) _) _
                try simp only [Act.put, List.setIfInBounds_toArray, List.set_cons_zero, List.set_cons_succ]
                refine wpAnyH_take (i := 28) (v := ?_) rfl (by kernel_rfl) (by kernel_rfl) (by kernel_rfl) (fun _ _ _ h => h) (Or.inl ⟨by rfl, ?_⟩) (by assumption) ?_
                rotate_left
                · (intro w' hSw; (try dsimp only at hSw); go_simp; try (with_reducible rfl))
                change wpAnyH _ _ _ _ _ _ _ (Act.put _ (some 62) _) _
                try simp only [Act.put, List.setIfInBounds_toArray, List.set_cons_zero, List.set_cons_succ]
                refine wpAnyH_take (i := 29) (v := ?_) rfl (by kernel_rfl) (by kernel_rfl) (by kernel_rfl) (fun _ _ _ h => h) (Or.inl ⟨by rfl, ?_⟩) (by assumption) ?_
                rotate_left
                · (intro w' hSw; (try dsimp only at hSw); go_simp; try (with_reducible rfl))
                change wpAnyH _ _ _ _ _ _ _ (Act.put _ (some 63) _) _
                try simp only [Act.put, List.setIfInBounds_toArray, List.set_cons_zero, List.set_cons_succ]
                refine wpAnyH_take (i := 30) (v := ?_) rfl (by kernel_rfl) (by kernel_rfl) (by kernel_rfl) (fun _ _ _ h => h) (Or.inl ⟨by rfl, ?_⟩) (by assumption) ?_
                rotate_left
                · (intro w' hSw; (try dsimp only at hSw); go_simp; try (with_reducible rfl))
                change wpAnyH _ _ _ _ _ _ _ (Act.put _ (some 64) _) _
                try simp only [Act.put, List.setIfInBounds_toArray, List.set_cons_zero, List.set_cons_succ]
                refine wpAnyH_take (i := 31) (v := ?_) rfl (by kernel_rfl) (by kernel_rfl) (by kernel_rfl) (fun _ _ _ h => h) (Or.inl ⟨by rfl, ?_⟩) (by assumption) ?_
                rotate_left
                · (intro w' hSw; (try dsimp only at hSw); go_simp; try (with_reducible rfl))
                change wpAnyH _ _ _ _ _ _ _ (Act.put _ (some 65) _) _
                try simp only [Act.put, List.setIfInBounds_toArray, List.set_cons_zero, List.set_cons_succ]
                refine wpAnyH_take (i := 32) (v := ?_) rfl (by kernel_rfl) (by kernel_rfl) (by kernel_rfl) (fun _ _ _ h => h) (Or.inl ⟨by rfl, ?_⟩) (by assumption) ?_
                rotate_left
                · (intro w' hSw; (try dsimp only at hSw); go_simp; try (with_reducible rfl))
                change wpAnyH _ _ _ _ _ _ _ (Act.put _ (some 66) _) _
                try simp only [Act.put, List.setIfInBounds_toArray, List.set_cons_zero, List.set_cons_succ]
                refine wpAnyH_take (i := 33) (v := ?_) rfl (by kernel_rfl) (by kernel_rfl) (by kernel_rfl) (fun _ _ _ h => h) (Or.inl ⟨by rfl, ?_⟩) (by assumption) ?_
                rotate_left
                · (intro w' hSw; (try dsimp only at hSw); go_simp; try (with_reducible rfl))
                change wpAnyH _ _ _ _ _ _ _ (Act.put _ (some 67) _) _
                try simp only [Act.put, List.setIfInBounds_toArray, List.set_cons_zero, List.set_cons_succ]
                refine wpAnyH_take (i := 34) (v := ?_) rfl (by kernel_rfl) (by kernel_rfl) (by kernel_rfl) (fun _ _ _ h => h) (Or.inl ⟨by rfl, ?_⟩) (by assumption) ?_
                rotate_left
                · (intro w' hSw; (try dsimp only at hSw); go_simp; try (with_reducible rfl))
                change wpAnyH _ _ _ _ _ _ _ (Act.put _ (some 68) _) _
                try simp only [Act.put, List.setIfInBounds_toArray, List.set_cons_zero, List.set_cons_succ]
                refine wpAnyH_take (i := 35) (v := ?_) rfl (by kernel_rfl) (by kernel_rfl) (by kernel_rfl) (fun _ _ _ h => h) (Or.inl ⟨by rfl, ?_⟩) (by assumption) ?_
                rotate_left
                · (intro w' hSw; (try dsimp only at hSw); go_simp; try (with_reducible rfl))
                change wpAnyH _ _ _ _ _ _ _ (Act.put _ (some 69) _) _
                try simp only [Act.put, List.setIfInBounds_toArray, List.set_cons_zero, List.set_cons_succ]
                refine wpAnyH_take (i := 37) (v := ?_) rfl (by kernel_rfl) (by kernel_rfl) (by kernel_rfl) (fun _ _ _ h => h) (Or.inl ⟨by rfl, ?_⟩) (by assumption) ?_
                rotate_left
                · (intro w' hSw; (try dsimp only at hSw); go_simp; try (with_reducible rfl))
                change wpAnyH _ _ _ _ _ _ _ (Act.put _ (some 71) _) _
                try simp only [Act.put, List.setIfInBounds_toArray, List.set_cons_zero, List.set_cons_succ]
                refine wpAnyH_ready (rs := [36]) (by kernel_rfl) (by simp) ?_
                refine AllReadyH.cons (i := 36) rfl (fun K hK => ?_) AllReadyH.nil
                simp only [List.getElem_toArray, List.getElem_cons_succ, List.getElem_cons_zero]
                rw [if_pos (by rfl)]
                go_simp
                (go_at_call 40; refine (C5.out _ (Rd.later (by repeat' (first | (with_reducible exact hBw) | (with_reducible refine ext_trans ?_ hb4) | (with_reducible refine ext_trans ?_ hb3) | (with_reducible refine Below.drew ?_))) f12)).mono ?_; rintro e w5 ⟨rfl, hb5⟩; have hk5 := keeps_cells hb5; go_wp2_with fail)
                have hOld := hHeld
                clear hHeld
                refine hK.out _ _ ?_ (fun hHeld => ?_)
                · (try dsimp only); simp [*]
                clear hK K hOld
                try simp only [Act.put, List.setIfInBounds_toArray, List.set_cons_zero, List.set_cons_succ]
                refine wpAnyH_take (i := 38) (v := ?_) rfl (by kernel_rfl) (by kernel_rfl) (by kernel_rfl) (fun _ _ _ h => h) (Or.inl ⟨by rfl, ?_⟩) (by assumption) ?_
                rotate_left
                · (intro w' hSw; (try dsimp only at hSw); go_simp; try (with_reducible rfl))
                change wpAnyH _ _ _ _ _ _ _ (Act.put _ (some 72) _) _
                try simp only [Act.put, List.setIfInBounds_toArray, List.set_cons_zero, List.set_cons_succ]
                refine wpAnyH_take (i := 39) (v := ?_) rfl (by kernel_rfl) (by kernel_rfl) (by kernel_rfl) (fun _ _ _ h => h) (Or.inl ⟨by rfl, ?_⟩) (by assumption) ?_
                rotate_left
                · (intro w' hSw; (try dsimp only at hSw); go_simp; try (with_reducible rfl))
                change wpAnyH _ _ _ _ _ _ _ (Act.put _ (some 73) _) _
                try simp only [Act.put, List.setIfInBounds_toArray, List.set_cons_zero, List.set_cons_succ]
                refine wpAnyH_done (by kernel_rfl) ?_ _
                go_wp2
                go_roundw
                case rel =>
                  refine ⟨k + 1, by omega, by go_num, hid (fun j hj hjk => ?_), hB.trans (Below.mono (by repeat' (first | (with_reducible exact Below.refl _ _) | (with_reducible refine ext_trans ?_ hb5) | (with_reducible refine ext_trans ?_ hb4) | (with_reducible refine ext_trans ?_ hb3) | (with_reducible refine Below.drew ?_))) hsr)⟩
                  by_cases ej : j = k
                  · subst ej; exact HGOOD.out
                  · exact HA.out j hj (by omega)
                case measure => simp [intOf]; omega
        · have hki : ¬ (k : Int) < (x.files.length : Int) := by omega
          have HG := hid (filesFine_good (fs := x.files) (fun j hj => HA.out j hj (by omega)))
          go_wp2
          rename World => wr0
          go_loopw [4] (fun i wr => ∃ k : Nat, k ≤ x.args.length ∧ i = .int .i64 (k : Int) ∧ Hid (∀ j (hj : j < x.args.length), j < k → okText x.args[j] = true) ∧ Below (w.heap.size + 1) (w.alloc (.cells #[.int .i64 x.inp.tag, .string x.inp.fs, .string x.inp.rs, .string x.inp.ofs, .string x.inp.ors, .bool x.inp.head, .int .i64 x.out.tag, .string x.out.fs, .string x.out.rs, .string x.out.ofs, .string x.out.ors, .bool x.out.head, .slice a12 x.files.length c12, .slice a13 x.args.length c13] 35)) wr) (fun i _ => x.args.length - (intOf i).toNat)
          case atStart => exact ⟨0, Nat.zero_le _, rfl, hid (fun j _ hj => absurd hj (Nat.not_lt_zero _)), hB⟩
          case round =>
            obtain ⟨m, hm', rfl, HA2, hB2⟩ := hrel
            clear z0 z1 z2 z3 z4 z5 z6 z7 z8 z9 z10 z11 z12 z13 hBw hsr
            obtain ⟨z0, z1, z2, z3, z4, z5, z6, z7, z8, z9, z10, z11, z12, z13⟩ := HBX.out _ hB2
            have hBw := HBW.out _ hB2
            have hsr := HSZ.out _ hB2
            by_cases hlt2 : m < x.args.length
            · have hF := f13
              obtain ⟨a, cap, hv, h1, h2, hF⟩ := hF
              obtain ⟨rfl, rfl⟩ : a13 = a ∧ c13 = cap := by simpa using hv
              obtain ⟨b, off, rfl, hBk, hrow⟩ := hF (by omega)
              obtain ⟨cs, hcell, hx⟩ := hrow m hlt2
              obtain ⟨hcs, g0⟩ := hx
              subst hcs
              have t0 : wr.cell? ⟨b, off + m, none⟩ = some (.string x.args[m]) := (hBw.cell (p := ⟨b, off + m, none⟩) hBk).trans (by have h9 := hcell 0 (by decide); rw [show off + m * Rd.n ByteArray + 0 = off + m from by show off + m * 1 + 0 = _; omega] at h9; exact h9)
              obtain ⟨s, hs⟩ : ∃ z, x.args[m] = z := ⟨_, rfl⟩
              rw [hs] at t0
              have HS := hid hs
              have hki2 : (m : Int) < (x.args.length : Int) := by omega
              have hk02 : (0 : Int) ≤ (m : Int) := by omega
              obtain ⟨q7, hq7⟩ : ∃ z, okText s = z := ⟨_, rfl⟩
              have C7 := hid (fun (w : World) => specTextOk s w)
              have HQ7 := hid hq7
              rw [hq7] at C7
              clear hq7 hrow hcell hs hv hF h1 h2
              go_wp2_with fail
              refine (C7.out _).mono ?_
              rintro e w7 ⟨rfl, hb7⟩
              cases q7 with
              | false =>
                have HBAD := hid (show worldOk x = false by
                  have : x.args.all okText = false := by rw [List.all_eq_false]; exact ⟨x.args[m], List.getElem_mem _, by rw [HS.out, HQ7.out]; simp⟩
                  simp only [worldOk, this, Bool.and_false])
                go_wp2
                go_ret
                exact ⟨end_bool HBAD.out.symm, ext_trans hBw (by repeat' (first | (with_reducible exact Below.refl _ _) | (with_reducible refine ext_trans ?_ hb7) | (with_reducible refine Below.drew ?_)))⟩
              | true =>
                go_wp2
                go_roundw
                case rel =>
                  refine ⟨m + 1, by omega, by go_num, hid (fun j hj hjk => ?_), hB2.trans (Below.mono (by repeat' (first | (with_reducible exact Below.refl _ _) | (with_reducible refine ext_trans ?_ hb7) | (with_reducible refine Below.drew ?_))) hsr)⟩
                  by_cases ej : j = m
                  · subst ej; rw [HS.out]; exact HQ7.out
                  · exact HA2.out j hj (by omega)
                case measure => simp [intOf]; omega
            · have hki2 : ¬ (m : Int) < (x.args.length : Int) := by omega
              have HALL := hid (show x.args.all okText = true by
                rw [List.all_eq_true]
                intro s hs
                obtain ⟨j, hj, rfl⟩ := List.mem_iff_getElem.1 hs
                exact HA2.out j hj (by omega))
              go_wp2
              go_ret
              exact ⟨end_bool (by simp [worldOk, HQ1.out, HQ2.out, HN.out, HM.out, HG.out, HALL.out]), hBw⟩
end Go.Proofs.YtkmkencodcfloaaGreatDoor
