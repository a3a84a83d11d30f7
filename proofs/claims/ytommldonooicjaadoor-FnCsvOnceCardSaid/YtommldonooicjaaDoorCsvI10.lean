/-
  What is proved here: rowsText and CsvText of impl. The conditions 'Tabs' and 'Mx' speak of the library's tables and of its MaxLen.
-/
import Derived.Test.YtommldonooicjaaDoorCsvI9
import Derived.Test.YtommldonooicjaaDoorShelfB
import Derived.Lib.OthersKept
namespace Go.Proofs.YtommldonooicjaaDoor
open Go.RowKit
set_option linter.unusedVariables false
set_option linter.unusedSimpArgs false

theorem bf_below {T e : TypeId} {B b : Nat} {bs : List Value} {w w' : World} (h : Lib.IsBuilderF T e B b bs w) (k : Below w.heap.size w w') : Lib.IsBuilderF T e B b bs w' := by
  have one : ∀ {p : Value}, Lib.BuilderAtF T e B b p bs w → Lib.BuilderAtF T e B b p bs w' := by
    intro p h
    obtain ⟨hB, v, hb, hown, hne⟩ := h
    refine ⟨hB, v, (k.block b (Array.getElem?_eq_some_iff.1 hb).1).trans hb, ⟨hown.1, ?_⟩, hne⟩
    rcases hown.2 with hn | ⟨g, cap, cur, fz, hv, hbg, hg, rest⟩
    · exact Or.inl hn
    · exact Or.inr ⟨g, cap, cur, fz, hv, hbg, (k.block g (Array.getElem?_eq_some_iff.1 hg).1).trans hg, rest⟩
  exact h.elim (fun x => Or.inl (one x)) (fun x => Or.inr (one x))
theorem joinC_snoc : ∀ (l : List (List UInt8)) (a : List UInt8), joinC (l ++ [a]) = if l = [] then a else joinC l ++ 44 :: a
  | [], a => rfl
  | [b], a => rfl
  | b :: c :: r, a => by
    have := joinC_snoc (c :: r) a
    rw [if_neg (by simp)] at this ⊢
    show b ++ 44 :: joinC (c :: r ++ [a]) = (b ++ 44 :: joinC (c :: r)) ++ 44 :: a
    rw [this]
    simp
theorem rowsT_app (a b : List (List (List UInt8))) : rowsT (a ++ b) = rowsT a ++ rowsT b := by simp [rowsT]
theorem byteCells1 (l : List UInt8) (b : UInt8) : Lib.byteCells l ++ [Value.int .u8 (b.toNat : Int)] = Lib.byteCells (l ++ [b]) := by simp [Lib.byteCells]
theorem rowsT_take (L : List (List (List UInt8))) (k : Nat) (h : k < L.length) : rowsT (L.take (k + 1)) = rowsT (L.take k) ++ (joinC (L[k].map cellT) ++ [10]) := by
  rw [List.take_add_one, List.getElem?_eq_getElem h, rowsT_app]
  congr 1
  simp [rowsT, rowT]
theorem rowsT_le (L : List (List (List UInt8))) (k : Nat) : (rowsT (L.take k)).length ≤ (rowsT L).length := by
  have : rowsT L = rowsT (L.take k) ++ rowsT (L.drop k) := by rw [← rowsT_app, List.take_append_drop]
  rw [this, List.length_append]
  omega
theorem cellT_len (t : List UInt8) : (cellT t).length ≤ 2 * t.length + 2 := by
  have := escQ_len t
  unfold cellT
  split
  · simp only [List.length_cons, List.length_append, List.length_nil]; omega
  · omega
theorem joinC_len : ∀ (cs : List (List UInt8)) (m : Nat), (∀ c ∈ cs, c.length ≤ m) → (joinC cs).length ≤ cs.length * (m + 1)
  | [], m, _ => Nat.zero_le _
  | [a], m, h => by
    have := h a (by simp)
    show a.length ≤ 1 * (m + 1)
    omega
  | a :: b :: r, m, h => by
    have h1 := h a (by simp)
    have h2 := joinC_len (b :: r) m (fun c hc => h c (by simp at hc ⊢; exact Or.inr hc))
    have e : (joinC (a :: b :: r)).length = a.length + ((joinC (b :: r)).length + 1) := by
      show (a ++ 44 :: joinC (b :: r)).length = _
      simp
    have e2 : (a :: b :: r).length * (m + 1) = (b :: r).length * (m + 1) + (m + 1) := by
      rw [show (a :: b :: r).length = (b :: r).length + 1 from rfl, Nat.succ_mul]
    omega
/-- the bytes written of a row's first cells -/
def cellsT (cs : List ByteArray) (j : Nat) : List UInt8 := joinC ((cs.take j).map fun s => cellT s.data.toList)
theorem cellsT_zero (cs : List ByteArray) : cellsT cs 0 = [] := rfl
theorem cellsT_one (cs : List ByteArray) (h : 0 < cs.length) : cellsT cs 1 = cellT cs[0].data.toList := by
  cases cs with
  | nil => simp at h
  | cons a r => rfl
theorem cellsT_succ (cs : List ByteArray) (j : Nat) (h : j < cs.length) (hj : 0 < j) : cellsT cs (j + 1) = cellsT cs j ++ [44] ++ cellT cs[j].data.toList := by
  unfold cellsT
  rw [List.take_add_one, List.getElem?_eq_getElem h, List.map_append]
  show joinC (_ ++ [cellT cs[j].data.toList]) = _
  rw [joinC_snoc, if_neg]
  · simp
  · intro e
    have := congrArg List.length e
    rw [List.length_map, List.length_take] at this
    simp only [List.length_nil] at this
    omega
theorem cellsT_all (x : CsvRow) : cellsT x.cells x.cells.length = joinC ((rowL x).map cellT) := by
  unfold cellsT rowL
  rw [List.take_length, List.map_map]
  rfl
theorem cellsT_len (cs : List ByteArray) (j : Nat) (h : ∀ s ∈ cs, s.size ≤ 1000) (hn : cs.length ≤ 100) : (cellsT cs j).length ≤ 300000 := by
  have := joinC_len ((cs.take j).map fun s => cellT s.data.toList) 2002 (fun c hc => by
    obtain ⟨s, hs, rfl⟩ := List.mem_map.1 hc
    have h1 := h s (List.mem_of_mem_take hs)
    have h2 := cellT_len s.data.toList
    rw [← Lib.size_eq] at h2
    omega)
  unfold cellsT
  rw [List.length_map, List.length_take] at this
  have h3 : min j cs.length * (2002 + 1) ≤ 100 * 2003 := Nat.mul_le_mul (by omega) (Nat.le_refl _)
  omega
theorem strCells_mk (l : List UInt8) : Lib.strCells (mkB l) = Lib.byteCells l := by
  unfold Lib.strCells Lib.byteCells
  simp [mkB]
/-- the answer of a text of rows -/
def TextRes (o : Option (List UInt8)) (e : Ending) : Prop := e = .returned (.tuple #[.string (mkB (o.getD [])), .bool o.isSome])
set_option maxHeartbeats 16000000 in
set_option maxRecDepth 100000 in
theorem implRowsText {v : Value} {xs : List CsvRow} (w : World) (hT : Tabs w) (hM : Mx w) (h : Rd.rd (Old w) w [v] xs) (hn : xs.length ≤ 1000000) :
    Calls Tryd.prog 41 #[v, .string ⟨#[44]⟩, .func (.func 42) #[] #[]] w fun e w' => TextRes (csvT (xs.map rowL)) e ∧ Below w.heap.size w w' := by
  obtain ⟨a, cap, hv, h1, h2, hF⟩ := h
  obtain rfl : v = .slice a xs.length cap := by simpa using hv
  have h : Rd.rd (Old w) w [.slice a xs.length cap] xs := ⟨a, cap, hv, h1, h2, hF⟩
  have CO := hid (implRowsOk w hT h (by omega))
  have eg : ∀ args w, (callFunc 42 args).run Tryd.prog w = .ok (.enter 42 args) w := enters_of Tryd.func42 (by kernel_rfl) rfl
  obtain ⟨L, hL⟩ : ∃ L, xs.map rowL = L := ⟨_, rfl⟩
  have hLn : L.length = xs.length := by rw [← hL, List.length_map]
  have HLK := hid (show ∀ (k : Nat) (hk : k < xs.length) (hk2 : k < L.length), L[k] = rowL xs[k] by subst hL; intro k hk hk2; rw [List.getElem_map])
  rw [hL] at CO ⊢
  have HM := hid hM
  have HF := hid hF
  have HLN := hid hLn
  clear hv h1 h2 h hL hT hM hF hLn
  cases hok : rowsOk L with
  | false =>
    have HR := hid (show csvT L = none by unfold csvT; rw [if_neg (by rw [hok]; simp)])
    rw [hok] at CO
    clear hok
    go_enter Tryd.func41, Tryd.ntmps41
    go_wp2_with fail
    refine CO.out.mono ?_
    rintro e w1 ⟨rfl, hb⟩
    go_wp2
    go_ret2
    exact ⟨by rw [HR.out] <;> rfl, hb⟩
  | true =>
    have HR := hid (show csvT L = if (rowsT L).length ≤ 4000 then some (rowsT L) else none by unfold csvT; rw [hok]; simp)
    have HOK := hid hok
    rw [hok] at CO
    clear hok
    go_enter Tryd.func41, Tryd.ntmps41
    go_wp2_with fail
    refine CO.out.mono ?_
    rintro e w1 ⟨rfl, hb1⟩
    have hI0 := Lib.IsBuilderF.of (Lib.fresh_isBuilder 98 5 w1)
    have hal := ext_alloc w1 (.cells #[.pointer none, .slice none 0 0] 98)
    obtain ⟨w2, hw2⟩ : ∃ x, w1.alloc (.cells #[.pointer none, .slice none 0 0] 98) = x := ⟨_, rfl⟩
    rw [hw2] at hI0 hal
    have hb2 := ext_trans hb1 hal
    have HI := hid hI0
    have HB := hid hb2
    have HS1 := hid (show w1.heap.size < w2.heap.size by rw [← hw2]; simp)
    have HS0 := hid hb1.size
    clear hI0 hal hb1 hb2 CO
    go_wp2
    try rw [hw2]
    clear hw2
    go_loopw [10, 11, 12, 18] (fun _ _ _ i wr => ∃ k : Nat, k ≤ xs.length ∧ i = .int .i64 (k : Int) ∧ Lib.IsBuilderF 98 5 w1.heap.size w1.heap.size (Lib.byteCells (rowsT (L.take k))) wr ∧ Below w.heap.size w wr ∧ (rowsT (L.take k)).length ≤ 4000 ∧ w1.heap.size < wr.heap.size) (fun _ _ _ i _ => xs.length - (intOf i).toNat)
    case atStart => exact ⟨0, Nat.zero_le _, rfl, HI.out, HB.out, Nat.zero_le _, HS1.out⟩
    case round =>
      obtain ⟨k, hk, rfl, hI, hb, hle, hws⟩ := hrel
      by_cases hlt : k < xs.length
      · obtain ⟨b, off, rfl, hB, hrow⟩ := HF.out (by omega)
        obtain ⟨cs, hcell, hx⟩ := hrow k hlt
        obtain ⟨ua, uc, hu, hu2⟩ := rdRow hx
        subst hu
        have t0 : wr.cell? ⟨b, off + k, none⟩ = some (.slice ua xs[k].cells.length uc) := (hb.cell (p := ⟨b, off + k, none⟩) hB).trans (by have h9 := hcell 0 (by decide); rw [show off + k * Rd.n CsvRow + 0 = off + k from by show off + k * 1 + 0 = _; omega] at h9; exact h9)
        have hkL : k < L.length := by rw [HLN.out]; exact hlt
        have hLk := HLK.out k hlt hkL
        have hro : rowOk (rowL xs[k]) = true := by
          have := HOK.out
          unfold rowsOk at this
          rw [List.all_eq_true] at this
          have h9 := this _ (List.getElem_mem hkL)
          rw [hLk] at h9
          exact h9
        have hrf := rowOk_facts hro
        have hTK := rowsT_take L k hkL
        rw [hLk, ← cellsT_all] at hTK
        obtain ⟨x, hxe⟩ : ∃ x, xs[k] = x := ⟨_, rfl⟩
        rw [hxe] at t0 hu2 hrf hTK
        have hc100 : x.cells.length ≤ 100 := by have := hrf.2.1; unfold rowL at this; rw [List.length_map] at this; exact this
        have HCS := hid (show ∀ s ∈ x.cells, s.size ≤ 1000 from fun s hs => by
          have := hrf.2.2.1 s.data.toList (List.mem_map.2 ⟨s, hs, rfl⟩)
          rw [← Lib.size_eq] at this
          exact this)
        have HCT := hid (fun j => cellsT_len x.cells j HCS.out hc100)
        have HU := hid hu2
        have HTK := hid hTK
        have HLE := hid (rowsT_le L (k + 1))
        obtain ⟨C, hC⟩ : ∃ C, x.cells = C := ⟨_, rfl⟩
        rw [hC] at t0 hc100 HCS HCT HU HTK
        obtain ⟨n, hnC⟩ : ∃ n, C.length = n := ⟨_, rfl⟩
        have HNC := hid hnC
        rw [hnC] at t0 hc100 HTK
        obtain ⟨H, hH⟩ : ∃ H, rowsT (L.take k) = H := ⟨_, rfl⟩
        rw [hH] at hI hle HTK
        have hki : (k : Int) < (xs.length : Int) := by omega
        have hk0 : (0 : Int) ≤ (k : Int) := by omega
        have hal := ext_alloc wr (.cells #[.slice none 0 0] 69)
        obtain ⟨w3, hw3⟩ : ∃ w3, (wr.alloc (.cells #[.slice none 0 0] 69)).setCell ⟨wr.heap.size, 0, none⟩ (.slice ua n uc) = w3 := ⟨_, rfl⟩
        have hb3 : Below wr.heap.size wr w3 := by rw [← hw3]; exact hal.setCell (Nat.le_refl _) _
        have HV3 := hid (show w3.heap[wr.heap.size]? = some (.cells #[.slice ua n uc] 69 (0, 0)) by rw [← hw3]; exact set_one (heap_alloc_new wr _))
        have HI3 := hid (bf_below hI hb3)
        have HB3 := hid (hb.trans (hb3.mono hb.size))
        have HS3 := hid (Nat.lt_of_lt_of_le hws hb3.size)
        clear hI hb hws hrow hcell hx hu2 hro hrf hTK hLk hkL hxe hC hnC hH hal hb3 hB
        go_upto_region 7 with fail
        try rw [hw3]
        clear hw3
        have v0 : w3.cell? ⟨wr.heap.size, 0, none⟩ = some (.slice ua n uc) := cell_of_row _ _ 0 _ _ _ HV3.out
        have vy : w3.frozen? ⟨wr.heap.size, 0, none⟩ = false := frozen_of_row _ _ 0 _ _ HV3.out
        go_wp2
        go_loopw [11, 12, 25] (fun _ _ i wx => ∃ j : Nat, j ≤ n ∧ i = .int .i64 (j : Int) ∧ Lib.IsBuilderF 98 5 w1.heap.size w1.heap.size (Lib.byteCells (H ++ cellsT C j)) wx ∧ Below w.heap.size w wx ∧ w1.heap.size < wx.heap.size) (fun _ _ i _ => n - (intOf i).toNat)
        case atStart => exact ⟨0, Nat.zero_le _, rfl, by rw [cellsT_zero, List.append_nil]; exact HI3.out, HB3.out, HS3.out⟩
        case round =>
          obtain ⟨j, hj, rfl, hI, hb, hws⟩ := hrel
          have hcl := HCT.out j
          by_cases hjn : j < n
          · obtain ⟨a2, cap2, hv2, g1, g2, hF2⟩ := HU.out
            obtain ⟨rfl, rfl⟩ : ua = a2 ∧ uc = cap2 := by simpa using hv2
            obtain ⟨b2, off2, rfl, hB2, hrow2⟩ := hF2 (by rw [HNC.out]; omega)
            have hjC : j < C.length := by rw [HNC.out]; exact hjn
            obtain ⟨cs2, hcell2, hx2⟩ := hrow2 j hjC
            obtain ⟨hcs2, f2⟩ := hx2
            subst hcs2
            have t2w : w.cell? ⟨b2, off2 + j, none⟩ = some (.string C[j]) := by have h9 := hcell2 0 (by decide); rw [show off2 + j * Rd.n ByteArray + 0 = off2 + j from by show off2 + j * 1 + 0 = _; omega] at h9; exact h9
            have t2 : wr.cell? ⟨b2, off2 + j, none⟩ = some (.string C[j]) := (hb.cell (p := ⟨b2, off2 + j, none⟩) hB2).trans t2w
            have hs1 := HCS.out C[j] (List.getElem_mem hjC)
            have hone := cellsT_one C
            have hsucc := cellsT_succ C j hjC
            obtain ⟨s, hse⟩ : ∃ s, C[j] = s := ⟨_, rfl⟩
            rw [hse] at t2 t2w hs1 hsucc
            have HT2 := hid t2w
            have HB2 := hid hB2
            have hct := cellT_len s.data.toList
            rw [← Lib.size_eq] at hct
            have hji : (j : Int) < (n : Int) := by omega
            have hj0' : (0 : Int) ≤ (j : Int) := by omega
            clear hv2 g1 g2 hF2 hrow2 hcell2 hB2 t2w
            by_cases hj0 : j = 0
            · subst hj0
              have HST := hid (show cellsT C 1 = cellT s.data.toList by rw [hone hjC, hse])
              have hjz : ¬ (0 : Int) < ((0 : Nat) : Int) := by omega
              clear hone hsucc hse
              rw [cellsT_zero, List.append_nil] at hI
              rw [Nat.add_zero] at t2
              go_wp2_with fail
              refine (implCsvCellT s _ (by omega) (mx_below HM.out hb)).mono ?_
              rintro e W1 ⟨rfl, b1⟩
              have hI1 := bf_below hI b1
              have hbW1 := hb.trans (b1.mono hb.size)
              have hsW1 := b1.size
              clear hI b1 t2
              go_wp2_with fail
              refine (Tryd.Builder_WriteString_k w1.heap.size w1.heap.size _ (mkB (cellT s.data.toList)) _ hI1 (by rw [Lib.byteCells_length, mkB_size]; (try simp only [List.length_append, List.length_cons, List.length_nil]); omega) (by omega)).mono ?_
              rintro e W2 ⟨rfl, h2, b2', k2⟩
              rw [strCells_mk, ← Lib.byteCells_append, ← HST.out] at h2
              have hbW2 := hbW1.trans (b2'.mono HS0.out)
              have hsW2 := b2'.size
              clear b2' k2 hI1
              go_wp2
              go_roundw
              case rel => exact ⟨1, by omega, by go_num, Or.inr h2, hbW2, by omega⟩
              case measure => simp [intOf]; omega
            · have HST := hid (hsucc (by omega))
              have hjz : (0 : Int) < (j : Int) := by omega
              clear hone hsucc hse hj0
              go_wp2_with fail
              refine (Tryd.Builder_WriteString_k w1.heap.size w1.heap.size _ (mkB [44]) _ hI (by rw [Lib.byteCells_length, mkB_size]; (try simp only [List.length_append, List.length_cons, List.length_nil]); omega) (by omega)).mono ?_
              rintro e W0 ⟨rfl, h0, b0, k0⟩
              rw [strCells_mk, ← Lib.byteCells_append] at h0
              have hbW0 := hb.trans (b0.mono HS0.out)
              have hsW0 := b0.size
              have t2' : W0.cell? ⟨b2, off2 + j, none⟩ = some (.string s) := (hbW0.cell (p := ⟨b2, off2 + j, none⟩) HB2.out).trans HT2.out
              clear hI b0 k0 t2
              go_wp2_with fail
              refine (implCsvCellT s _ (by omega) (mx_below HM.out hbW0)).mono ?_
              rintro e W1 ⟨rfl, b1⟩
              have hI1 := bf_below (Or.inr h0) b1
              have hbW1 := hbW0.trans (b1.mono hbW0.size)
              have hsW1 := b1.size
              clear h0 b1 t2'
              go_wp2_with fail
              refine (Tryd.Builder_WriteString_k w1.heap.size w1.heap.size _ (mkB (cellT s.data.toList)) _ hI1 (by rw [Lib.byteCells_length, mkB_size]; (try simp only [List.length_append, List.length_cons, List.length_nil]); omega) (by omega)).mono ?_
              rintro e W2 ⟨rfl, h2, b2', k2⟩
              rw [strCells_mk, ← Lib.byteCells_append, List.append_assoc, List.append_assoc, ← List.append_assoc (cellsT C j), ← HST.out] at h2
              have hbW2 := hbW1.trans (b2'.mono HS0.out)
              have hsW2 := b2'.size
              clear b2' k2 hI1
              go_wp2
              go_roundw
              case rel => exact ⟨j + 1, by omega, by go_num, Or.inr h2, hbW2, by omega⟩
              case measure => simp [intOf]; omega
          · obtain rfl : j = n := by omega
            have hji : ¬ (j : Int) < (j : Int) := by omega
            obtain ⟨H1, hH1⟩ : ∃ H1, rowsT (L.take (k + 1)) = H1 := ⟨_, rfl⟩
            have HH1 := hid hH1
            have HTK1 := hid (show H1 = H ++ (cellsT C j ++ [10]) by rw [← hH1]; exact HTK.out)
            clear hH1 hjn
            go_wp2_with fail
            refine (Tryd.Builder_WriteByte_k w1.heap.size w1.heap.size _ (((10 : UInt8).toNat : Int)) _ hI (by rw [Lib.byteCells_length]; simp only [List.length_append]; omega) (by omega)).mono ?_
            rintro e W1 ⟨rfl, h1, b1, k1⟩
            rw [byteCells1, List.append_assoc, ← HTK1.out] at h1
            have hbW1 := hb.trans (b1.mono HS0.out)
            have hsW1 := b1.size
            clear hI b1 k1 hb
            go_wp2_with fail
            refine (Tryd.Builder_Len_f w1.heap.size w1.heap.size _ _ (Or.inr h1)).mono ?_
            rintro e W2 ⟨rfl, rfl⟩
            rw [Lib.byteCells_length]
            by_cases hbig : 4000 < H1.length
            · have hbi : (4000 : Int) < (H1.length : Int) := by omega
              have HRR := hid (show csvT L = none by rw [HR.out, if_neg]; have := HLE.out; rw [HH1.out] at this; omega)
              clear hbig
              go_wp2
              go_ret2
              exact ⟨by rw [HRR.out] <;> rfl, hbW1⟩
            · have hbi : ¬ (4000 : Int) < (H1.length : Int) := by omega
              go_wp2
              go_roundw
              case rel => exact ⟨k + 1, by omega, by go_num, by rw [HH1.out]; exact Or.inr h1, hbW1, by rw [HH1.out]; omega, by omega⟩
              case measure => simp [intOf]; omega
      · obtain rfl : k = xs.length := by omega
        have e1 : L.take xs.length = L := by rw [← HLN.out, List.take_length]
        rw [e1] at hI hle
        have HRR := hid (show csvT L = some (rowsT L) by rw [HR.out, if_pos hle])
        have hki : ¬ (xs.length : Int) < (xs.length : Int) := by omega
        clear hlt e1
        go_wp2_with fail
        refine (Tryd.Builder_String_any_k w1.heap.size w1.heap.size _ _ hI (by omega)).mono ?_
        rintro e W1 ⟨rfl, _, b1, _⟩
        have HB1 := hid (hb.trans (b1.mono HS0.out))
        go_wp2
        go_ret2
        exact ⟨by rw [HRR.out] <;> rfl, HB1.out⟩
end Go.Proofs.YtommldonooicjaaDoor
