/-
  What is proved here: CsvText of impl; a cell written by spec. The conditions 'Tabs' and 'Mx' speak of the library's tables and of its MaxLen.
  What is proved here: RowsOk of spec. No condition.
  What is proved here: plain laws on rows with tabs: reading, writing, that rows are recovered from their text, and the lines of that text. No program in sight; no condition.
  What is proved here: impl.cellText writes a cell. No condition but its length.
  What is proved here: rowsText of impl at tabs. The condition 'Tabs' speaks of the library's tables.
  What is proved here: spec.CellText writes a cell that is a text. No condition besides.
  What is proved here: TsvText of spec. No condition.
  What is proved here: the cell reader at tabs in impl: a cell. No condition but that the reader lies in memory.
  What is proved here: the cell reader at tabs in impl: a row. No condition but that the reader lies in memory.
  What is proved here: TsvRead in impl. The condition 'Tabs' says that the library's tables for UTF-8 lie in the world.
  What is proved here: the reference's splitting at ends of lines, and its Lines of a text that ends with the end of a line. No condition.
  What is proved here: DrawTsvText, TsvText of impl; the walk of FnTsvBack: the law returns true at every code. The condition 'Tabs' speaks of the library's tables.
-/
import Derived.Test.YtcebgmdcbdggeaaGreatDoorCsvI10
import Derived.Test.YtcebgmdcbdggeaaGreatDoorCsvLaw
import Derived.Test.YtcebgmdcbdggeaaGreatDoorRepl
import Derived.Test.YtcebgmdcbdggeaaGreatDoorSplitLaw
import Derived.Test.YtcebgmdcbdggeaaGreatDoorRpA
import Derived.Test.YtcebgmdcbdggeaaGreatDoorPartS
import Derived.Test.YtcebgmdcbdggeaaGreatDoorValOk
import Derived.Test.YtcebgmdcbdggeaaGreatDoorCsvI9
import Derived.Lib.AppendStr
import Derived.Test.YtcebgmdcbdggeaaGreatDoorCsvI4
import Derived.Laws.AppendOwn
import Derived.Laws.Build
import Derived.Test.YtcebgmdcbdggeaaGreatDoorCsvI5
import Derived.Deep.AppendLies
import Derived.Test.YtcebgmdcbdggeaaGreatDoorFileOk
import Derived.Test.YtcebgmdcbdggeaaGreatDoorLen
import Derived.Test.YtcebgmdcbdggeaaGreatDoorRowLaw
import Derived.Test.YtcebgmdcbdggeaaGreatDoorCsvDraw
import Derived.Test.YtcebgmdcbdggeaaGreatDoorCsvSame
namespace Go.Proofs.YtcebgmdcbdggeaaGreatDoor
open Go.RowKit
set_option linter.unusedVariables false
set_option linter.unusedSimpArgs false

end Go.Proofs.YtcebgmdcbdggeaaGreatDoor

namespace Go.Proofs.YtcebgmdcbdggeaaGreatDoor
open Go.RowKit
set_option linter.unusedVariables false
set_option linter.unusedSimpArgs false

theorem rowOk_len {x : CsvRow} (h : inB 1 (x.cells.length : Int) 100 = false) : rowOk (rowL x) = false := by rw [rowOk_def, h]; rfl
theorem rowOk_cell {x : CsvRow} {j : Nat} (hj : j < x.cells.length) (h : okText x.cells[j] = false) : rowOk (rowL x) = false := by
  rw [rowOk_def]
  have : (x.cells.any fun s => !(okText s)) = true := List.any_eq_true.2 ⟨_, List.getElem_mem hj, by rw [h]; rfl⟩
  rw [this, Bool.or_true]
  rfl
theorem rowOk_all {x : CsvRow} (h : inB 1 (x.cells.length : Int) 100 = true) (ha : ∀ j (hj : j < x.cells.length), okText x.cells[j] = true) : rowOk (rowL x) = true := by
  rw [rowOk_def, h]
  have : (x.cells.any fun s => !(okText s)) = false := by
    rw [List.any_eq_false]
    intro s hs
    obtain ⟨j, hj, rfl⟩ := List.getElem_of_mem hs
    rw [ha j hj]
    simp
  rw [this]
  rfl
theorem rowsOk_no {xs : List CsvRow} {k : Nat} (hk : k < xs.length) (h : rowOk (rowL xs[k]) = false) : rowsOk (xs.map rowL) = false := by
  unfold rowsOk
  rw [List.all_map, List.all_eq_false]
  exact ⟨_, List.getElem_mem hk, by show ¬ (rowOk (rowL xs[k]) = true); rw [h]; simp⟩
theorem rowsOk_yes {xs : List CsvRow} (h : ∀ k (hk : k < xs.length), rowOk (rowL xs[k]) = true) : rowsOk (xs.map rowL) = true := by
  unfold rowsOk
  rw [List.all_map, List.all_eq_true]
  intro x hx
  obtain ⟨j, hj, rfl⟩ := List.getElem_of_mem hx
  exact h j hj
set_option maxHeartbeats 8000000 in
set_option maxRecDepth 100000 in
theorem specRowsOk {v : Value} {xs : List CsvRow} (w : World) (h : Rd.rd (Old w) w [v] xs) (hn : xs.length ≤ 1000000) :
    Calls Tryz.prog 15 #[v] w fun e w' => e = .returned (.bool (rowsOk (xs.map rowL))) ∧ Below w.heap.size w w' := by
  obtain ⟨a, cap, hv, h1, h2, hF⟩ := h
  obtain rfl : v = .slice a xs.length cap := by simpa using hv
  have HF := hid hF
  clear hv h1 h2 hF
  go_enter Tryz.func15, Tryz.ntmps15
  go_wp2
  go_loopw [3, 4] (fun i _ wr => ∃ k : Nat, k ≤ xs.length ∧ i = .int .i64 (k : Int) ∧ Below w.heap.size w wr ∧ Hid (∀ j (hj : j < xs.length), j < k → rowOk (rowL xs[j]) = true)) (fun i _ _ => xs.length - (intOf i).toNat)
  case atStart => exact ⟨0, Nat.zero_le _, rfl, Below.refl _ _, hid (fun j _ hj => absurd hj (Nat.not_lt_zero _))⟩
  case round =>
    obtain ⟨k, hk, rfl, hb, HA⟩ := hrel
    by_cases hlt : k < xs.length
    · obtain ⟨b, off, rfl, hB, hrow⟩ := HF.out (by omega)
      obtain ⟨cs, hcell, hx⟩ := hrow k hlt
      obtain ⟨ua, uc, hu, hu2⟩ := rdRow hx
      subst hu
      have t0w : w.cell? ⟨b, off + k, none⟩ = some (.slice ua xs[k].cells.length uc) := by have h9 := hcell 0 (by decide); rw [show off + k * Rd.n CsvRow + 0 = off + k from by show off + k * 1 + 0 = _; omega] at h9; exact h9
      have t0 : wr.cell? ⟨b, off + k, none⟩ = some (.slice ua xs[k].cells.length uc) := (hb.cell (p := ⟨b, off + k, none⟩) hB).trans t0w
      obtain ⟨x, hxe⟩ : ∃ x, xs[k] = x := ⟨_, rfl⟩
      have HX := hid hxe
      have HNO := hid (fun (h : rowOk (rowL x) = false) => rowsOk_no hlt (by rw [hxe]; exact h))
      rw [hxe] at t0 t0w hu2
      have HU := hid hu2
      have HT0 := hid t0w
      have HB := hid hB
      obtain ⟨n, hnx⟩ : ∃ n, x.cells.length = n := ⟨_, rfl⟩
      have HN := hid hnx
      rw [hnx] at t0 HT0
      have hki : (k : Int) < (xs.length : Int) := by omega
      have hk0 : (0 : Int) ≤ (k : Int) := by omega
      have CW := hid (fun w => between_any (n : Int) 1 100 w)
      clear hrow hcell hx hu2 hxe t0w hB hnx
      cases hin : inB 1 (n : Int) 100 with
      | false =>
        have HR := hid (HNO.out (rowOk_len (by rw [HN.out]; exact hin)))
        rw [hin] at CW
        clear hin
        go_wp2_with fail
        refine (CW.out _).mono ?_
        rintro e w1 ⟨rfl, rfl⟩
        go_wp2
        go_ret
        exact ⟨by rw [HR.out] <;> rfl, hb⟩
      | true =>
        have HIN := hid hin
        have hn100 : n ≤ 100 := by
          have h9 := hin
          unfold inB at h9
          simp only [decide_eq_true_eq, Bool.and_eq_true] at h9
          omega
        rw [hin] at CW
        clear hin
        go_wp2_with fail
        refine (CW.out _).mono ?_
        rintro e w1 ⟨rfl, rfl⟩
        have HB0 := hid hb
        go_wp2
        go_loopw [4] (fun i wr => ∃ j : Nat, j ≤ n ∧ i = .int .i64 (j : Int) ∧ Below w.heap.size w wr ∧ Hid (∀ q (hq : q < x.cells.length), q < j → okText x.cells[q] = true)) (fun i _ => n - (intOf i).toNat)
        case atStart => exact ⟨0, Nat.zero_le _, rfl, HB0.out, hid (fun q _ hq => absurd hq (Nat.not_lt_zero _))⟩
        case round =>
          obtain ⟨j, hj, rfl, hb, HC⟩ := hrel
          have t0 : wr.cell? ⟨b, off + k, none⟩ = some (.slice ua n uc) := (hb.cell (p := ⟨b, off + k, none⟩) HB.out).trans HT0.out
          by_cases hjn : j < n
          · obtain ⟨a2, cap2, hv2, g1, g2, hF2⟩ := HU.out
            obtain ⟨rfl, rfl⟩ : ua = a2 ∧ uc = cap2 := by simpa using hv2
            obtain ⟨b2, off2, rfl, hB2, hrow2⟩ := hF2 (by rw [HN.out]; omega)
            have hjC : j < x.cells.length := by rw [HN.out]; exact hjn
            obtain ⟨cs2, hcell2, hx2⟩ := hrow2 j hjC
            obtain ⟨hcs2, f2⟩ := hx2
            subst hcs2
            have t2 : wr.cell? ⟨b2, off2 + j, none⟩ = some (.string x.cells[j]) := (hb.cell (p := ⟨b2, off2 + j, none⟩) hB2).trans (by have h9 := hcell2 0 (by decide); rw [show off2 + j * Rd.n ByteArray + 0 = off2 + j from by show off2 + j * 1 + 0 = _; omega] at h9; exact h9)
            have HNC := hid (fun (h : okText x.cells[j] = false) => HNO.out (rowOk_cell hjC h))
            obtain ⟨s, hse⟩ : ∃ s, x.cells[j] = s := ⟨_, rfl⟩
            rw [hse] at t2 HNC
            have HSE := hid hse
            have hji : (j : Int) < (n : Int) := by omega
            have hj0 : (0 : Int) ≤ (j : Int) := by omega
            have CT := hid (specTextOk s wr)
            obtain ⟨q, hq⟩ : ∃ q, okText s = q := ⟨_, rfl⟩
            rw [hq] at CT HNC
            have HQ := hid hq
            clear hv2 g1 g2 hF2 hrow2 hcell2 hB2 hse hq
            cases q with
            | false =>
              have HR := hid (HNC.out rfl)
              clear HNC
              go_wp2_with fail
              refine CT.out.mono ?_
              rintro e w1 ⟨rfl, hb1⟩
              go_wp2
              go_ret
              exact ⟨by rw [HR.out] <;> rfl, hb.trans (hb1.mono hb.size)⟩
            | true =>
              clear HNC
              go_wp2_with fail
              refine CT.out.mono ?_
              rintro e w1 ⟨rfl, hb1⟩
              have hb2 := hb.trans (hb1.mono hb.size)
              clear hb1 t0 t2
              go_wp2
              go_roundw
              case rel =>
                refine ⟨j + 1, by omega, by go_num, hb2, hid (fun q hq hqj => ?_)⟩
                by_cases e : q = j
                · subst e; rw [HSE.out]; exact HQ.out
                · exact HC.out q hq (by omega)
              case measure => simp [intOf]; omega
          · obtain rfl : j = n := by omega
            have hji : ¬ (j : Int) < (j : Int) := by omega
            have hroX : rowOk (rowL x) = true := rowOk_all (by rw [HN.out]; exact HIN.out) (fun q hq => HC.out q hq (by rw [← HN.out]; exact hq))
            have HRO := hid hroX
            clear hroX
            go_wp2
            go_roundw
            case rel =>
              refine ⟨k + 1, by omega, by go_num, hb, hid (fun q hq hqk => ?_)⟩
              by_cases e : q = k
              · subst e; rw [HX.out]; exact HRO.out
              · exact HA.out q hq (by omega)
            case measure => simp [intOf]; omega
    · have hki : ¬ (k : Int) < (xs.length : Int) := by omega
      have HR := hid (rowsOk_yes (xs := xs) (fun j hj => HA.out j hj (by omega)))
      go_wp2
      go_ret
      exact ⟨by rw [HR.out] <;> rfl, hb⟩
end Go.Proofs.YtcebgmdcbdggeaaGreatDoor

namespace Go.Proofs.YtcebgmdcbdggeaaGreatDoor
open Go.RowKit
set_option linter.unusedVariables false
set_option linter.unusedSimpArgs false

/-- what a letter behind a backslash stands for -/
def escB (b : UInt8) : Option UInt8 := if b = 116 then some 9 else if b = 110 then some 10 else if b = 114 then some 13 else if b = 92 then some 92 else none
/-- a cell off a place, behind what is read: a code, the place behind it or of the fault, the text -/
def tcA : List UInt8 → Nat → List UInt8 → Nat × Nat × List UInt8
  | [], p, t => (0, p, t)
  | [c], p, t => if c = 9 ∨ c = 10 then (0, p, t) else if c = 92 then (7, p, []) else (0, p + 1, t ++ [c])
  | c :: d :: r, p, t => if c = 9 ∨ c = 10 then (0, p, t) else if c = 92 then (match escB d with | none => (7, p, []) | some x => tcA r (p + 2) (t ++ [x])) else tcA (d :: r) (p + 1) (t ++ [c])
theorem tcA_end {c : UInt8} (r : List UInt8) (p : Nat) (t : List UInt8) (h : c = 9 ∨ c = 10) : tcA (c :: r) p t = (0, p, t) := by
  cases r with
  | nil => rw [tcA, if_pos h]
  | cons d r => rw [tcA, if_pos h]
theorem tcA_plain {c : UInt8} (r : List UInt8) (p : Nat) (t : List UInt8) (h : ¬ (c = 9 ∨ c = 10)) (h2 : c ≠ 92) : tcA (c :: r) p t = tcA r (p + 1) (t ++ [c]) := by
  cases r with
  | nil =>
    show (if c = 9 ∨ c = 10 then (0, p, t) else if c = 92 then (7, p, []) else (0, p + 1, t ++ [c])) = _
    rw [if_neg h, if_neg h2]
    rfl
  | cons d r => rw [tcA, if_neg h, if_neg h2]
theorem tcA_esc (d : UInt8) (r : List UInt8) (p : Nat) (t : List UInt8) : tcA (92 :: d :: r) p t = match escB d with | none => (7, p, []) | some x => tcA r (p + 2) (t ++ [x]) := by
  rw [tcA, if_neg (by decide), if_pos rfl]
theorem tcA_last (p : Nat) (t : List UInt8) : tcA [92] p t = (7, p, []) := by
  rw [tcA, if_neg (by decide), if_pos rfl]
/-- the signs that are written with a backslash -/
def psT : List (UInt8 × UInt8) := [(92, 92), (9, 116), (10, 110), (13, 114)]
def tcT (t : List UInt8) : List UInt8 := replL psT t
theorem replL_nil (ps : List (UInt8 × UInt8)) : replL ps [] = [] := rfl
theorem replL_cons (ps : List (UInt8 × UInt8)) (c : UInt8) (t : List UInt8) : replL ps (c :: t) = replB ps c ++ replL ps t := by simp [replL]
theorem replB_psT (c : UInt8) : replB psT c = if c = 92 then [92, 92] else if c = 9 then [92, 116] else if c = 10 then [92, 110] else if c = 13 then [92, 114] else [c] := by
  unfold replB psT rep rep rep rep rep
  by_cases h1 : c = 92
  · subst h1; rfl
  · by_cases h2 : c = 9
    · subst h2; rfl
    · by_cases h3 : c = 10
      · subst h3; rfl
      · by_cases h4 : c = 13
        · subst h4; rfl
        · rw [if_neg h1, if_neg h2, if_neg h3, if_neg h4, if_neg (Ne.symm h1), if_neg (Ne.symm h2), if_neg (Ne.symm h3), if_neg (Ne.symm h4)]
def joinT : List (List UInt8) → List UInt8
  | [] => []
  | [a] => a
  | a :: b :: r => a ++ 9 :: joinT (b :: r)
def rowTT (cs : List (List UInt8)) : List UInt8 := joinT (cs.map tcT) ++ [10]
def rowsTT (rs : List (List (List UInt8))) : List UInt8 := (rs.map rowTT).flatten
/-- the text of rows -/
def tsvT (rs : List (List (List UInt8))) : Option (List UInt8) := if rowsOk rs = true ∧ (rowsTT rs).length ≤ 4000 then some (rowsTT rs) else none
/-- a row of at most so many cells more, off a place: a code, the place behind it or of the fault, the cells -/
def trowP (L : List UInt8) : Nat → Nat → List (List UInt8) → Nat × Nat × List (List UInt8)
  | 0, p, _ => (5, p, [])
  | k + 1, p, cs =>
    if (tcA (L.drop p) p []).1 ≠ 0 then ((tcA (L.drop p) p []).1, (tcA (L.drop p) p []).2.1, [])
    else if 1000 < (tcA (L.drop p) p []).2.2.length then (6, p, [])
    else match (L.drop (tcA (L.drop p) p []).2.1).head? with
      | none => (0, (tcA (L.drop p) p []).2.1, cs ++ [(tcA (L.drop p) p []).2.2])
      | some c => if c = 10 then (0, (tcA (L.drop p) p []).2.1 + 1, cs ++ [(tcA (L.drop p) p []).2.2]) else trowP L k ((tcA (L.drop p) p []).2.1 + 1) (cs ++ [(tcA (L.drop p) p []).2.2])
theorem trowP_zero (L : List UInt8) (p : Nat) (cs : List (List UInt8)) : trowP L 0 p cs = (5, p, []) := by rw [trowP]
theorem trowP_succ (L : List UInt8) (k p : Nat) (cs : List (List UInt8)) {c q : Nat} {t : List UInt8} (h : tcA (L.drop p) p [] = (c, q, t)) : trowP L (k + 1) p cs =
    if c ≠ 0 then (c, q, []) else if 1000 < t.length then (6, p, []) else match (L.drop q).head? with | none => (0, q, cs ++ [t]) | some c => if c = 10 then (0, q + 1, cs ++ [t]) else trowP L k (q + 1) (cs ++ [t]) := by
  rw [trowP, h]
/-- the rows off a place: rows, a place, a code -/
def readT (L : List UInt8) : Nat → Nat → List (List (List UInt8)) → List (List (List UInt8)) × Nat × Nat
  | 0, p, rs => (rs, 0, 0)
  | f + 1, p, rs => if L.length ≤ p then (rs, 0, 0) else if (trowP L 100 p []).1 ≠ 0 then (rs, (trowP L 100 p []).2.1, (trowP L 100 p []).1) else readT L f (trowP L 100 p []).2.1 (rs ++ [(trowP L 100 p []).2.2])
def tsvR (s : ByteArray) : List (List (List UInt8)) × Nat × Nat := if fileOk s = true then readT s.data.toList s.size 0 [] else ([], 0, 1)
/-! ### how far reading comes -/
theorem tcA_le : ∀ (l : List UInt8) (p : Nat) (t : List UInt8), p ≤ (tcA l p t).2.1 ∧ (tcA l p t).2.1 ≤ p + l.length ∧ (tcA l p t).2.2.length ≤ t.length + l.length
  | [], p, t => by rw [tcA]; exact ⟨Nat.le_refl _, Nat.le_refl _, Nat.le_refl _⟩
  | [c], p, t => by
    rw [tcA]
    split
    · exact ⟨Nat.le_refl _, Nat.le_add_right _ _, Nat.le_add_right _ _⟩
    · split
      · exact ⟨Nat.le_refl _, Nat.le_add_right _ _, Nat.zero_le _⟩
      · refine ⟨Nat.le_add_right _ _, Nat.le_refl _, ?_⟩
        simp
  | c :: d :: r, p, t => by
    rw [tcA]
    split
    · exact ⟨Nat.le_refl _, Nat.le_add_right _ _, Nat.le_add_right _ _⟩
    · split
      · cases escB d with
        | none => exact ⟨Nat.le_refl _, Nat.le_add_right _ _, Nat.zero_le _⟩
        | some x =>
          have := tcA_le r (p + 2) (t ++ [x])
          simp only [List.length_append, List.length_cons, List.length_nil] at this ⊢
          omega
      · have := tcA_le (d :: r) (p + 1) (t ++ [c])
        simp only [List.length_append, List.length_cons, List.length_nil] at this ⊢
        omega
/-! ### what is written is read -/
/-- what stands behind a cell in a text -/
def sepT (l : List UInt8) : Prop := l.head? = some 9 ∨ l.head? = some 10
theorem sepT_cons {l : List UInt8} (h : sepT l) : ∃ c r, l = c :: r ∧ (c = 9 ∨ c = 10) := by
  cases l with
  | nil => rcases h with h | h <;> cases h
  | cons c r => exact ⟨c, r, rfl, by rcases h with h | h <;> (injection h with h; simp [h])⟩
theorem tc_run : ∀ (t : List UInt8) (p : Nat) (a rest : List UInt8), sepT rest → tcA (tcT t ++ rest) p a = (0, p + (tcT t).length, a ++ t)
  | [], p, a, rest, hr => by
    obtain ⟨c, r, rfl, h⟩ := sepT_cons hr
    show tcA (c :: r) p a = _
    rw [tcA_end r p a h]
    simp [tcT, replL]
  | c :: t, p, a, rest, hr => by
    have e : tcT (c :: t) = replB psT c ++ tcT t := replL_cons psT c t
    rw [e, replB_psT]
    by_cases h1 : c = 92
    · subst h1
      rw [if_pos rfl]
      show tcA (92 :: 92 :: (tcT t ++ rest)) p a = _
      rw [tcA_esc]
      show tcA (tcT t ++ rest) (p + 2) (a ++ [92]) = _
      rw [tc_run t _ _ rest hr]
      simp only [List.length_append, List.length_cons, List.length_nil, List.append_assoc, List.singleton_append, Prod.mk.injEq, true_and, and_true]
      omega
    · rw [if_neg h1]
      by_cases h2 : c = 9
      · subst h2
        rw [if_pos rfl]
        show tcA (92 :: 116 :: (tcT t ++ rest)) p a = _
        rw [tcA_esc]
        show tcA (tcT t ++ rest) (p + 2) (a ++ [9]) = _
        rw [tc_run t _ _ rest hr]
        simp only [List.length_append, List.length_cons, List.length_nil, List.append_assoc, List.singleton_append, Prod.mk.injEq, true_and, and_true]
        omega
      · rw [if_neg h2]
        by_cases h3 : c = 10
        · subst h3
          rw [if_pos rfl]
          show tcA (92 :: 110 :: (tcT t ++ rest)) p a = _
          rw [tcA_esc]
          show tcA (tcT t ++ rest) (p + 2) (a ++ [10]) = _
          rw [tc_run t _ _ rest hr]
          simp only [List.length_append, List.length_cons, List.length_nil, List.append_assoc, List.singleton_append, Prod.mk.injEq, true_and, and_true]
          omega
        · rw [if_neg h3]
          by_cases h4 : c = 13
          · subst h4
            rw [if_pos rfl]
            show tcA (92 :: 114 :: (tcT t ++ rest)) p a = _
            rw [tcA_esc]
            show tcA (tcT t ++ rest) (p + 2) (a ++ [13]) = _
            rw [tc_run t _ _ rest hr]
            simp only [List.length_append, List.length_cons, List.length_nil, List.append_assoc, List.singleton_append, Prod.mk.injEq, true_and, and_true]
            omega
          · rw [if_neg h4]
            show tcA (c :: (tcT t ++ rest)) p a = _
            rw [tcA_plain _ _ _ (by rintro (h | h); exact h2 h; exact h3 h) h1, tc_run t _ _ rest hr]
            simp only [List.length_append, List.length_cons, List.length_nil, List.append_assoc, List.singleton_append, Prod.mk.injEq, true_and, and_true]
            omega
theorem trow_run {L : List UInt8} : ∀ (ts : List (List UInt8)) (k p : Nat) (cs : List (List UInt8)) (rest : List UInt8), ts ≠ [] → ts.length ≤ k → (∀ t ∈ ts, t.length ≤ 1000) → L.drop p = joinT (ts.map tcT) ++ 10 :: rest →
    trowP L k p cs = (0, p + (joinT (ts.map tcT)).length + 1, cs ++ ts)
  | [], _, _, _, _, h, _, _, _ => absurd rfl h
  | [t], k, p, cs, rest, _, hk, hl, hd => by
    obtain ⟨k, rfl⟩ : ∃ j, k = j + 1 := ⟨k - 1, by simp at hk; omega⟩
    have hd' : L.drop p = tcT t ++ 10 :: rest := hd
    have hc := tc_run t p [] (10 :: rest) (Or.inr rfl)
    rw [← hd'] at hc
    have hend := drop_more hd'
    have ht := hl t (by simp)
    rw [trowP_succ L k p cs hc, if_neg (by simp), if_neg (by simp; omega), hend]
    rfl
  | t :: u :: ts, k, p, cs, rest, _, hk, hl, hd => by
    obtain ⟨k, rfl⟩ : ∃ j, k = j + 1 := ⟨k - 1, by simp at hk; omega⟩
    have hd' : L.drop p = tcT t ++ (9 :: (joinT ((u :: ts).map tcT) ++ 10 :: rest)) := by
      rw [hd]; simp [joinT]
    have hc := tc_run t p [] (9 :: (joinT ((u :: ts).map tcT) ++ 10 :: rest)) (Or.inl rfl)
    rw [← hd'] at hc
    have hend := drop_more hd'
    have hnext : L.drop (p + (tcT t).length + 1) = joinT ((u :: ts).map tcT) ++ 10 :: rest := by
      rw [← List.drop_drop, hend]; rfl
    have ht := hl t (by simp)
    have ih := trow_run (u :: ts) k (p + (tcT t).length + 1) (cs ++ [t]) rest (by simp) (by simp at hk ⊢; omega) (fun x hx => hl x (by simp at hx ⊢; exact Or.inr hx)) hnext
    rw [trowP_succ L k p cs hc, if_neg (by simp), if_neg (by simp; omega), hend]
    show trowP L k (p + (tcT t).length + 1) (cs ++ [t]) = _
    rw [ih]
    have e : joinT ((t :: u :: ts).map tcT) = tcT t ++ 9 :: joinT ((u :: ts).map tcT) := rfl
    rw [e]
    simp only [List.length_append, List.length_cons, List.append_assoc, List.singleton_append, Prod.mk.injEq, true_and, and_true]
    omega
theorem trows_run {L : List UInt8} : ∀ (rs : List (List (List UInt8))) (f p : Nat) (acc : List (List (List UInt8))), rs.length ≤ f → (∀ r ∈ rs, r ≠ [] ∧ r.length ≤ 100 ∧ ∀ t ∈ r, t.length ≤ 1000) → L.drop p = rowsTT rs → readT L f p acc = (acc ++ rs, 0, 0)
  | [], f, p, acc, _, _, hd => by
    cases f with
    | zero => rw [readT, List.append_nil]
    | succ f =>
      have : L.length ≤ p := by
        have := congrArg List.length hd
        rw [List.length_drop] at this
        simp [rowsTT] at this
        omega
      rw [readT, if_pos this, List.append_nil]
  | r :: rs, f, p, acc, hf, hr, hd => by
    obtain ⟨f, rfl⟩ : ∃ j, f = j + 1 := ⟨f - 1, by simp at hf; omega⟩
    obtain ⟨h1, h2, h3⟩ := hr r (by simp)
    have hd' : L.drop p = joinT (r.map tcT) ++ 10 :: rowsTT rs := by
      rw [hd]; simp [rowsTT, rowTT]
    have hlen : ¬ L.length ≤ p := by
      intro h
      rw [List.drop_eq_nil_of_le h] at hd'
      exact absurd hd'.symm (by simp)
    have hrow := trow_run r 100 p [] (rowsTT rs) h1 h2 h3 hd'
    have hnext : L.drop (p + (joinT (r.map tcT)).length + 1) = rowsTT rs := by
      rw [← List.drop_drop, drop_more hd']; rfl
    rw [readT, if_neg hlen, hrow]
    dsimp only
    rw [if_neg (by simp), trows_run rs f _ _ (by simp at hf; omega) (fun x hx => hr x (by simp [hx])) hnext]
    simp
/-! ### the text of rows is a file's -/
theorem replL_app (ps : List (UInt8 × UInt8)) (a b : List UInt8) : replL ps (a ++ b) = replL ps a ++ replL ps b := by simp [replL]
theorem tcT_same : ∀ {l : List UInt8}, (∀ c ∈ l, 128 ≤ c.toNat) → tcT l = l
  | [], _ => rfl
  | c :: l, h => by
    have hc := h c (by simp)
    have e : tcT (c :: l) = replB psT c ++ tcT l := replL_cons psT c l
    rw [e, replB_psT, if_neg (fun h => by subst h; revert hc; decide), if_neg (fun h => by subst h; revert hc; decide), if_neg (fun h => by subst h; revert hc; decide), if_neg (fun h => by subst h; revert hc; decide), tcT_same (fun x hx => h x (by simp [hx]))]
    rfl
theorem tcT_one_ok {c : UInt8} (h : 1 ≤ c.toNat ∧ c.toNat < 128) : okL (tcT [c]) := by
  have e : tcT [c] = replB psT c ++ [] := replL_cons psT c []
  rw [e, List.append_nil, replB_psT]
  repeat' split
  · exact okL_cons (by decide) (okL_one (by decide))
  · exact okL_cons (by decide) (okL_one (by decide))
  · exact okL_cons (by decide) (okL_one (by decide))
  · exact okL_cons (by decide) (okL_one (by decide))
  · exact okL_one h
theorem tcT_ok {t : List UInt8} (h : okL t) : okL (tcT t) := by
  obtain ⟨rs, h1, rfl⟩ := okL_texts.1 h
  clear h
  induction rs with
  | nil => exact okL_nil
  | cons c rs ih =>
    have ih' := ih (fun x hx => h1 x (by simp [hx]))
    have e : texts (c :: rs) = enc c ++ texts rs := by simp [texts]
    have e3 : tcT (enc c ++ texts rs) = tcT (enc c) ++ tcT (texts rs) := replL_app psT _ _
    rw [e, e3]
    refine okL_app ?_ ih'
    have hp := h1 c (by simp)
    by_cases hlow : c < 128
    · have e2 : enc c = [UInt8.ofNat c] := by unfold enc; rw [if_pos hlow]
      rw [e2]
      have hb : 1 ≤ (UInt8.ofNat c).toNat ∧ (UInt8.ofNat c).toNat < 128 := by
        rw [ofNat_toNat (by omega)]; exact ⟨hp.1, hlow⟩
      exact tcT_one_ok hb
    · rw [tcT_same (fun x hx => ?_)]
      · exact okL_texts.2 ⟨[c], fun x hx => by rw [List.mem_singleton.1 hx]; exact hp, by simp [texts]⟩
      · rcases enc_high hlow x hx with h | h
        · exact h
        · have := hp.2; omega
theorem joinT_ok : ∀ {cs : List (List UInt8)}, (∀ c ∈ cs, okL c) → okL (joinT cs)
  | [], _ => okL_nil
  | [a], h => h a (by simp)
  | a :: b :: r, h => okL_app (h a (by simp)) (okL_cons (by decide) (joinT_ok (fun c hc => h c (by simp at hc ⊢; exact Or.inr hc))))
theorem rowsTT_ok : ∀ {rs : List (List (List UInt8))}, rowsOk rs = true → okL (rowsTT rs)
  | [], _ => okL_nil
  | r :: rs, h => by
    unfold rowsOk at h
    rw [List.all_cons, Bool.and_eq_true] at h
    have h1 := rowOk_facts h.1
    have e : rowsTT (r :: rs) = (joinT (r.map tcT) ++ [10]) ++ rowsTT rs := by simp [rowsTT, rowTT]
    rw [e]
    refine okL_app (okL_app (joinT_ok (fun c hc => ?_)) (okL_one (by decide))) (rowsTT_ok h.2)
    obtain ⟨t, ht, rfl⟩ := List.mem_map.1 hc
    exact tcT_ok (h1.2.2.2 t ht)
theorem rowsTT_len : ∀ (rs : List (List (List UInt8))), rs.length ≤ (rowsTT rs).length
  | [] => Nat.zero_le _
  | r :: rs => by
    have := rowsTT_len rs
    have e : rowsTT (r :: rs) = (joinT (r.map tcT) ++ [10]) ++ rowsTT rs := by simp [rowsTT, rowTT]
    rw [e]
    simp only [List.length_append, List.length_cons, List.length_nil]
    omega
theorem tsvT_file {rs : List (List (List UInt8))} {t : List UInt8} (h : tsvT rs = some t) : fileOk (mkB t) = true ∧ t = rowsTT rs ∧ rowsOk rs = true := by
  unfold tsvT at h
  split at h
  · rename_i hc
    injection h with h
    subst h
    refine ⟨?_, rfl, hc.1⟩
    unfold fileOk
    rw [mkB_size, mkB_data, decide_eq_true hc.2, Bool.true_and]
    exact rowsTT_ok hc.1
  · cases h
/-- rows are recovered from their text -/
theorem tsv_back {rs : List (List (List UInt8))} {t : List UInt8} (h : tsvT rs = some t) : tsvR (mkB t) = (rs, 0, 0) := by
  obtain ⟨hf, rfl, hok⟩ := tsvT_file h
  unfold tsvR
  rw [hf, if_pos rfl, mkB_data, mkB_size, trows_run rs _ 0 [] (rowsTT_len rs) (fun r hr => ?_) (by simp)]
  · simp
  · unfold rowsOk at hok
    rw [List.all_eq_true] at hok
    have h1 := rowOk_facts (hok r hr)
    exact ⟨h1.1, h1.2.1, h1.2.2.1⟩
/-! ### its lines -/
theorem tcT_no : ∀ (t : List UInt8), ∀ c ∈ tcT t, c ≠ 10 ∧ c ≠ 9
  | [], c, hc => by cases hc
  | b :: t, c, hc => by
    have e : tcT (b :: t) = replB psT b ++ tcT t := replL_cons psT b t
    rw [e] at hc
    rcases List.mem_append.1 hc with h | h
    · rw [replB_psT] at h
      by_cases h1 : b = 92
      · rw [if_pos h1] at h; clear hc; revert c; decide
      · rw [if_neg h1] at h
        by_cases h2 : b = 9
        · rw [if_pos h2] at h; clear hc; revert c; decide
        · rw [if_neg h2] at h
          by_cases h3 : b = 10
          · rw [if_pos h3] at h; clear hc; revert c; decide
          · rw [if_neg h3] at h
            by_cases h4 : b = 13
            · rw [if_pos h4] at h; clear hc; revert c; decide
            · rw [if_neg h4] at h
              rw [List.mem_singleton.1 h]
              exact ⟨h3, h2⟩
    · exact tcT_no t c h
theorem joinT_no : ∀ (cs : List (List UInt8)), ∀ c ∈ joinT (cs.map tcT), c ≠ 10
  | [], c, hc => by cases hc
  | [a], c, hc => (tcT_no a c hc).1
  | a :: b :: r, c, hc => by
    have e : joinT ((a :: b :: r).map tcT) = tcT a ++ 9 :: joinT ((b :: r).map tcT) := rfl
    rw [e] at hc
    rcases List.mem_append.1 hc with h | h
    · exact (tcT_no a c h).1
    · rcases List.mem_cons.1 h with h | h
      · rw [h]; decide
      · exact joinT_no (b :: r) c h
theorem cnt9_no {l : List UInt8} (h : ∀ c ∈ l, c ≠ 9) : l.count 9 = 0 := List.count_eq_zero.2 (fun hm => h 9 hm rfl)
theorem joinT_tabs : ∀ (cs : List (List UInt8)), cs ≠ [] → (joinT (cs.map tcT)).count 9 + 1 = cs.length
  | [], h => absurd rfl h
  | [a], _ => by
    have e : joinT ([a].map tcT) = tcT a := rfl
    rw [e, cnt9_no (fun c hc => (tcT_no a c hc).2)]
    rfl
  | a :: b :: r, _ => by
    have e : joinT ((a :: b :: r).map tcT) = tcT a ++ 9 :: joinT ((b :: r).map tcT) := rfl
    have ih := joinT_tabs (b :: r) (by simp)
    rw [e, List.count_append, List.count_cons, cnt9_no (fun c hc => (tcT_no a c hc).2)]
    have e2 : (if (9 : UInt8) == 9 then 1 else 0 : Nat) = 1 := rfl
    have e3 : (a :: b :: r).length = (b :: r).length + 1 := rfl
    rw [e2, e3, ← ih]
    omega
/-- the lines of the text -/
def linesT (rs : List (List (List UInt8))) : List (List UInt8) := rs.map fun r => joinT (r.map tcT)
theorem lns_rows : ∀ rs : List (List (List UInt8)), lns (rowsTT rs) = linesT rs ++ [[]]
  | [] => rfl
  | r :: rs => by
    have e : rowsTT (r :: rs) = joinT (r.map tcT) ++ 10 :: rowsTT rs := by simp [rowsTT, rowTT]
    rw [e, lns_pre _ _ (joinT_no r), lns_nl, lns_rows rs]
    simp [consH, linesT]
theorem lnsB_rows {rs : List (List (List UInt8))} : lnsB (mkB (rowsTT rs)) = (linesT rs).map mkB ++ [⟨#[]⟩] := by
  unfold lnsB
  rw [mkB_data, lns_rows, List.map_append]
  rfl
/-- each line has one tab less than its row has cells -/
theorem lines_tabs {rs : List (List (List UInt8))} (hok : rowsOk rs = true) {i : Nat} (h : i < rs.length) (h' : i < (linesT rs).length) : ((linesT rs)[i]).count 9 + 1 = rs[i].length := by
  unfold rowsOk at hok
  rw [List.all_eq_true] at hok
  have h1 := rowOk_facts (hok rs[i] (List.getElem_mem h))
  have e : (linesT rs)[i] = joinT (rs[i].map tcT) := by simp [linesT]
  rw [e]
  exact joinT_tabs _ h1.1
end Go.Proofs.YtcebgmdcbdggeaaGreatDoor

namespace Go.Proofs.YtcebgmdcbdggeaaGreatDoor
open Go.RowKit
set_option linter.unusedVariables false
set_option linter.unusedSimpArgs false

theorem psT_nodup : (psT.map (·.1)).Nodup := by decide
set_option maxHeartbeats 8000000 in
set_option maxRecDepth 100000 in
theorem implTsvCell (s : ByteArray) (w : World) (hs : s.size ≤ 1000000) :
    Calls Tryz.prog 14 #[.string s] w fun e w' => e = .returned (.string (mkB (tcT s.data.toList))) ∧ Below w.heap.size w w' := by
  have HROW := hid (show ∀ j u, (rowV psT)[j]? = some u → (w.alloc (.cells #[.string ⟨#[92]⟩, .string ⟨#[92, 92]⟩, .string ⟨#[9]⟩, .string ⟨#[92, 116]⟩, .string ⟨#[10]⟩, .string ⟨#[92, 110]⟩, .string ⟨#[13]⟩, .string ⟨#[92, 114]⟩] 9)).cell? ((⟨w.heap.size, 0, none⟩ : Addr).add j) = some u from cells_new w _ _)
  have CR := hid (fun (b r n cap : Nat) (x : World) (hn : n = 2 * psT.length) (h : Rpl psT b r n cap x) => replacerReplace x psT_nodup (by decide) (by decide) hn h hs)
  have hal := hid (ext_alloc w (.cells #[.string ⟨#[92]⟩, .string ⟨#[92, 92]⟩, .string ⟨#[9]⟩, .string ⟨#[92, 116]⟩, .string ⟨#[10]⟩, .string ⟨#[92, 110]⟩, .string ⟨#[13]⟩, .string ⟨#[92, 114]⟩] 9))
  go_enter Tryz.func14, Tryz.ntmps14
  go_wp2_with fail
  refine (newReplacer (ps := psT) _ (by decide) (by decide) rfl HROW.out).mono ?_
  rintro e w1 ⟨b, r, cap, rfl, hb, hR, hb1⟩
  have HR := hid hR
  have HB1 := hid (hal.out.trans (hb1.mono hal.out.size))
  have HBB := hid (show w.heap.size ≤ b from Nat.le_trans hal.out.size hb)
  clear hb hR hb1
  go_wp2_with fail
  refine (CR.out b r _ cap _ rfl HR.out).mono ?_
  rintro e w2 ⟨rfl, hb2⟩
  have HB2 := hid (hb2.mono HBB.out)
  clear hb2
  go_wp2
  go_ret
  exact ⟨rfl, HB1.out.trans HB2.out⟩
end Go.Proofs.YtcebgmdcbdggeaaGreatDoor

namespace Go.Proofs.YtcebgmdcbdggeaaGreatDoor
open Go.RowKit
set_option linter.unusedVariables false
set_option linter.unusedSimpArgs false

theorem tcT_len (t : List UInt8) : (tcT t).length ≤ 2 * t.length + 2 := by
  have := replL_len psT t
  unfold tcT
  omega
theorem joinT_snoc : ∀ (l : List (List UInt8)) (a : List UInt8), joinT (l ++ [a]) = if l = [] then a else joinT l ++ 9 :: a
  | [], a => rfl
  | [b], a => rfl
  | b :: c :: r, a => by
    have := joinT_snoc (c :: r) a
    rw [if_neg (by simp)] at this ⊢
    show b ++ 9 :: joinT (c :: r ++ [a]) = (b ++ 9 :: joinT (c :: r)) ++ 9 :: a
    rw [this]
    simp
theorem rowsTT_app (a b : List (List (List UInt8))) : rowsTT (a ++ b) = rowsTT a ++ rowsTT b := by simp [rowsTT]
theorem rowsTT_take (L : List (List (List UInt8))) (k : Nat) (h : k < L.length) : rowsTT (L.take (k + 1)) = rowsTT (L.take k) ++ (joinT (L[k].map tcT) ++ [10]) := by
  rw [List.take_add_one, List.getElem?_eq_getElem h, rowsTT_app]
  congr 1
  simp [rowsTT, rowTT]
theorem rowsTT_le (L : List (List (List UInt8))) (k : Nat) : (rowsTT (L.take k)).length ≤ (rowsTT L).length := by
  have : rowsTT L = rowsTT (L.take k) ++ rowsTT (L.drop k) := by rw [← rowsTT_app, List.take_append_drop]
  rw [this, List.length_append]
  omega
theorem joinT_len : ∀ (cs : List (List UInt8)) (m : Nat), (∀ c ∈ cs, c.length ≤ m) → (joinT cs).length ≤ cs.length * (m + 1)
  | [], m, _ => Nat.zero_le _
  | [a], m, h => by
    have := h a (by simp)
    show a.length ≤ 1 * (m + 1)
    omega
  | a :: b :: r, m, h => by
    have h1 := h a (by simp)
    have h2 := joinT_len (b :: r) m (fun c hc => h c (by simp at hc ⊢; exact Or.inr hc))
    have e : (joinT (a :: b :: r)).length = a.length + ((joinT (b :: r)).length + 1) := by
      show (a ++ 9 :: joinT (b :: r)).length = _
      simp
    have e2 : (a :: b :: r).length * (m + 1) = (b :: r).length * (m + 1) + (m + 1) := by
      rw [show (a :: b :: r).length = (b :: r).length + 1 from rfl, Nat.succ_mul]
    omega
/-- the bytes written of a row's first cells -/
def tcellsT (cs : List ByteArray) (j : Nat) : List UInt8 := joinT ((cs.take j).map fun s => tcT s.data.toList)
theorem tcellsT_zero (cs : List ByteArray) : tcellsT cs 0 = [] := rfl
theorem tcellsT_one (cs : List ByteArray) (h : 0 < cs.length) : tcellsT cs 1 = tcT cs[0].data.toList := by
  cases cs with
  | nil => simp at h
  | cons a r => rfl
theorem tcellsT_succ (cs : List ByteArray) (j : Nat) (h : j < cs.length) (hj : 0 < j) : tcellsT cs (j + 1) = tcellsT cs j ++ [9] ++ tcT cs[j].data.toList := by
  unfold tcellsT
  rw [List.take_add_one, List.getElem?_eq_getElem h, List.map_append]
  show joinT (_ ++ [tcT cs[j].data.toList]) = _
  rw [joinT_snoc, if_neg]
  · simp
  · intro e
    have := congrArg List.length e
    rw [List.length_map, List.length_take] at this
    simp only [List.length_nil] at this
    omega
theorem tcellsT_all (x : CsvRow) : tcellsT x.cells x.cells.length = joinT ((rowL x).map tcT) := by
  unfold tcellsT rowL
  rw [List.take_length, List.map_map]
  rfl
theorem tcellsT_len (cs : List ByteArray) (j : Nat) (h : ∀ s ∈ cs, s.size ≤ 1000) (hn : cs.length ≤ 100) : (tcellsT cs j).length ≤ 300000 := by
  have := joinT_len ((cs.take j).map fun s => tcT s.data.toList) 2002 (fun c hc => by
    obtain ⟨s, hs, rfl⟩ := List.mem_map.1 hc
    have h1 := h s (List.mem_of_mem_take hs)
    have h2 := tcT_len s.data.toList
    rw [← Lib.size_eq] at h2
    omega)
  unfold tcellsT
  rw [List.length_map, List.length_take] at this
  have h3 : min j cs.length * (2002 + 1) ≤ 100 * 2003 := Nat.mul_le_mul (by omega) (Nat.le_refl _)
  omega
set_option maxHeartbeats 16000000 in
set_option maxRecDepth 100000 in
theorem implRowsTab {v : Value} {xs : List CsvRow} (w : World) (hT : Tabs w) (h : Rd.rd (Old w) w [v] xs) (hn : xs.length ≤ 1000000) :
    Calls Tryz.prog 13 #[v, .string ⟨#[9]⟩, .func (.func 14) #[] #[]] w fun e w' => TextRes (tsvT (xs.map rowL)) e ∧ Below w.heap.size w w' := by
  obtain ⟨a, cap, hv, h1, h2, hF⟩ := h
  obtain rfl : v = .slice a xs.length cap := by simpa using hv
  have h : Rd.rd (Old w) w [.slice a xs.length cap] xs := ⟨a, cap, hv, h1, h2, hF⟩
  have CO := hid (implRowsOk w hT h (by omega))
  have eg : ∀ args w, (callFunc 14 args).run Tryz.prog w = .ok (.enter 14 args) w := enters_of Tryz.func14 (by kernel_rfl) rfl
  obtain ⟨L, hL⟩ : ∃ L, xs.map rowL = L := ⟨_, rfl⟩
  have hLn : L.length = xs.length := by rw [← hL, List.length_map]
  have HLK := hid (show ∀ (k : Nat) (hk : k < xs.length) (hk2 : k < L.length), L[k] = rowL xs[k] by subst hL; intro k hk hk2; rw [List.getElem_map])
  rw [hL] at CO ⊢
  have HF := hid hF
  have HLN := hid hLn
  clear hv h1 h2 h hL hT hF hLn
  cases hok : rowsOk L with
  | false =>
    have HR := hid (show tsvT L = none by unfold tsvT; rw [if_neg (by rw [hok]; simp)])
    rw [hok] at CO
    clear hok
    go_enter Tryz.func13, Tryz.ntmps13
    go_wp2_with fail
    refine CO.out.mono ?_
    rintro e w1 ⟨rfl, hb⟩
    go_wp2
    go_ret2
    exact ⟨by rw [HR.out] <;> rfl, hb⟩
  | true =>
    have HR := hid (show tsvT L = if (rowsTT L).length ≤ 4000 then some (rowsTT L) else none by unfold tsvT; rw [hok]; simp)
    have HOK := hid hok
    rw [hok] at CO
    clear hok
    go_enter Tryz.func13, Tryz.ntmps13
    go_wp2_with fail
    refine CO.out.mono ?_
    rintro e w1 ⟨rfl, hb1⟩
    have hI0 := Lib.IsBuilderF.of (Lib.fresh_isBuilder 56 5 w1)
    have hal := ext_alloc w1 (.cells #[.pointer none, .slice none 0 0] 56)
    obtain ⟨w2, hw2⟩ : ∃ x, w1.alloc (.cells #[.pointer none, .slice none 0 0] 56) = x := ⟨_, rfl⟩
    rw [hw2] at hI0 hal
    have hb2 := ext_trans hb1 hal
    have HI := hid hI0
    have HB := hid hb2
    have HS1 := hid (show w1.heap.size < w2.heap.size by rw [← hw2]; simp)
    have HS0 := hid hb1.size
    clear hI0 hal hb1 hb2 CO
    go_wp2
    try rw [hw2]
    clear hw2
    go_loopw [10, 11, 12, 18] (fun _ _ _ i wr => ∃ k : Nat, k ≤ xs.length ∧ i = .int .i64 (k : Int) ∧ Lib.IsBuilderF 56 5 w1.heap.size w1.heap.size (Lib.byteCells (rowsTT (L.take k))) wr ∧ Below w.heap.size w wr ∧ (rowsTT (L.take k)).length ≤ 4000 ∧ w1.heap.size < wr.heap.size) (fun _ _ _ i _ => xs.length - (intOf i).toNat)
    case atStart => exact ⟨0, Nat.zero_le _, rfl, HI.out, HB.out, Nat.zero_le _, HS1.out⟩
    case round =>
      obtain ⟨k, hk, rfl, hI, hb, hle, hws⟩ := hrel
      by_cases hlt : k < xs.length
      · obtain ⟨b, off, rfl, hB, hrow⟩ := HF.out (by omega)
        obtain ⟨cs, hcell, hx⟩ := hrow k hlt
        obtain ⟨ua, uc, hu, hu2⟩ := rdRow hx
        subst hu
        have t0 : wr.cell? ⟨b, off + k, none⟩ = some (.slice ua xs[k].cells.length uc) := (hb.cell (p := ⟨b, off + k, none⟩) hB).trans (by have h9 := hcell 0 (by decide); rw [show off + k * Rd.n CsvRow + 0 = off + k from by show off + k * 1 + 0 = _; omega] at h9; exact h9)
        have hkL : k < L.length := by rw [HLN.out]; exact hlt
        have hLk := HLK.out k hlt hkL
        have hro : rowOk (rowL xs[k]) = true := by
          have := HOK.out
          unfold rowsOk at this
          rw [List.all_eq_true] at this
          have h9 := this _ (List.getElem_mem hkL)
          rw [hLk] at h9
          exact h9
        have hrf := rowOk_facts hro
        have hTK := rowsTT_take L k hkL
        rw [hLk, ← tcellsT_all] at hTK
        obtain ⟨x, hxe⟩ : ∃ x, xs[k] = x := ⟨_, rfl⟩
        rw [hxe] at t0 hu2 hrf hTK
        have hc100 : x.cells.length ≤ 100 := by have := hrf.2.1; unfold rowL at this; rw [List.length_map] at this; exact this
        have HCS := hid (show ∀ s ∈ x.cells, s.size ≤ 1000 from fun s hs => by
          have := hrf.2.2.1 s.data.toList (List.mem_map.2 ⟨s, hs, rfl⟩)
          rw [← Lib.size_eq] at this
          exact this)
        have HCT := hid (fun j => tcellsT_len x.cells j HCS.out hc100)
        have HU := hid hu2
        have HTK := hid hTK
        have HLE := hid (rowsTT_le L (k + 1))
        obtain ⟨C, hC⟩ : ∃ C, x.cells = C := ⟨_, rfl⟩
        rw [hC] at t0 hc100 HCS HCT HU HTK
        obtain ⟨n, hnC⟩ : ∃ n, C.length = n := ⟨_, rfl⟩
        have HNC := hid hnC
        rw [hnC] at t0 hc100 HTK
        obtain ⟨H, hH⟩ : ∃ H, rowsTT (L.take k) = H := ⟨_, rfl⟩
        rw [hH] at hI hle HTK
        have hki : (k : Int) < (xs.length : Int) := by omega
        have hk0 : (0 : Int) ≤ (k : Int) := by omega
        have hal := ext_alloc wr (.cells #[.slice none 0 0] 34)
        obtain ⟨w3, hw3⟩ : ∃ w3, (wr.alloc (.cells #[.slice none 0 0] 34)).setCell ⟨wr.heap.size, 0, none⟩ (.slice ua n uc) = w3 := ⟨_, rfl⟩
        have hb3 : Below wr.heap.size wr w3 := by rw [← hw3]; exact hal.setCell (Nat.le_refl _) _
        have HV3 := hid (show w3.heap[wr.heap.size]? = some (.cells #[.slice ua n uc] 34 (0, 0)) by rw [← hw3]; exact set_one (heap_alloc_new wr _))
        have HI3 := hid (bf_below hI hb3)
        have HB3 := hid (hb.trans (hb3.mono hb.size))
        have HS3 := hid (Nat.lt_of_lt_of_le hws hb3.size)
        clear hI hb hws hrow hcell hx hu2 hro hrf hTK hLk hkL hxe hC hnC hH hal hb3 hB
        go_upto_region 7 with fail
        try rw [hw3]
        clear hw3
        have v0 : w3.cell? ⟨wr.heap.size, 0, none⟩ = some (.slice ua n uc) := cell_of_row _ _ 0 _ _ _ HV3.out
        have vy : w3.frozen? ⟨wr.heap.size, 0, none⟩ = false := frozen_of_row _ _ 0 _ _ HV3.out
        go_wp2
        go_loopw [11, 12, 25] (fun _ _ i wx => ∃ j : Nat, j ≤ n ∧ i = .int .i64 (j : Int) ∧ Lib.IsBuilderF 56 5 w1.heap.size w1.heap.size (Lib.byteCells (H ++ tcellsT C j)) wx ∧ Below w.heap.size w wx ∧ w1.heap.size < wx.heap.size) (fun _ _ i _ => n - (intOf i).toNat)
        case atStart => exact ⟨0, Nat.zero_le _, rfl, by rw [tcellsT_zero, List.append_nil]; exact HI3.out, HB3.out, HS3.out⟩
        case round =>
          obtain ⟨j, hj, rfl, hI, hb, hws⟩ := hrel
          have hcl := HCT.out j
          by_cases hjn : j < n
          · obtain ⟨a2, cap2, hv2, g1, g2, hF2⟩ := HU.out
            obtain ⟨rfl, rfl⟩ : ua = a2 ∧ uc = cap2 := by simpa using hv2
            obtain ⟨b2, off2, rfl, hB2, hrow2⟩ := hF2 (by rw [HNC.out]; omega)
            have hjC : j < C.length := by rw [HNC.out]; exact hjn
            obtain ⟨cs2, hcell2, hx2⟩ := hrow2 j hjC
            obtain ⟨hcs2, f2⟩ := hx2
            subst hcs2
            have t2w : w.cell? ⟨b2, off2 + j, none⟩ = some (.string C[j]) := by have h9 := hcell2 0 (by decide); rw [show off2 + j * Rd.n ByteArray + 0 = off2 + j from by show off2 + j * 1 + 0 = _; omega] at h9; exact h9
            have t2 : wr.cell? ⟨b2, off2 + j, none⟩ = some (.string C[j]) := (hb.cell (p := ⟨b2, off2 + j, none⟩) hB2).trans t2w
            have hs1 := HCS.out C[j] (List.getElem_mem hjC)
            have hone := tcellsT_one C
            have hsucc := tcellsT_succ C j hjC
            obtain ⟨s, hse⟩ : ∃ s, C[j] = s := ⟨_, rfl⟩
            rw [hse] at t2 t2w hs1 hsucc
            have HT2 := hid t2w
            have HB2 := hid hB2
            have hct := tcT_len s.data.toList
            rw [← Lib.size_eq] at hct
            have hji : (j : Int) < (n : Int) := by omega
            have hj0' : (0 : Int) ≤ (j : Int) := by omega
            clear hv2 g1 g2 hF2 hrow2 hcell2 hB2 t2w
            by_cases hj0 : j = 0
            · subst hj0
              have HST := hid (show tcellsT C 1 = tcT s.data.toList by rw [hone hjC, hse])
              have hjz : ¬ (0 : Int) < ((0 : Nat) : Int) := by omega
              clear hone hsucc hse
              rw [tcellsT_zero, List.append_nil] at hI
              rw [Nat.add_zero] at t2
              go_wp2_with fail
              refine (implTsvCell s _ (by omega)).mono ?_
              rintro e W1 ⟨rfl, b1⟩
              have hI1 := bf_below hI b1
              have hbW1 := hb.trans (b1.mono hb.size)
              have hsW1 := b1.size
              clear hI b1 t2
              go_wp2_with fail
              refine (Tryz.Builder_WriteString_k w1.heap.size w1.heap.size _ (mkB (tcT s.data.toList)) _ hI1 (by rw [Lib.byteCells_length, mkB_size]; (try simp only [List.length_append, List.length_cons, List.length_nil]); omega) (by omega)).mono ?_
              rintro e W2 ⟨rfl, h2, b2', k2⟩
              rw [strCells_mk, ← Lib.byteCells_append, ← HST.out] at h2
              have hbW2 := hbW1.trans (b2'.mono HS0.out)
              have hsW2 := b2'.size
              clear b2' k2 hI1
              go_wp2
              go_roundw
              case rel => exact ⟨1, by omega, by go_num, Or.inr h2, hbW2, by omega⟩
              case measure => simp [intOf]; omega
            · have HST := hid (hsucc (by omega))
              have hjz : (0 : Int) < (j : Int) := by omega
              clear hone hsucc hse hj0
              go_wp2_with fail
              refine (Tryz.Builder_WriteString_k w1.heap.size w1.heap.size _ (mkB [9]) _ hI (by rw [Lib.byteCells_length, mkB_size]; (try simp only [List.length_append, List.length_cons, List.length_nil]); omega) (by omega)).mono ?_
              rintro e W0 ⟨rfl, h0, b0, k0⟩
              rw [strCells_mk, ← Lib.byteCells_append] at h0
              have hbW0 := hb.trans (b0.mono HS0.out)
              have hsW0 := b0.size
              have t2' : W0.cell? ⟨b2, off2 + j, none⟩ = some (.string s) := (hbW0.cell (p := ⟨b2, off2 + j, none⟩) HB2.out).trans HT2.out
              clear hI b0 k0 t2
              go_wp2_with fail
              refine (implTsvCell s _ (by omega)).mono ?_
              rintro e W1 ⟨rfl, b1⟩
              have hI1 := bf_below (Or.inr h0) b1
              have hbW1 := hbW0.trans (b1.mono hbW0.size)
              have hsW1 := b1.size
              clear h0 b1 t2'
              go_wp2_with fail
              refine (Tryz.Builder_WriteString_k w1.heap.size w1.heap.size _ (mkB (tcT s.data.toList)) _ hI1 (by rw [Lib.byteCells_length, mkB_size]; (try simp only [List.length_append, List.length_cons, List.length_nil]); omega) (by omega)).mono ?_
              rintro e W2 ⟨rfl, h2, b2', k2⟩
              rw [strCells_mk, ← Lib.byteCells_append, List.append_assoc, List.append_assoc, ← List.append_assoc (tcellsT C j), ← HST.out] at h2
              have hbW2 := hbW1.trans (b2'.mono HS0.out)
              have hsW2 := b2'.size
              clear b2' k2 hI1
              go_wp2
              go_roundw
              case rel => exact ⟨j + 1, by omega, by go_num, Or.inr h2, hbW2, by omega⟩
              case measure => simp [intOf]; omega
          · obtain rfl : j = n := by omega
            have hji : ¬ (j : Int) < (j : Int) := by omega
            obtain ⟨H1, hH1⟩ : ∃ H1, rowsTT (L.take (k + 1)) = H1 := ⟨_, rfl⟩
            have HH1 := hid hH1
            have HTK1 := hid (show H1 = H ++ (tcellsT C j ++ [10]) by rw [← hH1]; exact HTK.out)
            clear hH1 hjn
            go_wp2_with fail
            refine (Tryz.Builder_WriteByte_k w1.heap.size w1.heap.size _ (((10 : UInt8).toNat : Int)) _ hI (by rw [Lib.byteCells_length]; simp only [List.length_append]; omega) (by omega)).mono ?_
            rintro e W1 ⟨rfl, h1, b1, k1⟩
            rw [byteCells1, List.append_assoc, ← HTK1.out] at h1
            have hbW1 := hb.trans (b1.mono HS0.out)
            have hsW1 := b1.size
            clear hI b1 k1 hb
            go_wp2_with fail
            refine (Tryz.Builder_Len_f w1.heap.size w1.heap.size _ _ (Or.inr h1)).mono ?_
            rintro e W2 ⟨rfl, rfl⟩
            rw [Lib.byteCells_length]
            by_cases hbig : 4000 < H1.length
            · have hbi : (4000 : Int) < (H1.length : Int) := by omega
              have HRR := hid (show tsvT L = none by rw [HR.out, if_neg]; have := HLE.out; rw [HH1.out] at this; omega)
              clear hbig
              go_wp2
              go_ret2
              exact ⟨by rw [HRR.out] <;> rfl, hbW1⟩
            · have hbi : ¬ (4000 : Int) < (H1.length : Int) := by omega
              go_wp2
              go_roundw
              case rel => exact ⟨k + 1, by omega, by go_num, by rw [HH1.out]; exact Or.inr h1, hbW1, by rw [HH1.out]; omega, by omega⟩
              case measure => simp [intOf]; omega
      · obtain rfl : k = xs.length := by omega
        have e1 : L.take xs.length = L := by rw [← HLN.out, List.take_length]
        rw [e1] at hI hle
        have HRR := hid (show tsvT L = some (rowsTT L) by rw [HR.out, if_pos hle])
        have hki : ¬ (xs.length : Int) < (xs.length : Int) := by omega
        clear hlt e1
        go_wp2_with fail
        refine (Tryz.Builder_String_any_k w1.heap.size w1.heap.size _ _ hI (by omega)).mono ?_
        rintro e W1 ⟨rfl, _, b1, _⟩
        have HB1 := hid (hb.trans (b1.mono HS0.out))
        go_wp2
        go_ret2
        exact ⟨by rw [HRR.out] <;> rfl, HB1.out⟩
end Go.Proofs.YtcebgmdcbdggeaaGreatDoor

namespace Go.Proofs.YtcebgmdcbdggeaaGreatDoor
open Go.RowKit
set_option linter.unusedVariables false
set_option linter.unusedSimpArgs false

theorem rowOk_cells {x : CsvRow} (h : rowOk (rowL x) = true) : ∀ s ∈ x.cells, okText s = true := by
  intro s hs
  rw [rowOk_def, Bool.not_eq_true', Bool.or_eq_false_iff] at h
  have h2 := h.2
  rw [List.any_eq_false] at h2
  have h3 := h2 s hs
  simpa using h3
theorem info_u8W : (Tryz.prog.info? 5).map (fun i => (i.zero, i.size, i.bytes)) = some (some (.int .u8 0), 1, 1) := by kernel_rfl
theorem byteW (a b : List UInt8) : byteVals (a ++ b) = byteVals a ++ byteVals b := by simp [byteVals]
set_option maxHeartbeats 16000000 in
set_option maxRecDepth 100000 in
theorem specTsvCell (s : ByteArray) (w : World) (hok : okText s = true) :
    Calls Tryz.prog 16 #[.string s] w fun e w' => e = .returned (.string (mkB (tcT s.data.toList))) ∧ Below w.heap.size w w' := by
  obtain ⟨i0, hi, hz0, hz1, hz2⟩ := info_parts info_u8W
  obtain ⟨l, hl⟩ : ∃ l, s.data.toList = l := ⟨_, rfl⟩
  have hz := ok_size hok
  have C := hid (specTextOk s w)
  rw [hok] at C
  have hsl : s.size = l.length := by rw [Lib.size_eq, hl]
  have HSL := hid hsl
  have HG := hid (show ∀ (k : Nat) (h : k < s.size) (h2 : k < l.length), s[k]'h = l[k] by subst hl; intro k h h2; rfl)
  have HLE := hid (fun k : Nat => replL_len psT (l.take k))
  rw [hl]
  have HTC := hid (show tcT l = replL psT l from rfl)
  rw [HTC.out]
  clear hok hl hsl
  go_enter Tryz.func16, Tryz.ntmps16
  go_wp2_with fail
  refine C.out.mono ?_
  rintro e w1 ⟨rfl, hb1⟩
  have HB1 := hid hb1
  clear hb1
  go_wp2
  go_loopw [3, 4] (fun out i wr => ∃ k : Nat, k ≤ s.size ∧ i = .int .i64 (k : Int) ∧ wr.ownsRow w.heap.size 5 1 out (replL psT (l.take k)).length (byteVals (replL psT (l.take k))) ∧ Below w.heap.size w wr) (fun _ i _ => s.size - (intOf i).toNat)
  case atStart => exact ⟨0, Nat.zero_le _, rfl, World.ownsRow_lit w1 #[] 0 HB1.out.size (by decide) rfl, ext_trans HB1.out (ext_alloc _ _)⟩
  case round =>
    obtain ⟨k, hk, rfl, hown, hbw⟩ := hrel
    by_cases hlt : k < s.size
    · have hkl : k < l.length := by rw [← HSL.out]; exact hlt
      have hstep := replL_succ psT hkl
      have hby := HG.out k hlt hkl
      have hle := HLE.out k
      rw [List.length_take] at hle
      have hle2 : (replL psT (l.take k)).length ≤ 2000 := by omega
      obtain ⟨c, hc⟩ : ∃ c, l[k] = c := ⟨_, rfl⟩
      rw [hc] at hstep hby
      rw [replB_psT] at hstep
      obtain ⟨A, hA⟩ : ∃ A, replL psT (l.take k) = A := ⟨_, rfl⟩
      rw [hA] at hstep hown hle2
      have hix : ((s[k]'hlt : UInt8).toNat : Int) = (c.toNat : Int) := by rw [hby]
      have hki : (k : Int) < (s.size : Int) := by omega
      have hk0 : (0 : Int) ≤ (k : Int) := by omega
      obtain ⟨va, vc, rfl⟩ := own_slice hown
      have HBW := hid hbw
      have HOW := hid hown
      clear hbw hown hle hA hc hkl
      by_cases h9 : c = 9
      · have q9 : ((c.toNat : Int) == 9) = true := by rw [h9]; rfl
        have HST := hid (show replL psT (l.take (k + 1)) = A ++ [92, 116] by rw [hstep, h9]; rfl)
        clear hstep hby h9
        go_wp2_with ((at_builtin; refine wpList_append_own _ rfl _ _ 22 rfl w.heap.size 5 i0 (.int .u8 0) 1 1 Tryz.underlying22 hi hz0 hz1 hz2 rfl (by decide) _ _ _ rfl (HOW.out.alloc _) ⟨wr.heap.size, 0, none⟩ 2 2 [.int .u8 92, .int .u8 116] rfl rfl ?c1 ?c2 ?c3 ?c4 ?c5 ?_))
        try (case c1 => exact cells_new wr #[.int .u8 92, .int .u8 116] _)
        case c2 => first | rfl | (intro u hu; simp at hu; (first | (subst hu; rfl) | (rcases hu with rfl | rfl <;> rfl)))
        case c3 => unfold maxLen; omega
        case c4 => omega
        case c5 => first | exact Nat.le_trans HBW.out.size (by simp) | (have := HBW.out.size; (try simp); omega)
        intro v' w2 hown2 hgrow _
        have hlt' := (HOW.out.alloc (.cells #[.int .u8 92, .int .u8 116] 5)).lt
        have HB2 := hid ((HBW.out.trans ((ext_alloc _ _).mono HBW.out.size)).grown hgrow (HBW.out.trans ((ext_alloc _ _).mono HBW.out.size)).size (fun q hq => (hlt' q hq).1))
        have HO2 := hid (show w2.ownsRow w.heap.size 5 1 v' (A ++ [92, 116]).length (byteVals (A ++ [92, 116])) by rw [List.length_append, byteW]; exact hown2)
        clear hown2 hgrow hlt' hi hz0 hz1 hz2
        go_wp2
        go_roundw
        case rel => exact ⟨k + 1, by omega, by go_num, by rw [HST.out]; exact HO2.out, HB2.out⟩
        case measure => simp [intOf]; omega
      by_cases h10 : c = 10
      · have q10 : ((c.toNat : Int) == 10) = true := by rw [h10]; rfl
        have q9 : ((c.toNat : Int) == 9) = false := by rw [h10]; rfl
        have HST := hid (show replL psT (l.take (k + 1)) = A ++ [92, 110] by rw [hstep, h10]; rfl)
        clear hstep hby h9 h10
        go_wp2_with ((at_builtin; refine wpList_append_own _ rfl _ _ 22 rfl w.heap.size 5 i0 (.int .u8 0) 1 1 Tryz.underlying22 hi hz0 hz1 hz2 rfl (by decide) _ _ _ rfl (HOW.out.alloc _) ⟨wr.heap.size, 0, none⟩ 2 2 [.int .u8 92, .int .u8 110] rfl rfl ?c1 ?c2 ?c3 ?c4 ?c5 ?_))
        try (case c1 => exact cells_new wr #[.int .u8 92, .int .u8 110] _)
        case c2 => first | rfl | (intro u hu; simp at hu; (first | (subst hu; rfl) | (rcases hu with rfl | rfl <;> rfl)))
        case c3 => unfold maxLen; omega
        case c4 => omega
        case c5 => first | exact Nat.le_trans HBW.out.size (by simp) | (have := HBW.out.size; (try simp); omega)
        intro v' w2 hown2 hgrow _
        have hlt' := (HOW.out.alloc (.cells #[.int .u8 92, .int .u8 110] 5)).lt
        have HB2 := hid ((HBW.out.trans ((ext_alloc _ _).mono HBW.out.size)).grown hgrow (HBW.out.trans ((ext_alloc _ _).mono HBW.out.size)).size (fun q hq => (hlt' q hq).1))
        have HO2 := hid (show w2.ownsRow w.heap.size 5 1 v' (A ++ [92, 110]).length (byteVals (A ++ [92, 110])) by rw [List.length_append, byteW]; exact hown2)
        clear hown2 hgrow hlt' hi hz0 hz1 hz2
        go_wp2
        go_roundw
        case rel => exact ⟨k + 1, by omega, by go_num, by rw [HST.out]; exact HO2.out, HB2.out⟩
        case measure => simp [intOf]; omega
      by_cases h13 : c = 13
      · have q13 : ((c.toNat : Int) == 13) = true := by rw [h13]; rfl
        have q9 : ((c.toNat : Int) == 9) = false := by rw [h13]; rfl
        have q10 : ((c.toNat : Int) == 10) = false := by rw [h13]; rfl
        have HST := hid (show replL psT (l.take (k + 1)) = A ++ [92, 114] by rw [hstep, h13]; rfl)
        clear hstep hby h9 h10 h13
        go_wp2_with ((at_builtin; refine wpList_append_own _ rfl _ _ 22 rfl w.heap.size 5 i0 (.int .u8 0) 1 1 Tryz.underlying22 hi hz0 hz1 hz2 rfl (by decide) _ _ _ rfl (HOW.out.alloc _) ⟨wr.heap.size, 0, none⟩ 2 2 [.int .u8 92, .int .u8 114] rfl rfl ?c1 ?c2 ?c3 ?c4 ?c5 ?_))
        try (case c1 => exact cells_new wr #[.int .u8 92, .int .u8 114] _)
        case c2 => first | rfl | (intro u hu; simp at hu; (first | (subst hu; rfl) | (rcases hu with rfl | rfl <;> rfl)))
        case c3 => unfold maxLen; omega
        case c4 => omega
        case c5 => first | exact Nat.le_trans HBW.out.size (by simp) | (have := HBW.out.size; (try simp); omega)
        intro v' w2 hown2 hgrow _
        have hlt' := (HOW.out.alloc (.cells #[.int .u8 92, .int .u8 114] 5)).lt
        have HB2 := hid ((HBW.out.trans ((ext_alloc _ _).mono HBW.out.size)).grown hgrow (HBW.out.trans ((ext_alloc _ _).mono HBW.out.size)).size (fun q hq => (hlt' q hq).1))
        have HO2 := hid (show w2.ownsRow w.heap.size 5 1 v' (A ++ [92, 114]).length (byteVals (A ++ [92, 114])) by rw [List.length_append, byteW]; exact hown2)
        clear hown2 hgrow hlt' hi hz0 hz1 hz2
        go_wp2
        go_roundw
        case rel => exact ⟨k + 1, by omega, by go_num, by rw [HST.out]; exact HO2.out, HB2.out⟩
        case measure => simp [intOf]; omega
      by_cases h92 : c = 92
      · have q92 : ((c.toNat : Int) == 92) = true := by rw [h92]; rfl
        have q9 : ((c.toNat : Int) == 9) = false := by rw [h92]; rfl
        have q10 : ((c.toNat : Int) == 10) = false := by rw [h92]; rfl
        have q13 : ((c.toNat : Int) == 13) = false := by rw [h92]; rfl
        have HST := hid (show replL psT (l.take (k + 1)) = A ++ [92, 92] by rw [hstep, h92]; rfl)
        clear hstep hby h9 h10 h13 h92
        go_wp2_with ((at_builtin; refine wpList_append_own _ rfl _ _ 22 rfl w.heap.size 5 i0 (.int .u8 0) 1 1 Tryz.underlying22 hi hz0 hz1 hz2 rfl (by decide) _ _ _ rfl (HOW.out.alloc _) ⟨wr.heap.size, 0, none⟩ 2 2 [.int .u8 92, .int .u8 92] rfl rfl ?c1 ?c2 ?c3 ?c4 ?c5 ?_))
        try (case c1 => exact cells_new wr #[.int .u8 92, .int .u8 92] _)
        case c2 => first | rfl | (intro u hu; simp at hu; (first | (subst hu; rfl) | (rcases hu with rfl | rfl <;> rfl)))
        case c3 => unfold maxLen; omega
        case c4 => omega
        case c5 => first | exact Nat.le_trans HBW.out.size (by simp) | (have := HBW.out.size; (try simp); omega)
        intro v' w2 hown2 hgrow _
        have hlt' := (HOW.out.alloc (.cells #[.int .u8 92, .int .u8 92] 5)).lt
        have HB2 := hid ((HBW.out.trans ((ext_alloc _ _).mono HBW.out.size)).grown hgrow (HBW.out.trans ((ext_alloc _ _).mono HBW.out.size)).size (fun q hq => (hlt' q hq).1))
        have HO2 := hid (show w2.ownsRow w.heap.size 5 1 v' (A ++ [92, 92]).length (byteVals (A ++ [92, 92])) by rw [List.length_append, byteW]; exact hown2)
        clear hown2 hgrow hlt' hi hz0 hz1 hz2
        go_wp2
        go_roundw
        case rel => exact ⟨k + 1, by omega, by go_num, by rw [HST.out]; exact HO2.out, HB2.out⟩
        case measure => simp [intOf]; omega
      have q9 : ((c.toNat : Int) == 9) = false := by rw [beq_eq_false_iff_ne]; intro h; exact h9 (UInt8.toNat_inj.1 (by show c.toNat = 9; omega))
      have q10 : ((c.toNat : Int) == 10) = false := by rw [beq_eq_false_iff_ne]; intro h; exact h10 (UInt8.toNat_inj.1 (by show c.toNat = 10; omega))
      have q13 : ((c.toNat : Int) == 13) = false := by rw [beq_eq_false_iff_ne]; intro h; exact h13 (UInt8.toNat_inj.1 (by show c.toNat = 13; omega))
      have q92 : ((c.toNat : Int) == 92) = false := by rw [beq_eq_false_iff_ne]; intro h; exact h92 (UInt8.toNat_inj.1 (by show c.toNat = 92; omega))
      have HST := hid (show replL psT (l.take (k + 1)) = A ++ [c] by rw [hstep, if_neg h92, if_neg h9, if_neg h10, if_neg h13])
      clear hstep hby h92 h9 h10 h13
      go_wp2_with ((at_builtin; refine wpList_append_own _ rfl _ _ 22 rfl w.heap.size 5 i0 (.int .u8 0) 1 1 Tryz.underlying22 hi hz0 hz1 hz2 rfl (by decide) _ _ _ rfl (HOW.out.alloc _) ⟨wr.heap.size, 0, none⟩ 1 1 [.int .u8 (c.toNat : Int)] rfl rfl ?c1 ?c2 ?c3 ?c4 ?c5 ?_))
      try (case c1 => exact cells_new wr #[.int .u8 (c.toNat : Int)] _)
      case c2 => first | rfl | (intro u hu; simp at hu; (first | (subst hu; rfl) | (rcases hu with rfl | rfl <;> rfl)))
      case c3 => unfold maxLen; omega
      case c4 => omega
      case c5 => first | exact Nat.le_trans HBW.out.size (by simp) | (have := HBW.out.size; (try simp); omega)
      intro v' w2 hown2 hgrow _
      have hlt' := (HOW.out.alloc (.cells #[.int .u8 (c.toNat : Int)] 5)).lt
      have HB2 := hid ((HBW.out.trans ((ext_alloc _ _).mono HBW.out.size)).grown hgrow (HBW.out.trans ((ext_alloc _ _).mono HBW.out.size)).size (fun q hq => (hlt' q hq).1))
      have HO2 := hid (show w2.ownsRow w.heap.size 5 1 v' (A ++ [c]).length (byteVals (A ++ [c])) by rw [List.length_append, byteW]; exact hown2)
      clear hown2 hgrow hlt' hi hz0 hz1 hz2
      go_wp2
      go_roundw
      case rel => exact ⟨k + 1, by omega, by go_num, by rw [HST.out]; exact HO2.out, HB2.out⟩
      case measure => simp [intOf]; omega
    · obtain rfl : k = s.size := by omega
      have e1 : l.take s.size = l := by rw [HSL.out, List.take_length]
      rw [e1] at hown
      have hki : ¬ (s.size : Int) < (s.size : Int) := by omega
      have hcv := own_string (P := Tryz.prog) (src := 22) (dst := 9) hown Tryz.underlying22 Tryz.underlying5 Tryz.underlying9
      obtain ⟨oa, oc, rfl⟩ := own_slice hown
      have HBW := hid hbw
      clear hlt e1 hown hbw hi hz0 hz1 hz2
      go_wp2
      go_ret
      exact ⟨rfl, HBW.out⟩
end Go.Proofs.YtcebgmdcbdggeaaGreatDoor

namespace Go.Proofs.YtcebgmdcbdggeaaGreatDoor
open Go.RowKit
set_option linter.unusedVariables false
set_option linter.unusedSimpArgs false

theorem info_u8T : (Tryz.prog.info? 5).map (fun i => (i.zero, i.size, i.bytes)) = some (some (.int .u8 0), 1, 1) := by kernel_rfl
theorem byteV_app (a b : List UInt8) : byteVals (a ++ b) = byteVals a ++ byteVals b := by simp [byteVals]
theorem strCells_bv (l : List UInt8) : Lib.strCells (mkB l) = byteVals l := by
  rw [strCells_mk]
  rfl
set_option maxHeartbeats 16000000 in
set_option maxRecDepth 100000 in
theorem specTsvText {v : Value} {xs : List CsvRow} (w : World) (h : Rd.rd (Old w) w [v] xs) (hn : xs.length ≤ 1000000) :
    Calls Tryz.prog 7 #[v] w fun e w' => TextRes (tsvT (xs.map rowL)) e ∧ Below w.heap.size w w' := by
  obtain ⟨i0, hi, hz0, hz1, hz2⟩ := info_parts info_u8T
  obtain ⟨a, cap, hv, h1, h2, hF⟩ := h
  obtain rfl : v = .slice a xs.length cap := by simpa using hv
  have h : Rd.rd (Old w) w [.slice a xs.length cap] xs := ⟨a, cap, hv, h1, h2, hF⟩
  have CO := hid (specRowsOk w h hn)
  obtain ⟨L, hL⟩ : ∃ L, xs.map rowL = L := ⟨_, rfl⟩
  have hLn : L.length = xs.length := by rw [← hL, List.length_map]
  have HLK := hid (show ∀ (k : Nat) (hk : k < xs.length) (hk2 : k < L.length), L[k] = rowL xs[k] by subst hL; intro k hk hk2; rw [List.getElem_map])
  rw [hL] at CO ⊢
  have HF := hid hF
  have HLN := hid hLn
  clear hv h1 h2 h hL hF hLn
  cases hok : rowsOk L with
  | false =>
    have HR := hid (show tsvT L = none by unfold tsvT; rw [if_neg (by rw [hok]; simp)])
    rw [hok] at CO
    clear hok hi hz0 hz1 hz2
    go_enter Tryz.func7, Tryz.ntmps7
    go_wp2_with fail
    refine CO.out.mono ?_
    rintro e w1 ⟨rfl, hb⟩
    go_wp2
    go_ret2
    exact ⟨by rw [HR.out] <;> rfl, hb⟩
  | true =>
    have HR := hid (show tsvT L = if (rowsTT L).length ≤ 4000 then some (rowsTT L) else none by unfold tsvT; rw [hok]; simp)
    have HOK := hid hok
    rw [hok] at CO
    clear hok
    go_enter Tryz.func7, Tryz.ntmps7
    go_wp2_with fail
    refine CO.out.mono ?_
    rintro e w1 ⟨rfl, hb1⟩
    have HB := hid hb1
    clear hb1 CO
    go_wp2
    go_loopw [4, 5, 6] (fun out i _ wr => ∃ k : Nat, k ≤ xs.length ∧ i = .int .i64 (k : Int) ∧ wr.ownsRow w.heap.size 5 1 out (rowsTT (L.take k)).length (byteVals (rowsTT (L.take k))) ∧ Below w.heap.size w wr ∧ (rowsTT (L.take k)).length ≤ 4000) (fun _ i _ _ => xs.length - (intOf i).toNat)
    case atStart => exact ⟨0, Nat.zero_le _, rfl, World.ownsRow_lit w1 #[] 0 HB.out.size (by decide) rfl, ext_trans HB.out (ext_alloc _ _), Nat.zero_le _⟩
    case round =>
      obtain ⟨k, hk, rfl, hown, hb, hle⟩ := hrel
      by_cases hlt : k < xs.length
      · obtain ⟨b, off, rfl, hB, hrow⟩ := HF.out (by omega)
        obtain ⟨cs, hcell, hx⟩ := hrow k hlt
        obtain ⟨ua, uc, hu, hu2⟩ := rdRow hx
        subst hu
        have t0w : w.cell? ⟨b, off + k, none⟩ = some (.slice ua xs[k].cells.length uc) := by have h9 := hcell 0 (by decide); rw [show off + k * Rd.n CsvRow + 0 = off + k from by show off + k * 1 + 0 = _; omega] at h9; exact h9
        have hkL : k < L.length := by rw [HLN.out]; exact hlt
        have hLk := HLK.out k hlt hkL
        have hro : rowOk (rowL xs[k]) = true := by
          have := HOK.out
          unfold rowsOk at this
          rw [List.all_eq_true] at this
          have h9 := this _ (List.getElem_mem hkL)
          rw [hLk] at h9
          exact h9
        have hrf := rowOk_facts hro
        have hTK := rowsTT_take L k hkL
        rw [hLk, ← tcellsT_all] at hTK
        obtain ⟨x, hxe⟩ : ∃ x, xs[k] = x := ⟨_, rfl⟩
        rw [hxe] at t0w hu2 hrf hTK
        have hc100 : x.cells.length ≤ 100 := by have := hrf.2.1; unfold rowL at this; rw [List.length_map] at this; exact this
        have HCS := hid (show ∀ s ∈ x.cells, s.size ≤ 1000 from fun s hs => by
          have := hrf.2.2.1 s.data.toList (List.mem_map.2 ⟨s, hs, rfl⟩)
          rw [← Lib.size_eq] at this
          exact this)
        have HOKC := hid (rowOk_cells hro)
        rw [hxe] at HOKC
        have HCT := hid (fun j => tcellsT_len x.cells j HCS.out hc100)
        have HU := hid hu2
        have HTK := hid hTK
        have HLE := hid (rowsTT_le L (k + 1))
        obtain ⟨C, hC⟩ : ∃ C, x.cells = C := ⟨_, rfl⟩
        rw [hC] at t0w hc100 HCS HCT HU HTK HOKC
        obtain ⟨n, hnC⟩ : ∃ n, C.length = n := ⟨_, rfl⟩
        have HNC := hid hnC
        rw [hnC] at t0w hc100 HTK
        obtain ⟨H, hH⟩ : ∃ H, rowsTT (L.take k) = H := ⟨_, rfl⟩
        rw [hH] at hown hle HTK
        have hki : (k : Int) < (xs.length : Int) := by omega
        have hk0 : (0 : Int) ≤ (k : Int) := by omega
        have HT0 := hid t0w
        have HB9 := hid hB
        have HOW := hid hown
        have HBB := hid hb
        clear hown hb hrow hcell hx hu2 hro hrf hTK hLk hkL hxe hC hnC hH hB t0w
        go_wp2
        go_loopw [4, 6] (fun out i wr => ∃ j : Nat, j ≤ n ∧ i = .int .i64 (j : Int) ∧ wr.ownsRow w.heap.size 5 1 out (H ++ tcellsT C j).length (byteVals (H ++ tcellsT C j)) ∧ Below w.heap.size w wr) (fun _ i _ => n - (intOf i).toNat)
        case atStart => exact ⟨0, Nat.zero_le _, rfl, by rw [tcellsT_zero, List.append_nil]; exact HOW.out, HBB.out⟩
        case round =>
          obtain ⟨j, hj, rfl, hown, hb⟩ := hrel
          have hcl := HCT.out j
          have t0 : wr.cell? ⟨b, off + k, none⟩ = some (.slice ua n uc) := (hb.cell (p := ⟨b, off + k, none⟩) HB9.out).trans HT0.out
          by_cases hjn : j < n
          · obtain ⟨a2, cap2, hv2, g1, g2, hF2⟩ := HU.out
            obtain ⟨rfl, rfl⟩ : ua = a2 ∧ uc = cap2 := by simpa using hv2
            obtain ⟨b2, off2, rfl, hB2, hrow2⟩ := hF2 (by rw [HNC.out]; omega)
            have hjC : j < C.length := by rw [HNC.out]; exact hjn
            obtain ⟨cs2, hcell2, hx2⟩ := hrow2 j hjC
            obtain ⟨hcs2, f2⟩ := hx2
            subst hcs2
            have t2w : w.cell? ⟨b2, off2 + j, none⟩ = some (.string C[j]) := by have h9 := hcell2 0 (by decide); rw [show off2 + j * Rd.n ByteArray + 0 = off2 + j from by show off2 + j * 1 + 0 = _; omega] at h9; exact h9
            have t2 : wr.cell? ⟨b2, off2 + j, none⟩ = some (.string C[j]) := (hb.cell (p := ⟨b2, off2 + j, none⟩) hB2).trans t2w
            have hs1 := HCS.out C[j] (List.getElem_mem hjC)
            have HOK1 := hid (HOKC.out C[j] (List.getElem_mem hjC))
            have hone := tcellsT_one C
            have hsucc := tcellsT_succ C j hjC
            obtain ⟨s, hse⟩ : ∃ s, C[j] = s := ⟨_, rfl⟩
            rw [hse] at t2 t2w hs1 hsucc HOK1
            have HT2 := hid t2w
            have HB2 := hid hB2
            have hct := tcT_len s.data.toList
            rw [← Lib.size_eq] at hct
            have hji : (j : Int) < (n : Int) := by omega
            have hj0' : (0 : Int) ≤ (j : Int) := by omega
            clear hv2 g1 g2 hF2 hrow2 hcell2 hB2 t2w
            by_cases hj0 : j = 0
            · subst hj0
              have HST := hid (show tcellsT C 1 = tcT s.data.toList by rw [hone hjC, hse])
              have hjz : ¬ (0 : Int) < ((0 : Nat) : Int) := by omega
              clear hone hsucc hse
              rw [tcellsT_zero, List.append_nil] at hown
              rw [Nat.add_zero] at t2
              go_wp2_with fail
              refine (specTsvCell s _ HOK1.out).mono ?_
              rintro e w3 ⟨rfl, hb3⟩
              have hown3 := own_later hown hb3
              have hB3 := hb.trans (hb3.mono hb.size)
              clear hown t0 t2
              go_wp2_with ((at_builtin; refine Lib.wpList_append_own_string _ rfl _ _ 22 9 rfl w.heap.size 5 i0 Tryz.underlying22 Tryz.underlying9 hi hz0 hz1 hz2 _ _ _ rfl hown3 (mkB (tcT s.data.toList)) rfl ?c3 ?c4 ?c5 ?_))
              case c3 => rw [mkB_size]; (try simp only [List.length_append, List.length_cons, List.length_nil]); unfold maxLen; omega
              case c4 => rw [mkB_size]; (try simp only [List.length_append, List.length_cons, List.length_nil]); omega
              case c5 => exact hB3.size
              intro v'' w4 hown4 hgrow4 _
              have hlt4 := hown3.lt
              have hB4 : Below w.heap.size w w4 := hB3.grown hgrow4 hB3.size (fun q hq => (hlt4 q hq).1)
              rw [strCells_bv, ← byteV_app, mkB_size, ← List.length_append] at hown4
              clear hi hz0 hz1 hz2 hgrow4 hown3 hlt4 hb3 hB3
              go_wp2
              go_roundw
              case rel => exact ⟨1, by omega, by go_num, by rw [HST.out]; exact hown4, hB4⟩
              case measure => simp [intOf]; omega
            · have HST := hid (hsucc (by omega))
              have hjz : (0 : Int) < (j : Int) := by omega
              clear hone hsucc hse hj0
              have hBl : (H ++ tcellsT C j).length ≤ 304000 := by rw [List.length_append]; omega
              obtain ⟨B0, hB0⟩ : ∃ x, H ++ tcellsT C j = x := ⟨_, rfl⟩
              rw [hB0] at hown hBl
              have HB0 := hid hB0
              clear hB0
              go_wp2_with ((at_builtin; refine wpList_append_own _ rfl _ _ 22 rfl w.heap.size 5 i0 (.int .u8 0) 1 1 Tryz.underlying22 hi hz0 hz1 hz2 rfl (by decide) _ _ _ rfl (hown.alloc _) ⟨wr.heap.size, 0, none⟩ 1 1 [.int .u8 9] rfl rfl ?c1 ?c2 ?c3 ?c4 ?c5 ?_))
              try (case c1 => exact cells_new wr #[.int .u8 9] _)
              case c2 => first | rfl | (intro u hu; simp at hu; subst hu; rfl)
              case c3 => unfold maxLen; omega
              case c4 => omega
              case c5 => first | exact Nat.le_trans hb.size (by simp) | (have := hb.size; (try simp); omega)
              intro v' w2 hown2 hgrow _
              have hlt' := (hown.alloc (.cells #[.int .u8 9] 5)).lt
              have hB2 : Below w.heap.size w w2 := (hb.trans ((ext_alloc _ _).mono hb.size)).grown hgrow (hb.trans ((ext_alloc _ _).mono hb.size)).size (fun q hq => (hlt' q hq).1)
              have hB1l : (B0 ++ [9]).length ≤ 304001 := by rw [List.length_append]; show _ + 1 ≤ _; omega
              have hown2' : w2.ownsRow w.heap.size 5 1 v' (B0 ++ [9]).length (byteVals (B0 ++ [9])) := by rw [List.length_append, byteV_app]; exact hown2
              obtain ⟨B1, hB1⟩ : ∃ x, B0 ++ [9] = x := ⟨_, rfl⟩
              rw [hB1] at hown2' hB1l
              have HB1 := hid hB1
              clear hB1
              have t0' : w2.cell? ⟨b, off + k, none⟩ = some (.slice (some ⟨b2, off2, none⟩) n uc) := (hB2.cell (p := ⟨b, off + k, none⟩) HB9.out).trans HT0.out
              have t2' : w2.cell? ⟨b2, off2 + j, none⟩ = some (.string s) := (hB2.cell (p := ⟨b2, off2 + j, none⟩) HB2.out).trans HT2.out
              clear hown hown2 hgrow hlt' t0 t2
              go_wp2_with fail
              refine (specTsvCell s _ HOK1.out).mono ?_
              rintro e w3 ⟨rfl, hb3⟩
              have hown3 := own_later hown2' hb3
              have hB3 := hB2.trans (hb3.mono hB2.size)
              clear hown2' t0' t2'
              go_wp2_with ((at_builtin; refine Lib.wpList_append_own_string _ rfl _ _ 22 9 rfl w.heap.size 5 i0 Tryz.underlying22 Tryz.underlying9 hi hz0 hz1 hz2 _ _ _ rfl hown3 (mkB (tcT s.data.toList)) rfl ?c3 ?c4 ?c5 ?_))
              case c3 => rw [mkB_size]; (try simp only [List.length_append, List.length_cons, List.length_nil]); unfold maxLen; omega
              case c4 => rw [mkB_size]; (try simp only [List.length_append, List.length_cons, List.length_nil]); omega
              case c5 => exact hB3.size
              intro v'' w4 hown4 hgrow4 _
              have hlt4 := hown3.lt
              have hB4 : Below w.heap.size w w4 := hB3.grown hgrow4 hB3.size (fun q hq => (hlt4 q hq).1)
              rw [strCells_bv, ← byteV_app, mkB_size, ← List.length_append] at hown4
              clear hi hz0 hz1 hz2 hgrow4 hown3 hlt4 hb3 hB3
              go_wp2
              go_roundw
              case rel => exact ⟨j + 1, by omega, by go_num, by rw [HST.out, ← List.append_assoc, ← List.append_assoc, HB0.out, HB1.out]; exact hown4, hB4⟩
              case measure => simp [intOf]; omega
          · obtain rfl : j = n := by omega
            have hji : ¬ (j : Int) < (j : Int) := by omega
            obtain ⟨H1, hH1⟩ : ∃ H1, rowsTT (L.take (k + 1)) = H1 := ⟨_, rfl⟩
            have HH1 := hid hH1
            have HTK1 := hid (show H1 = H ++ (tcellsT C j ++ [10]) by rw [← hH1]; exact HTK.out)
            clear hH1 hjn
            have hBl : (H ++ tcellsT C j).length ≤ 304000 := by rw [List.length_append]; omega
            obtain ⟨B0, hB0⟩ : ∃ x, H ++ tcellsT C j = x := ⟨_, rfl⟩
            rw [hB0] at hown hBl
            have HB0 := hid hB0
            clear hB0
            go_wp2_with ((at_builtin; refine wpList_append_own _ rfl _ _ 22 rfl w.heap.size 5 i0 (.int .u8 0) 1 1 Tryz.underlying22 hi hz0 hz1 hz2 rfl (by decide) _ _ _ rfl (hown.alloc _) ⟨wr.heap.size, 0, none⟩ 1 1 [.int .u8 10] rfl rfl ?c1 ?c2 ?c3 ?c4 ?c5 ?_))
            try (case c1 => exact cells_new wr #[.int .u8 10] _)
            case c2 => first | rfl | (intro u hu; simp at hu; subst hu; rfl)
            case c3 => unfold maxLen; omega
            case c4 => omega
            case c5 => first | exact Nat.le_trans hb.size (by simp) | (have := hb.size; (try simp); omega)
            intro v' w2 hown2 hgrow _
            have hlt' := (hown.alloc (.cells #[.int .u8 10] 5)).lt
            have hB2 : Below w.heap.size w w2 := (hb.trans ((ext_alloc _ _).mono hb.size)).grown hgrow (hb.trans ((ext_alloc _ _).mono hb.size)).size (fun q hq => (hlt' q hq).1)
            have hown2' : w2.ownsRow w.heap.size 5 1 v' H1.length (byteVals H1) := by rw [HTK1.out, ← List.append_assoc, HB0.out, List.length_append, byteV_app]; exact hown2
            obtain ⟨oa, oc, rfl⟩ := own_slice hown2'
            clear hown hown2 hgrow hlt' t0
            by_cases hbig : 4000 < H1.length
            · have hbi : (4000 : Int) < (H1.length : Int) := by omega
              have HRR := hid (show tsvT L = none by rw [HR.out, if_neg]; have := HLE.out; rw [HH1.out] at this; omega)
              clear hbig hi hz0 hz1 hz2
              go_wp2
              go_ret2
              exact ⟨by rw [HRR.out] <;> rfl, hB2⟩
            · have hbi : ¬ (4000 : Int) < (H1.length : Int) := by omega
              clear hi hz0 hz1 hz2
              go_wp2
              go_roundw
              case rel => exact ⟨k + 1, by omega, by go_num, by rw [HH1.out]; exact hown2', hB2, by rw [HH1.out]; omega⟩
              case measure => simp [intOf]; omega
      · obtain rfl : k = xs.length := by omega
        have e1 : L.take xs.length = L := by rw [← HLN.out, List.take_length]
        rw [e1] at hown hle
        have HRR := hid (show tsvT L = some (rowsTT L) by rw [HR.out, if_pos hle])
        have hki : ¬ (xs.length : Int) < (xs.length : Int) := by omega
        have hcv := own_string (P := Tryz.prog) (src := 22) (dst := 9) hown Tryz.underlying22 Tryz.underlying5 Tryz.underlying9
        obtain ⟨oa, oc, rfl⟩ := own_slice hown
        clear hlt e1 hown hi hz0 hz1 hz2
        go_wp2
        go_ret2
        exact ⟨by rw [HRR.out] <;> rfl, hb⟩
end Go.Proofs.YtcebgmdcbdggeaaGreatDoor

namespace Go.Proofs.YtcebgmdcbdggeaaGreatDoor
open Go.RowKit
set_option linter.unusedVariables false
set_option linter.unusedSimpArgs false

/-- a reading of a cell -/
def TCellRes (w w' : World) (g : Nat) (s : ByteArray) (R : Nat × Nat × List UInt8) (e : Ending) : Prop :=
  e = .returned (.tuple #[.string (mkB R.2.2), .int .i64 (R.1 : Int)]) ∧ CRd w' g s R.2.1 ∧ Kp g none w w'
theorem escB_cases (d : UInt8) : escB d = none ∨ d = 116 ∨ d = 110 ∨ d = 114 ∨ d = 92 := by
  unfold escB
  by_cases h1 : d = 116
  · exact Or.inr (Or.inl h1)
  by_cases h2 : d = 110
  · exact Or.inr (Or.inr (Or.inl h2))
  by_cases h3 : d = 114
  · exact Or.inr (Or.inr (Or.inr (Or.inl h3)))
  by_cases h4 : d = 92
  · exact Or.inr (Or.inr (Or.inr (Or.inr h4)))
  · rw [if_neg h1, if_neg h2, if_neg h3, if_neg h4]; exact Or.inl rfl
theorem escB_none {d : UInt8} (h : escB d = none) : Lib.indexByte [116, 110, 114, 92] d = -1 := by
  unfold escB at h
  by_cases h1 : d = 116
  · rw [if_pos h1] at h; cases h
  by_cases h2 : d = 110
  · rw [if_neg h1, if_pos h2] at h; cases h
  by_cases h3 : d = 114
  · rw [if_neg h1, if_neg h2, if_pos h3] at h; cases h
  by_cases h4 : d = 92
  · rw [if_neg h1, if_neg h2, if_neg h3, if_pos h4] at h; cases h
  · have n1 : ¬ ((116 : UInt8) == d) = true := by rw [beq_iff_eq]; exact fun e => h1 e.symm
    have n2 : ¬ ((110 : UInt8) == d) = true := by rw [beq_iff_eq]; exact fun e => h2 e.symm
    have n3 : ¬ ((114 : UInt8) == d) = true := by rw [beq_iff_eq]; exact fun e => h3 e.symm
    have n4 : ¬ ((92 : UInt8) == d) = true := by rw [beq_iff_eq]; exact fun e => h4 e.symm
    simp only [Lib.indexByte, if_neg n1, if_neg n2, if_neg n3, if_neg n4]
    rfl
theorem own_qt {w w' : World} {base : Nat} {e : TypeId} {size n : Nat} {v : Value} {xs : List Value} (h : w.ownsRow base e size v n xs) (hq : Qt w w') : w'.ownsRow base e size v n xs := by
  obtain ⟨m, rfl⟩ := hq
  exact h
theorem grow_rd {w x w2 : World} {g q : Nat} {s : ByteArray} {v : Value} {o : Obj} (hc : CRd x g s q) (hk : Kp g none w x) (hg : g < w.heap.size) (hr : ∀ b, v.ownBlock = some b → w.heap.size ≤ b) (hx : w.heap.size ≤ x.heap.size) (h : (x.alloc o).grownBy w2 v.ownBlock) : CRd w2 g s q ∧ Kp g none w w2 ∧ w.heap.size ≤ w2.heap.size := by
  have hal : Below x.heap.size x (x.alloc o) := ext_alloc _ _
  have hgx : g < x.heap.size := Nat.lt_of_lt_of_le hg hx
  refine ⟨((h.block g (Nat.lt_of_lt_of_le hgx hal.size) (fun e => by have := hr g e.symm; omega)).trans (hal.block g hgx)).trans hc, Kp.newRow (hk.alloc o) h hr, Nat.le_trans hx (Nat.le_trans hal.size h.size)⟩
theorem info_u8V : (Tryz.prog.info? 5).map (fun i => (i.zero, i.size, i.bytes)) = some (some (.int .u8 0), 1, 1) := by kernel_rfl
theorem byteV_snoc (a : List UInt8) (b : UInt8) : byteVals (a ++ [b]) = byteVals a ++ [.int .u8 (b.toNat : Int)] := by simp [byteVals]
set_option maxHeartbeats 32000000 in
set_option maxRecDepth 100000 in
theorem implReadTCell {g p : Nat} {s : ByteArray} (w : World) (hb : CRd w g s p) (hp : p ≤ s.size) (hs : s.size ≤ 4000) :
    Calls Tryz.prog 39 #[.pointer (some ⟨g, 0, none⟩)] w fun e w' => TCellRes w w' g s (tcA (s.data.toList.drop p) p []) e := by
  obtain ⟨i0, hi, hz0, hz1, hz2⟩ := info_parts info_u8V
  have hg : g < w.heap.size := hb.cells.2.2.2.2
  obtain ⟨L, hL⟩ : ∃ L, s.data.toList = L := ⟨_, rfl⟩
  have HL := hid hL
  have HSL := hid (show s.size = L.length by rw [Lib.size_eq, hL])
  rw [hL]
  obtain ⟨R, hR⟩ : ∃ R, tcA (L.drop p) p [] = R := ⟨_, rfl⟩
  have HR0 := hid hR
  rw [hR]
  have HB0 := hid hb
  have HK0 := hid (Kp.refl g none w)
  clear hb hL hR
  go_enter Tryz.func39, Tryz.ntmps39
  go_wp2
  go_loopw [4, 5, 6] (fun v4 v5 v6 wr => ∃ (q : Nat) (t : List UInt8), p ≤ q ∧ q ≤ s.size ∧ t.length ≤ q ∧ CRd wr g s q ∧ Kp g none w wr ∧ w.heap.size ≤ wr.heap.size ∧ wr.ownsRow w.heap.size 5 1 v4 t.length (byteVals t) ∧ Hid (R = tcA (L.drop q) q t)) (fun _ _ _ wr => s.size - atOf wr g)
  case atStart => exact ⟨p, [], Nat.le_refl _, hp, Nat.zero_le _, HB0.out, HK0.out, Nat.le_refl _, World.ownsRow_nil _ _ _ _, hid HR0.out.symm⟩
  case round =>
    obtain ⟨q, t, hq1, hq2, htq, hc, hk, hwr, hown, HR⟩ := hrel
    obtain ⟨c0, c1, z0, z1, hg'⟩ := hc.cells
    obtain ⟨va, vc, rfl⟩ := own_slice hown
    have hcv := fun n => own_string (P := Tryz.prog) (w := wr.drewN n) (src := 22) (dst := 9) hown Tryz.underlying22 Tryz.underlying5 Tryz.underlying9
    have HC := hid hc
    have HK := hid hk
    have HOW := hid hown
    have hq0 : (0 : Int) ≤ (q : Int) := by omega
    clear hc hk hown
    cases hD : L.drop q with
    | nil =>
      have hqe : ¬ (q : Int) < (s.size : Int) := by
        have h1 := congrArg List.length hD
        rw [List.length_drop, ← HSL.out, List.length_nil] at h1
        omega
      have hqn : ¬ q < s.size := by omega
      have HRR := hid (show R = (0, q, t) by rw [HR.out, hD, tcA])
      clear HR hD hi hz0 hz1 hz2
      go_wp2_with fail
      go_quiet (fail)
      go_wp2
      go_ret2
      rw [HRR.out]
      exact ⟨rfl, HC.out.qt (Qt.one _ _), HK.out.drewN _⟩
    | cons c r =>
      obtain ⟨hlt, hby⟩ := byte_at (show s.data.toList.drop q = c :: r by rw [HL.out, hD])
      have hlti : (q : Int) < (s.size : Int) := by omega
      have hRc : R = tcA (c :: r) q t := by rw [HR.out, hD]
      have hr : L.drop (q + 1) = r := by rw [← List.drop_drop, hD]; rfl
      have HRC := hid hRc
      have HRD := hid hr
      clear HR hD hRc hr
      by_cases h9 : c = 9
      · have hx1 : ((s[q]'hlt : UInt8).toNat : Int) = 9 := by rw [hby, h9]; rfl
        have hx2 : (((s[q]'hlt : UInt8).toNat : Int) != 9) = false := by rw [hx1]; rfl
        have HRR := hid (show R = (0, q, t) by rw [HRC.out, tcA_end r q t (Or.inl h9)])
        clear HRC HRD hby h9 hi hz0 hz1 hz2
        go_wp2_with fail
        go_quiet (fail)
        go_wp2
        go_ret2
        rw [HRR.out]
        exact ⟨rfl, HC.out.qt (Qt.one _ _), HK.out.drewN _⟩
      have n9 : ¬ ((s[q]'hlt : UInt8).toNat : Int) = 9 := by rw [hby]; intro h; exact h9 (UInt8.toNat_inj.1 (by show c.toNat = 9; omega))
      have b9 : (((s[q]'hlt : UInt8).toNat : Int) != 9) = true := bne_iff_ne.2 n9
      by_cases h10 : c = 10
      · have hx1 : ((s[q]'hlt : UInt8).toNat : Int) = 10 := by rw [hby, h10]; rfl
        have hx2 : (((s[q]'hlt : UInt8).toNat : Int) != 10) = false := by rw [hx1]; rfl
        have HRR := hid (show R = (0, q, t) by rw [HRC.out, tcA_end r q t (Or.inr h10)])
        clear HRC HRD hby h10 hi hz0 hz1 hz2
        go_wp2_with fail
        go_quiet (fail)
        go_wp2
        go_ret2
        rw [HRR.out]
        exact ⟨rfl, HC.out.qt (Qt.one _ _), HK.out.drewN _⟩
      have n10 : ¬ ((s[q]'hlt : UInt8).toNat : Int) = 10 := by rw [hby]; intro h; exact h10 (UInt8.toNat_inj.1 (by show c.toNat = 10; omega))
      have b10 : (((s[q]'hlt : UInt8).toNat : Int) != 10) = true := bne_iff_ne.2 n10
      have H910 := hid (show ¬ (c = 9 ∨ c = 10) from fun h => h.elim h9 h10)
      clear h9 h10 hcv
      obtain ⟨q1, hq1e⟩ : ∃ x, q + 1 = x := ⟨_, rfl⟩
      have hw1' : (q : Int) + 1 = (q1 : Int) := by omega
      have hw1 : IntKind.i64.wrap (q1 : Int) = (q1 : Int) := IntWalk.i64_in _ (by omega)
      by_cases h92 : c ≠ 92
      · have HRR := hid (show R = tcA (L.drop q1) q1 (t ++ [c]) by rw [HRC.out, tcA_plain r q t H910.out h92, ← hq1e, HRD.out])
        have n92 : ¬ ((s[q]'hlt : UInt8).toNat : Int) = 92 := by rw [hby]; intro h; exact h92 (UInt8.toNat_inj.1 (by show c.toNat = 92; omega))
        have b92 : (((s[q]'hlt : UInt8).toNat : Int) == 92) = false := by rw [beq_eq_false_iff_ne]; exact n92
        have HBY := hid hby
        have HQ1 := hid hq1e
        clear HRC HRD hby h92 hq1e
        go_wp2_with fail
        go_quiet (fail)
        go_wp2_with fail
        go_quiet (fail)
        go_wp2_with ((at_builtin; refine wpList_append_own _ rfl _ _ 22 rfl w.heap.size 5 i0 (.int .u8 0) 1 1 Tryz.underlying22 hi hz0 hz1 hz2 rfl (by decide) _ _ _ rfl (World.ownsRow.alloc (w := wr.drewN _) HOW.out _) ⟨wr.heap.size, 0, none⟩ 1 1 [.int .u8 ((s[q]'hlt : UInt8).toNat : Int)] rfl rfl ?c1 ?c2 ?c3 ?c4 ?c5 ?_))
        try (case c1 => exact cells_new (wr.drewN _) #[.int .u8 ((s[q]'hlt : UInt8).toNat : Int)] _)
        case c2 => first | rfl | (intro u hu; simp at hu; subst hu; rfl)
        case c3 => unfold maxLen; omega
        case c4 => omega
        case c5 => first | exact Nat.le_trans hwr (by simp) | (simp; omega)
        intro v' w2 hown2 hgrow _
        obtain ⟨hc2, hk2, hw22⟩ := grow_rd (HC.out.qt (Qt.one _ _)) (HK.out.drewN _) hg (fun b hb => (HOW.out.lt b hb).1) hwr hgrow
        have HO2 := hid (show w2.ownsRow w.heap.size 5 1 v' (t ++ [c]).length (byteVals (t ++ [c])) by rw [List.length_append, byteV_snoc, ← HBY.out]; exact hown2)
        clear hown2 hgrow hi hz0 hz1 hz2 c0 c1 z0 z1 hg'
        obtain ⟨c0, c1, z0, z1, hg'⟩ := hc2.cells
        have HC5 := hid (hc2.set q1)
        have HK5 := hid (hk2.set 1 (.int .i64 (q1 : Int)))
        have HO5 := hid (ownsRow_setCell_below HO2.out (a := ⟨g, 1, none⟩) hg (.int .i64 (q1 : Int)))
        have hw5 : w.heap.size ≤ (w2.setCell ⟨g, 1, none⟩ (.int .i64 (q1 : Int))).heap.size := by simpa [World.setCell] using hw22
        clear hc2 hk2
        go_wp2
        go_roundw
        case rel => exact ⟨q1, t ++ [c], by have := HQ1.out; omega, by have := HQ1.out; omega, by have := HQ1.out; rw [List.length_append]; show _ + 1 ≤ _; omega, HC5.out, HK5.out, hw5, HO5.out, HRR⟩
        case measure =>
          have e1 := HC5.out.atOf
          have e2 := HC.out.atOf
          have := HQ1.out
          rw [e1, e2]
          omega
      have h92' : c = 92 := by simpa using h92
      subst h92'
      have hx1 : ((s[q]'hlt : UInt8).toNat : Int) = 92 := by rw [hby]; rfl
      have hq10 : (0 : Int) ≤ (q1 : Int) := by omega
      cases r with
      | nil =>
        have hqe : ¬ (q1 : Int) < (s.size : Int) := by
          have h1 := congrArg List.length HRD.out
          rw [List.length_drop, ← HSL.out, List.length_nil] at h1
          omega
        have hqn : ¬ q1 < s.size := by omega
        have HRR := hid (show R = (7, q, []) by rw [HRC.out, tcA_last])
        clear HRC HRD hby h92 hi hz0 hz1 hz2 hq1e
        go_wp2_with fail
        go_quiet (fail)
        go_wp2_with fail
        go_quiet (fail)
        go_wp2_with fail
        go_quiet (fail)
        go_wp2
        go_ret2
        rw [HRR.out]
        exact ⟨rfl, HC.out.qt (Qt.one _ _), HK.out.drewN _⟩
      | cons d r =>
        have HRD1 := hid (show L.drop q1 = d :: r by rw [← hq1e]; exact HRD.out)
        obtain ⟨hlt2, hby2⟩ := byte_at (show s.data.toList.drop q1 = d :: r by rw [HL.out, HRD1.out])
        obtain ⟨q2, hq2e⟩ : ∃ x, q + 2 = x := ⟨_, rfl⟩
        have HRD2 := hid (show L.drop q2 = r by rw [← hq2e, show q + 2 = (q + 1) + 1 by omega, ← List.drop_drop, HRD.out]; rfl)
        have HRE := hid (show R = match escB d with | none => (7, q, []) | some x => tcA r (q + 2) (t ++ [x]) by rw [HRC.out]; exact tcA_esc d r q t)
        have hix := Tryz.strings_IndexByte ⟨#[116, 110, 114, 92]⟩ (d.toNat : Int)
        have hval : ((d.toNat : Int)).toNat.toUInt8 = d := by rw [Int.toNat_natCast]; exact UInt8.ofNat_toNat
        rw [hval] at hix
        have HIX := hid (show ∀ w : World, Calls Tryz.prog 38 #[.string ⟨#[116, 110, 114, 92]⟩, .int .u8 (d.toNat : Int)] w fun e w' => e = .returned (.int .i64 (Lib.indexByte [116, 110, 114, 92] d)) ∧ w' = w from hix)
        have hlti2 : (q1 : Int) < (s.size : Int) := by omega
        have hbi : ((s[q1]'hlt2 : UInt8).toNat : Int) = (d.toNat : Int) := by rw [hby2]
        have hw2' : (q1 : Int) + 1 = (q2 : Int) := by omega
        have hw2 : IntKind.i64.wrap (q2 : Int) = (q2 : Int) := IntWalk.i64_in _ (by omega)
        have HQ1 := hid hq1e
        have HQ2 := hid hq2e
        clear hix hval HRC HRD HRD1 hby hby2 h92 hq1e hq2e
        rcases escB_cases d with hE | hE
        · have HRR := hid (show R = (7, q, []) by rw [HRE.out, hE])
          rw [escB_none hE] at HIX
          clear HRE hE hi hz0 hz1 hz2
          go_wp2_with fail
          go_quiet (fail)
          obtain ⟨x1, hx1⟩ : ∃ x, wr.drewN nq = x := ⟨_, rfl⟩
          rw [hx1]
          have HQX1 := hid (show Qt wr x1 from ⟨nq, hx1.symm⟩)
          clear hx1 c0 c1 z0 z1 hg'
          obtain ⟨c0, c1, z0, z1, hg'⟩ := (HC.out.qt HQX1.out).cells
          go_wp2_with fail
          go_quiet (fail)
          obtain ⟨x2, hx2⟩ : ∃ x, x1.drewN nq = x := ⟨_, rfl⟩
          rw [hx2]
          have HQX2 := hid (HQX1.out.trans (show Qt x1 x2 from ⟨nq, hx2.symm⟩))
          clear hx2 c0 c1 z0 z1 hg'
          obtain ⟨c0, c1, z0, z1, hg'⟩ := (HC.out.qt HQX2.out).cells
          go_wp2_with fail
          go_quiet (fail)
          obtain ⟨x3, hx3⟩ : ∃ x, x2.drewN nq = x := ⟨_, rfl⟩
          rw [hx3]
          have HQX3 := hid (HQX2.out.trans (show Qt x2 x3 from ⟨nq, hx3.symm⟩))
          clear hx3 c0 c1 z0 z1 hg'
          obtain ⟨c0, c1, z0, z1, hg'⟩ := (HC.out.qt HQX3.out).cells
          go_wp2_with fail
          go_quiet (refine Calls.quiet_of_same (HIX.out _))
          go_wp2
          go_ret2
          rw [HRR.out]
          exact ⟨rfl, (HC.out.qt HQX3.out).qt (Qt.one _ _), (HK.out.trans HQX3.out.kp (RowOn.refl _ _)).drewN _⟩
        have hall : ∃ (x : UInt8) (j : Nat), escB d = some x ∧ Lib.indexByte [116, 110, 114, 92] d = (j : Int) ∧ ((j = 0 ∧ x = 9) ∨ (j = 1 ∧ x = 10) ∨ (j = 2 ∧ x = 13) ∨ (j = 3 ∧ x = 92)) := by
          rcases hE with rfl | rfl | rfl | rfl
          · exact ⟨9, 0, rfl, rfl, Or.inl ⟨rfl, rfl⟩⟩
          · exact ⟨10, 1, rfl, rfl, Or.inr (Or.inl ⟨rfl, rfl⟩)⟩
          · exact ⟨13, 2, rfl, rfl, Or.inr (Or.inr (Or.inl ⟨rfl, rfl⟩))⟩
          · exact ⟨92, 3, rfl, rfl, Or.inr (Or.inr (Or.inr ⟨rfl, rfl⟩))⟩
        obtain ⟨x, j, hx, hj, hjx⟩ := hall
        have HRR := hid (show R = tcA (L.drop q2) q2 (t ++ [x]) by rw [HRE.out, hx, HRD2.out, HQ2.out])
        rw [hj] at HIX
        have hidx : ∃ h : j < (⟨#[9, 10, 13, 92]⟩ : ByteArray).size, (⟨#[9, 10, 13, 92]⟩ : ByteArray)[j]'h = x := by
          rcases hjx with ⟨rfl, rfl⟩ | ⟨rfl, rfl⟩ | ⟨rfl, rfl⟩ | ⟨rfl, rfl⟩
          · exact ⟨by decide, rfl⟩
          · exact ⟨by decide, rfl⟩
          · exact ⟨by decide, rfl⟩
          · exact ⟨by decide, rfl⟩
        have hj4 : j < 4 := by omega
        clear hE hx hj hjx HRE HRD2
        obtain ⟨M, hM⟩ : ∃ M, (⟨#[9, 10, 13, 92]⟩ : ByteArray) = M := ⟨_, rfl⟩
        have hM4 : M.size = 4 := by rw [← hM]; rfl
        rw [hM] at hidx
        obtain ⟨hjl, hjv⟩ := hidx
        have hj0 : ¬ (j : Int) < 0 := by omega
        have hj00 : (0 : Int) ≤ (j : Int) := by omega
        have hji : (j : Int) < (M.size : Int) := by omega
        have hjb : ((M[j]'hjl : UInt8).toNat : Int) = (x.toNat : Int) := by rw [hjv]
        have HM := hid hM
        clear hjv hM hM4 hj4
        go_wp2_with fail
        go_quiet (fail)
        obtain ⟨x1, hx1⟩ : ∃ x, wr.drewN nq = x := ⟨_, rfl⟩
        rw [hx1]
        have HQX1 := hid (show Qt wr x1 from ⟨nq, hx1.symm⟩)
        clear hx1 c0 c1 z0 z1 hg'
        obtain ⟨c0, c1, z0, z1, hg'⟩ := (HC.out.qt HQX1.out).cells
        go_wp2_with fail
        go_quiet (fail)
        obtain ⟨x2, hx2⟩ : ∃ x, x1.drewN nq = x := ⟨_, rfl⟩
        rw [hx2]
        have HQX2 := hid (HQX1.out.trans (show Qt x1 x2 from ⟨nq, hx2.symm⟩))
        clear hx2 c0 c1 z0 z1 hg'
        obtain ⟨c0, c1, z0, z1, hg'⟩ := (HC.out.qt HQX2.out).cells
        go_wp2_with fail
        go_quiet (fail)
        obtain ⟨x3, hx3⟩ : ∃ x, x2.drewN nq = x := ⟨_, rfl⟩
        rw [hx3]
        have HQX3 := hid (HQX2.out.trans (show Qt x2 x3 from ⟨nq, hx3.symm⟩))
        clear hx3 c0 c1 z0 z1 hg'
        obtain ⟨c0, c1, z0, z1, hg'⟩ := (HC.out.qt HQX3.out).cells
        go_wp2_with fail
        go_quiet (refine Calls.quiet_of_same (HIX.out _))
        go_upto_region 11 with fail
        rw [HM.out]
        go_upto_region 13 with fail
        obtain ⟨y, hy⟩ : ∃ y, (x3.drewN nq).setCell ⟨g, 1, none⟩ (.int .i64 (q1 : Int)) = y := ⟨_, rfl⟩
        rw [hy]
        have HQ4 := hid (HQX3.out.trans (Qt.one x3 nq))
        have HCy := hid (show CRd y g s q1 by rw [← hy]; exact (HC.out.qt HQ4.out).set q1)
        have HKy := hid (show Kp g none w y by rw [← hy]; exact (HK.out.trans HQ4.out.kp (RowOn.refl _ _)).set 1 (.int .i64 (q1 : Int)))
        have HOy := hid (show y.ownsRow w.heap.size 5 1 (.slice va t.length vc) t.length (byteVals t) by rw [← hy]; exact ownsRow_setCell_below (own_qt HOW.out HQ4.out) (a := ⟨g, 1, none⟩) hg (.int .i64 (q1 : Int)))
        have hwy : w.heap.size ≤ y.heap.size := by
          have h1 := HQ4.out.heap
          rw [← hy]
          simp only [World.setCell, Array.size_modify]
          rw [h1]
          exact hwr
        clear hy c0 c1 z0 z1 hg'
        go_wp2_with ((at_builtin; refine wpList_append_own _ rfl _ _ 22 rfl w.heap.size 5 i0 (.int .u8 0) 1 1 Tryz.underlying22 hi hz0 hz1 hz2 rfl (by decide) _ _ _ rfl (HOy.out.alloc _) ⟨y.heap.size, 0, none⟩ 1 1 [.int .u8 (x.toNat : Int)] rfl rfl ?c1 ?c2 ?c3 ?c4 ?c5 ?_))
        try (case c1 => exact cells_new y #[.int .u8 (x.toNat : Int)] _)
        case c2 => first | rfl | (intro u hu; simp at hu; subst hu; rfl)
        case c3 => unfold maxLen; omega
        case c4 => omega
        case c5 => first | exact Nat.le_trans hwy (by simp) | (simp; omega)
        intro v' w2 hown2 hgrow _
        obtain ⟨hc2, hk2, hw22⟩ := grow_rd HCy.out HKy.out hg (fun b hb => (HOy.out.lt b hb).1) hwy hgrow
        have HO2 := hid (show w2.ownsRow w.heap.size 5 1 v' (t ++ [x]).length (byteVals (t ++ [x])) by rw [List.length_append, byteV_snoc]; exact hown2)
        clear hown2 hgrow hi hz0 hz1 hz2
        obtain ⟨c0, c1, z0, z1, hg'⟩ := hc2.cells
        have HC5 := hid (hc2.set q2)
        have HK5 := hid (hk2.set 1 (.int .i64 (q2 : Int)))
        have HO5 := hid (ownsRow_setCell_below HO2.out (a := ⟨g, 1, none⟩) hg (.int .i64 (q2 : Int)))
        have hw5 : w.heap.size ≤ (w2.setCell ⟨g, 1, none⟩ (.int .i64 (q2 : Int))).heap.size := by simpa [World.setCell] using hw22
        clear hc2 hk2
        go_wp2
        go_roundw
        case rel => exact ⟨q2, t ++ [x], by have := HQ2.out; omega, by have := HQ2.out; omega, by have := HQ2.out; rw [List.length_append]; show _ + 1 ≤ _; omega, HC5.out, HK5.out, hw5, HO5.out, HRR⟩
        case measure =>
          have e1 := HC5.out.atOf
          have e2 := HC.out.atOf
          have := HQ2.out
          rw [e1, e2]
          omega
end Go.Proofs.YtcebgmdcbdggeaaGreatDoor

namespace Go.Proofs.YtcebgmdcbdggeaaGreatDoor
open Go.RowKit
set_option linter.unusedVariables false
set_option linter.unusedSimpArgs false

set_option maxHeartbeats 16000000 in
set_option maxRecDepth 100000 in
theorem implTsvRow {g p : Nat} {s : ByteArray} (w : World) (hb : CRd w g s p) (hp : p ≤ s.size) (hs : s.size ≤ 4000) :
    Calls Tryz.prog 18 #[.pointer (some ⟨g, 0, none⟩)] w fun e w' => RowRes w w' g s (trowP s.data.toList 100 p []) e := by
  obtain ⟨i0, hi, hz0, hz1, hz2⟩ := info_parts info_strC
  have hg : g < w.heap.size := hb.cells.2.2.2.2
  obtain ⟨R, hR⟩ : ∃ R, trowP s.data.toList 100 p [] = R := ⟨_, rfl⟩
  have HR0 := hid hR
  rw [hR]
  have e1 := ext_alloc w (.cells #[.slice none 0 0] 34)
  have e2 := ext_alloc (w.alloc (.cells #[.slice none 0 0] 34)) (.cells #[.slice none 0 0] 34)
  obtain ⟨w2, hw2⟩ : ∃ x, (w.alloc (.cells #[.slice none 0 0] 34)).alloc (.cells #[.slice none 0 0] 34) = x := ⟨_, rfl⟩
  have hbel : Below w.heap.size w w2 := by rw [← hw2]; exact ext_trans e1 e2
  have hA : w2.heap[w.heap.size]? = some (.cells #[.slice none 0 0] 34 (0, 0)) := by rw [← hw2]; exact (e2.block w.heap.size (by simp)).trans (heap_alloc_new w _)
  have hB : w2.heap[w.heap.size + 1]? = some (.cells #[.slice none 0 0] 34 (0, 0)) := by
    rw [← hw2]
    have := heap_alloc_new (w.alloc (.cells #[.slice none 0 0] 34)) (.cells #[.slice none 0 0] 34)
    simpa using this
  have hsz2 : w2.heap.size = w.heap.size + 2 := by rw [← hw2]; simp
  have HC2 := hid (show CRd w2 g s p from (hbel.block g hg).trans hb)
  have HK2 := hid (Kp.of_below (g := g) (row := none) hbel)
  have HA := hid hA
  have HB := hid hB
  have HS2 := hid hsz2
  clear hb e1 e2 hbel hA hB hR hsz2
  go_enter Tryz.func18, Tryz.ntmps18
  go_wp2
  try rw [hw2]
  clear hw2
  go_loopw [5, 6, 7] (fun v5 v6 v7 wr => ∃ (q : Nat) (cs : List (List UInt8)) (v : Value), p ≤ q ∧ q ≤ s.size ∧ cs.length ≤ 100 ∧ CRd wr g s q ∧ Kp g none w wr ∧ wr.heap[w.heap.size]? = some (.cells #[.slice none 0 0] 34 (0, 0)) ∧ wr.heap[w.heap.size + 1]? = some (.cells #[v] 34 (0, 0)) ∧ wr.ownsRow (w.heap.size + 2) 9 1 v cs.length (cellV cs) ∧ w.heap.size + 2 ≤ wr.heap.size ∧ Hid (R = trowP s.data.toList (100 - cs.length) q cs)) (fun _ _ _ wr => s.size - atOf wr g)
  case atStart => exact ⟨p, [], .slice none 0 0, Nat.le_refl _, hp, Nat.zero_le _, HC2.out, HK2.out, HA.out, HB.out, ⟨rfl, Or.inl ⟨rfl, rfl⟩⟩, by rw [HS2.out]; exact Nat.le_refl _, hid HR0.out.symm⟩
  case round =>
    obtain ⟨q, cs, v, hq1, hq2, hcl, hc, hk, ha, hb, hown, hwr, HR⟩ := hrel
    have a0 : wr.cell? ⟨w.heap.size, 0, none⟩ = some (.slice none 0 0) := cell_of_row _ _ 0 _ _ _ ha
    have ay : wr.frozen? ⟨w.heap.size, 0, none⟩ = false := frozen_of_row _ _ 0 _ _ ha
    have b0 : wr.cell? ⟨w.heap.size + 1, 0, none⟩ = some v := cell_of_row _ _ 0 _ _ _ hb
    have by' : wr.frozen? ⟨w.heap.size + 1, 0, none⟩ = false := frozen_of_row _ _ 0 _ _ hb
    obtain ⟨va, vn, vc, hv⟩ : ∃ a n c, v = .slice a n c ∧ n = cs.length := by
      obtain ⟨a, c, h⟩ := row_shapeC hown
      exact ⟨a, _, c, h, rfl⟩
    obtain ⟨rfl, rfl⟩ := hv
    obtain ⟨c0, c1, z0, z1, hg'⟩ := hc.cells
    have hgA : ¬ g = w.heap.size := by omega
    have hgB : ¬ g = w.heap.size + 1 := by omega
    have HAT := hid hc.atOf
    have HC := hid hc
    have HK := hid hk
    have HAA := hid ha
    have HBB := hid hb
    have HO := hid hown
    clear hc hk ha hb hown
    by_cases hfull : cs.length = 100
    · have hf1 : ((cs.length : Int) == 100) = true := by rw [hfull]; rfl
      have HRR := hid (show R = (5, q, []) by rw [HR.out, hfull, trowP_zero])
      clear hfull HR
      go_wp2
      refine bodyPost_ret (v := .tuple #[.agg #[.slice none 0 0], .int .i64 5]) (by simp [results, Tryz.results18, go_sem, *]) rfl ⟨none, 0, 0, by rw [HRR.out] <;> rfl, ?_, HK.out.new (Nat.le_refl _) _, fun h => absurd (show (5 : Nat) = 0 by rw [HRR.out] at h; exact h) (by decide), by rw [HRR.out]; exact hq2⟩
      rw [HRR.out]
      exact HC.out.other hgA _
    · have hf1 : ((cs.length : Int) == 100) = false := by rw [beq_eq_false_iff_ne]; omega
      obtain ⟨k, hk1⟩ : ∃ k, 100 - cs.length = k + 1 := ⟨99 - cs.length, by omega⟩
      obtain ⟨L, hL⟩ : ∃ L, s.data.toList = L := ⟨_, rfl⟩
      have HL := hid hL
      have hcl2 := tcA_le (L.drop q) q []
      rw [List.length_drop, show L.length = s.size by rw [← hL, Lib.size_eq]] at hcl2
      have CC := hid (fun (w' : World) (hq : Qt wr w') => implReadTCell w' (HC.out.qt hq) hq2 hs)
      obtain ⟨⟨cc, cn, ct⟩, hcell⟩ : ∃ x, tcA (L.drop q) q [] = x := ⟨_, rfl⟩
      have hRw : R = if cc ≠ 0 then (cc, cn, []) else if 1000 < ct.length then (6, q, []) else match (L.drop cn).head? with | none => (0, cn, cs ++ [ct]) | some c => if c = 10 then (0, cn + 1, cs ++ [ct]) else trowP L k (cn + 1) (cs ++ [ct]) := by
        rw [HR.out, hk1, hL]; exact trowP_succ L k q cs hcell
      rw [hL, hcell] at CC
      rw [hcell] at hcl2
      have HRW := hid hRw
      clear hRw hcell HR hL
      dsimp only at hcl2
      simp only [List.length_nil, Nat.zero_add] at hcl2
      go_wp2_with fail
      refine (CC.out _ (Qt.refl _)).mono ?_
      rintro e w3 ⟨rfl, hc3, hk3⟩
      dsimp only at hc3
      have hkk := HK.out.trans hk3 (RowOn.refl _ _)
      have HA3 := hid ((hk3.block w.heap.size (by omega) (fun e => hgA e.symm) (by simp)).trans HAA.out)
      have HB3 := hid ((hk3.block (w.heap.size + 1) (by omega) (fun e => hgB e.symm) (by simp)).trans HBB.out)
      have HO3 := hid (row_keepC HO.out hk3 (by omega))
      have hwr3 : w.heap.size + 2 ≤ w3.heap.size := Nat.le_trans hwr hk3.size
      have HC3 := hid hc3
      have HK3 := hid hkk
      clear c0 c1 z0 z1 a0 ay b0 by' hg' hc3 hk3 hkk CC HC HK HAA HBB HO
      have a0 : w3.cell? ⟨w.heap.size, 0, none⟩ = some (.slice none 0 0) := cell_of_row _ _ 0 _ _ _ HA3.out
      have ay : w3.frozen? ⟨w.heap.size, 0, none⟩ = false := frozen_of_row _ _ 0 _ _ HA3.out
      have b0 : w3.cell? ⟨w.heap.size + 1, 0, none⟩ = some (.slice va cs.length vc) := cell_of_row _ _ 0 _ _ _ HB3.out
      have by' : w3.frozen? ⟨w.heap.size + 1, 0, none⟩ = false := frozen_of_row _ _ 0 _ _ HB3.out
      obtain ⟨c0, c1, z0, z1, hg'⟩ := HC3.out.cells
      by_cases hcc : cc = 0
      rotate_left
      · have hz1 : ((cc : Int) == 0) = false := by rw [beq_eq_false_iff_ne]; omega
        have hz2 : ((cc : Int) != 0) = true := by rw [bne_iff_ne]; omega
        have hz3 : ¬ (cc : Int) = 0 := by omega
        have HRR := hid (show R = (cc, cn, []) by rw [HRW.out, if_pos hcc])
        clear HRW
        go_wp2
        refine bodyPost_ret (v := .tuple #[.agg #[.slice none 0 0], .int .i64 (cc : Int)]) (by simp [results, Tryz.results18, go_sem, *]) rfl ⟨none, 0, 0, by rw [HRR.out] <;> rfl, ?_, HK3.out.new (Nat.le_refl _) _, fun h => absurd (show cc = 0 by rw [HRR.out] at h; exact h) hcc, by rw [HRR.out]; show cn ≤ _; omega⟩
        rw [HRR.out]
        exact HC3.out.other hgA _
      subst hcc
      by_cases hlong : 1000 < ct.length
      · have hl1 : (1000 : Int) < ((mkB ct).size : Int) := by rw [mkB_size]; omega
        have HRR := hid (show R = (6, q, []) by rw [HRW.out, if_neg (by simp), if_pos hlong])
        have HCQ := hid (HC3.out.set q)
        have HKQ := hid (HK3.out.set 1 (.int .i64 (q : Int)))
        clear HRW hlong
        go_wp2
        refine bodyPost_ret (v := .tuple #[.agg #[.slice none 0 0], .int .i64 6]) (by simp [results, Tryz.results18, go_sem, *]) rfl ⟨none, 0, 0, by rw [HRR.out] <;> rfl, ?_, HKQ.out.new (Nat.le_refl _) _, fun h => absurd (show (6 : Nat) = 0 by rw [HRR.out] at h; exact h) (by decide), by rw [HRR.out]; exact hq2⟩
        rw [HRR.out]
        exact HCQ.out.other hgA _
      have hl1 : ¬ (1000 : Int) < ((mkB ct).size : Int) := by rw [mkB_size]; omega
      have HRW2 := hid (show R = match (L.drop cn).head? with | none => (0, cn, cs ++ [ct]) | some c => if c = 10 then (0, cn + 1, cs ++ [ct]) else trowP L k (cn + 1) (cs ++ [ct]) by rw [HRW.out, if_neg (by simp), if_neg hlong])
      clear HRW hlong
      have hown3 := HO3.out
      go_wp2_with ((at_builtin; refine wpList_append_own _ rfl _ _ 30 rfl (w.heap.size + 2) 9 i0 (.string ⟨#[]⟩) 1 16 Tryz.underlying30 hi hz0 hz1 hz2 rfl (by decide) _ _ _ rfl (hown3.alloc _) ⟨w3.heap.size, 0, none⟩ 1 1 [.string (mkB ct)] rfl rfl ?c1 ?c2 ?c3 ?c4 ?c5 ?_))
      case c1 => exact cell_one_new _ _ _
      case c2 => intro u hu; simp at hu; subst hu; rfl
      case c3 => unfold maxLen; omega
      case c4 => omega
      case c5 => simp; omega
      intro v' w4 hown4 hgrow hvn
      obtain ⟨va', vc', hv'⟩ := row_shapeC hown4
      subst hv'
      have hown4' : w4.ownsRow (w.heap.size + 2) 9 1 (.slice va' (cs.length + 1) vc') (cs ++ [ct]).length (cellV (cs ++ [ct])) := by
        have e : cellV (cs ++ [ct]) = cellV cs ++ [.string (mkB ct)] := by simp [cellV]
        rw [e, List.length_append]
        exact hown4
      have hal : Below w3.heap.size w3 (w3.alloc (.cells #[.string (mkB ct)] 9)) := ext_alloc _ _
      have hrow : ∀ b, (Value.slice va cs.length vc).ownBlock = some b → w.heap.size + 2 ≤ b := fun b hb => (HO3.out.lt b hb).1
      have hblk : ∀ b, b < w.heap.size + 2 → b < w3.heap.size → w4.heap[b]? = w3.heap[b]? := fun b hb hb3 => (hgrow.block b (Nat.lt_of_lt_of_le hb3 hal.size) (fun e => by have := hrow b e.symm; omega)).trans (hal.block b hb3)
      have HC4 := hid (show CRd w4 g s (cn) from (hblk g (by omega) (by omega)).trans HC3.out)
      have HK4 := hid (Kp.newRow (HK3.out.alloc (.cells #[.string (mkB ct)] 9)) hgrow (fun b hb => by have := hrow b hb; omega))
      have HA4 := hid ((hblk w.heap.size (by omega) (by omega)).trans HA3.out)
      have HB4 := hid ((hblk (w.heap.size + 1) (by omega) (by omega)).trans HB3.out)
      have hwr4 : w.heap.size + 2 ≤ w4.heap.size := Nat.le_trans (Nat.le_trans hwr3 hal.size) hgrow.size
      have HO4 := hid hown4'
      clear hown4' hown4 hgrow hvn hal hrow hblk c0 c1 z0 z1 hg' a0 ay b0 by' hown3 HC3 HK3 HA3 HB3 HO3
      have b0 : w4.cell? ⟨w.heap.size + 1, 0, none⟩ = some (.slice va cs.length vc) := cell_of_row _ _ 0 _ _ _ HB4.out
      have by' : w4.frozen? ⟨w.heap.size + 1, 0, none⟩ = false := frozen_of_row _ _ 0 _ _ HB4.out
      go_upto_region 11 with fail
      obtain ⟨w5, hw5⟩ : ∃ x, w4.setCell ⟨w.heap.size + 1, 0, none⟩ (.slice va' (cs.length + 1) vc') = x := ⟨_, rfl⟩
      try rw [hw5]
      have HC5 := hid (show CRd w5 g s (cn) by rw [← hw5]; exact HC4.out.other hgB _)
      have HK5 := hid (show Kp g none w w5 by rw [← hw5]; exact HK4.out.new (Nat.le_succ _) _)
      have HA5 := hid (show w5.heap[w.heap.size]? = some (.cells #[.slice none 0 0] 34 (0, 0)) by rw [← hw5]; exact set_far HA4.out (by omega) _)
      have HB5 := hid (show w5.heap[w.heap.size + 1]? = some (.cells #[.slice va' (cs.length + 1) vc'] 34 (0, 0)) by rw [← hw5]; exact set_one HB4.out)
      have HO5 := hid (show w5.ownsRow (w.heap.size + 2) 9 1 (.slice va' (cs.length + 1) vc') (cs ++ [ct]).length (cellV (cs ++ [ct])) by
        rw [← hw5]
        refine ownsRow_other HO4.out (fun b hb => ?_) _
        have := (HO4.out.lt b hb).1
        omega)
      have hwr5 : w.heap.size + 2 ≤ w5.heap.size := by rw [← hw5]; simpa [World.setCell] using hwr4
      clear hw5 b0 by' HC4 HK4 HA4 HB4 HO4
      obtain ⟨c0, c1, z0, z1, hg'⟩ := HC5.out.cells
      have hcn : cn ≤ s.size := by
        have h1 := hcl2.2.1
        omega
      cases hD : L.drop cn with
      | nil =>
        have hce : cn = s.size := by
          have h1 := congrArg List.length hD
          rw [List.length_drop, show L.length = s.size by rw [← HL.out, Lib.size_eq], List.length_nil] at h1
          omega
        have hq1 : ((cn : Int) == (s.size : Int)) = true := by rw [hce, beq_self_eq_true]
        have HRN := hid (show R = (0, cn, cs ++ [ct]) by rw [HRW2.out, hD]; rfl)
        have HQE := hid hcn
        clear HRW2 hD hce
        go_wp2_with fail
        go_quiet (fail)
        obtain ⟨w6, hw6⟩ : ∃ x, w5.drewN nq = x := ⟨_, rfl⟩
        rw [hw6]
        have HQ6 := hid (show Qt w5 w6 from ⟨nq, hw6.symm⟩)
        have HA6 := hid (HQ6.out.at HA5.out)
        have HB6 := hid (HQ6.out.at HB5.out)
        have HC6 := hid (HC5.out.qt HQ6.out)
        have HK6 := hid (HK5.out.trans HQ6.out.kp (RowOn.refl _ _))
        have HO6 := hid (own_qt HO5.out HQ6.out)
        clear hw6 c0 c1 z0 z1 hg'
        have a0 : w6.cell? ⟨w.heap.size, 0, none⟩ = some (.slice none 0 0) := cell_of_row _ _ 0 _ _ _ HA6.out
        have ay : w6.frozen? ⟨w.heap.size, 0, none⟩ = false := frozen_of_row _ _ 0 _ _ HA6.out
        have b0 : w6.cell? ⟨w.heap.size + 1, 0, none⟩ = some (.slice va' (cs.length + 1) vc') := cell_of_row _ _ 0 _ _ _ HB6.out
        go_wp2
        refine bodyPost_ret (v := .tuple #[.agg #[.slice va' (cs.length + 1) vc'], .int .i64 0]) (by simp [results, Tryz.results18, go_sem, a0, ay, b0]) rfl ⟨va', cs.length + 1, vc', by rw [HRN.out] <;> rfl, ?_, HK6.out.new (Nat.le_refl _) _, fun _ => ?_, by rw [HRN.out]; exact HQE.out⟩
        · rw [HRN.out]
          exact HC6.out.other hgA _
        · rw [HRN.out]
          refine row_base (base := w.heap.size + 2) ?_ (by omega)
          refine ownsRow_other HO6.out (fun b hb => ?_) _
          have := (HO6.out.lt b hb).1
          omega
      | cons d Z =>
        obtain ⟨hlt, hby⟩ := byte_at (show s.data.toList.drop cn = d :: Z by rw [HL.out, hD])
        have hq1 : ((cn : Int) == (s.size : Int)) = false := by rw [beq_eq_false_iff_ne]; omega
        have hqn : ¬ cn = s.size := by omega
        obtain ⟨q6, hq6⟩ : ∃ x, cn + 1 = x := ⟨_, rfl⟩
        have hw6' : (cn : Int) + 1 = (q6 : Int) := by omega
        have hw6w : IntKind.i64.wrap (q6 : Int) = (q6 : Int) := IntWalk.i64_in _ (by omega)
        have hRW3 := HRW2.out
        rw [hD] at hRW3
        dsimp only [List.head?_cons] at hRW3
        rw [hq6] at hRW3
        have HRW3 := hid hRW3
        have HQ6E := hid hq6
        clear HRW2 hD hRW3 hq6
        go_wp2_with fail
        go_quiet (fail)
        obtain ⟨w6, hw6⟩ : ∃ x, w5.drewN nq = x := ⟨_, rfl⟩
        rw [hw6]
        have HQ6 := hid (show Qt w5 w6 from ⟨nq, hw6.symm⟩)
        have HC6 := hid (HC5.out.qt HQ6.out)
        clear hw6 c0 c1 z0 z1 hg'
        obtain ⟨c0, c1, z0, z1, hg'⟩ := HC6.out.cells
        obtain ⟨w7, hw7⟩ : ∃ x, w6.setCell ⟨g, 1, none⟩ (.int .i64 (q6 : Int)) = x := ⟨_, rfl⟩
        have HC7 := hid (show CRd w7 g s q6 by rw [← hw7]; exact HC6.out.set q6)
        have HK7 := hid (show Kp g none w w7 by rw [← hw7]; exact (HK5.out.trans HQ6.out.kp (RowOn.refl _ _)).set 1 (.int .i64 (q6 : Int)))
        have HA7 := hid (show w7.heap[w.heap.size]? = some (.cells #[.slice none 0 0] 34 (0, 0)) by rw [← hw7]; exact set_far (c := g) (o := 1) (HQ6.out.at HA5.out) (fun e => hgA e.symm) (.int .i64 (q6 : Int)))
        have HB7 := hid (show w7.heap[w.heap.size + 1]? = some (.cells #[.slice va' (cs.length + 1) vc'] 34 (0, 0)) by rw [← hw7]; exact set_far (c := g) (o := 1) (HQ6.out.at HB5.out) (fun e => hgB e.symm) (.int .i64 (q6 : Int)))
        have HO7 := hid (show w7.ownsRow (w.heap.size + 2) 9 1 (.slice va' (cs.length + 1) vc') (cs ++ [ct]).length (cellV (cs ++ [ct])) by
          rw [← hw7]
          refine ownsRow_other (own_qt HO5.out HQ6.out) (fun b hb => ?_) _
          have := ((own_qt HO5.out HQ6.out).lt b hb).1
          omega)
        have hwr7 : w.heap.size + 2 ≤ w7.heap.size := by
          have h1 := HQ6.out.heap
          rw [← hw7]
          simp only [World.setCell, Array.size_modify]
          rw [h1]
          exact hwr5
        go_upto_region 14 with fail
        try rw [hw7]
        clear hw7 c0 c1 z0 z1 hg'
        obtain ⟨c0, c1, z0, z1, hg'⟩ := HC7.out.cells
        have hm1 : (q6 : Int) - 1 = (cn : Int) := by omega
        have hm2 : IntKind.i64.wrap (cn : Int) = (cn : Int) := IntWalk.i64_in _ (by omega)
        have hcn0 : (0 : Int) ≤ (cn : Int) := by omega
        have hcni : (cn : Int) < (s.size : Int) := by omega
        by_cases h10 : d = 10
        · have hx1 : ((s[cn]'hlt : UInt8).toNat : Int) = 10 := by rw [hby, h10]; rfl
          have HRN := hid (show R = (0, q6, cs ++ [ct]) by rw [HRW3.out, if_pos h10])
          have HQE := hid (show q6 ≤ s.size by have := HQ6E.out; omega)
          clear HRW3 hby h10
          go_wp2_with fail
          go_quiet (fail)
          obtain ⟨w8, hw8⟩ : ∃ x, w7.drewN nq = x := ⟨_, rfl⟩
          rw [hw8]
          have HQ8 := hid (show Qt w7 w8 from ⟨nq, hw8.symm⟩)
          have HA8 := hid (HQ8.out.at HA7.out)
          have HB8 := hid (HQ8.out.at HB7.out)
          have HC8 := hid (HC7.out.qt HQ8.out)
          have HK8 := hid (HK7.out.trans HQ8.out.kp (RowOn.refl _ _))
          have HO8 := hid (own_qt HO7.out HQ8.out)
          clear hw8 c0 c1 z0 z1 hg'
          have a0 : w8.cell? ⟨w.heap.size, 0, none⟩ = some (.slice none 0 0) := cell_of_row _ _ 0 _ _ _ HA8.out
          have ay : w8.frozen? ⟨w.heap.size, 0, none⟩ = false := frozen_of_row _ _ 0 _ _ HA8.out
          have b0 : w8.cell? ⟨w.heap.size + 1, 0, none⟩ = some (.slice va' (cs.length + 1) vc') := cell_of_row _ _ 0 _ _ _ HB8.out
          go_wp2
          refine bodyPost_ret (v := .tuple #[.agg #[.slice va' (cs.length + 1) vc'], .int .i64 0]) (by simp [results, Tryz.results18, go_sem, a0, ay, b0]) rfl ⟨va', cs.length + 1, vc', by rw [HRN.out] <;> rfl, ?_, HK8.out.new (Nat.le_refl _) _, fun _ => ?_, by rw [HRN.out]; exact HQE.out⟩
          · rw [HRN.out]
            exact HC8.out.other hgA _
          · rw [HRN.out]
            refine row_base (base := w.heap.size + 2) ?_ (by omega)
            refine ownsRow_other HO8.out (fun b hb => ?_) _
            have := (HO8.out.lt b hb).1
            omega
        · have hx1 : ¬ ((s[cn]'hlt : UInt8).toNat : Int) = 10 := by rw [hby]; intro h; exact h10 (UInt8.toNat_inj.1 (by show d.toNat = 10; omega))
          have hx2 : (((s[cn]'hlt : UInt8).toNat : Int) == 10) = false := by rw [beq_eq_false_iff_ne]; exact hx1
          have HRN := hid (show R = trowP L k q6 (cs ++ [ct]) by rw [HRW3.out, if_neg h10])
          clear HRW3 hby h10
          go_wp2_with fail
          go_quiet (fail)
          have HQ8 := hid (Qt.one w7 nq)
          go_wp2
          go_roundw
          case rel =>
            refine ⟨q6, cs ++ [ct], .slice va' (cs.length + 1) vc', by have := HQ6E.out; omega, by have := HQ6E.out; omega, by simp; omega, HC7.out.qt HQ8.out, HK7.out.trans HQ8.out.kp (RowOn.refl _ _), HQ8.out.at HA7.out, HQ8.out.at HB7.out, own_qt HO7.out HQ8.out, by rw [HQ8.out.heap]; exact hwr7, ?_⟩
            rw [show 100 - (cs ++ [ct]).length = k by simp; omega]
            rw [← HL.out] at HRN
            exact HRN
          case measure =>
            have e1 := (HC7.out.qt HQ8.out).atOf
            have e2 := HAT.out
            have := HQ6E.out
            rw [e1, e2]
            omega
end Go.Proofs.YtcebgmdcbdggeaaGreatDoor

namespace Go.Proofs.YtcebgmdcbdggeaaGreatDoor
open Go.RowKit
set_option linter.unusedVariables false
set_option linter.unusedSimpArgs false

theorem trowP_cells (L : List UInt8) : ∀ (k p : Nat) (cs : List (List UInt8)), (trowP L k p cs).1 = 0 → ∀ t ∈ (trowP L k p cs).2.2, t ∈ cs ∨ t.length ≤ 1000
  | 0, p, cs, h => by rw [trowP_zero] at h; cases h
  | k + 1, p, cs, h => by
    obtain ⟨⟨c, n, t⟩, hc⟩ : ∃ x, tcA (L.drop p) p [] = x := ⟨_, rfl⟩
    rw [trowP_succ L k p cs hc] at h ⊢
    by_cases h0 : c ≠ 0
    · rw [if_pos h0] at h; exact absurd h h0
    · rw [if_neg h0] at h ⊢
      by_cases h1 : 1000 < t.length
      · rw [if_pos h1] at h; cases h
      · rw [if_neg h1] at h ⊢
        have hone : ∀ x ∈ cs ++ [t], x ∈ cs ∨ x.length ≤ 1000 := fun x hx => by
          rcases List.mem_append.1 hx with h | h
          · exact Or.inl h
          · rw [List.mem_singleton.1 h]; exact Or.inr (by omega)
        cases hE : (L.drop n).head? with
        | none => exact hone
        | some e =>
          rw [hE] at h
          by_cases h10 : e = 10
          · simp only [if_pos h10]
            exact hone
          · simp only [if_neg h10] at h ⊢
            intro x hx
            rcases trowP_cells L k (n + 1) (cs ++ [t]) h x hx with h2 | h2
            · exact hone x h2
            · exact Or.inr h2
theorem trowP_mono (L : List UInt8) : ∀ (k p : Nat) (cs : List (List UInt8)), p ≤ (trowP L k p cs).2.1
  | 0, p, cs => by rw [trowP_zero]; exact Nat.le_refl _
  | k + 1, p, cs => by
    obtain ⟨⟨c, n, t⟩, hc⟩ : ∃ x, tcA (L.drop p) p [] = x := ⟨_, rfl⟩
    have hle := tcA_le (L.drop p) p []
    rw [hc] at hle
    have hpn : p ≤ n := hle.1
    rw [trowP_succ L k p cs hc]
    split
    · exact hpn
    · split
      · exact Nat.le_refl _
      · cases hE : (L.drop n).head? with
        | none => exact hpn
        | some e =>
          by_cases h10 : e = 10
          · simp only [if_pos h10]; omega
          · simp only [if_neg h10]
            have := trowP_mono L k (n + 1) (cs ++ [t])
            omega
theorem trowP_more (L : List UInt8) {k p : Nat} {cs : List (List UInt8)} (hp : p < L.length) (h : (trowP L (k + 1) p cs).1 = 0) : p < (trowP L (k + 1) p cs).2.1 := by
  obtain ⟨⟨c, n, t⟩, hc⟩ : ∃ x, tcA (L.drop p) p [] = x := ⟨_, rfl⟩
  have hle := tcA_le (L.drop p) p []
  rw [hc] at hle
  have hpn : p ≤ n := hle.1
  rw [trowP_succ L k p cs hc] at h ⊢
  by_cases h0 : c ≠ 0
  · rw [if_pos h0] at h; exact absurd h h0
  · rw [if_neg h0] at h ⊢
    by_cases h1 : 1000 < t.length
    · rw [if_pos h1] at h; cases h
    · rw [if_neg h1]
      cases hE : (L.drop n).head? with
      | none =>
        have hnl : L.length ≤ n := by
          rw [List.head?_eq_none_iff, List.drop_eq_nil_iff] at hE
          exact hE
        show p < n
        omega
      | some e =>
        by_cases h10 : e = 10
        · simp only [if_pos h10]; omega
        · simp only [if_neg h10]
          have := trowP_mono L k (n + 1) (cs ++ [t])
          omega
theorem readT_end (L : List UInt8) {f p : Nat} (rs : List (List (List UInt8))) (h : L.length ≤ p) : readT L f p rs = (rs, 0, 0) := by
  cases f with
  | zero => rw [readT]
  | succ f => rw [readT, if_pos h]
theorem readT_step (L : List UInt8) {f p : Nat} (rs : List (List (List UInt8))) (h : ¬ L.length ≤ p) : readT L (f + 1) p rs = if (trowP L 100 p []).1 ≠ 0 then (rs, (trowP L 100 p []).2.1, (trowP L 100 p []).1) else readT L f (trowP L 100 p []).2.1 (rs ++ [(trowP L 100 p []).2.2]) := by rw [readT, if_neg h]
set_option maxHeartbeats 16000000 in
set_option maxRecDepth 100000 in
theorem implTsvRead (s : ByteArray) (w : World) (hT : Tabs w) :
    Calls Tryz.prog 8 #[.string s] w fun e w' => ReadRes w w' (tsvR s) e := by
  obtain ⟨i0, hi, hz0, hz1, hz2⟩ := info_parts info_row
  have CF := hid (implIsFile s w hT)
  obtain ⟨b, hb⟩ : ∃ b, fileOk s = b := ⟨_, rfl⟩
  rw [hb] at CF
  cases b with
  | false =>
    have HR := hid (show tsvR s = ([], 0, 1) by unfold tsvR; rw [hb]; rfl)
    clear hb hT hi hz0 hz1 hz2
    go_enter Tryz.func8, Tryz.ntmps8
    go_wp2_with fail
    refine CF.out.mono ?_
    rintro e w1 ⟨rfl, hb1⟩
    go_wp2
    refine bodyPost_ret (v := .tuple #[.slice none 0 0, .int .i64 0, .int .i64 1]) (by simp [results, Tryz.results8, go_sem, *]) rfl ⟨.slice none 0 0, by rw [HR.out] <;> rfl, ?_, ?_⟩
    · rw [HR.out]
      exact ⟨none, 0, rfl, Nat.le_refl _, by omega, fun h => absurd h (by simp)⟩
    · exact hb1
  | true =>
    have hs := file_size hb
    have HR := hid (show tsvR s = readT s.data.toList s.size 0 [] by unfold tsvR; rw [hb]; rfl)
    obtain ⟨R, hR⟩ : ∃ R, tsvR s = R := ⟨_, rfl⟩
    rw [hR] at HR ⊢
    clear hb hT hR
    go_enter Tryz.func8, Tryz.ntmps8
    go_wp2_with fail
    refine CF.out.mono ?_
    rintro e w1 ⟨rfl, hb1⟩
    have hal := ext_alloc w1 (.cells #[.string s, .int .i64 0] 44)
    obtain ⟨w2, hw2⟩ : ∃ x, w1.alloc (.cells #[.string s, .int .i64 0] 44) = x := ⟨_, rfl⟩
    have HC2 := hid (show CRd w2 w1.heap.size s 0 by rw [← hw2]; exact heap_alloc_new w1 _)
    have HB2 := hid (show Below w1.heap.size w1 w2 by rw [← hw2]; exact hal)
    have HB1 := hid hb1
    clear hb1 hal CF
    go_wp2
    try rw [hw2]
    clear hw2
    go_loopw [6, 7, 8] (fun v6 v7 v8 wr => ∃ (q f : Nat) (rs : List (List (List UInt8))), q ≤ s.size ∧ rs.length ≤ q ∧ s.size ≤ f + q ∧ CRd wr w1.heap.size s q ∧ RowsNs w1.heap.size v6 wr (rs.map toRow) ∧ Below w1.heap.size w1 wr ∧ Hid (R = readT s.data.toList f q rs)) (fun _ _ _ wr => s.size - atOf wr w1.heap.size)
    case atStart => exact ⟨0, s.size, [], Nat.zero_le _, Nat.zero_le _, Nat.le_refl _, HC2.out, ⟨[], ⟨rfl, Or.inl ⟨rfl, rfl⟩⟩, Each.nil⟩, HB2.out, HR⟩
    case round =>
      obtain ⟨q, f, rs, hq, hrl, hf, hc, hrows, hbel, HQ⟩ := hrel
      obtain ⟨css, hown, heach⟩ := hrows
      rw [List.length_map] at hown
      obtain ⟨va, vc, rfl⟩ := row_shapeC hown
      obtain ⟨c0, c1, z0, z1, hg'⟩ := hc.cells
      have HSW := hid (show w.heap.size ≤ w1.heap.size from HB1.out.size)
      have HAT := hid hc.atOf
      have HC := hid hc
      have HO := hid hown
      have HE := hid heach
      have HBL := hid hbel
      clear hc hown heach hbel
      by_cases hend : s.size ≤ q
      · have hg1 : ¬ (q : Int) < (s.size : Int) := by omega
        have HRR := hid (show R = (rs, 0, 0) by rw [HQ.out, readT_end _ _ (by rw [← Lib.size_eq]; exact hend)])
        clear HQ hend
        go_wp2
        refine bodyPost_ret (v := .tuple #[.slice va rs.length vc, .int .i64 0, .int .i64 0]) (by simp [results, Tryz.results8, go_sem, *]) rfl ⟨.slice va rs.length vc, by rw [HRR.out] <;> rfl, ?_, ?_⟩
        · rw [HRR.out]
          exact rows_base (rows_new ⟨css, by rw [List.length_map]; exact HO.out, HE.out⟩) (by have := HSW.out; omega)
        · exact readBel HB1.out HBL.out
      have hg1 : (q : Int) < (s.size : Int) := by omega
      obtain ⟨f', rfl⟩ : ∃ f', f = f' + 1 := ⟨f - 1, by omega⟩
      obtain ⟨L, hL⟩ : ∃ L, s.data.toList = L := ⟨_, rfl⟩
      have hLs : L.length = s.size := by rw [← hL, Lib.size_eq]
      have HRS := hid (show R = if (trowP L 100 q []).1 ≠ 0 then (rs, (trowP L 100 q []).2.1, (trowP L 100 q []).1) else readT L f' (trowP L 100 q []).2.1 (rs ++ [(trowP L 100 q []).2.2]) by rw [HQ.out, hL, readT_step _ _ (by omega)])
      have CC := hid (fun (w' : World) (hq' : Qt wr w') => implTsvRow w' (HC.out.qt hq') hq hs)
      rw [hL] at CC
      have HCL := hid (trowP_cells L 100 q [])
      have HMORE := hid (trowP_more L (k := 99) (p := q) (cs := []) (by omega))
      obtain ⟨⟨pc, pe, pcs⟩, hP⟩ : ∃ x, trowP L 100 q [] = x := ⟨_, rfl⟩
      rw [show 99 + 1 = 100 from rfl] at HMORE
      rw [hP] at HRS CC HCL HMORE
      have HL := hid hL
      clear HQ hend hP hLs hL
      go_wp2_with fail
      refine (CC.out _ (Qt.refl _)).mono ?_
      rintro e w3 ⟨ra, rn, rc, rfl, hc3, hk3, hown3, hpe⟩
      dsimp only at hc3 hown3 hpe
      have hsz3 := hk3.size
      obtain ⟨w5, hw5⟩ : ∃ x, (w3.alloc (.cells #[.slice none 0 0] 34)).setCell ⟨w3.heap.size, 0, none⟩ (.slice ra rn rc) = x := ⟨_, rfl⟩
      have HK5 := hid (show Kp w1.heap.size none wr w5 by rw [← hw5]; exact (hk3.alloc _).new hsz3 _)
      have HC5 := hid (show CRd w5 w1.heap.size s pe by
        rw [← hw5]
        exact CRd.other (((ext_alloc w3 _).block w1.heap.size (by omega)).trans hc3) (by omega) _)
      have HV5 := hid (show w5.heap[w3.heap.size]? = some (.cells #[.slice ra rn rc] 34 (0, 0)) by
        rw [← hw5]
        exact set_one (heap_alloc_new w3 _))
      have HOW := hid hown3
      have HB5 := hid (show Below w3.heap.size w3 w5 by
        rw [← hw5]
        exact (ext_alloc w3 _).setCell (Nat.le_refl _) _)
      have hsz5 : w5.heap.size = w3.heap.size + 1 := by rw [← hw5]; simp [World.setCell]
      have HS5 := hid hsz5
      have HS3 := hid hsz3
      clear c0 c1 z0 z1 hg' hc3 hk3 CC hsz3 hown3 hsz5
      go_upto_region 7 with fail
      try rw [hw5]
      clear hw5
      have v0 : w5.cell? ⟨w3.heap.size, 0, none⟩ = some (.slice ra rn rc) := cell_of_row _ _ 0 _ _ _ HV5.out
      have vy : w5.frozen? ⟨w3.heap.size, 0, none⟩ = false := frozen_of_row _ _ 0 _ _ HV5.out
      obtain ⟨c0, c1, z0, z1, hg'⟩ := HC5.out.cells
      by_cases hpc : pc = 0
      rotate_left
      · have hz1 : ((pc : Int) != 0) = true := by rw [bne_iff_ne]; omega
        have hz2 : ((pc : Int) == 0) = false := by rw [beq_eq_false_iff_ne]; omega
        have HRR := hid (show R = (rs, pe, pc) by rw [HRS.out, if_pos hpc])
        clear HRS HMORE HCL HOW
        go_wp2_with fail
        go_quiet (fail)
        go_wp2
        refine bodyPost_ret (v := .tuple #[.slice va rs.length vc, .int .i64 (pe : Int), .int .i64 (pc : Int)]) (by simp [results, Tryz.results8, go_sem, *]) rfl ⟨.slice va rs.length vc, by rw [HRR.out] <;> rfl, ?_, ?_⟩
        · rw [HRR.out]
          refine rows_base (B := w1.heap.size + 1) ?_ (by have := HSW.out; omega)
          exact (rows_new (RowsNs.kp ⟨css, by rw [List.length_map]; exact HO.out, HE.out⟩ (HK5.out.drewN _)))
        · exact readBel HB1.out (HBL.out.trans ((HK5.out.drewN _).below (by have := HC.out.cells.2.2.2.2; omega) (fun b h => by cases h)))
      subst hpc
      have HRR := hid (show R = readT L f' pe (rs ++ [pcs]) by rw [HRS.out, if_neg (by simp)])
      have hmore := HMORE.out rfl
      have hcl := HCL.out rfl
      clear HRS HMORE HCL
      go_upto_region 9 with fail
      have hown5 : w5.ownsRow (w1.heap.size + 1) 34 1 (.slice va rs.length vc) rs.length css.flatten := HK5.out.row HO.out (fun b _ => by simp)
      go_wp2_with ((at_builtin; refine wpList_append_lies _ rfl (.tmp 35) (.tmp 37) 24 rfl (w1.heap.size + 1) 34 i0 (.agg #[.slice none 0 0]) 1 24 Tryz.underlying24 hi hz0 hz1 hz2 rfl (by decide) _ _ _ rfl (hown5.alloc _) ⟨w5.heap.size, 0, none⟩ 1 1 [.slice ra rn rc] rfl rfl ?c1 ?c2 (by decide) ?c3 ?c4 ?c5 _ rfl ?_))
      try (case c1 => exact cell_one_new _ _ _)
      case c2 => rfl
      case c3 => unfold maxLen; omega
      case c4 => omega
      case c5 => (have hs5 := HS5.out; have hs3 := HS3.out; have := HC.out.cells.2.2.2.2; simp; omega)
      have hs5 := HS5.out
      have hs3 := HS3.out
      have hgr := HC.out.cells.2.2.2.2
      intro g7 cap7 w7 hown7 hgrow7 hat7 hlt7
      have hnl := fun b (e : (Value.slice va rs.length vc).ownBlock = some b) => HO.out.lt b e
      have hk7 : Kp w1.heap.size (Value.slice va rs.length vc).ownBlock wr w7 := Kp.grown ((KpweakC HK5.out _).alloc _) hgrow7
      have hk3 : Kp w1.heap.size (Value.slice va rs.length vc).ownBlock w3 w7 := Kp.grown ((Kp.of_below (g := w1.heap.size) (row := (Value.slice va rs.length vc).ownBlock) HB5.out).alloc _) hgrow7
      have hro3 : RowOn w3 (Value.slice va rs.length vc).ownBlock (some g7) := by
        rcases hat7 with h | h
        · exact Or.inl h.symm
        · exact Or.inr ⟨g7, rfl, by (try simp at h); omega⟩
      have hro : RowOn wr (Value.slice va rs.length vc).ownBlock (some g7) := hro3.up hs3
      have hE7 := hk7.each (r' := some g7) hro HE.out
      have hv7 : Rd.rd (Beside (fun _ => False) w1.heap.size (some g7) w7) w7 [.slice ra rn rc] (toRow pcs) := by
        refine hk3.rd hro3 (Rd.mono (fun b hb => ⟨by have := hb.1; omega, hb.2, fun e => by have := (hnl b e).2; have := hb.1; omega, fun h => h⟩) (rd_cells (HOW.out trivial) (fun t ht => ?_)))
        rcases hcl t ht with h | h
        · cases h
        · omega
      have HR7 := hid (show RowsNs w1.heap.size (.slice (some ⟨g7, 0, none⟩) (rs.length + 1) cap7) w7 ((rs ++ [pcs]).map toRow) by
        rw [List.map_append]
        refine ⟨css ++ [[.slice ra rn rc]], ?_, hE7.snoc hv7⟩
        rw [List.length_append, List.flatten_append, List.length_map]
        simpa using hown7)
      have HC7 := hid (show CRd w7 w1.heap.size s pe from (hgrow7.block w1.heap.size (by simp; omega) (fun e => by have := (hnl _ e.symm).1; omega)).trans (((ext_alloc w5 _).block w1.heap.size (by omega)).trans HC5.out))
      have HB7 := hid (show Below w1.heap.size w1 w7 from HBL.out.trans (hk7.below (by omega) (fun b e => by have := (hnl b e).1; omega)))
      clear hown5 hown7 hgrow7 hat7 hlt7 hnl hk7 hk3 hro3 hro hE7 hv7 hcl HE HO HOW HB5 HV5 v0 vy hs5 hs3 hgr c0 c1 z0 z1 hg'
      go_wp2
      go_roundw
      case rel => exact ⟨pe, f', rs ++ [pcs], hpe, by simp; omega, by omega, HC7.out, HR7.out, HB7.out, hid (by rw [HRR.out, HL.out])⟩
      case measure =>
        have e1 := HC7.out.atOf
        have e2 := HAT.out
        rw [e1, e2]
        omega
end Go.Proofs.YtcebgmdcbdggeaaGreatDoor

namespace Go.Proofs.YtcebgmdcbdggeaaGreatDoor
open Go.RowKit
set_option linter.unusedVariables false
set_option linter.unusedSimpArgs false

theorem split_at_nl {L : List UInt8} {o : List ByteArray} {f i : Nat} (h : lns L = (o.map fun p => p.data.toList) ++ consH ((L.take i).drop f) (lns (L.drop i))) (hfi : f ≤ i) (hi : i < L.length) (h10 : L[i] = 10) {s : ByteArray} (hs : s.data.toList = L) :
    lns L = ((o ++ [s.extract f i]).map fun p => p.data.toList) ++ consH ((L.take (i + 1)).drop (i + 1)) (lns (L.drop (i + 1))) := by
  have e0 : (L.take (i + 1)).drop (i + 1) = [] := List.drop_eq_nil_of_le (by rw [List.length_take]; omega)
  rw [h, List.drop_eq_getElem_cons hi, h10, lns_nl, List.map_append, List.append_assoc, e0, consH_nil (lns_ne (L.drop (i + 1)))]
  congr 1
  simp only [consH, List.append_nil, List.map_cons, List.map_nil, List.cons_append, List.nil_append, extract_l, hs]
theorem split_not_nl {L : List UInt8} {o : List ByteArray} {f i : Nat} (h : lns L = (o.map fun p => p.data.toList) ++ consH ((L.take i).drop f) (lns (L.drop i))) (hfi : f ≤ i) (hi : i < L.length) (h10 : L[i] ≠ 10) :
    lns L = (o.map fun p => p.data.toList) ++ consH ((L.take (i + 1)).drop f) (lns (L.drop (i + 1))) := by
  rw [h, List.drop_eq_getElem_cons hi, lns_c _ h10, consH_consH]
  congr 2
  rw [List.take_succ_eq_append_getElem hi, List.drop_append_of_le_length (by rw [List.length_take]; omega)]
theorem split_end {L : List UInt8} {o : List ByteArray} {f : Nat} (h : lns L = (o.map fun p => p.data.toList) ++ consH ((L.take L.length).drop f) (lns (L.drop L.length))) {s : ByteArray} (hs : s.data.toList = L) : lnsB s = o ++ [s.extract f s.size] := by
  unfold lnsB
  rw [hs, h, List.drop_length, List.map_append, List.map_map]
  have e1 : ((fun l : List UInt8 => (⟨l.toArray⟩ : ByteArray)) ∘ fun p : ByteArray => p.data.toList) = id := by funext p; apply ba_ext; simp
  rw [e1, List.map_id]
  congr 1
  have e2 : L.length = s.size := by rw [← hs]; rfl
  simp only [lns, consH, List.append_nil, List.map_cons, List.map_nil]
  congr 1
  apply ba_ext
  rw [extract_l, hs, e2]
theorem ext1 {s : ByteArray} {i : Nat} (hi : i < s.data.toList.length) : (s.extract i (i + 1)).data.toList = [s.data.toList[i]] := by
  rw [extract_l, List.take_succ_eq_append_getElem hi, List.drop_append_of_le_length (by rw [List.length_take]; omega), List.drop_eq_nil_of_le (by rw [List.length_take]; omega)]
  rfl
theorem grown_bel {X w w' : World} {B : Nat} {v : Value} {e : TypeId} {size n : Nat} {xs : List Value} (h : Below B X w) (hB : B ≤ w.heap.size) (hv : w.ownsRow B e size v n xs) (hg : w.grownBy w' v.ownBlock) : Below B X w' :=
  ⟨hg.os.trans h.os, hg.tape.trans h.tape, hg.output.trans h.output, Nat.le_trans h.size hg.size, fun c hc => (hg.block c (by omega) (fun e => by have := (hv.lt c e.symm).1; omega)).trans (h.block c hc)⟩
theorem strCells_append (xs ys : List ByteArray) : strCellsL (xs ++ ys) = strCellsL xs ++ strCellsL ys := by simp [strCellsL]
theorem infoS : (Tryz.prog.info? 9).map (fun i => (i.zero, i.size, i.bytes)) = some (some (.string ⟨#[]⟩), 1, 16) := by kernel_rfl
set_option maxHeartbeats 4000000 in
set_option maxRecDepth 100000 in
theorem specSplitNl (s : ByteArray) (w : World) (hs : s.size ≤ 5000) :
    Calls Tryz.prog 21 #[.string s, .string ⟨#[10]⟩] w fun e w' => ∃ u, e = .returned u ∧ w'.ownsRow w.heap.size 9 1 u (lnsB s).length (strCellsL (lnsB s)) ∧ Below w.heap.size w w' := by
  obtain ⟨ii, hi, hz0, hz1, hz2⟩ := info_parts infoS
  obtain ⟨L, hL⟩ : ∃ L, s.data.toList = L := ⟨_, rfl⟩
  have hLn : L.length = s.size := by rw [← hL]; rfl
  have hown0 : (w.alloc (.cells #[] 9)).ownsRow w.heap.size 9 1 (.slice (some ⟨w.heap.size, 0, none⟩) 0 0) 0 [] := World.ownsRow_lit (base := w.heap.size) (e := 9) (size := 1) w #[] 0 (Nat.le_refl _) (by decide) rfl
  have HOWN0 := hid hown0
  clear hown0
  go_enter Tryz.func21, Tryz.ntmps21
  go_wp2
  go_loopw [5, 6, 7] (fun out fv iv wr => ∃ (f i : Nat) (o : List ByteArray), fv = .int .i64 (f : Int) ∧ iv = .int .i64 (i : Int) ∧ f ≤ i ∧ i ≤ s.size ∧ o.length ≤ i ∧ Hid (lns L = (o.map fun p => p.data.toList) ++ consH ((L.take i).drop f) (lns (L.drop i))) ∧ Hid (wr.ownsRow w.heap.size 9 1 out o.length (strCellsL o)) ∧ Below w.heap.size w wr) (fun _ _ iv _ => s.size - (intOf iv).toNat)
  case atStart => exact ⟨0, 0, [], rfl, rfl, Nat.le_refl _, Nat.zero_le _, Nat.le_refl _, hid (by simp [consH_nil (lns_ne L)]), HOWN0, ext_alloc _ _⟩
  case round =>
    obtain ⟨f, i, o, rfl, rfl, hfi, hin, hoi, HI, HU, hb⟩ := hrel
    have hw1 : IntKind.i64.wrap ((i : Int) + 1) = ((i + 1 : Nat) : Int) := IntWalk.i64_in _ (by omega)
    by_cases hlt : i < s.size
    · have hc1 : ((i : Int) + 1) ≤ (s.size : Int) := by omega
      have hc2 : (i : Int) ≤ (i : Int) + 1 := by omega
      have hc3 : (0 : Int) ≤ (i : Int) := by omega
      have hc4 : (0 : Int) ≤ (f : Int) := by omega
      have hc5 : (f : Int) ≤ (i : Int) := by omega
      have hc6 : (i : Int) ≤ (s.size : Int) := by omega
      have hiL : i < L.length := by omega
      have he1 : (s.extract i (i + 1)).toList = [L[i]] := by rw [Lib.toList_data]; have := ext1 (s := s) (i := i) (by rw [hL]; exact hiL); simpa [hL] using this
      by_cases h10 : L[i] = 10
      · have hN := split_at_nl HI.out hfi hiL h10 hL
        have hb1 : ((s.extract i (i + 1)).toList == (⟨#[10]⟩ : ByteArray).toList) = true := by rw [he1, h10, Lib.toList_data]; rfl
        have hb2 : ((s.extract i (i + 1)).toList == [10]) = true := by rw [he1, h10]; decide
        have HN := hid hN
        have hsz : (s.extract f i).size ≤ 9223372036854775807 := by rw [ByteArray.size_extract]; omega
        clear hN h10 he1 hL
        go_wp2_with ((at_builtin; refine wpList_append_lies _ rfl (.tmp 25) (.tmp 30) 30 rfl w.heap.size 9 ii (.string ⟨#[]⟩) 1 16 Tryz.underlying30 hi hz0 hz1 hz2 rfl (by decide) _ o.length (strCellsL o) rfl (HU.out.alloc _) ⟨wr.heap.size, 0, none⟩ 1 1 [.string (s.extract f i)] rfl rfl (World.news_of_block (cs := #[.string (s.extract f i)]) (t := 9) (fr := (0, 0)) (heap_alloc_new wr _)) (by intro u hu; simp at hu; subst hu; rfl) (by decide) (by unfold maxLen; omega) (by omega) (by have := hb.size; simp; omega) _ rfl ?_))
        intro g2 cap2 w3 hown3 hgrow3 hat3 hlt3
        have hb3 : Below w.heap.size w w3 := grown_bel (Below.alloc hb hb.size _) (by have := hb.size; simp; omega) (HU.out.alloc _) hgrow3
        have HO3 := hid hown3
        clear hi hz0 hz1 hz2 hown3 hgrow3 hat3
        go_wp2
        go_roundw
        case rel => exact ⟨i + 1, i + 1, o ++ [s.extract f i], by go_num, by go_num, by omega, by omega, by rw [List.length_append]; show o.length + 1 ≤ _; omega, HN, hid (by rw [List.length_append, strCells_append]; exact HO3.out), hb3⟩
        case measure => simp [intOf]; omega
      · have hN := split_not_nl HI.out hfi hiL h10
        have hb1 : ((s.extract i (i + 1)).toList == (⟨#[10]⟩ : ByteArray).toList) = false := by rw [he1, Lib.toList_data]; simpa using h10
        have hb2 : ((s.extract i (i + 1)).toList == [10]) = false := by rw [he1]; simpa using h10
        have hb3 : ¬ (s.extract i (i + 1)).toList = [10] := by rw [he1]; simpa using h10
        have HN := hid hN
        clear hN h10 he1 hL hi hz0 hz1 hz2
        go_wp2
        go_roundw
        case rel => exact ⟨f, i + 1, o, rfl, by go_num, by omega, by omega, by omega, HN, HU, hb⟩
        case measure => simp [intOf]; omega
    · obtain rfl : i = s.size := by omega
      have hc1 : ¬ ((s.size : Int) + 1) ≤ (s.size : Int) := by omega
      have hc4 : (0 : Int) ≤ (f : Int) := by omega
      have hc5 : (f : Int) ≤ (s.size : Int) := by omega
      have hE := HI.out
      rw [← hLn] at hE
      have HE := hid (split_end hE hL)
      have hsz : (s.extract f s.size).size ≤ 9223372036854775807 := by rw [ByteArray.size_extract]; omega
      clear hE hL
      go_wp2_with ((at_builtin; refine wpList_append_lies _ rfl (.tmp 39) (.tmp 43) 30 rfl w.heap.size 9 ii (.string ⟨#[]⟩) 1 16 Tryz.underlying30 hi hz0 hz1 hz2 rfl (by decide) _ o.length (strCellsL o) rfl (HU.out.alloc _) ⟨wr.heap.size, 0, none⟩ 1 1 [.string (s.extract f s.size)] rfl rfl (World.news_of_block (cs := #[.string (s.extract f s.size)]) (t := 9) (fr := (0, 0)) (heap_alloc_new wr _)) (by intro u hu; simp at hu; subst hu; rfl) (by decide) (by unfold maxLen; omega) (by omega) (by have := hb.size; simp; omega) _ rfl ?_))
      intro g2 cap2 w3 hown3 hgrow3 hat3 hlt3
      have hb3 : Below w.heap.size w w3 := grown_bel (Below.alloc hb hb.size _) (by have := hb.size; simp; omega) (HU.out.alloc _) hgrow3
      have HO3 := hid hown3
      clear hi hz0 hz1 hz2 hown3 hgrow3 hat3
      go_wp2
      go_ret
      refine ⟨_, rfl, ?_, hb3⟩
      rw [HE.out, List.length_append, strCells_append]
      exact HO3.out
theorem lenNl : lenOf ⟨#[10]⟩ = 1 := by
  have h1 : runesAll (texts [10]) = some [10] := runes_texts [10] (fun c hc => by rw [List.mem_singleton.1 hc]; exact ⟨by decide, by decide, by decide⟩)
  have h2 : texts [10] = [10] := by decide
  rw [h2] at h1
  have h3 : runes? (⟨#[10]⟩ : ByteArray).data.toList = some [10] := by
    show runes? [10] = some [10]
    unfold runes?
    rw [if_pos (by decide)]
    exact h1
  have h4 : okText ⟨#[10]⟩ = true := by unfold okText textOk; rw [h3]; rfl
  rw [lenOf_ok h4]
  unfold runesN
  rw [h3]
  rfl
set_option maxHeartbeats 16000000 in
set_option maxRecDepth 100000 in
theorem specLinesNl {xs : List ByteArray} (s : ByteArray) (w : World) (hf : fileOk s = true) (hl : lnsB s = xs ++ [⟨#[]⟩]) (hx : ∀ x ∈ xs, x.size ≤ 9223372036854775807) (hxl : xs.length ≤ 5000) :
    Calls Tryz.prog 9 #[.string s, .string ⟨#[10]⟩] w fun e w' => ∃ a c, e = .returned (.slice a xs.length c) ∧ Rd.rd (New w.heap.size w') w' [.slice a xs.length c] xs ∧ Below w.heap.size w w' := by
  have hsz := file_size hf
  have CF := hid (fun w => specFileOk s w)
  rw [hf] at CF
  have CL := hid (fun w => specLength ⟨#[10]⟩ w)
  rw [lenNl] at CL
  have CS := hid (fun w => specSplitNl s w (by omega))
  rw [hl] at CS
  have HX := hid hx
  have HXL := hid hxl
  clear hf hl hsz hx
  have hal := hid (ext_alloc w (.cells #[] 9))
  go_enter Tryz.func9, Tryz.ntmps9
  go_wp2_with fail
  refine (CF.out _).mono ?_
  rintro e w1 ⟨rfl, hb1⟩
  have HB1 := hid (ext_trans hal.out hb1)
  clear hb1
  go_wp2_with fail
  refine (CL.out _).mono ?_
  rintro e w2 ⟨rfl, hb2⟩
  have HB2 := hid (ext_trans HB1.out hb2)
  clear hb2
  go_wp2_with fail
  refine (CL.out _).mono ?_
  rintro e w3 ⟨rfl, hb3⟩
  have HB3 := hid (ext_trans HB2.out hb3)
  clear hb3
  go_wp2_with fail
  refine (CS.out _).mono ?_
  rintro e w4 ⟨u, rfl, hown, hb4⟩
  have HB4 := hid (ext_trans HB3.out hb4)
  rcases hown.2 with ⟨rfl, h0⟩ | ⟨g, cap, cur, rfl, hbg, hgg, hle, hmx, _⟩
  · exact absurd h0 (by simp)
  have HG := hid (show w.heap.size ≤ g from Nat.le_trans HB3.out.size hbg)
  have HGL := hid (Array.getElem?_eq_some_iff.1 hgg).1
  have HLE := hid hle
  have HMX := hid hmx
  have HOW := hid hown
  have hlast : w4.cell? ⟨g, xs.length, none⟩ = some (.string ⟨#[]⟩) := by
    have h1 := hown.cells (g := g) rfl xs.length (.string ⟨#[]⟩) (by unfold strCellsL; simp)
    rw [Addr.add_lit, Nat.zero_add] at h1
    exact h1
  rw [List.length_append] at hle ⊢
  obtain ⟨n, hn⟩ : ∃ n, xs.length = n := ⟨_, rfl⟩
  have HN := hid hn
  rw [hn] at hlast hxl hle ⊢
  obtain ⟨m, hm⟩ : ∃ m, n + [(⟨#[]⟩ : ByteArray)].length = m := ⟨_, rfl⟩
  rw [hm] at hle ⊢
  have hm' : m = n + 1 := by rw [← hm]; rfl
  have f1 : (m : Int) - 1 = (n : Int) := by omega
  have f2 : IntKind.i64.wrap (n : Int) = (n : Int) := IntWalk.i64_in _ (by omega)
  have f3 : (0 : Int) ≤ (n : Int) := by omega
  have f4 : (n : Int) < (m : Int) := by omega
  have f5 : (n : Int) ≤ (cap : Int) := by omega
  have f6 : n ≤ cap := by omega
  have f7 : n < m := by omega
  clear hown hbg hgg hmx hb4 hn hm hm' hle hxl
  go_wp2
  go_ret
  refine ⟨some ⟨g, 0, none⟩, cap, by rw [HN.out] <;> rfl, ?_, HB4.out⟩
  have hN := HN.out
  have hMX := HMX.out
  refine ⟨some ⟨g, 0, none⟩, cap, by rw [hN], by rw [hN]; exact f6, by unfold maxLen at hMX; omega, fun h0 => ⟨g, 0, rfl, ⟨HG.out, HGL.out⟩, fun i hi => ?_⟩⟩
  refine ⟨[.string xs[i]], fun j hj => ?_, rfl, ?_⟩
  · have hj0 : j = 0 := by
      have : Rd.n ByteArray = 1 := rfl
      omega
    subst hj0
    have hy := HOW.out.cells (g := g) rfl i (.string xs[i]) (by unfold strCellsL; rw [List.map_append, List.getElem?_append_left (by rw [List.length_map]; exact hi), List.getElem?_map, List.getElem?_eq_getElem hi] <;> rfl)
    have hn1 : Rd.n ByteArray = 1 := rfl
    rw [hn1, Nat.mul_one, Nat.zero_add, Nat.add_zero]
    simpa [Addr.add_lit] using hy
  · exact HX.out _ (List.getElem_mem hi)
end Go.Proofs.YtcebgmdcbdggeaaGreatDoor

namespace Go.Proofs.YtcebgmdcbdggeaaGreatDoor
open Go.RowKit
set_option linter.unusedVariables false
set_option linter.unusedSimpArgs false

set_option maxHeartbeats 1000000 in
theorem drawTsvText {v : Value} {c : List UInt8} (w : World) (h : Rd.rd (Old w) w [v] c) (hn : c.length ≤ 1048576) :
    Calls Tryz.prog 5 #[v] w fun e w' => ∃ (u : Value) (xs : List CsvRow), e = .returned u ∧ Rd.rd (New w.heap.size w') w' [u] xs ∧ xs.length ≤ 5 ∧ Below w.heap.size w w' := by
  obtain ⟨a, cap, rfl, h1, h2, hc⟩ := rdBytes h
  have CO := fun w' (e : w = w') => curOpen (a := a) (cap := cap) w hn hc
  clear hc h h1 h2
  go_enter Tryz.func5, Tryz.ntmps5
  go_wp2_with fail
  refine (CO _ rfl).mono ?_
  rintro e w1 ⟨rfl, hc1, hb1⟩
  go_wp2_with fail
  refine (curRows _ hc1 (by omega)).mono ?_
  rintro e w2 ⟨u, xs, rfl, hr, hx, k, hk, hc2, hg2⟩
  have HR := hid (rows_base hr hb1.size)
  have HB := hid (drawn_below hb1 hg2)
  clear hr hc1 hb1 hc2 hg2
  go_wp2
  go_ret
  exact ⟨u, xs, rfl, HR.out, hx, HB.out⟩
theorem toRow_rowL (x : CsvRow) : toRow (rowL x) = x := by
  unfold toRow rowL
  cases x with
  | mk cs =>
    simp only [List.map_map]
    congr 1
    refine (List.map_congr_left (fun s _ => ?_)).trans (List.map_id cs)
    exact mkB_of s
theorem rows_same (xs : List CsvRow) : (xs.map rowL).map toRow = xs := by
  rw [List.map_map]
  refine (List.map_congr_left (fun x _ => ?_)).trans (List.map_id xs)
  exact toRow_rowL x
set_option maxHeartbeats 1000000 in
theorem implTsvText {v : Value} {xs : List CsvRow} (w : World) (hT : Tabs w) (h : Rd.rd (Old w) w [v] xs) (hn : xs.length ≤ 1000000) :
    Calls Tryz.prog 6 #[v] w fun e w' => TextRes (tsvT (xs.map rowL)) e ∧ Below w.heap.size w w' := by
  have C := hid (implRowsTab w hT h hn)
  obtain ⟨o, ho⟩ : ∃ o, tsvT (xs.map rowL) = o := ⟨_, rfl⟩
  rw [ho] at C ⊢
  clear hT h ho
  go_enter Tryz.func6, Tryz.ntmps6
  go_wp2_with fail
  refine C.out.mono ?_
  rintro e w1 ⟨he, hb⟩
  obtain rfl : e = _ := he
  go_wp2
  go_ret2
  exact ⟨rfl, hb⟩
theorem line_len : ∀ (rs : List (List (List UInt8))), ∀ x ∈ linesT rs, x.length ≤ (rowsTT rs).length
  | [], x, hx => by cases hx
  | r :: rs, x, hx => by
    have e : rowsTT (r :: rs) = (joinT (r.map tcT) ++ [10]) ++ rowsTT rs := by simp [rowsTT, rowTT]
    have e2 : linesT (r :: rs) = joinT (r.map tcT) :: linesT rs := rfl
    rw [e2] at hx
    rw [e]
    simp only [List.length_append, List.length_cons, List.length_nil]
    rcases List.mem_cons.1 hx with h | h
    · rw [h]; omega
    · have := line_len rs x h
      omega
theorem count_take {l : List UInt8} {j : Nat} (h : j < l.length) : (l.take (j + 1)).count 9 = (l.take j).count 9 + (if l[j] = 9 then 1 else 0) := by
  rw [List.take_add_one, List.getElem?_eq_getElem h, List.count_append]
  congr 1
  show [l[j]].count 9 = _
  rw [List.count_cons, List.count_nil]
  by_cases h9 : l[j] = 9
  · rw [if_pos h9, h9]; rfl
  · rw [if_neg h9, if_neg (by simpa using h9)]
/-- what is said of the lines of a text of rows -/
theorem lines_facts {xs : List CsvRow} {t : List UInt8} (h : tsvT (xs.map rowL) = some t) : ∃ LL : List ByteArray, lnsB (mkB t) = LL ++ [⟨#[]⟩] ∧ LL.length = xs.length ∧ (∀ x ∈ LL, x.size ≤ 4000) ∧ LL.length ≤ 4000 ∧ ∀ i (hi : i < LL.length) (hi' : i < xs.length), (LL[i].data.toList).count 9 + 1 = xs[i].cells.length := by
  obtain ⟨hf, htt, hok⟩ := tsvT_file h
  have hsz := file_size hf
  rw [mkB_size] at hsz
  subst htt
  have hrl := rowsTT_len (xs.map rowL)
  rw [List.length_map] at hrl
  refine ⟨(linesT (xs.map rowL)).map mkB, lnsB_rows, by simp [linesT], fun x hx => ?_, by simp [linesT]; omega, fun i hi hi' => ?_⟩
  · obtain ⟨l, hl, rfl⟩ := List.mem_map.1 hx
    have := line_len _ l hl
    rw [mkB_size]
    omega
  · have h1 : i < (xs.map rowL).length := by rw [List.length_map]; exact hi'
    have h2 : i < (linesT (xs.map rowL)).length := by unfold linesT; rw [List.length_map]; exact h1
    have h3 := lines_tabs hok h1 h2
    rw [List.getElem_map (f := mkB), mkB_data, h3, List.getElem_map]
    unfold rowL
    rw [List.length_map]
set_option maxHeartbeats 16000000 in
set_option maxRecDepth 100000 in
theorem fnTsvBack_walk (W : World) (hT : Tabs W) {v0 : Value} {x0 : List UInt8} (h0 : Rd.rd (Old W) W [v0] x0) :
    Calls Tryz.prog 3 #[v0] W fun e W' => e = .returned (.bool true) ∧ Below W.heap.size W W' := by
  by_cases hb : 1048576 < (x0.length : Int)
  · go_enter Tryz.func3, Tryz.ntmps3
    go_wp2_with fail
    refine (lawBig _ h0).mono ?_
    rintro e w1 ⟨rfl, rfl⟩
    rw [decide_eq_true hb]
    go_wp2
    go_ret
    exact ⟨rfl, Below.refl _ _⟩
  · have HBF := hid (decide_eq_false hb)
    have hn : x0.length ≤ 1048576 := by omega
    clear hb
    go_enter Tryz.func3, Tryz.ntmps3
    go_wp2_with fail
    refine (lawBig _ h0).mono ?_
    rintro e w1 ⟨rfl, rfl⟩
    rw [HBF.out]
    go_wp2_with fail
    refine (drawTsvText _ h0 hn).mono ?_
    rintro e w2 ⟨u, xs, rfl, hr, hx, hb2⟩
    have hr2 : Rd.rd (Old w2) w2 [u] xs := Rd.mono (fun b hb => hb.2) hr
    have HR2 := hid hr2
    have HB2 := hid hb2
    have HT2 := hid (tabs_below hT hb2)
    clear hr hr2 hb2 hT h0
    go_wp2_with fail
    refine (implTsvText w2 HT2.out HR2.out (by omega)).mono ?_
    rintro e w3 ⟨he, hb3⟩
    obtain rfl : e = _ := he
    have HR3 := hid (Rd.later hb3 HR2.out)
    have HB3 := hid hb3
    clear hb3
    have HCB := hid (fun t (h : tsvT (xs.map rowL) = some t) => tsv_back h)
    have HLF := hid (fun t (h : tsvT (xs.map rowL) = some t) => lines_facts h)
    have HTF := hid (fun t (h : tsvT (xs.map rowL) = some t) => (tsvT_file h).1)
    obtain ⟨o, ho⟩ : ∃ o, tsvT (xs.map rowL) = o := ⟨_, rfl⟩
    rw [ho] at HCB HLF HTF ⊢
    have HO := hid ho
    clear ho
    cases o with
    | none =>
      go_wp2_with fail
      refine (specTsvText w3 HR3.out (by omega)).mono ?_
      rintro e w4 ⟨he, hb4⟩
      rw [HO.out] at he
      obtain rfl : e = _ := he
      have HB4 := hid hb4
      have hE : (mkB []).toList.isEmpty = true := by rw [Lib.toList_data]; rfl
      clear hb4
      go_wp2
      go_ret
      exact ⟨by first | rfl | simp [hE], ext_trans HB2.out (ext_trans HB3.out HB4.out)⟩
    | some t =>
      obtain ⟨LL, hln, hll, hls, hl4, hlt⟩ := HLF.out t rfl
      have HTFF := hid (HTF.out t rfl)
      have HLN := hid hln
      have HLS := hid hls
      have HLT := hid hlt
      clear hln hls hlt HLF HTF
      go_wp2_with fail
      refine (specTsvText w3 HR3.out (by omega)).mono ?_
      rintro e w4 ⟨he, hb4⟩
      rw [HO.out] at he
      obtain rfl : e = _ := he
      have HB4 := hid hb4
      have HR4 := hid (Rd.later hb4 HR3.out)
      have HT4 := hid (tabs_below (tabs_below HT2.out HB3.out) hb4)
      clear hb4
      go_wp2_with fail
      refine (implTsvRead (mkB t) w4 HT4.out).mono ?_
      rintro e w5 ⟨nv, he, hrd, hb5⟩
      rw [HCB.out t rfl] at he hrd
      obtain rfl : e = _ := he
      rw [show ((xs.map rowL, 0, 0) : List (List (List UInt8)) × Nat × Nat).1.map toRow = xs from rows_same xs] at hrd
      have HRD := hid (show Rd.rd (Old w5) w5 [nv] xs from Rd.mono (fun b hb => hb.2) hrd)
      have HR5 := hid (Rd.later hb5 HR4.out)
      have HB5 := hid hb5
      clear hrd hb5
      have CLN := hid (specLinesNl (mkB t) w5 HTFF.out HLN.out (fun x hx => Nat.le_trans (HLS.out x hx) (by decide)) (by omega))
      obtain ⟨n, hn'⟩ : ∃ n, xs.length = n := ⟨_, rfl⟩
      have HN := hid hn'
      rw [hn'] at hll
      rw [hll] at CLN
      have HLL := hid hll
      clear hll hn'
      go_wp2_with fail
      refine CLN.out.mono ?_
      rintro e w6 ⟨la, lc, rfl, hlr, hb6⟩
      have HRD6 := hid (Rd.later hb6 HRD.out)
      have HR6 := hid (Rd.later hb6 HR5.out)
      have HLR := hid (show Rd.rd (Old w6) w6 [.slice la n lc] LL from Rd.mono (fun b hb => hb.2) hlr)
      have HB6 := hid hb6
      clear hlr hb6
      go_wp2_with fail
      refine (sameRows_qt w6 HRD6.out HR6.out).mono ?_
      rintro e w7 ⟨rfl, hq⟩
      have HR7 := hid (Rd.later (hq.below w6.heap.size) HR6.out)
      have HLR7 := hid (Rd.later (hq.below w6.heap.size) HLR.out)
      have HB7 := hid (ext_trans HB2.out (ext_trans HB3.out (ext_trans HB4.out (ext_trans HB5.out (ext_trans HB6.out (hq.below w6.heap.size))))))
      clear hq HRD6 HR6 HLR
      obtain ⟨ra, rcap, hv, g1, g2, hF⟩ := HR7.out
      obtain rfl : u = .slice ra xs.length rcap := by simpa using hv
      obtain ⟨la2, lc2, hv2, k1, k2, hG⟩ := HLR7.out
      obtain ⟨rfl, hn2, rfl⟩ : la = la2 ∧ n = LL.length ∧ lc = lc2 := by simpa using hv2
      have HF := hid hF
      have HG := hid hG
      have hn5 : n ≤ 5 := by rw [← HN.out]; exact hx
      have hneq : ((n : Int) != (xs.length : Int)) = false := by rw [HN.out]; simp
      have hneq2 : (n : Int) = (xs.length : Int) := by rw [HN.out]
      clear hv g1 g2 hF hv2 k1 k2 hG hn2
      go_wp2
      go_loopw [12, 13, 14] (fun iv tv kv wr => ∃ i : Nat, i ≤ n ∧ iv = .int .i64 (i : Int) ∧ w7 = wr) (fun iv _ _ _ => n - (intOf iv).toNat)
      case atStart => exact ⟨0, Nat.zero_le _, rfl, rfl⟩
      case round =>
        obtain ⟨i, hi, rfl, rfl⟩ := hrel
        by_cases hlt : i < n
        · have hiL : i < LL.length := by rw [HLL.out]; exact hlt
          have hiX : i < xs.length := by rw [HN.out]; exact hlt
          have htab := HLT.out i hiL hiX
          have hsz := HLS.out _ (List.getElem_mem hiL)
          obtain ⟨b, off, rfl, hB, hrow⟩ := HG.out (by omega)
          obtain ⟨cs, hcell, hx2⟩ := hrow i hiL
          obtain ⟨hcs, _⟩ := hx2
          subst hcs
          have t0 : w7.cell? ⟨b, off + i, none⟩ = some (.string LL[i]) := by have h9 := hcell 0 (by decide); rw [show off + i * Rd.n ByteArray + 0 = off + i from by show off + i * 1 + 0 = _; omega] at h9; exact h9
          obtain ⟨b2, off2, rfl, hB2, hrow2⟩ := HF.out (by omega)
          obtain ⟨cs2, hcell2, hx3⟩ := hrow2 i hiX
          obtain ⟨ua, uc, hu, hu2⟩ := rdRow hx3
          subst hu
          have t1 : w7.cell? ⟨b2, off2 + i, none⟩ = some (.slice ua xs[i].cells.length uc) := by have h9 := hcell2 0 (by decide); rw [show off2 + i * Rd.n CsvRow + 0 = off2 + i from by show off2 + i * 1 + 0 = _; omega] at h9; exact h9
          obtain ⟨nc, hnc⟩ : ∃ nc, xs[i].cells.length = nc := ⟨_, rfl⟩
          rw [hnc] at t1 htab
          obtain ⟨x, hxx⟩ : ∃ x, LL[i] = x := ⟨_, rfl⟩
          rw [hxx] at t0 htab hsz
          obtain ⟨l, hl⟩ : ∃ l, x.data.toList = l := ⟨_, rfl⟩
          rw [hl] at htab
          have HXL := hid (show x.size = l.length by rw [Lib.size_eq, hl])
          have HBX := hid (show ∀ (j : Nat) (h : j < x.size) (h2 : j < l.length), x[j]'h = l[j] by subst hl; intro j h h2; rfl)
          have HTAB := hid htab
          have hcnt := hid (fun j => List.count_le_length (a := (9 : UInt8)) (l := l.take j))
          have hi0 : (0 : Int) ≤ (i : Int) := by omega
          have hii : (i : Int) < (n : Int) := by omega
          have hiX2 : (i : Int) < (xs.length : Int) := by omega
          clear hcell hcell2 hrow hrow2 hx3 hu2 hB hB2 hnc hxx hl htab
          go_wp2
          go_loopw [13, 14] (fun tv kv wx => ∃ j : Nat, j ≤ x.size ∧ kv = .int .i64 (j : Int) ∧ tv = .int .i64 (((l.take j).count 9 : Nat) : Int) ∧ w7 = wx) (fun _ kv _ => x.size - (intOf kv).toNat)
          case atStart => exact ⟨0, Nat.zero_le _, rfl, rfl, rfl⟩
          case round =>
            obtain ⟨j, hj, rfl, rfl, rfl⟩ := hrel
            have hcl := hcnt.out j
            rw [List.length_take] at hcl
            by_cases hjl : j < x.size
            · have hj2 : j < l.length := by rw [← HXL.out]; exact hjl
              have hby := HBX.out j hjl hj2
              have hct := count_take hj2
              have hji : (j : Int) < (x.size : Int) := by omega
              have hj0 : (0 : Int) ≤ (j : Int) := by omega
              obtain ⟨q, hq⟩ : ∃ q, (l.take j).count 9 = q := ⟨_, rfl⟩
              rw [hq] at hct hcl ⊢
              by_cases h9 : l[j] = 9
              · rw [if_pos h9] at hct
                have hx1 : ((x[j]'hjl : UInt8).toNat : Int) = 9 := by rw [hby, h9]; rfl
                have HCT := hid hct
                clear hct hby h9 hq
                go_wp2
                go_roundw
                case rel => exact ⟨j + 1, by omega, by go_num, by rw [HCT.out]; go_num, by first | rfl | trivial⟩
                case measure => simp [intOf]; omega
              · rw [if_neg h9] at hct
                have hx1 : (((x[j]'hjl : UInt8).toNat : Int) == 9) = false := by rw [hby, beq_eq_false_iff_ne]; intro h; exact h9 (UInt8.toNat_inj.1 (by show l[j].toNat = 9; omega))
                have hx2 : ¬ ((x[j]'hjl : UInt8).toNat : Int) = 9 := by rw [beq_eq_false_iff_ne] at hx1; exact hx1
                have HCT := hid hct
                clear hct hby h9 hq
                go_wp2
                go_roundw
                case rel => exact ⟨j + 1, by omega, by go_num, by rw [HCT.out] <;> rfl, by first | rfl | trivial⟩
                case measure => simp [intOf]; omega
            · obtain rfl : j = x.size := by omega
              have hjj : ¬ (x.size : Int) < (x.size : Int) := by omega
              have e1 : l.take x.size = l := by rw [HXL.out, List.take_length]
              rw [e1] at hcl ⊢
              obtain ⟨q, hq⟩ : ∃ q, l.count 9 = q := ⟨_, rfl⟩
              have hqn := HTAB.out
              rw [hq] at hqn hcl ⊢
              have hw1 : (q : Int) + 1 = (nc : Int) := by omega
              have hw2 : IntKind.i64.wrap (nc : Int) = (nc : Int) := IntWalk.i64_in _ (by omega)
              have hw3 : ((nc : Int) != (nc : Int)) = false := by simp
              clear e1 hq hqn
              go_wp2
              go_roundw
              case rel => exact ⟨i + 1, by omega, by go_num, by first | rfl | trivial⟩
              case measure => simp [intOf]; omega
        · obtain rfl : i = n := by omega
          have hii : ¬ (i : Int) < (i : Int) := by omega
          clear hlt
          go_wp2
          go_ret
          exact ⟨rfl, HB7.out⟩
end Go.Proofs.YtcebgmdcbdggeaaGreatDoor
