/-
  What is proved here: the reference's JSON reader: what it looks at, its errors, blanks, digits, numbers. No condition but that the reader lies in memory.
-/
import Derived.Test.YtlfkfofeenakhaaDoorJsL
import Derived.Test.YtlfkfofeenakhaaDoorRdr
import Derived.Test.YtlfkfofeenakhaaDoorRunesS
import Derived.Deep.QuietTactic
import Derived.BigQuiet
import Derived.IntWalk
namespace Go.Proofs.YtlfkfofeenakhaaDoor
open Go.RowKit
set_option linter.unusedVariables false
set_option linter.unusedSimpArgs false

/-- a reader in its block: text, place, code and place of an error, depth, values begun, nodes -/
def JS (w : World) (g : Nat) (s : ByteArray) (p cd bd d b : Nat) (nv : Value) : Prop :=
  w.heap[g]? = some (.cells #[.string s, .int .i64 (p : Int), .int .i64 (cd : Int), .int .i64 (bd : Int), .int .i64 (d : Int), .int .i64 (b : Int), nv] 50 (0, 0))
section
variable {w : World} {g : Nat} {s : ByteArray} {p cd bd d b : Nat} {nv : Value}
theorem JS.cells (h : JS w g s p cd bd d b nv) : w.cell? ⟨g, 0, none⟩ = some (.string s) ∧ w.cell? ⟨g, 1, none⟩ = some (.int .i64 (p : Int)) ∧ w.cell? ⟨g, 2, none⟩ = some (.int .i64 (cd : Int)) ∧ w.cell? ⟨g, 3, none⟩ = some (.int .i64 (bd : Int)) ∧ w.cell? ⟨g, 4, none⟩ = some (.int .i64 (d : Int)) ∧ w.cell? ⟨g, 5, none⟩ = some (.int .i64 (b : Int)) ∧ w.cell? ⟨g, 6, none⟩ = some nv ∧ w.frozen? ⟨g, 1, none⟩ = false ∧ w.frozen? ⟨g, 2, none⟩ = false ∧ w.frozen? ⟨g, 3, none⟩ = false ∧ w.frozen? ⟨g, 4, none⟩ = false ∧ w.frozen? ⟨g, 5, none⟩ = false ∧ w.frozen? ⟨g, 6, none⟩ = false ∧ g < w.heap.size :=
  ⟨cell_of_row _ _ 0 _ _ _ h, cell_of_row _ _ 1 _ _ _ h, cell_of_row _ _ 2 _ _ _ h, cell_of_row _ _ 3 _ _ _ h, cell_of_row _ _ 4 _ _ _ h, cell_of_row _ _ 5 _ _ _ h, cell_of_row _ _ 6 _ _ _ h, frozen_of_row _ _ 1 _ _ h, frozen_of_row _ _ 2 _ _ h, frozen_of_row _ _ 3 _ _ h, frozen_of_row _ _ 4 _ _ h, frozen_of_row _ _ 5 _ _ h, frozen_of_row _ _ 6 _ _ h, (Array.getElem?_eq_some_iff.1 h).1⟩
theorem JS.qt {w' : World} (h : JS w g s p cd bd d b nv) (hq : Qt w w') : JS w' g s p cd bd d b nv := hq.at h
theorem JS.far {g2 o : Nat} {u : Value} (h : JS w g s p cd bd d b nv) (hne : g ≠ g2) : JS (w.setCell ⟨g2, o, none⟩ u) g s p cd bd d b nv := (Below.heap_setCell w ⟨g2, o, none⟩ u g hne).trans h
theorem JS.setP (h : JS w g s p cd bd d b nv) (q : Nat) : JS (w.setCell ⟨g, 1, none⟩ (.int .i64 (q : Int))) g s q cd bd d b nv := (heap_setCell_same w g 1 _ _ _ h).trans rfl
theorem JS.setC (h : JS w g s p cd bd d b nv) (q : Nat) : JS (w.setCell ⟨g, 2, none⟩ (.int .i64 (q : Int))) g s p q bd d b nv := (heap_setCell_same w g 2 _ _ _ h).trans rfl
theorem JS.setE (h : JS w g s p cd bd d b nv) (q : Nat) : JS (w.setCell ⟨g, 3, none⟩ (.int .i64 (q : Int))) g s p cd q d b nv := (heap_setCell_same w g 3 _ _ _ h).trans rfl
theorem JS.setD (h : JS w g s p cd bd d b nv) (q : Nat) : JS (w.setCell ⟨g, 4, none⟩ (.int .i64 (q : Int))) g s p cd bd q b nv := (heap_setCell_same w g 4 _ _ _ h).trans rfl
theorem JS.setB (h : JS w g s p cd bd d b nv) (q : Nat) : JS (w.setCell ⟨g, 5, none⟩ (.int .i64 (q : Int))) g s p cd bd d q nv := (heap_setCell_same w g 5 _ _ _ h).trans rfl
theorem JS.setN (h : JS w g s p cd bd d b nv) (u : Value) : JS (w.setCell ⟨g, 6, none⟩ u) g s p cd bd d b u := (heap_setCell_same w g 6 _ _ _ h).trans rfl
end
/-- where a reader stands -/
def atJ (w : World) (g : Nat) : Nat := match w.cell? ⟨g, 1, none⟩ with | some (.int _ z) => z.toNat | _ => 0
theorem JS.atJ {w : World} {g : Nat} {s : ByteArray} {p cd bd d b : Nat} {nv : Value} (h : JS w g s p cd bd d b nv) : atJ w g = p := by
  unfold Go.Proofs.YtlfkfofeenakhaaDoor.atJ
  rw [h.cells.2.1]
  simp
set_option maxHeartbeats 4000000 in
theorem specJPeek {g : Nat} {s : ByteArray} {p cd bd d b : Nat} {nv : Value} (w : World) (h : JS w g s p cd bd d b nv) :
    Calls Tryd.prog 63 #[.pointer (some ⟨g, 0, none⟩)] w fun e w' => e = .returned (.int .i64 ((gB s.data.toList p : Nat) : Int)) ∧ Qt w w' := by
  obtain ⟨c0, c1, c2, c3, c4, c5, c6, _, _, _, _, _, _, hl⟩ := h.cells
  clear h
  by_cases hlt : p < s.size
  · have HE := hid (show gB s.data.toList p = (s[p]'hlt).toNat from gB_at (by rw [← Lib.size_eq]; exact hlt))
    have h1 : (p : Int) < (s.size : Int) := by omega
    have h0 : (0 : Int) ≤ (p : Int) := by omega
    have hb255 := (s[p]'hlt).toNat_lt
    have hwr : wrap64 (((s[p]'hlt).toNat : Nat) : Int) = (((s[p]'hlt).toNat : Nat) : Int) := IntWalk.wrap64_in _ (by omega)
    rw [HE.out]
    clear c2 c3 c4 c5 c6
    go_enter Tryd.func63, Tryd.ntmps63
    go_wp2_with fail
    go_quiet (fail)
    go_wp2_with fail
    go_quiet (fail)
    go_wp2
    go_ret
    exact ⟨rfl, by first | exact ⟨_, rfl⟩ | exact (Qt.one _ _).trans (Qt.one _ _)⟩
  · have HE := hid (show gB s.data.toList p = 0 from gB_end (by rw [← Lib.size_eq]; omega))
    have h1 : ¬ (p : Int) < (s.size : Int) := by omega
    rw [HE.out]
    clear c2 c3 c4 c5 c6
    go_enter Tryd.func63, Tryd.ntmps63
    go_wp2_with fail
    go_quiet (fail)
    go_wp2
    go_ret
    exact ⟨rfl, _, rfl⟩
theorem specJFail {g : Nat} {s : ByteArray} {p cd bd d b : Nat} {nv : Value} (c q : Nat) (w : World) (h : JS w g s p cd bd d b nv) :
    Calls Tryd.prog 30 #[.pointer (some ⟨g, 0, none⟩), .int .i64 (c : Int), .int .i64 (q : Int)] w fun e w' => e = .returned (.int .i64 0) ∧ JS w' g s p (if cd = 0 then c else cd) (if cd = 0 then q else bd) d b nv ∧ Kp g none w w' := by
  obtain ⟨c0, c1, c2, c3, c4, c5, c6, y1, y2, y3, y4, y5, y6, hl⟩ := h.cells
  have HB := hid h
  by_cases h0 : cd = 0
  · subst h0
    have HB1 := hid ((HB.out.setC c).setE q)
    clear h
    go_enter Tryd.func30, Tryd.ntmps30
    go_wp2
    go_ret
    exact ⟨rfl, (by simpa using HB1.out), ((Kp.refl g none w).set 2 _).set 3 _⟩
  · have h1 : ((cd : Int) == 0) = false := by rw [beq_eq_false_iff_ne]; omega
    have h2 : ¬ (cd : Int) = 0 := by omega
    rw [if_neg h0, if_neg h0]
    clear h
    go_enter Tryd.func30, Tryd.ntmps30
    go_wp2
    go_ret
    exact ⟨rfl, HB.out, Kp.refl g none w⟩
theorem specJBlank (c : Nat) (w : World) : Calls Tryd.prog 62 #[.int .i64 (c : Int)] w fun e w' => e = .returned (.bool (blB c)) ∧ w = w' := by
  by_cases h1 : c = 32
  · subst h1
    go_enter Tryd.func62, Tryd.ntmps62
    go_wp2
    go_ret
    exact ⟨end_bool (by decide), rfl⟩
  by_cases h2 : c = 9
  · subst h2
    go_enter Tryd.func62, Tryd.ntmps62
    go_wp2
    go_ret
    exact ⟨end_bool (by decide), rfl⟩
  by_cases h3 : c = 10
  · subst h3
    go_enter Tryd.func62, Tryd.ntmps62
    go_wp2
    go_ret
    exact ⟨end_bool (by decide), rfl⟩
  by_cases h4 : c = 13
  · subst h4
    go_enter Tryd.func62, Tryd.ntmps62
    go_wp2
    go_ret
    exact ⟨end_bool (by decide), rfl⟩
  have HR := hid (show blB c = false by unfold blB; simp [h1, h2, h3, h4])
  have e1 : ((c : Int) == 32) = false := by rw [beq_eq_false_iff_ne]; omega
  have e2 : ((c : Int) == 9) = false := by rw [beq_eq_false_iff_ne]; omega
  have e3 : ((c : Int) == 10) = false := by rw [beq_eq_false_iff_ne]; omega
  have e4 : ((c : Int) == 13) = false := by rw [beq_eq_false_iff_ne]; omega
  clear h1 h2 h3 h4
  go_enter Tryd.func62, Tryd.ntmps62
  go_wp2
  go_ret
  exact ⟨end_bool (by rw [HR.out]), rfl⟩
theorem specJDigit (c : Nat) (w : World) : Calls Tryd.prog 64 #[.int .u8 (c : Int)] w fun e w' => e = .returned (.bool (dgB c)) ∧ w = w' := by
  by_cases h1 : 48 ≤ c
  · by_cases h2 : c ≤ 57
    · have HR := hid (show dgB c = true from decide_eq_true ⟨h1, h2⟩)
      have g1 : ¬ (c : Int) < 48 := by omega
      have g2 : (c : Int) ≤ 57 := by omega
      go_enter Tryd.func64, Tryd.ntmps64
      go_wp2
      go_ret
      rw [HR.out]
      exact ⟨rfl, rfl⟩
    · have HR := hid (show dgB c = false from decide_eq_false (fun h => h2 h.2))
      have g1 : ¬ (c : Int) < 48 := by omega
      have g2 : ¬ (c : Int) ≤ 57 := by omega
      go_enter Tryd.func64, Tryd.ntmps64
      go_wp2
      go_ret
      rw [HR.out]
      exact ⟨rfl, rfl⟩
  · have HR := hid (show dgB c = false from decide_eq_false (fun h => h1 h.1))
    have g1 : (c : Int) < 48 := by omega
    go_enter Tryd.func64, Tryd.ntmps64
    go_wp2
    go_ret
    rw [HR.out]
    exact ⟨rfl, rfl⟩
/-- a callee that only reads, of a world behind draws -/
theorem Calls.quiet_qt {P : Program} {f : FuncId} {args : Array Value} {w : World} {n : Nat} {v : Value} (h : Calls P f args (w.drewN n) fun e w' => e = .returned v ∧ Qt (w.drewN n) w') : Calls P f args (w.drewN n) fun e w'' => e = .returned v ∧ ∃ m, w'' = w.drewN m :=
  Calls.quiet_of (h.mono fun e w' ⟨a, b⟩ => ⟨a, b⟩)
set_option maxHeartbeats 8000000 in
set_option maxRecDepth 100000 in
theorem specJBlanks {g : Nat} {s : ByteArray} {p cd bd d b : Nat} {nv : Value} (w : World) (h : JS w g s p cd bd d b nv) (hs : s.size ≤ 5000) :
    Calls Tryd.prog 28 #[.pointer (some ⟨g, 0, none⟩)] w fun e w' => e = .returned (.tuple #[]) ∧ JS w' g s (skB s.data.toList p) cd bd d b nv ∧ Kp g none w w' := by
  obtain ⟨L, hL⟩ : ∃ L, s.data.toList = L := ⟨_, rfl⟩
  have hsl : s.size = L.length := by rw [← hL, Lib.size_eq]
  have CP := hid (fun (q : Nat) (w : World) (h : JS w g s q cd bd d b nv) => specJPeek w h)
  rw [hL] at CP ⊢
  obtain ⟨R, hR⟩ : ∃ R, skB L p = R := ⟨_, rfl⟩
  have HR := hid hR
  rw [hR]
  have HH := hid h
  have HSL := hid hsl
  clear hL hsl hR h
  go_enter Tryd.func28, Tryd.ntmps28
  go_wp2
  go_loopw [] (fun wr => ∃ q : Nat, (q ≤ s.size ∨ q = p) ∧ JS wr g s q cd bd d b nv ∧ Kp g none w wr ∧ Hid (skB L q = R)) (fun wr => s.size + 1 - atJ wr g)
  case atStart => exact ⟨p, Or.inr rfl, HH.out, Kp.refl _ _ _, HR⟩
  case round =>
    obtain ⟨q, hq, hj, hk, HQ⟩ := hrel
    obtain ⟨c0, c1, c2, c3, c4, c5, c6, y1, y2, y3, y4, y5, y6, hl⟩ := hj.cells
    have HJ := hid hj
    have HK := hid hk
    clear hj hk c2 c3 c4 c5 c6
    by_cases hlt : q < s.size
    · have h1 : (q : Int) < (s.size : Int) := by omega
      have CPQ := hid (fun (n : Nat) => CP.out q (wr.drewN n) (HJ.out.qt (Qt.one _ _)))
      have CB := hid (fun w => specJBlank (gB L q) w)
      obtain ⟨G, hG⟩ : ∃ G, gB L q = G := ⟨_, rfl⟩
      rw [hG] at CPQ CB
      cases hb : blB G with
      | true =>
        have HST := hid (show skB L (q + 1) = R by rw [← HQ.out]; exact (runE_step (by rw [← HSL.out]; exact hlt) (by rw [hG]; exact hb)).symm)
        rw [hb] at CB
        obtain ⟨q1, hq1⟩ : ∃ x, q + 1 = x := ⟨_, rfl⟩
        have hw' : (q : Int) + 1 = (q1 : Int) := by omega
        have hw : IntKind.i64.wrap (q1 : Int) = (q1 : Int) := IntWalk.i64_in _ (by omega)
        rw [hq1] at HST
        have HQ1 := hid hq1
        clear hG hb hq1
        go_wp2_with fail
        go_quiet (first | (go_at_call 63; exact Calls.quiet_qt (CPQ.out _)) | (go_at_call 62; exact Calls.quiet_of_same ((CB.out _).mono fun e w' ⟨a, c⟩ => ⟨a, c.symm⟩)))
        have HJ2 := hid ((HJ.out.qt (Qt.one wr nq)).setP q1)
        have HK2 := hid ((HK.out.drewN nq).set 1 (.int .i64 (q1 : Int)))
        go_wp2
        go_roundw
        case rel => exact ⟨q1, Or.inl (by have := HQ1.out; omega), HJ2.out, HK2.out, HST⟩
        case measure =>
          have e1 := HJ2.out.atJ
          have e2 := HJ.out.atJ
          have := HQ1.out
          rw [e1, e2]
          omega
      | false =>
        have HST := hid (show q = R by rw [← HQ.out]; exact (runE_stop (by rw [hG]; exact hb)).symm)
        rw [hb] at CB
        clear hG hb
        go_wp2_with fail
        go_quiet (first | (go_at_call 63; exact Calls.quiet_qt (CPQ.out _)) | (go_at_call 62; exact Calls.quiet_of_same ((CB.out _).mono fun e w' ⟨a, c⟩ => ⟨a, c.symm⟩)))
        go_wp2
        go_end0
        rw [← HST.out]
        exact ⟨rfl, HJ.out.qt (Qt.one _ _), HK.out.drewN _⟩
    · have h1 : ¬ (q : Int) < (s.size : Int) := by omega
      have HST := hid (show q = R by rw [← HQ.out]; exact (runE_far (by rw [← HSL.out]; omega)).symm)
      go_wp2_with fail
      go_quiet (fail)
      go_wp2
      go_end0
      rw [← HST.out]
      exact ⟨rfl, HJ.out.qt (Qt.one _ _), HK.out.drewN _⟩
end Go.Proofs.YtlfkfofeenakhaaDoor
