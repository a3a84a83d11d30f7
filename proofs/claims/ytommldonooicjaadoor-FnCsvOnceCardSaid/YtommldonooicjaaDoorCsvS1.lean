/-
  What is proved here: RowsOk of spec. No condition.
-/
import Derived.Test.YtommldonooicjaaDoorCsvI11
namespace Go.Proofs.YtommldonooicjaaDoor
open Go.RowKit
set_option linter.unusedVariables false
set_option linter.unusedSimpArgs false

theorem rowOk_len {x : CsvRow} (h : inB 1 (x.cells.length : Int) 100 = false) : rowOk (rowL x) = false := by rw [rowOk_def, h]; rfl
theorem rowOk_cell {x : CsvRow} {j : Nat} (hj : j < x.cells.length) (h : okText x.cells[j] = false) : rowOk (rowL x) = false := by
  rw [rowOk_def]
  have : (x.cells.any fun s => !(okText s)) = true := List.any_eq_true.2 ⟨_, List.getElem_mem hj, by rw [h]; rfl⟩
  rw [this, Bool.or_true]
  rfl
theorem rowOk_all {x : CsvRow} (h : inB 1 (x.cells.length : Int) 100 = true) (ha : ∀ j (hj : j < x.cells.length), okText x.cells[j] = true) : rowOk (rowL x) = true := by
  rw [rowOk_def, h]
  have : (x.cells.any fun s => !(okText s)) = false := by
    rw [List.any_eq_false]
    intro s hs
    obtain ⟨j, hj, rfl⟩ := List.getElem_of_mem hs
    rw [ha j hj]
    simp
  rw [this]
  rfl
theorem rowsOk_no {xs : List CsvRow} {k : Nat} (hk : k < xs.length) (h : rowOk (rowL xs[k]) = false) : rowsOk (xs.map rowL) = false := by
  unfold rowsOk
  rw [List.all_map, List.all_eq_false]
  exact ⟨_, List.getElem_mem hk, by show ¬ (rowOk (rowL xs[k]) = true); rw [h]; simp⟩
theorem rowsOk_yes {xs : List CsvRow} (h : ∀ k (hk : k < xs.length), rowOk (rowL xs[k]) = true) : rowsOk (xs.map rowL) = true := by
  unfold rowsOk
  rw [List.all_map, List.all_eq_true]
  intro x hx
  obtain ⟨j, hj, rfl⟩ := List.getElem_of_mem hx
  exact h j hj
set_option maxHeartbeats 8000000 in
set_option maxRecDepth 100000 in
theorem specRowsOk {v : Value} {xs : List CsvRow} (w : World) (h : Rd.rd (Old w) w [v] xs) (hn : xs.length ≤ 1000000) :
    Calls Tryd.prog 43 #[v] w fun e w' => e = .returned (.bool (rowsOk (xs.map rowL))) ∧ Below w.heap.size w w' := by
  obtain ⟨a, cap, hv, h1, h2, hF⟩ := h
  obtain rfl : v = .slice a xs.length cap := by simpa using hv
  have HF := hid hF
  clear hv h1 h2 hF
  go_enter Tryd.func43, Tryd.ntmps43
  go_wp2
  go_loopw [3, 4] (fun i _ wr => ∃ k : Nat, k ≤ xs.length ∧ i = .int .i64 (k : Int) ∧ Below w.heap.size w wr ∧ Hid (∀ j (hj : j < xs.length), j < k → rowOk (rowL xs[j]) = true)) (fun i _ _ => xs.length - (intOf i).toNat)
  case atStart => exact ⟨0, Nat.zero_le _, rfl, Below.refl _ _, hid (fun j _ hj => absurd hj (Nat.not_lt_zero _))⟩
  case round =>
    obtain ⟨k, hk, rfl, hb, HA⟩ := hrel
    by_cases hlt : k < xs.length
    · obtain ⟨b, off, rfl, hB, hrow⟩ := HF.out (by omega)
      obtain ⟨cs, hcell, hx⟩ := hrow k hlt
      obtain ⟨ua, uc, hu, hu2⟩ := rdRow hx
      subst hu
      have t0w : w.cell? ⟨b, off + k, none⟩ = some (.slice ua xs[k].cells.length uc) := by have h9 := hcell 0 (by decide); rw [show off + k * Rd.n CsvRow + 0 = off + k from by show off + k * 1 + 0 = _; omega] at h9; exact h9
      have t0 : wr.cell? ⟨b, off + k, none⟩ = some (.slice ua xs[k].cells.length uc) := (hb.cell (p := ⟨b, off + k, none⟩) hB).trans t0w
      obtain ⟨x, hxe⟩ : ∃ x, xs[k] = x := ⟨_, rfl⟩
      have HX := hid hxe
      have HNO := hid (fun (h : rowOk (rowL x) = false) => rowsOk_no hlt (by rw [hxe]; exact h))
      rw [hxe] at t0 t0w hu2
      have HU := hid hu2
      have HT0 := hid t0w
      have HB := hid hB
      obtain ⟨n, hnx⟩ : ∃ n, x.cells.length = n := ⟨_, rfl⟩
      have HN := hid hnx
      rw [hnx] at t0 HT0
      have hki : (k : Int) < (xs.length : Int) := by omega
      have hk0 : (0 : Int) ≤ (k : Int) := by omega
      have CW := hid (fun w => between_any (n : Int) 1 100 w)
      clear hrow hcell hx hu2 hxe t0w hB hnx
      cases hin : inB 1 (n : Int) 100 with
      | false =>
        have HR := hid (HNO.out (rowOk_len (by rw [HN.out]; exact hin)))
        rw [hin] at CW
        clear hin
        go_wp2_with fail
        refine (CW.out _).mono ?_
        rintro e w1 ⟨rfl, rfl⟩
        go_wp2
        go_ret
        exact ⟨by rw [HR.out] <;> rfl, hb⟩
      | true =>
        have HIN := hid hin
        have hn100 : n ≤ 100 := by
          have h9 := hin
          unfold inB at h9
          simp only [decide_eq_true_eq, Bool.and_eq_true] at h9
          omega
        rw [hin] at CW
        clear hin
        go_wp2_with fail
        refine (CW.out _).mono ?_
        rintro e w1 ⟨rfl, rfl⟩
        have HB0 := hid hb
        go_wp2
        go_loopw [4] (fun i wr => ∃ j : Nat, j ≤ n ∧ i = .int .i64 (j : Int) ∧ Below w.heap.size w wr ∧ Hid (∀ q (hq : q < x.cells.length), q < j → okText x.cells[q] = true)) (fun i _ => n - (intOf i).toNat)
        case atStart => exact ⟨0, Nat.zero_le _, rfl, HB0.out, hid (fun q _ hq => absurd hq (Nat.not_lt_zero _))⟩
        case round =>
          obtain ⟨j, hj, rfl, hb, HC⟩ := hrel
          have t0 : wr.cell? ⟨b, off + k, none⟩ = some (.slice ua n uc) := (hb.cell (p := ⟨b, off + k, none⟩) HB.out).trans HT0.out
          by_cases hjn : j < n
          · obtain ⟨a2, cap2, hv2, g1, g2, hF2⟩ := HU.out
            obtain ⟨rfl, rfl⟩ : ua = a2 ∧ uc = cap2 := by simpa using hv2
            obtain ⟨b2, off2, rfl, hB2, hrow2⟩ := hF2 (by rw [HN.out]; omega)
            have hjC : j < x.cells.length := by rw [HN.out]; exact hjn
            obtain ⟨cs2, hcell2, hx2⟩ := hrow2 j hjC
            obtain ⟨hcs2, f2⟩ := hx2
            subst hcs2
            have t2 : wr.cell? ⟨b2, off2 + j, none⟩ = some (.string x.cells[j]) := (hb.cell (p := ⟨b2, off2 + j, none⟩) hB2).trans (by have h9 := hcell2 0 (by decide); rw [show off2 + j * Rd.n ByteArray + 0 = off2 + j from by show off2 + j * 1 + 0 = _; omega] at h9; exact h9)
            have HNC := hid (fun (h : okText x.cells[j] = false) => HNO.out (rowOk_cell hjC h))
            obtain ⟨s, hse⟩ : ∃ s, x.cells[j] = s := ⟨_, rfl⟩
            rw [hse] at t2 HNC
            have HSE := hid hse
            have hji : (j : Int) < (n : Int) := by omega
            have hj0 : (0 : Int) ≤ (j : Int) := by omega
            have CT := hid (specTextOk s wr)
            obtain ⟨q, hq⟩ : ∃ q, okText s = q := ⟨_, rfl⟩
            rw [hq] at CT HNC
            have HQ := hid hq
            clear hv2 g1 g2 hF2 hrow2 hcell2 hB2 hse hq
            cases q with
            | false =>
              have HR := hid (HNC.out rfl)
              clear HNC
              go_wp2_with fail
              refine CT.out.mono ?_
              rintro e w1 ⟨rfl, hb1⟩
              go_wp2
              go_ret
              exact ⟨by rw [HR.out] <;> rfl, hb.trans (hb1.mono hb.size)⟩
            | true =>
              clear HNC
              go_wp2_with fail
              refine CT.out.mono ?_
              rintro e w1 ⟨rfl, hb1⟩
              have hb2 := hb.trans (hb1.mono hb.size)
              clear hb1 t0 t2
              go_wp2
              go_roundw
              case rel =>
                refine ⟨j + 1, by omega, by go_num, hb2, hid (fun q hq hqj => ?_)⟩
                by_cases e : q = j
                · subst e; rw [HSE.out]; exact HQ.out
                · exact HC.out q hq (by omega)
              case measure => simp [intOf]; omega
          · obtain rfl : j = n := by omega
            have hji : ¬ (j : Int) < (j : Int) := by omega
            have hroX : rowOk (rowL x) = true := rowOk_all (by rw [HN.out]; exact HIN.out) (fun q hq => HC.out q hq (by rw [← HN.out]; exact hq))
            have HRO := hid hroX
            clear hroX
            go_wp2
            go_roundw
            case rel =>
              refine ⟨k + 1, by omega, by go_num, hb, hid (fun q hq hqk => ?_)⟩
              by_cases e : q = k
              · subst e; rw [HX.out]; exact HRO.out
              · exact HA.out q hq (by omega)
            case measure => simp [intOf]; omega
    · have hki : ¬ (k : Int) < (xs.length : Int) := by omega
      have HR := hid (rowsOk_yes (xs := xs) (fun j hj => HA.out j hj (by omega)))
      go_wp2
      go_ret
      exact ⟨by rw [HR.out] <;> rfl, hb⟩
end Go.Proofs.YtommldonooicjaaDoor
