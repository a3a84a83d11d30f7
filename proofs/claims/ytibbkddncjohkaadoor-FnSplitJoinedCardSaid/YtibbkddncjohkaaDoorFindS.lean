/-
  What is proved here: spec.Find at a text of one code point: where it does not say where, the code point is not there. No condition.
-/
import Derived.Test.YtibbkddncjohkaaDoorSplitJ
import Derived.Test.YtibbkddncjohkaaDoorPartS
import Derived.Test.YtibbkddncjohkaaDoorTextOf
import Derived.Test.YtibbkddncjohkaaDoorRdr
import Derived.Deep.QuietTactic
import Derived.BigQuiet
import Derived.IntWalk
namespace Go.Proofs.YtibbkddncjohkaaDoor
open Go.RowKit
set_option linter.unusedVariables false
set_option linter.unusedSimpArgs false

/-- what spec.Find says -/
def FindRes (rs : List Nat) (c : Nat) (e : Ending) : Prop := ∃ r : Int, e = .returned (.int .i64 r) ∧ (¬ 0 < r → c ∉ rs)
set_option maxHeartbeats 8000000 in
set_option maxRecDepth 100000 in
theorem specFind1 {x sep : ByteArray} {c : Nat} (w : World) (hx : okText x = true) (hs : okText sep = true) (hc : runesN sep.data.toList = [c]) :
    Calls Tryd.prog 11 #[.string x, .string sep] w fun e w' => FindRes (runesN x.data.toList) c e ∧ Below w.heap.size w w' := by
  obtain ⟨_, hsz, hl⟩ := ok_runes hx
  obtain ⟨rs, hrs⟩ : ∃ rs, runesN x.data.toList = rs := ⟨_, rfl⟩
  have CX := hid (specRunes x w)
  have CS := hid (fun w' => specRunes sep w')
  rw [hrs, show textOk x.data.toList = true from hx] at CX
  rw [show textOk sep.data.toList = true from hs] at CS
  rw [hc] at CS
  rw [hrs] at hl ⊢
  have hn : rs.length ≤ 1000 := by omega
  clear hx hs hc hrs hsz hl
  go_enter Tryd.func11, Tryd.ntmps11
  go_wp2_with fail
  refine CX.out.mono ?_
  rintro e w1 ⟨u, rfl, hown, hb1⟩
  go_wp2_with fail
  refine (CS.out _).mono ?_
  rintro e w2 ⟨u2, rfl, hown2, hb2⟩
  have hown' := own_later hown hb2
  have HB := hid (ext_trans hb1 hb2)
  obtain ⟨a, cap, rfl, hca⟩ := own_ints hown'
  obtain ⟨a2, cap2, rfl, hc2⟩ := own_ints (rs := [c]) hown2
  obtain ⟨b2, rfl, hbl2, hce2⟩ := hc2 (by simp)
  have t2w := hce2 0 (by simp)
  have HCA := hid hca
  have HT2 := hid (show w2.cell? ⟨b2, 0, none⟩ = some (.int .i64 (c : Int)) from t2w)
  have HBL2 := hid hbl2
  clear CX CS hown hown' hown2 hca hce2 t2w hb1 hb2 hc2 hbl2
  go_wp2
  go_loopw [9, 10, 11] (fun i _ _ wr => ∃ k : Nat, k ≤ rs.length ∧ i = .int .i64 (k : Int) ∧ Qt w2 wr ∧ Hid (∀ j (hj : j < rs.length), j < k → rs[j] ≠ c)) (fun i _ _ _ => rs.length - (intOf i).toNat)
  case atStart => exact ⟨0, Nat.zero_le _, rfl, Qt.refl _, hid (fun j _ hj => absurd hj (Nat.not_lt_zero _))⟩
  case round =>
    obtain ⟨k, hk, rfl, hq, HA⟩ := hrel
    by_cases hlt : k < rs.length
    · have hki : (k : Int) + 1 ≤ (rs.length : Int) := by omega
      have hk0 : (0 : Int) ≤ (k : Int) := by omega
      have hw1 : IntKind.i64.wrap ((k : Int) + 1) = (k : Int) + 1 := IntWalk.i64_in _ (by omega)
      obtain ⟨b, rfl, hbl, hcell⟩ := HCA.out (by omega)
      obtain ⟨p, hp⟩ : ∃ p, rs[k] = p := ⟨_, rfl⟩
      have hcw := hcell k hlt
      rw [hp] at hcw
      have HCW := hid hcw
      have HP := hid hp
      have HBL := hid hbl
      have HQ0 := hid hq
      clear hcell hcw hp hbl hq
      go_wp2
      go_loopw [10, 11] (fun sm m wr => ∃ n : Nat, m = .int .i64 (n : Int) ∧ ((n = 0 ∧ sm = .bool true) ∨ (n = 1 ∧ sm = .bool (decide (p = c)))) ∧ Qt w2 wr) (fun _ m _ => 1 - (intOf m).toNat)
      case atStart => exact ⟨0, rfl, Or.inl ⟨rfl, rfl⟩, HQ0.out⟩
      case round =>
        obtain ⟨n, rfl, hn2, hq⟩ := hrel
        have t1 : wr.cell? ⟨b, k, none⟩ = some (.int .i64 (p : Int)) := by
          obtain ⟨m, rfl⟩ := hq
          exact HCW.out
        have t2 : wr.cell? ⟨b2, 0, none⟩ = some (.int .i64 (c : Int)) := by
          obtain ⟨m, rfl⟩ := hq
          exact HT2.out
        have HQ1 := hid hq
        clear hq
        rcases hn2 with ⟨hn0, rfl⟩ | ⟨hn1, rfl⟩
        · have hni : (n : Int) < 1 := by omega
          have hn00 : (n : Int) = 0 := by omega
          have hw2 : IntKind.i64.wrap ((k : Int) + 0) = (k : Int) := by rw [Int.add_zero]; exact IntWalk.i64_in _ (by omega)
          have hkl : (k : Int) < (rs.length : Int) := by omega
          have hdec : decide ((p : Int) = (c : Int)) = decide (p = c) := decide_eq_decide.2 ⟨fun h => by omega, fun h => by omega⟩
          have hbeq : ((p : Int) == (c : Int)) = decide (p = c) := by
            rw [← hdec]
            by_cases h : (p : Int) = (c : Int)
            · simp [h]
            · simp [h]
          rw [hn00]
          go_wp2_with fail
          go_quiet (fail)
          go_wp2
          go_roundw
          case rel => exact ⟨1, by first | rfl | simp, Or.inr ⟨rfl, by first | rfl | (rw [hbeq])⟩, HQ1.out.trans (Qt.one _ _)⟩
          case measure => first | (simp [intOf]; done) | (simp [intOf]; omega)
        · have hni : ¬ (n : Int) < 1 := by omega
          by_cases hpc : p = c
          · have hd : decide (p = c) = true := decide_eq_true hpc
            rw [hd]
            clear hpc
            go_wp2
            go_ret
            exact ⟨⟨_, rfl, fun h => absurd (show (0 : Int) < (k : Int) + 1 by omega) h⟩, HB.out.trans (HQ1.out.below _)⟩
          · have hd : decide (p = c) = false := decide_eq_false hpc
            have HPC := hid hpc
            rw [hd]
            clear hpc
            go_wp2
            go_roundw
            case rel => exact ⟨k + 1, by omega, by go_num, HQ1.out, hid (fun j hj hjk => by
              by_cases e : j = k
              · subst e; rw [HP.out]; exact HPC.out
              · exact HA.out j hj (by omega))⟩
            case measure => simp [intOf]; omega
    · have hki : ¬ (k : Int) + 1 ≤ (rs.length : Int) := by omega
      have hw1 : IntKind.i64.wrap ((k : Int) + 1) = (k : Int) + 1 := IntWalk.i64_in _ (by omega)
      have HNO := hid (show c ∉ rs from fun hm => by
        obtain ⟨j, hj, he⟩ := List.getElem_of_mem hm
        exact HA.out j hj (by omega) he)
      have HQ0 := hid hq
      clear hq
      go_wp2
      go_ret
      exact ⟨⟨_, rfl, fun _ => HNO.out⟩, HB.out.trans (HQ0.out.below _)⟩
end Go.Proofs.YtibbkddncjohkaaDoor
