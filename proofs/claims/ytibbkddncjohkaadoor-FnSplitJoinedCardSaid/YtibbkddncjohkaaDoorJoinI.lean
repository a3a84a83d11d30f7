/-
  What is proved here: impl.Joined at any separator, where all are texts. The condition 'Tabs' says that the library's tables for UTF-8 lie in the world.
-/
import Derived.Test.YtibbkddncjohkaaDoorJoinSp
import Derived.Test.YtibbkddncjohkaaDoorValOk
import Derived.Test.YtibbkddncjohkaaDoorShelfA
namespace Go.Proofs.YtibbkddncjohkaaDoor
open Go.RowKit
set_option linter.unusedVariables false
set_option linter.unusedSimpArgs false

set_option maxHeartbeats 4000000 in
set_option maxRecDepth 100000 in
theorem implJoinedS {v : Value} {xs : List ByteArray} {sep : ByteArray} (w : World) (h : Rd.rd (Old w) w [v] xs) (hT : Tabs w) (hall : ∀ x ∈ xs, okText x = true) (hj : okText (joinS xs sep) = true) (hsp : okText sep = true) (hn : xs.length ≤ 1001) :
    Calls Tryd.prog 12 #[v, .string sep] w fun e w' => e = .returned (.tuple #[.string (joinS xs sep), .bool true]) ∧ Below w.heap.size w w' := by
  obtain ⟨a, cap, rfl, h1, h2, hc⟩ := rdStrs h
  have HA := hid hall
  have HJ := hid hj
  have HSP := hid hsp
  have hjs := ok_size hj
  have CJ : ∀ w', Below w.heap.size w w' → Calls Tryd.prog 26 #[.slice a xs.length cap, .string sep] w' fun e w'' => e = .returned (.string (joinS xs sep)) ∧ Below w'.heap.size w' w'' := by
    intro w' hb
    by_cases h0 : 0 < xs.length
    · obtain ⟨b, off, rfl, hB, hcell⟩ := hc h0
      refine Tryd.strings_Join b off cap xs sep w' (fun j x hx => ?_) (Nat.lt_of_lt_of_le hB hb.size) (by omega) h1 ?_
      · obtain ⟨hj1, hj2⟩ := List.getElem?_eq_some_iff.1 hx
        rw [← hj2]
        exact (hb.cell (p := ⟨b, off + j, none⟩) hB).trans (hcell j hj1).1
      · have : (joinS xs sep).size = (Lib.join (xs.map (·.data.toList)) sep.data.toList).length := mkB_size _
        show (Lib.join (xs.map (·.data.toList)) sep.data.toList).length ≤ _
        omega
    · have hx : xs = [] := List.eq_nil_of_length_eq_zero (by omega)
      subst hx
      refine (Tryd.strings_Join_none a cap sep w').mono fun e w'' ⟨he, hw⟩ => ⟨?_, ?_⟩
      · rw [he]; rfl
      · rw [hw]; exact Below.refl _ _
  clear h hall hj hsp
  go_enter Tryd.func12, Tryd.ntmps12
  go_wp2
  go_loopw [11] (fun i wr => ∃ k : Nat, k ≤ xs.length ∧ i = .int .i64 k ∧ Below w.heap.size w wr) (fun i _ => xs.length - (intOf i).toNat)
  case atStart => exact ⟨0, Nat.zero_le _, rfl, Below.refl _ _⟩
  case round =>
    obtain ⟨k, hk, rfl, hb⟩ := hrel
    by_cases hlt : k < xs.length
    · obtain ⟨b, off, rfl, hB, hcell⟩ := hc (by omega)
      have hce : wr.cell? ⟨b, off + k, none⟩ = some (.string xs[k]) := (hb.cell (p := ⟨b, off + k, none⟩) hB).trans (hcell k hlt).1
      have hok := HA.out xs[k] (List.getElem_mem hlt)
      obtain ⟨x, hx⟩ : ∃ x, xs[k] = x := ⟨_, rfl⟩
      rw [hx] at hce hok
      have HO := hid hok
      clear hcell hc hx hok
      go_wp2_with fail
      refine (implTextOk x _ (tabs_below hT hb)).mono ?_
      rintro e w1 ⟨rfl, hb1⟩
      rw [HO.out]
      go_wp2
      go_roundw
      case rel => exact ⟨k + 1, by omega, by go_num, ext_trans hb hb1⟩
      case measure => simp [intOf]; omega
    · have hkk : k = xs.length := by omega
      subst hkk
      clear hc
      go_wp2_with fail
      refine (CJ _ hb).mono ?_
      rintro e w1 ⟨rfl, hb1⟩
      have hB1 := ext_trans hb hb1
      go_wp2_with fail
      refine (implTextOk _ _ (tabs_below hT hB1)).mono ?_
      rintro e w2 ⟨rfl, hb2⟩
      rw [HSP.out]
      go_wp2_with fail
      refine (implTextOk _ _ (tabs_below hT (ext_trans hB1 hb2))).mono ?_
      rintro e w3 ⟨rfl, hb3⟩
      rw [HJ.out]
      go_wp2
      go_ret2
      exact ⟨rfl, ext_trans (ext_trans hB1 hb2) hb3⟩
end Go.Proofs.YtibbkddncjohkaaDoor
