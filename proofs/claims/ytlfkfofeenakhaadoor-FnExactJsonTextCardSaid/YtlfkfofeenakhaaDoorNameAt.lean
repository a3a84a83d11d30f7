/-
  What is proved here: where a string stands in a slice of strings; slices.Index; NameAt on both sides. No condition.
-/
import Derived.Test.YtlfkfofeenakhaaDoorStr
namespace Go.Proofs.YtlfkfofeenakhaaDoor
open Go.RowKit

def nameAt (xs : List ByteArray) (s : ByteArray) : Int := match xs.findIdx? (fun x => decide (x = s)) with | some i => (i : Int) + 1 | none => 0
theorem nameAt_hit {xs : List ByteArray} {s : ByteArray} {k : Nat} (hk : k < xs.length) (h : ∀ i (hi : i < k), (xs[i]'(by omega)) ≠ s) (he : xs[k] = s) : nameAt xs s = (k : Int) + 1 := by
  have : xs.findIdx? (fun x => decide (x = s)) = some k := by
    rw [List.findIdx?_eq_some_iff_getElem]
    exact ⟨hk, by simp [he], fun j hj => by simpa using h j hj⟩
  simp only [nameAt, this]
theorem nameAt_miss {xs : List ByteArray} {s : ByteArray} (h : ∀ i (hi : i < xs.length), xs[i] ≠ s) : nameAt xs s = 0 := by
  have : xs.findIdx? (fun x => decide (x = s)) = none := by
    rw [List.findIdx?_eq_none_iff]
    intro x hx
    obtain ⟨i, hi, rfl⟩ := List.mem_iff_getElem.1 hx
    simpa using h i hi
  simp only [nameAt, this]

theorem nameAt_le (xs : List ByteArray) (s : ByteArray) : 0 ≤ nameAt xs s ∧ nameAt xs s ≤ xs.length := by
  unfold nameAt
  split
  · rename_i i hi
    have := (List.findIdx?_eq_some_iff_getElem.1 hi).1
    omega
  · omega

set_option maxHeartbeats 400000 in
theorem sIndexStr {v : Value} {xs : List ByteArray} {S : Nat → Prop} (s : ByteArray) (w : World) (h : Rd.rd S w [v] xs) :
    Calls Tryd.prog 137 #[v, .string s] w fun e w' => e = .returned (.int .i64 (nameAt xs s - 1)) ∧ w = w' := by
  obtain ⟨a, cap, rfl, h1, h2, hc⟩ := rdStrs h
  clear h
  go_enter Tryd.func137, Tryd.ntmps137
  go_wp2
  go_loop [8] (fun i => ∃ k : Nat, k ≤ xs.length ∧ i = .int .i64 k ∧ ∀ i (hi : i < k) (hi' : i < xs.length), xs[i] ≠ s) (fun i => xs.length - (intOf i).toNat)
  case atStart => exact ⟨0, Nat.zero_le _, rfl, fun i hi => absurd hi (by omega)⟩
  case round =>
    obtain ⟨k, hk, rfl, hr⟩ := hrel
    have HR := hid hr
    clear hr
    by_cases hlt : k < xs.length
    · obtain ⟨b, off, rfl, _, hcell⟩ := hc (by omega)
      obtain ⟨hce, hsz⟩ := hcell k hlt
      clear hcell hc
      by_cases he : xs[k] = s
      · have hb : (s.toList == xs[k].toList) = true := by rw [he]; simp
        have HE := hid he
        clear he
        go_wp2
        go_ret
        exact ⟨end_int (by have := nameAt_hit hlt (fun i hi => HR.out i hi (by omega)) HE.out; omega), rfl⟩
      · have hb : (s.toList == xs[k].toList) = false := ba_ne (fun e => he e.symm)
        have HE := hid he
        clear he
        go_wp2
        go_round
        case rel => exact ⟨k + 1, by omega, by go_num, fun i hi hi' => by
          by_cases hik : i = k
          · subst hik; exact HE.out
          · exact HR.out i (by omega) hi'⟩
        case measure => simp [intOf]; omega
    · have : k = xs.length := by omega
      subst this
      clear hc
      go_wp2
      go_ret
      exact ⟨end_int (by have := nameAt_miss (fun i hi => HR.out i hi hi); omega), rfl⟩

end Go.Proofs.YtlfkfofeenakhaaDoor
