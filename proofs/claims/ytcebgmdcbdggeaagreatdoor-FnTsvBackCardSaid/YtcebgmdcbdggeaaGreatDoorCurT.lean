/-
  What is proved here: the drawing of texts (word, any, line): the string that is returned is of a bounded size; nothing but the cursor's own block changes. No condition.
-/
import Derived.Test.YtcebgmdcbdggeaaGreatDoorCur
import Derived.Laws.Concat
import Derived.Laws.Cover1
namespace Go.Proofs.YtcebgmdcbdggeaaGreatDoor
open Go.RowKit
set_option linter.unusedVariables false
set_option linter.unusedSimpArgs false

def strUpTo (m : Nat) : Value → Bool
  | .string s => decide (s.size ≤ m)
  | _ => false
theorem lit_str {w : World} {g r m : Nat} {cs : Array Value} {e : TypeId} {fr : Nat × Nat} (hg : w.heap[g]? = some (.cells cs e fr)) (ha : cs.toList.all (strUpTo m) = true) (hr : r < cs.size) : ∃ t : ByteArray, t.size ≤ m ∧ w.cell? ⟨g, r, none⟩ = some (.string t) := by
  have h1 : w.cell? ⟨g, r, none⟩ = cs[r]? := cell_of_row w g r cs e fr hg
  have h2 : cs[r]? = some cs[r] := Array.getElem?_eq_getElem hr
  have h3 := List.all_eq_true.1 ha cs[r] (by simp)
  cases hv : cs[r] with
  | string s =>
    rw [hv] at h2 h3
    exact ⟨s, of_decide_eq_true h3, h1.trans h2⟩
  | _ => rw [hv] at h3; cases h3
def isU8 : Value → Bool
  | .int .u8 x => decide (0 ≤ x ∧ x < 256)
  | _ => false
theorem lit_u8 {w : World} {g r : Nat} {cs : Array Value} {e : TypeId} {fr : Nat × Nat} (hg : w.heap[g]? = some (.cells cs e fr)) (ha : cs.toList.all isU8 = true) (hr : r < cs.size) : ∃ x : Nat, x < 256 ∧ w.cell? ⟨g, r, none⟩ = some (.int .u8 (x : Int)) := by
  have h1 : w.cell? ⟨g, r, none⟩ = cs[r]? := cell_of_row w g r cs e fr hg
  have h2 : cs[r]? = some cs[r] := Array.getElem?_eq_getElem hr
  have h3 := List.all_eq_true.1 ha cs[r] (by simp)
  cases hv : cs[r] with
  | int k x =>
    rw [hv] at h2 h3
    cases k <;> first | (cases h3; done) | skip
    have h4 : 0 ≤ x ∧ x < 256 := of_decide_eq_true h3
    exact ⟨x.toNat, by omega, by rw [h1, h2, Int.toNat_of_nonneg h4.1]⟩
  | _ => rw [hv] at h3; cases h3

theorem lit_str' {w w' : World} {cs : Array Value} {e : TypeId} {r m p : Nat} (hg : (w.alloc (.cells cs e)).grownBy w' (some p)) (hp : p < w.heap.size) (ha : cs.toList.all (strUpTo m) = true) (hr : r < cs.size) : ∃ t : ByteArray, t.size ≤ m ∧ w'.cell? ⟨w.heap.size, r, none⟩ = some (.string t) := by
  obtain ⟨t, h1, h2⟩ := lit_str (heap_alloc_new w (.cells cs e)) ha hr
  exact ⟨t, h1, hg.cell h2 (fun e => absurd (Option.some.inj e) (Nat.ne_of_gt hp))⟩
theorem lit_u8' {w w' : World} {cs : Array Value} {e : TypeId} {r p : Nat} (hg : (w.alloc (.cells cs e)).grownBy w' (some p)) (hp : p < w.heap.size) (ha : cs.toList.all isU8 = true) (hr : r < cs.size) : ∃ x : Nat, x < 256 ∧ w'.cell? ⟨w.heap.size, r, none⟩ = some (.int .u8 (x : Int)) := by
  obtain ⟨t, h1, h2⟩ := lit_u8 (heap_alloc_new w (.cells cs e)) ha hr
  exact ⟨t, h1, hg.cell h2 (fun e => absurd (Option.some.inj e) (Nat.ne_of_gt hp))⟩

set_option maxHeartbeats 4000000 in
set_option maxRecDepth 100000 in
theorem curWord {B p k : Nat} (n : Nat) (w : World) (hc : Cur B w p k) (hk : k ≤ 900000000000) (hn : n ≤ 1000) :
    Calls Tryz.prog 25 #[.pointer (some ⟨p, 0, none⟩), .int .i64 (n : Int)] w fun e w' => ∃ s : ByteArray, e = .returned (.string s) ∧ s.size ≤ 3 * n ∧ ∃ k', k' ≤ k + 1 + n ∧ Cur B w' p k' ∧ w.grownBy w' (some p) := by
  go_enter Tryz.func25, Tryz.ntmps25
  go_wp2_with fail
  refine (curSize (n : Int) _ hc (by omega) (by omega) (by omega)).mono ?_
  rintro e w1 ⟨r, rfl, hr, k1, hk1, hc1, hg1⟩
  have hrn : r ≤ n := by omega
  clear hr
  go_wp2
  go_loopw [5, 6] (fun out kk wr => ∃ (j : Nat) (o : ByteArray) (k2 : Nat), out = .string o ∧ kk = .int .i64 (j : Int) ∧ j ≤ r ∧ o.size ≤ 3 * (r - j) ∧ k2 ≤ k1 + (r - j) ∧ Cur B wr p k2 ∧ w.grownBy wr (some p)) (fun _ kk _ => (intOf kk).toNat)
  case atStart => exact ⟨r, ⟨#[]⟩, k1, rfl, rfl, Nat.le_refl _, Nat.zero_le _, by omega, hc1, hg1⟩
  case round =>
    obtain ⟨j, o, k2, rfl, rfl, hj, ho, hk2, hc2, hg2⟩ := hrel
    by_cases hz : (0 : Int) < (j : Int)
    · go_wp2_with fail
      refine (curPick 24 _ (hc2.alloc _) (by omega) (by omega)).mono ?_
      rintro e w3 ⟨q, rfl, hq, k3, hk3, hc3, hg3⟩
      have hq1 : (q : Int) < 24 := by omega
      have hq0 : (0 : Int) ≤ (q : Int) := by omega
      have hlt := hc2.lt
      obtain ⟨t, ht, htc⟩ := lit_str' (m := 3) (r := q) hg3 hlt.2 (by decide) (by show q < 24; omega)
      have hsum : ¬ 9223372036854775807 < o.size + t.size := by omega
      go_wp2
      go_roundw
      case rel => exact ⟨j - 1, o ++ t, k3, rfl, by first | go_num | (congr 1; omega), by omega, by rw [ByteArray.size_append]; omega, by omega, hc3, grown_trans (grown_alloc hg2 _) hg3⟩
      case measure => simp [intOf]; omega
    · go_wp2
      go_ret
      exact ⟨o, rfl, by omega, k2, by omega, hc2, hg2⟩

end Go.Proofs.YtcebgmdcbdggeaaGreatDoor
