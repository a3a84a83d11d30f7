/-
  What is proved here: ArrAt and ArrGet on both sides: what they return. No condition.
-/
import Derived.Test.YtenfpfjpcpmhiaaDv
import Derived.Test.YtenfpfjpcpmhiaaNameAt
import Derived.Test.YtenfpfjpcpmhiaaWithin
import Derived.Test.YtenfpfjpcpmhiaaVal0
namespace Go.Proofs.Ytenfpfjpcpmhiaa
open Go.RowKit
set_option linter.unusedVariables false
set_option linter.unusedSimpArgs false

def arrAt (a : Arr) (key : ByteArray) : Int := nameAt a.keys key - 1
def arrGet (a : Arr) (key : ByteArray) : Val := if h : 0 ≤ arrAt a key ∧ (arrAt a key).toNat < a.vals.length then a.vals[(arrAt a key).toNat]'h.2 else val0
theorem arrAt_le (a : Arr) (key : ByteArray) : -1 ≤ arrAt a key ∧ arrAt a key < a.keys.length := by
  have := nameAt_le a.keys key
  unfold arrAt
  omega
set_option maxHeartbeats 1000000 in
theorem specArrAt {cs : Array Value} {x : Arr} (s : ByteArray) (w : World) (h : Rd.rd (Old w) w cs.toList x) :
    Calls Try.prog 14 #[.agg cs, .string s] w fun e w' => e = .returned (.int .i64 (arrAt x s)) ∧ Below w.heap.size w w' := by
  obtain ⟨a, c, a1, c1, hcs, h0, hv⟩ := rdArr h
  obtain rfl := arr_of_list hcs
  obtain ⟨a', cap, ha, h1, h2, hc⟩ := rdStrs h0
  simp only [Value.slice.injEq, true_and] at ha
  obtain ⟨rfl, rfl⟩ := ha
  clear h h0 hcs hv
  go_enter Try.func14, Try.ntmps14
  go_wp2
  go_loop [5] (fun i => ∃ k : Nat, k ≤ x.keys.length ∧ i = .int .i64 k ∧ ∀ i (hi : i < k) (hi' : i < x.keys.length), x.keys[i] ≠ s) (fun i => x.keys.length - (intOf i).toNat)
  case atStart => exact ⟨0, Nat.zero_le _, rfl, fun i hi => absurd hi (by omega)⟩
  case round =>
    obtain ⟨k, hk, rfl, hr⟩ := hrel
    have HR := hid hr
    clear hr
    by_cases hlt : k < x.keys.length
    · obtain ⟨b, off, rfl, hB, hcell⟩ := hc (by omega)
      obtain ⟨hce, hsz⟩ := hcell k hlt
      have hB' : b < w.heap.size := hB
      clear hcell hc
      by_cases he : x.keys[k] = s
      · have hb : (x.keys[k].toList == s.toList) = true := by rw [he]; simp
        have HE := hid he
        clear he
        go_wp2
        go_ret
        exact ⟨end_int (by unfold arrAt; have := nameAt_hit hlt (fun i hi => HR.out i hi (by omega)) HE.out; omega), ext_alloc _ _⟩
      · have hb : (x.keys[k].toList == s.toList) = false := ba_ne he
        have HE := hid he
        clear he
        go_wp2
        go_round
        case rel => exact ⟨k + 1, by omega, by go_num, fun i hi hi' => by
          by_cases hik : i = k
          · subst hik; exact HE.out
          · exact HR.out i (by omega) hi'⟩
        case measure => simp [intOf]; omega
    · have : k = x.keys.length := by omega
      subst this
      clear hc
      go_wp2
      go_ret
      exact ⟨end_int (by unfold arrAt; have := nameAt_miss (fun i hi => HR.out i hi hi); omega), ext_alloc _ _⟩


/-- the element of a slice of values at a place -/
theorem rdVals_at {S : Nat → Prop} {w : World} {a : Option Addr} {n cap : Nat} {xs : List Val} (h : Rd.rd S w [.slice a n cap] xs) {k : Nat} (hk : k < xs.length) :
    n = xs.length ∧ ∃ b off, a = some ⟨b, off, none⟩ ∧ S b ∧ w.cell? ⟨b, off + k * 5, none⟩ = some (.int .i64 xs[k].kind) ∧ w.cell? ⟨b, off + k * 5 + 1, none⟩ = some (.bool xs[k].num.neg) ∧
      w.cell? ⟨b, off + k * 5 + 2, none⟩ = some (.string xs[k].num.dig) ∧ w.cell? ⟨b, off + k * 5 + 3, none⟩ = some (.int .i64 xs[k].num.exp) ∧ w.cell? ⟨b, off + k * 5 + 4, none⟩ = some (.string xs[k].text) ∧
      Rd.rd S w [.int .i64 xs[k].kind, .bool xs[k].num.neg, .string xs[k].num.dig, .int .i64 xs[k].num.exp, .string xs[k].text] xs[k] := by
  obtain ⟨a', cap', hv, h1, h2, hc⟩ := h
  simp only [List.cons.injEq, Value.slice.injEq, and_true] at hv
  obtain ⟨rfl, rfl, rfl⟩ := hv
  obtain ⟨b, off, rfl, hB, hrow⟩ := hc (by omega)
  obtain ⟨cs, hcell, hx⟩ := hrow k hk
  obtain ⟨hcs, _⟩ := rdVal hx
  subst hcs
  exact ⟨rfl, b, off, rfl, hB, hcell 0 (by decide), hcell 1 (by decide), hcell 2 (by decide), hcell 3 (by decide), hcell 4 (by decide), hx⟩


end Go.Proofs.Ytenfpfjpcpmhiaa
