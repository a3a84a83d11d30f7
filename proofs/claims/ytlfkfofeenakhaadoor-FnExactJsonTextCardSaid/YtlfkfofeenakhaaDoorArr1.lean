/-
  What is proved here: ArrAt and ArrGet on both sides: what they return. No condition.
-/
import Derived.Test.YtlfkfofeenakhaaDoorDv
import Derived.Test.YtlfkfofeenakhaaDoorNameAt
import Derived.Test.YtlfkfofeenakhaaDoorWithin
import Derived.Test.YtlfkfofeenakhaaDoorVal0
namespace Go.Proofs.YtlfkfofeenakhaaDoor
open Go.RowKit
set_option linter.unusedVariables false
set_option linter.unusedSimpArgs false

def arrAt (a : Arr) (key : ByteArray) : Int := nameAt a.keys key - 1
def arrGet (a : Arr) (key : ByteArray) : Val := if h : 0 ≤ arrAt a key ∧ (arrAt a key).toNat < a.vals.length then a.vals[(arrAt a key).toNat]'h.2 else val0
theorem arrAt_le (a : Arr) (key : ByteArray) : -1 ≤ arrAt a key ∧ arrAt a key < a.keys.length := by
  have := nameAt_le a.keys key
  unfold arrAt
  omega


/-- the element of a slice of values at a place -/
theorem rdVals_at {S : Nat → Prop} {w : World} {a : Option Addr} {n cap : Nat} {xs : List Val} (h : Rd.rd S w [.slice a n cap] xs) {k : Nat} (hk : k < xs.length) :
    n = xs.length ∧ ∃ b off, a = some ⟨b, off, none⟩ ∧ S b ∧ w.cell? ⟨b, off + k * 5, none⟩ = some (.int .i64 xs[k].kind) ∧ w.cell? ⟨b, off + k * 5 + 1, none⟩ = some (.bool xs[k].num.neg) ∧
      w.cell? ⟨b, off + k * 5 + 2, none⟩ = some (.string xs[k].num.dig) ∧ w.cell? ⟨b, off + k * 5 + 3, none⟩ = some (.int .i64 xs[k].num.exp) ∧ w.cell? ⟨b, off + k * 5 + 4, none⟩ = some (.string xs[k].text) ∧
      Rd.rd S w [.int .i64 xs[k].kind, .bool xs[k].num.neg, .string xs[k].num.dig, .int .i64 xs[k].num.exp, .string xs[k].text] xs[k] := by
  obtain ⟨a', cap', hv, h1, h2, hc⟩ := h
  simp only [List.cons.injEq, Value.slice.injEq, and_true] at hv
  obtain ⟨rfl, rfl, rfl⟩ := hv
  obtain ⟨b, off, rfl, hB, hrow⟩ := hc (by omega)
  obtain ⟨cs, hcell, hx⟩ := hrow k hk
  obtain ⟨hcs, _⟩ := rdVal hx
  subst hcs
  exact ⟨rfl, b, off, rfl, hB, hcell 0 (by decide), hcell 1 (by decide), hcell 2 (by decide), hcell 3 (by decide), hcell 4 (by decide), hx⟩


end Go.Proofs.YtlfkfofeenakhaaDoor
