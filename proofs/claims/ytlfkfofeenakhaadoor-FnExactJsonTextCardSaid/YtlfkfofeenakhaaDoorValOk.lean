/-
  What is proved here: TextOk, Runes, Length, ValOk, TextVal on both sides. The condition 'Tabs' says that the library's tables for UTF-8 lie in the world.
-/
import Derived.Test.YtlfkfofeenakhaaDoorRunesI
import Derived.Test.YtlfkfofeenakhaaDoorNat
import Derived.Test.YtlfkfofeenakhaaDoorVal0
namespace Go.Proofs.YtlfkfofeenakhaaDoor
open Go.RowKit Go.Lib
set_option linter.unusedVariables false
set_option linter.unusedSimpArgs false

def okText (s : ByteArray) : Bool := textOk s.data.toList
theorem specTextOk (s : ByteArray) (w : World) : Calls Tryd.prog 27 #[.string s] w fun e w' => e = .returned (.bool (okText s)) ∧ Below w.heap.size w w' := by
  go_enter Tryd.func27, Tryd.ntmps27
  go_wp2_with fail
  refine (specRunes s _).mono ?_
  rintro e w1 ⟨u, rfl, _, hb⟩
  go_wp2
  go_ret
  exact ⟨rfl, hb⟩
theorem implTextOk (s : ByteArray) (w : World) (hT : Tabs w) : Calls Tryd.prog 31 #[.string s] w fun e w' => e = .returned (.bool (okText s)) ∧ Below w.heap.size w w' := by
  go_enter Tryd.func31, Tryd.ntmps31
  go_wp2_with fail
  refine (implRunesOf s _ hT).mono ?_
  rintro e w1 ⟨u, rfl, _, hb⟩
  go_wp2
  go_ret
  exact ⟨rfl, hb⟩

def isDec0 (d : Dec) : Bool := !d.neg && decide (d.dig.toList = []) && decide (d.exp = 0)
def valOk (v : Val) : Bool :=
  if v.kind = 0 then isDec0 v.num && decide (v.text.toList = [])
  else if v.kind = 1 then decOk v.num && decide (v.text.toList = [])
  else if v.kind = 2 ∨ v.kind = 3 then isDec0 v.num && okText v.text
  else false
theorem valOk_0 (d : Dec) (t : ByteArray) : valOk ⟨0, d, t⟩ = (isDec0 d && decide (t.toList = [])) := rfl
theorem valOk_1 (d : Dec) (t : ByteArray) : valOk ⟨1, d, t⟩ = (decOk d && decide (t.toList = [])) := rfl
theorem valOk_2 (d : Dec) (t : ByteArray) : valOk ⟨2, d, t⟩ = (isDec0 d && okText t) := rfl
theorem valOk_3 (d : Dec) (t : ByteArray) : valOk ⟨3, d, t⟩ = (isDec0 d && okText t) := rfl
theorem empty_dec (t : ByteArray) : t.toList.isEmpty = decide (t.toList = []) := by cases t.toList <;> rfl
theorem valOk_else {k : Int} (d : Dec) (t : ByteArray) (h0 : ¬ k = 0) (h1 : ¬ k = 1) (h2 : ¬ k = 2) (h3 : ¬ k = 3) : valOk ⟨k, d, t⟩ = false := by simp [valOk, h0, h1, h2, h3]




/-- a value, or none where it is not ok -/
def soundVal (v : Val) : Val := if valOk v then v else val0
theorem rd_sound {S : Nat → Prop} {w : World} {v : Val} (g0 : -9223372036854775808 ≤ v.kind ∧ v.kind ≤ 9223372036854775807) (g1 : v.num.dig.size ≤ 9223372036854775807) (g2 : -9223372036854775808 ≤ v.num.exp ∧ v.num.exp ≤ 9223372036854775807) (g3 : v.text.size ≤ 9223372036854775807) :
    Rd.rd S w [.int .i64 (soundVal v).kind, .bool (soundVal v).num.neg, .string (soundVal v).num.dig, .int .i64 (soundVal v).num.exp, .string (soundVal v).text] (soundVal v) := by
  unfold soundVal
  split
  · exact rdVal_mk g0 g1 g2 g3
  · exact rd_val0


def dec0 : Dec := ⟨false, ⟨#[]⟩, 0⟩
def textVal (s : ByteArray) : Val := if okText s then ⟨2, dec0, s⟩ else val0
theorem isDec0_dec0 : isDec0 dec0 = true := by
  have : (⟨#[]⟩ : ByteArray).toList = [] := by rw [Lib.toList_data]
  unfold isDec0 dec0
  rw [this]
  rfl
theorem rd_text {S : Nat → Prop} {w : World} {s : ByteArray} (hs : s.size ≤ 9223372036854775807) : Rd.rd S w [.int .i64 2, .bool false, .string ⟨#[]⟩, .int .i64 0, .string s] (⟨2, dec0, s⟩ : Val) :=
  rdVal_mk (x := ⟨2, dec0, s⟩) (show (-9223372036854775808 : Int) ≤ 2 ∧ (2 : Int) ≤ 9223372036854775807 by decide) (show (⟨#[]⟩ : ByteArray).size ≤ 9223372036854775807 by decide) (show (-9223372036854775808 : Int) ≤ 0 ∧ (0 : Int) ≤ 9223372036854775807 by decide) hs
theorem sound_text (s : ByteArray) : soundVal ⟨2, dec0, s⟩ = textVal s := by
  unfold soundVal textVal
  rw [valOk_2, isDec0_dec0, Bool.true_and]


end Go.Proofs.YtlfkfofeenakhaaDoor
