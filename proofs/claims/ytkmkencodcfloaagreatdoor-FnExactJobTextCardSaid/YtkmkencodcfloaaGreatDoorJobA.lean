/-
  What is proved here: the laws' sizes, copies and comparisons of the program's structs. No condition. Written by gensz.py.
  What is proved here: naturals in digits ('natOk'), numbers ('decOk'): what isNat, NatOk, isDec, DecOk return. No condition.
  What is proved here: the value none, and its reading. No condition.
  What is proved here: TextOk, Runes, Length, ValOk, TextVal on both sides. The condition 'Tabs' says that the library's tables for UTF-8 lie in the world.
  What is proved here: Runes and Length on both sides; a row of the call's own as a slice. The condition 'Tabs' says that the library's tables for UTF-8 lie in the world.
  What is proved here: which configurations are sound, in impl and in the reference. The condition 'Tabs' says that the library's tables for UTF-8 lie in the world.
  What is proved here: spec.FileOk, impl.isFile, spec.l24Quote. The condition 'Tabs' says that the library's tables for UTF-8 lie in the world.
  What is proved here: the laws' sizes, copies and comparisons of the program's structs. No condition. Written by gensz.py.
  What is proved here: the laws' sizes, copies and comparisons of the program's structs. No condition. Written by gensz.py.
  What is proved here: the laws' sizes, copies and comparisons of the program's structs. No condition. Written by gensz.py.
  What is proved here: slices.IndexFunc and slices.ContainsFunc at File and at string, for whatever predicate that turns nothing; the first file of a name. No condition.
-/
import Derived.Test.YtkmkencodcfloaaGreatDoorStr
import Derived.Deep.RegionHeld3
import Derived.Test.YtkmkencodcfloaaGreatDoorWithin
import Derived.Test.YtkmkencodcfloaaGreatDoorRunesI
import Derived.Test.YtkmkencodcfloaaGreatDoorRxRdS
namespace Go.Proofs.YtkmkencodcfloaaGreatDoor
open Go.RowKit
set_option linter.unusedVariables false
set_option linter.unusedSimpArgs false
theorem rdDec {S : Nat → Prop} {w : World} {cs : List Value} {x : Dec} (h : Rd.rd S w cs x) : cs = [.bool x.neg, .string x.dig, .int .i64 x.exp] ∧ (x.dig.size ≤ 9223372036854775807) ∧ (-9223372036854775808 ≤ x.exp ∧ x.exp ≤ 9223372036854775807) := by
  obtain ⟨_, _, rfl, rfl, ⟨_, _, rfl, ⟨rfl, h1⟩, ⟨rfl, h2⟩⟩⟩ := h
  exact ⟨rfl, h1, h2⟩
theorem rdDec_mk {S : Nat → Prop} {w : World} {x : Dec} (h0 : x.dig.size ≤ 9223372036854775807) (h1 : -9223372036854775808 ≤ x.exp ∧ x.exp ≤ 9223372036854775807) : Rd.rd S w [.bool x.neg, .string x.dig, .int .i64 x.exp] x :=
  ⟨_, _, rfl, rfl, ⟨_, _, rfl, ⟨rfl, h0⟩, ⟨rfl, h1⟩⟩⟩
instance : Sz Dec := ⟨fun x => x.dig.size⟩

theorem rdVal {S : Nat → Prop} {w : World} {cs : List Value} {x : Val} (h : Rd.rd S w cs x) : cs = [.int .i64 x.kind, .bool x.num.neg, .string x.num.dig, .int .i64 x.num.exp, .string x.text] ∧ (-9223372036854775808 ≤ x.kind ∧ x.kind ≤ 9223372036854775807) ∧ (x.num.dig.size ≤ 9223372036854775807) ∧ (-9223372036854775808 ≤ x.num.exp ∧ x.num.exp ≤ 9223372036854775807) ∧ (x.text.size ≤ 9223372036854775807) := by
  obtain ⟨_, _, rfl, ⟨rfl, h0⟩, ⟨_, _, rfl, ⟨_, _, rfl, rfl, ⟨_, _, rfl, ⟨rfl, h2⟩, ⟨rfl, h3⟩⟩⟩, ⟨rfl, h4⟩⟩⟩ := h
  exact ⟨rfl, h0, h2, h3, h4⟩
theorem rdVal_mk {S : Nat → Prop} {w : World} {x : Val} (h0 : -9223372036854775808 ≤ x.kind ∧ x.kind ≤ 9223372036854775807) (h1 : x.num.dig.size ≤ 9223372036854775807) (h2 : -9223372036854775808 ≤ x.num.exp ∧ x.num.exp ≤ 9223372036854775807) (h3 : x.text.size ≤ 9223372036854775807) : Rd.rd S w [.int .i64 x.kind, .bool x.num.neg, .string x.num.dig, .int .i64 x.num.exp, .string x.text] x :=
  ⟨_, _, rfl, ⟨rfl, h0⟩, ⟨_, _, rfl, ⟨_, _, rfl, rfl, ⟨_, _, rfl, ⟨rfl, h1⟩, ⟨rfl, h2⟩⟩⟩, ⟨rfl, h3⟩⟩⟩
instance : Sz Val := ⟨fun x => Sz.sz x.num + x.text.size⟩


theorem rdArr {S : Nat → Prop} {w : World} {cs : List Value} {x : Arr} (h : Rd.rd S w cs x) : ∃ (a0 : Option Addr) (c0 : Nat), ∃ (a1 : Option Addr) (c1 : Nat), cs = [.slice a0 x.keys.length c0, .slice a1 x.vals.length c1] ∧ (Rd.rd S w [.slice a0 x.keys.length c0] x.keys) ∧ (Rd.rd S w [.slice a1 x.vals.length c1] x.vals) := by
  obtain ⟨_, _, rfl, h0, h1⟩ := h
  obtain ⟨a0, c0, e0⟩ := rdSlc h0
  subst e0
  obtain ⟨a1, c1, e1⟩ := rdSlc h1
  subst e1
  exact ⟨a0, c0, a1, c1, rfl, h0, h1⟩
theorem rdArr_mk {S : Nat → Prop} {w : World} {x : Arr} {a0 : Option Addr} {c0 : Nat} {a1 : Option Addr} {c1 : Nat} (h0 : Rd.rd S w [.slice a0 x.keys.length c0] x.keys) (h1 : Rd.rd S w [.slice a1 x.vals.length c1] x.vals) : Rd.rd S w [.slice a0 x.keys.length c0, .slice a1 x.vals.length c1] x :=
  ⟨_, _, rfl, h0, h1⟩
instance : Sz Arr := ⟨fun x => Sz.sz x.keys + Sz.sz x.vals⟩

theorem rdLeaf {S : Nat → Prop} {w : World} {cs : List Value} {x : Leaf} (h : Rd.rd S w cs x) : cs = [.string x.path, .int .i64 x.kind, .string x.text] ∧ (x.path.size ≤ 9223372036854775807) ∧ (-9223372036854775808 ≤ x.kind ∧ x.kind ≤ 9223372036854775807) ∧ (x.text.size ≤ 9223372036854775807) := by
  obtain ⟨_, _, rfl, ⟨rfl, h0⟩, ⟨_, _, rfl, ⟨rfl, h1⟩, ⟨rfl, h2⟩⟩⟩ := h
  exact ⟨rfl, h0, h1, h2⟩
theorem rdLeaf_mk {S : Nat → Prop} {w : World} {x : Leaf} (h0 : x.path.size ≤ 9223372036854775807) (h1 : -9223372036854775808 ≤ x.kind ∧ x.kind ≤ 9223372036854775807) (h2 : x.text.size ≤ 9223372036854775807) : Rd.rd S w [.string x.path, .int .i64 x.kind, .string x.text] x :=
  ⟨_, _, rfl, ⟨rfl, h0⟩, ⟨_, _, rfl, ⟨rfl, h1⟩, ⟨rfl, h2⟩⟩⟩
instance : Sz Leaf := ⟨fun x => x.path.size + x.text.size⟩


end Go.Proofs.YtkmkencodcfloaaGreatDoor

namespace Go.Proofs.YtkmkencodcfloaaGreatDoor
open Go.RowKit
set_option linter.unusedVariables false
set_option linter.unusedSimpArgs false

def isDig (c : UInt8) : Bool := decide (48 ≤ c.toNat ∧ c.toNat ≤ 57)
def natOk (l : List UInt8) : Bool := l.all isDig && decide (1 ≤ l.length ∧ l.length ≤ 600) && (decide (l.length = 1) || decide (l.head? ≠ some 48))
theorem isDig_iff {c : UInt8} : isDig c = true ↔ 48 ≤ c.toNat ∧ c.toNat ≤ 57 := by simp [isDig]
theorem natOk_iff {l : List UInt8} : natOk l = true ↔ (∀ c ∈ l, 48 ≤ c.toNat ∧ c.toNat ≤ 57) ∧ 1 ≤ l.length ∧ l.length ≤ 600 ∧ (l.length = 1 ∨ l.head? ≠ some 48) := by
  unfold natOk
  simp only [Bool.and_eq_true, Bool.or_eq_true, decide_eq_true_eq, List.all_eq_true, isDig_iff]
  constructor
  · rintro ⟨⟨h1, h2, h3⟩, h4⟩; exact ⟨h1, h2, h3, h4⟩
  · rintro ⟨h1, h2, h3, h4⟩; exact ⟨⟨h1, h2, h3⟩, h4⟩
theorem size_list (s : ByteArray) : s.size = s.data.toList.length := Lib.size_eq s
theorem get_list (s : ByteArray) (i : Nat) (h : i < s.size) : s.data.toList[i]'(by rw [← size_list]; exact h) = s[i] := rfl
theorem mem_list {s : ByteArray} {P : UInt8 → Prop} (h : ∀ i (hi : i < s.size), P s[i]) : ∀ c ∈ s.data.toList, P c := by
  intro c hc
  obtain ⟨i, hi, rfl⟩ := List.mem_iff_getElem.1 hc
  exact h i (by rw [size_list]; exact hi)
theorem head_list (s : ByteArray) (h : 0 < s.size) : s.data.toList.head? = some s[0] := by
  rw [List.head?_eq_getElem?, List.getElem?_eq_getElem (by rw [← size_list]; exact h)]
  rfl
theorem toNat_eq_48 {c : UInt8} : c.toNat = 48 ↔ c = 48 := by
  constructor
  · intro h; exact UInt8.toNat_inj.1 h
  · rintro rfl; rfl



/-- a number in form -/
def decOk (d : Dec) : Bool :=
  if d.dig.size = 0 then !d.neg && decide (d.exp = 0)
  else natOk d.dig.data.toList && decide (d.dig.size ≤ 20) && decide (d.dig.data.toList.head? ≠ some 48) && decide (d.dig.data.toList.getLast? ≠ some 48) && decide (-98 - (d.dig.size : Int) ≤ d.exp ∧ d.exp ≤ 100 - (d.dig.size : Int))
theorem decOk_nil (neg : Bool) (exp : Int) : decOk ⟨neg, ⟨#[]⟩, exp⟩ = (!neg && decide (exp = 0)) := by
  unfold decOk
  exact if_pos rfl
theorem last_list (s : ByteArray) (h : 0 < s.size) : s.data.toList.getLast? = some (s[s.size - 1]'(by omega)) := by
  rw [List.getLast?_eq_getElem?, List.getElem?_eq_getElem (by rw [← size_list]; omega)]
  simp only [← size_list]
  rfl
theorem decOk_pos {d : Dec} (h : 0 < d.dig.size) : decOk d = (natOk d.dig.data.toList && decide (d.dig.size ≤ 20) && !decide (d.dig[0].toNat = 48) && !decide ((d.dig[d.dig.size - 1]'(by omega)).toNat = 48) && decide (-98 - (d.dig.size : Int) ≤ d.exp ∧ d.exp ≤ 100 - (d.dig.size : Int))) := by
  unfold decOk
  rw [if_neg (by omega), head_list _ h, last_list _ h]
  simp only [ne_eq, Option.some.injEq, toNat_eq_48, decide_not]
theorem ba_nil {s : ByteArray} (h : s.size = 0) : s = ⟨#[]⟩ := by
  cases s with
  | mk a => simp [ByteArray.size] at h; simp [h]
theorem ba_nil_list {s : ByteArray} (h : ¬ s.size = 0) : ¬ s.toList = [] := by
  intro h'
  rw [Lib.toList_data] at h'
  rw [size_list, h'] at h
  exact h rfl
theorem ba_nil_empty {s : ByteArray} (h : ¬ s.size = 0) : s.toList.isEmpty = false := by
  cases hl : s.toList with
  | nil => exact absurd hl (ba_nil_list h)
  | cons a r => rfl
theorem ba_nil_beq {s : ByteArray} (h : ¬ s.size = 0) : (s.toList == []) = false := by
  rw [beq_eq_false_iff_ne]; exact ba_nil_list h


end Go.Proofs.YtkmkencodcfloaaGreatDoor

namespace Go.Proofs.YtkmkencodcfloaaGreatDoor
open Go.RowKit

def val0 : Val := ⟨0, ⟨false, ⟨#[]⟩, 0⟩, ⟨#[]⟩⟩
theorem rd_val0 {S : Nat → Prop} {w : World} : Rd.rd S w [.int .i64 0, .bool false, .string ⟨#[]⟩, .int .i64 0, .string ⟨#[]⟩] val0 :=
  rdVal_mk (x := val0) (by decide) (by decide) (by decide) (by decide)

end Go.Proofs.YtkmkencodcfloaaGreatDoor

namespace Go.Proofs.YtkmkencodcfloaaGreatDoor
open Go.RowKit Go.Lib
set_option linter.unusedVariables false
set_option linter.unusedSimpArgs false

def okText (s : ByteArray) : Bool := textOk s.data.toList
theorem specTextOk (s : ByteArray) (w : World) : Calls Tryz.prog 39 #[.string s] w fun e w' => e = .returned (.bool (okText s)) ∧ Below w.heap.size w w' := by
  go_enter Tryz.func39, Tryz.ntmps39
  go_wp2_with fail
  refine (specRunes s _).mono ?_
  rintro e w1 ⟨u, rfl, _, hb⟩
  go_wp2
  go_ret
  exact ⟨rfl, hb⟩
theorem implTextOk (s : ByteArray) (w : World) (hT : Tabs w) : Calls Tryz.prog 82 #[.string s] w fun e w' => e = .returned (.bool (okText s)) ∧ Below w.heap.size w w' := by
  go_enter Tryz.func82, Tryz.ntmps82
  go_wp2_with fail
  refine (implRunesOf s _ hT).mono ?_
  rintro e w1 ⟨u, rfl, _, hb⟩
  go_wp2
  go_ret
  exact ⟨rfl, hb⟩

def isDec0 (d : Dec) : Bool := !d.neg && decide (d.dig.toList = []) && decide (d.exp = 0)
def valOk (v : Val) : Bool :=
  if v.kind = 0 then isDec0 v.num && decide (v.text.toList = [])
  else if v.kind = 1 then decOk v.num && decide (v.text.toList = [])
  else if v.kind = 2 ∨ v.kind = 3 then isDec0 v.num && okText v.text
  else false
theorem valOk_0 (d : Dec) (t : ByteArray) : valOk ⟨0, d, t⟩ = (isDec0 d && decide (t.toList = [])) := rfl
theorem valOk_1 (d : Dec) (t : ByteArray) : valOk ⟨1, d, t⟩ = (decOk d && decide (t.toList = [])) := rfl
theorem valOk_2 (d : Dec) (t : ByteArray) : valOk ⟨2, d, t⟩ = (isDec0 d && okText t) := rfl
theorem valOk_3 (d : Dec) (t : ByteArray) : valOk ⟨3, d, t⟩ = (isDec0 d && okText t) := rfl
theorem empty_dec (t : ByteArray) : t.toList.isEmpty = decide (t.toList = []) := by cases t.toList <;> rfl
theorem valOk_else {k : Int} (d : Dec) (t : ByteArray) (h0 : ¬ k = 0) (h1 : ¬ k = 1) (h2 : ¬ k = 2) (h3 : ¬ k = 3) : valOk ⟨k, d, t⟩ = false := by simp [valOk, h0, h1, h2, h3]




/-- a value, or none where it is not ok -/
def soundVal (v : Val) : Val := if valOk v then v else val0
theorem rd_sound {S : Nat → Prop} {w : World} {v : Val} (g0 : -9223372036854775808 ≤ v.kind ∧ v.kind ≤ 9223372036854775807) (g1 : v.num.dig.size ≤ 9223372036854775807) (g2 : -9223372036854775808 ≤ v.num.exp ∧ v.num.exp ≤ 9223372036854775807) (g3 : v.text.size ≤ 9223372036854775807) :
    Rd.rd S w [.int .i64 (soundVal v).kind, .bool (soundVal v).num.neg, .string (soundVal v).num.dig, .int .i64 (soundVal v).num.exp, .string (soundVal v).text] (soundVal v) := by
  unfold soundVal
  split
  · exact rdVal_mk g0 g1 g2 g3
  · exact rd_val0


def dec0 : Dec := ⟨false, ⟨#[]⟩, 0⟩
def textVal (s : ByteArray) : Val := if okText s then ⟨2, dec0, s⟩ else val0
theorem isDec0_dec0 : isDec0 dec0 = true := by
  have : (⟨#[]⟩ : ByteArray).toList = [] := by rw [Lib.toList_data]
  unfold isDec0 dec0
  rw [this]
  rfl
theorem rd_text {S : Nat → Prop} {w : World} {s : ByteArray} (hs : s.size ≤ 9223372036854775807) : Rd.rd S w [.int .i64 2, .bool false, .string ⟨#[]⟩, .int .i64 0, .string s] (⟨2, dec0, s⟩ : Val) :=
  rdVal_mk (x := ⟨2, dec0, s⟩) (show (-9223372036854775808 : Int) ≤ 2 ∧ (2 : Int) ≤ 9223372036854775807 by decide) (show (⟨#[]⟩ : ByteArray).size ≤ 9223372036854775807 by decide) (show (-9223372036854775808 : Int) ≤ 0 ∧ (0 : Int) ≤ 9223372036854775807 by decide) hs
theorem sound_text (s : ByteArray) : soundVal ⟨2, dec0, s⟩ = textVal s := by
  unfold soundVal textVal
  rw [valOk_2, isDec0_dec0, Bool.true_and]


end Go.Proofs.YtkmkencodcfloaaGreatDoor

namespace Go.Proofs.YtkmkencodcfloaaGreatDoor
open Go.RowKit
set_option linter.unusedVariables false
set_option linter.unusedSimpArgs false

theorem own_slice {w : World} {base : Nat} {e : TypeId} {size : Nat} {v : Value} {n : Nat} {xs : List Value} (h : w.ownsRow base e size v n xs) : ∃ a c, v = .slice a n c := by
  rcases h.2 with ⟨rfl, rfl⟩ | ⟨g, cap, cur, rfl, _⟩
  · exact ⟨none, 0, rfl⟩
  · exact ⟨_, _, rfl⟩
/-- how many code points a text has; -1 of what is none -/
def lenOf (s : ByteArray) : Int := if okText s then ((runesN s.data.toList).length : Int) else -1
theorem lenOf_ok {s : ByteArray} (h : okText s = true) : lenOf s = (runesN s.data.toList).length := by unfold lenOf; rw [if_pos h]
theorem lenOf_no {s : ByteArray} (h : okText s = false) : lenOf s = -1 := by unfold lenOf; rw [h]; rfl
theorem ok_runes {s : ByteArray} (h : okText s = true) : runesAll s.data.toList = some (runesN s.data.toList) ∧ s.size ≤ 1000 ∧ (runesN s.data.toList).length ≤ s.size := by
  unfold okText textOk runes? at h
  unfold runesN runes?
  by_cases hl : s.data.toList.length ≤ 1000
  · rw [if_pos hl] at h ⊢
    obtain ⟨rs, hr⟩ := Option.isSome_iff_exists.1 h
    rw [hr]
    have := (runesAll_len _ _ _ rfl hr).1
    exact ⟨rfl, by rw [Lib.size_eq]; exact hl, by rw [Lib.size_eq]; exact this⟩
  · rw [if_neg hl] at h; cases h
theorem ok_size {s : ByteArray} (h : okText s = true) : s.size ≤ 1000 := (ok_runes h).2.1
theorem lenOf_zero {s : ByteArray} (h : okText s = true) : lenOf s = 0 ↔ s.size = 0 := by
  rw [lenOf_ok h]
  obtain ⟨h1, _, h3⟩ := ok_runes h
  constructor
  · intro hz
    by_cases h0 : s.size = 0
    · exact h0
    · have hne : s.data.toList ≠ [] := by
        intro h'
        rw [Lib.size_eq, h'] at h0
        exact h0 rfl
      exact absurd (List.eq_nil_of_length_eq_zero (by omega)) ((runesAll_len _ _ _ rfl h1).2.2 hne)
  · intro h0; omega

theorem specLength (s : ByteArray) (w : World) : Calls Tryz.prog 77 #[.string s] w fun e w' => e = .returned (.int .i64 (lenOf s)) ∧ Below w.heap.size w w' := by
  cases ho : okText s
  · have HL := hid (lenOf_no ho)
    have HO : Hid (textOk s.data.toList = false) := ho
    clear ho
    go_enter Tryz.func77, Tryz.ntmps77
    go_wp2_with fail
    refine (specRunes s _).mono ?_
    rintro e w1 ⟨u, rfl, _, hb⟩
    rw [HO.out]
    go_wp2
    go_ret
    exact ⟨end_int HL.out.symm, hb⟩
  · have HL := hid (lenOf_ok ho)
    have HO : Hid (textOk s.data.toList = true) := ho
    clear ho
    go_enter Tryz.func77, Tryz.ntmps77
    go_wp2_with fail
    refine (specRunes s _).mono ?_
    rintro e w1 ⟨u, rfl, hown, hb⟩
    obtain ⟨a, c, rfl⟩ := own_slice hown
    rw [HO.out]
    go_wp2
    go_ret
    exact ⟨end_int HL.out.symm, hb⟩
theorem implLength (s : ByteArray) (w : World) (hT : Tabs w) : Calls Tryz.prog 104 #[.string s] w fun e w' => e = .returned (.int .i64 (lenOf s)) ∧ Below w.heap.size w w' := by
  cases ho : okText s
  · have HL := hid (lenOf_no ho)
    have HO : Hid (textOk s.data.toList = false) := ho
    clear ho
    go_enter Tryz.func104, Tryz.ntmps104
    go_wp2_with fail
    refine (implRunesOf s _ hT).mono ?_
    rintro e w1 ⟨u, rfl, _, hb⟩
    rw [HO.out]
    go_wp2
    go_ret
    exact ⟨end_int HL.out.symm, hb⟩
  · have HL := hid (lenOf_ok ho)
    have HO : Hid (textOk s.data.toList = true) := ho
    clear ho
    go_enter Tryz.func104, Tryz.ntmps104
    go_wp2_with fail
    refine (implRunesOf s _ hT).mono ?_
    rintro e w1 ⟨u, rfl, hown, hb⟩
    obtain ⟨a, c, rfl⟩ := own_slice hown
    rw [HO.out]
    go_wp2
    go_ret
    exact ⟨end_int HL.out.symm, hb⟩
end Go.Proofs.YtkmkencodcfloaaGreatDoor

namespace Go.Proofs.YtkmkencodcfloaaGreatDoor
open Go.RowKit
set_option linter.unusedVariables false
set_option linter.unusedSimpArgs false

noncomputable def confOk (c : Conf) : Bool := inB 1 c.tag 4 && (okText c.fs && (okText c.ofs && (okText c.ors && (inB 0 (lenOf c.rs) 1 && ((!decide (1 < lenOf c.fs) || decide ((rdP 200 c.fs).2.2 = 0)) && (!c.head || decide (c.tag = 2) || decide (c.tag = 3)))))))
theorem rdConfC {S : Nat → Prop} {w : World} {cs : List Value} {x : Conf} (h : Rd.rd S w cs x) : cs = [.int .i64 x.tag, .string x.fs, .string x.rs, .string x.ofs, .string x.ors, .bool x.head] := by
  obtain ⟨c1, r1, rfl, ⟨rfl, h1⟩, c2, r2, rfl, ⟨rfl, h2⟩, c3, r3, rfl, ⟨rfl, h3⟩, c4, r4, rfl, ⟨rfl, h4⟩, c5, c6, rfl, ⟨rfl, h5⟩, h6⟩ := h
  obtain rfl : c6 = [.bool x.head] := h6
  rfl
set_option maxHeartbeats 16000000 in
set_option maxRecDepth 100000 in
theorem implIsConf {cs : Array Value} {x : Conf} (w : World) (h : Rd.rd (Old w) w cs.toList x) (hT : Tabs w) :
    Calls Tryz.prog 81 #[.agg cs] w fun e w' => e = .returned (.bool (confOk x)) ∧ Below w.heap.size w w' := by
  obtain rfl := arr_of_list (rdConfC h)
  obtain ⟨tag, fs, rs, ofs, ors, head⟩ := x
  clear h
  unfold confOk
  dsimp only
  have hW0 := heap_alloc_new w (.cells #[.int .i64 tag, .string fs, .string rs, .string ofs, .string ors, .bool head] 32)
  have HBX := hid (fun (w' : World) (hb : Below (w.heap.size + 1) (w.alloc (.cells #[.int .i64 tag, .string fs, .string rs, .string ofs, .string ors, .bool head] 32)) w') => (blk6c ((hb.block w.heap.size (Nat.lt_succ_self _)).trans hW0)).1)
  have HBW := hid (fun (w' : World) (hb : Below (w.heap.size + 1) (w.alloc (.cells #[.int .i64 tag, .string fs, .string rs, .string ofs, .string ors, .bool head] 32)) w') => (ext_alloc w (.cells #[.int .i64 tag, .string fs, .string rs, .string ofs, .string ors, .bool head] 32)).trans (hb.mono (Nat.le_succ _)))
  have HSZ := hid (fun (w' : World) (hb : Below (w.heap.size + 1) (w.alloc (.cells #[.int .i64 tag, .string fs, .string rs, .string ofs, .string ors, .bool head] 32)) w') => (show w.heap.size + 1 ≤ w'.heap.size from by have := hb.size; simp at this; exact this))
  clear hW0
  have hb0 := Below.refl (w.heap.size + 1) (w.alloc (.cells #[.int .i64 tag, .string fs, .string rs, .string ofs, .string ors, .bool head] 32))
  obtain ⟨c0, c1, c2, c3, c4, c5⟩ := HBX.out _ hb0
  go_enter Tryz.func81, Tryz.ntmps81
  go_wp2_with fail
  refine (within_any tag 1 4 _).mono ?_
  rintro e wz ⟨rfl, rfl⟩
  obtain ⟨qt, ht⟩ : ∃ b, inB 1 tag 4 = b := ⟨_, rfl⟩
  rw [ht]
  have Ht := hid ht
  clear ht
  cases qt with
  | false =>
    go_wp2
    go_ret
    exact ⟨by simp [Ht.out], HBW.out _ hb0⟩
  | true =>
    go_wp2_with fail
    refine (implTextOk fs _ (tabs_below hT (HBW.out _ hb0))).mono ?_
    rintro e wfs ⟨rfl, hb⟩
    have bfs := hb0.trans (hb.mono (HSZ.out _ hb0))
    clear hb c0 c1 c2 c3 c4 c5
    obtain ⟨c0, c1, c2, c3, c4, c5⟩ := HBX.out _ bfs
    obtain ⟨qfs, hfs⟩ : ∃ b, okText fs = b := ⟨_, rfl⟩
    rw [hfs]
    have Hfs := hid hfs
    clear hfs
    cases qfs with
    | false =>
      go_wp2
      go_ret
      exact ⟨by simp [Hfs.out], HBW.out _ bfs⟩
    | true =>
      go_wp2_with fail
      refine (implTextOk ofs _ (tabs_below hT (HBW.out _ bfs))).mono ?_
      rintro e wofs ⟨rfl, hb⟩
      have bofs := bfs.trans (hb.mono (HSZ.out _ bfs))
      clear hb c0 c1 c2 c3 c4 c5
      obtain ⟨c0, c1, c2, c3, c4, c5⟩ := HBX.out _ bofs
      obtain ⟨qofs, hofs⟩ : ∃ b, okText ofs = b := ⟨_, rfl⟩
      rw [hofs]
      have Hofs := hid hofs
      clear hofs
      cases qofs with
      | false =>
        go_wp2
        go_ret
        exact ⟨by simp [Hofs.out], HBW.out _ bofs⟩
      | true =>
        go_wp2_with fail
        refine (implTextOk ors _ (tabs_below hT (HBW.out _ bofs))).mono ?_
        rintro e wors ⟨rfl, hb⟩
        have bors := bofs.trans (hb.mono (HSZ.out _ bofs))
        clear hb c0 c1 c2 c3 c4 c5
        obtain ⟨c0, c1, c2, c3, c4, c5⟩ := HBX.out _ bors
        obtain ⟨qors, hors⟩ : ∃ b, okText ors = b := ⟨_, rfl⟩
        rw [hors]
        have Hors := hid hors
        clear hors
        cases qors with
        | false =>
          go_wp2
          go_ret
          exact ⟨by simp [Hors.out], HBW.out _ bors⟩
        | true =>
          go_wp2_with fail
          refine (implLength rs _ (tabs_below hT (HBW.out _ bors))).mono ?_
          rintro e wrs ⟨rfl, hb⟩
          have brs := bors.trans (hb.mono (HSZ.out _ bors))
          clear hb c0 c1 c2 c3 c4 c5
          obtain ⟨c0, c1, c2, c3, c4, c5⟩ := HBX.out _ brs
          go_wp2_with fail
          refine (within_any (lenOf rs) 0 1 _).mono ?_
          rintro e wz ⟨rfl, rfl⟩
          obtain ⟨qr, hr⟩ : ∃ b, inB 0 (lenOf rs) 1 = b := ⟨_, rfl⟩
          rw [hr]
          have Hr := hid hr
          clear hr
          cases qr with
          | false =>
            go_wp2
            go_ret
            exact ⟨by simp [Hr.out], HBW.out _ brs⟩
          | true =>
            go_wp2_with fail
            refine (implLength fs _ (tabs_below hT (HBW.out _ brs))).mono ?_
            rintro e wl ⟨rfl, hb⟩
            have bl := brs.trans (hb.mono (HSZ.out _ brs))
            clear hb c0 c1 c2 c3 c4 c5
            obtain ⟨c0, c1, c2, c3, c4, c5⟩ := HBX.out _ bl
            obtain ⟨n9, hn9⟩ : ∃ z, lenOf fs = z := ⟨_, rfl⟩
            have HN9 := hid hn9
            rw [hn9]
            clear hn9
            by_cases h1 : 1 < n9
            · go_wp2_with fail
              refine (implRxRead fs _ (tabs_below hT (HBW.out _ bl))).mono ?_
              rintro e w9 ⟨na, n, nc, rfl, hb⟩
              have b9 := bl.trans (hb.mono (HSZ.out _ bl))
              clear hb c0 c1 c2 c3 c4 c5
              have hs9 := HSZ.out _ b9
              have hne9 : ¬ w9.heap.size = w.heap.size := by omega
              have hne8 : ¬ w.heap.size = w9.heap.size := by omega
              have hlt9 : w.heap.size < w9.heap.size := by omega
              obtain ⟨c0, c1, c2, c3, c4, c5⟩ := HBX.out _ b9
              obtain ⟨c, hc⟩ : ∃ c, (rdP 200 fs).2.2 = c := ⟨_, rfl⟩
              rw [hc]
              have HC := hid hc
              clear hc
              have b10 := b9.alloc hs9 (.cells #[.slice na n nc] 49)
              by_cases hc0 : c = 0
              · subst hc0
                have hhd : True := trivial
                cases head with
                | false =>
                  go_wp2
                  go_ret
                  exact ⟨by simp [Ht.out, Hfs.out, Hofs.out, Hors.out, Hr.out, HN9.out, h1, HC.out], HBW.out _ b10⟩
                | true =>
                  by_cases t2 : tag = 2
                  · have e2 : (tag == 2) = true := by simp [t2]
                    have T2 := hid t2
                    clear t2
                    go_wp2
                    go_ret
                    exact ⟨by simp [Ht.out, Hfs.out, Hofs.out, Hors.out, Hr.out, HN9.out, h1, HC.out, T2.out, show inB 1 2 4 = true by decide], HBW.out _ b10⟩
                  · have e2 : (tag == 2) = false := by simpa using t2
                    by_cases t3 : tag = 3
                    · have e3 : (tag == 3) = true := by simp [t3]
                      have T3 := hid t3
                      clear t3
                      go_wp2
                      go_ret
                      exact ⟨by simp [Ht.out, Hfs.out, Hofs.out, Hors.out, Hr.out, HN9.out, h1, HC.out, T3.out, show inB 1 3 4 = true by decide], HBW.out _ b10⟩
                    · have e3 : (tag == 3) = false := by simpa using t3
                      have T2 := hid t2
                      have T3 := hid t3
                      go_wp2
                      go_ret
                      exact ⟨by simp [Ht.out, Hfs.out, Hofs.out, Hors.out, Hr.out, HN9.out, h1, HC.out, T2.out, T3.out], HBW.out _ b10⟩
              · have z1 : ((c : Int) == 0) = false := by rw [beq_eq_false_iff_ne]; omega
                have z2 : ¬ (c : Int) = 0 := by omega
                have z3 : ((c : Int) != 0) = true := by rw [bne_iff_ne]; omega
                go_wp2
                go_ret
                exact ⟨by simp [HN9.out, h1, HC.out, hc0], HBW.out _ b10⟩
            · have hn1 : ¬ 1 < n9 := h1
              have hhd : True := trivial
              cases head with
              | false =>
                go_wp2
                go_ret
                exact ⟨by simp [Ht.out, Hfs.out, Hofs.out, Hors.out, Hr.out, HN9.out, h1], HBW.out _ bl⟩
              | true =>
                by_cases t2 : tag = 2
                · have e2 : (tag == 2) = true := by simp [t2]
                  have T2 := hid t2
                  clear t2
                  go_wp2
                  go_ret
                  exact ⟨by simp [Ht.out, Hfs.out, Hofs.out, Hors.out, Hr.out, HN9.out, h1, T2.out, show inB 1 2 4 = true by decide], HBW.out _ bl⟩
                · have e2 : (tag == 2) = false := by simpa using t2
                  by_cases t3 : tag = 3
                  · have e3 : (tag == 3) = true := by simp [t3]
                    have T3 := hid t3
                    clear t3
                    go_wp2
                    go_ret
                    exact ⟨by simp [Ht.out, Hfs.out, Hofs.out, Hors.out, Hr.out, HN9.out, h1, T3.out, show inB 1 3 4 = true by decide], HBW.out _ bl⟩
                  · have e3 : (tag == 3) = false := by simpa using t3
                    have T2 := hid t2
                    have T3 := hid t3
                    go_wp2
                    go_ret
                    exact ⟨by simp [Ht.out, Hfs.out, Hofs.out, Hors.out, Hr.out, HN9.out, h1, T2.out, T3.out], HBW.out _ bl⟩
set_option maxHeartbeats 16000000 in
set_option maxRecDepth 100000 in
theorem specConfOk {cs : Array Value} {x : Conf} (w : World) (h : Rd.rd (Old w) w cs.toList x) :
    Calls Tryz.prog 38 #[.agg cs] w fun e w' => e = .returned (.bool (confOk x)) ∧ Below w.heap.size w w' := by
  obtain rfl := arr_of_list (rdConfC h)
  obtain ⟨tag, fs, rs, ofs, ors, head⟩ := x
  clear h
  unfold confOk
  dsimp only
  have hW0 := heap_alloc_new w (.cells #[.int .i64 tag, .string fs, .string rs, .string ofs, .string ors, .bool head] 32)
  have HBX := hid (fun (w' : World) (hb : Below (w.heap.size + 1) (w.alloc (.cells #[.int .i64 tag, .string fs, .string rs, .string ofs, .string ors, .bool head] 32)) w') => (blk6c ((hb.block w.heap.size (Nat.lt_succ_self _)).trans hW0)).1)
  have HBW := hid (fun (w' : World) (hb : Below (w.heap.size + 1) (w.alloc (.cells #[.int .i64 tag, .string fs, .string rs, .string ofs, .string ors, .bool head] 32)) w') => (ext_alloc w (.cells #[.int .i64 tag, .string fs, .string rs, .string ofs, .string ors, .bool head] 32)).trans (hb.mono (Nat.le_succ _)))
  have HSZ := hid (fun (w' : World) (hb : Below (w.heap.size + 1) (w.alloc (.cells #[.int .i64 tag, .string fs, .string rs, .string ofs, .string ors, .bool head] 32)) w') => (show w.heap.size + 1 ≤ w'.heap.size from by have := hb.size; simp at this; exact this))
  clear hW0
  have hb0 := Below.refl (w.heap.size + 1) (w.alloc (.cells #[.int .i64 tag, .string fs, .string rs, .string ofs, .string ors, .bool head] 32))
  obtain ⟨c0, c1, c2, c3, c4, c5⟩ := HBX.out _ hb0
  go_enter Tryz.func38, Tryz.ntmps38
  go_wp2_with fail
  refine (between_any tag 1 4 _).mono ?_
  rintro e wz ⟨rfl, rfl⟩
  obtain ⟨qt, ht⟩ : ∃ b, inB 1 tag 4 = b := ⟨_, rfl⟩
  rw [ht]
  have Ht := hid ht
  clear ht
  cases qt with
  | false =>
    go_wp2
    go_ret
    exact ⟨by simp [Ht.out], HBW.out _ hb0⟩
  | true =>
    go_wp2_with fail
    refine (specTextOk fs _).mono ?_
    rintro e wfs ⟨rfl, hb⟩
    have bfs := hb0.trans (hb.mono (HSZ.out _ hb0))
    clear hb c0 c1 c2 c3 c4 c5
    obtain ⟨c0, c1, c2, c3, c4, c5⟩ := HBX.out _ bfs
    obtain ⟨qfs, hfs⟩ : ∃ b, okText fs = b := ⟨_, rfl⟩
    rw [hfs]
    have Hfs := hid hfs
    clear hfs
    cases qfs with
    | false =>
      go_wp2
      go_ret
      exact ⟨by simp [Hfs.out], HBW.out _ bfs⟩
    | true =>
      go_wp2_with fail
      refine (specTextOk ofs _).mono ?_
      rintro e wofs ⟨rfl, hb⟩
      have bofs := bfs.trans (hb.mono (HSZ.out _ bfs))
      clear hb c0 c1 c2 c3 c4 c5
      obtain ⟨c0, c1, c2, c3, c4, c5⟩ := HBX.out _ bofs
      obtain ⟨qofs, hofs⟩ : ∃ b, okText ofs = b := ⟨_, rfl⟩
      rw [hofs]
      have Hofs := hid hofs
      clear hofs
      cases qofs with
      | false =>
        go_wp2
        go_ret
        exact ⟨by simp [Hofs.out], HBW.out _ bofs⟩
      | true =>
        go_wp2_with fail
        refine (specTextOk ors _).mono ?_
        rintro e wors ⟨rfl, hb⟩
        have bors := bofs.trans (hb.mono (HSZ.out _ bofs))
        clear hb c0 c1 c2 c3 c4 c5
        obtain ⟨c0, c1, c2, c3, c4, c5⟩ := HBX.out _ bors
        obtain ⟨qors, hors⟩ : ∃ b, okText ors = b := ⟨_, rfl⟩
        rw [hors]
        have Hors := hid hors
        clear hors
        cases qors with
        | false =>
          go_wp2
          go_ret
          exact ⟨by simp [Hors.out], HBW.out _ bors⟩
        | true =>
          go_wp2_with fail
          refine (specLength rs _).mono ?_
          rintro e wrs ⟨rfl, hb⟩
          have brs := bors.trans (hb.mono (HSZ.out _ bors))
          clear hb c0 c1 c2 c3 c4 c5
          obtain ⟨c0, c1, c2, c3, c4, c5⟩ := HBX.out _ brs
          go_wp2_with fail
          refine (between_any (lenOf rs) 0 1 _).mono ?_
          rintro e wz ⟨rfl, rfl⟩
          obtain ⟨qr, hr⟩ : ∃ b, inB 0 (lenOf rs) 1 = b := ⟨_, rfl⟩
          rw [hr]
          have Hr := hid hr
          clear hr
          cases qr with
          | false =>
            go_wp2
            go_ret
            exact ⟨by simp [Hr.out], HBW.out _ brs⟩
          | true =>
            go_wp2_with fail
            refine (specLength fs _).mono ?_
            rintro e wl ⟨rfl, hb⟩
            have bl := brs.trans (hb.mono (HSZ.out _ brs))
            clear hb c0 c1 c2 c3 c4 c5
            obtain ⟨c0, c1, c2, c3, c4, c5⟩ := HBX.out _ bl
            obtain ⟨n9, hn9⟩ : ∃ z, lenOf fs = z := ⟨_, rfl⟩
            have HN9 := hid hn9
            rw [hn9]
            clear hn9
            by_cases h1 : 1 < n9
            · go_wp2_with fail
              refine (specRxRead fs _).mono ?_
              rintro e w9 ⟨na, n, nc, rfl, hb⟩
              have b9 := bl.trans (hb.mono (HSZ.out _ bl))
              clear hb c0 c1 c2 c3 c4 c5
              have hs9 := HSZ.out _ b9
              have hne9 : ¬ w9.heap.size = w.heap.size := by omega
              have hne8 : ¬ w.heap.size = w9.heap.size := by omega
              have hlt9 : w.heap.size < w9.heap.size := by omega
              obtain ⟨c0, c1, c2, c3, c4, c5⟩ := HBX.out _ b9
              obtain ⟨c, hc⟩ : ∃ c, (rdP 200 fs).2.2 = c := ⟨_, rfl⟩
              rw [hc]
              have HC := hid hc
              clear hc
              have b10 := b9.alloc hs9 (.cells #[.slice na n nc] 49)
              by_cases hc0 : c = 0
              · subst hc0
                have hhd : True := trivial
                cases head with
                | false =>
                  go_wp2
                  go_ret
                  exact ⟨by simp [Ht.out, Hfs.out, Hofs.out, Hors.out, Hr.out, HN9.out, h1, HC.out], HBW.out _ b10⟩
                | true =>
                  by_cases t2 : tag = 2
                  · have e2 : (tag == 2) = true := by simp [t2]
                    have T2 := hid t2
                    clear t2
                    go_wp2
                    go_ret
                    exact ⟨by simp [Ht.out, Hfs.out, Hofs.out, Hors.out, Hr.out, HN9.out, h1, HC.out, T2.out, show inB 1 2 4 = true by decide], HBW.out _ b10⟩
                  · have e2 : (tag == 2) = false := by simpa using t2
                    by_cases t3 : tag = 3
                    · have e3 : (tag == 3) = true := by simp [t3]
                      have T3 := hid t3
                      clear t3
                      go_wp2
                      go_ret
                      exact ⟨by simp [Ht.out, Hfs.out, Hofs.out, Hors.out, Hr.out, HN9.out, h1, HC.out, T3.out, show inB 1 3 4 = true by decide], HBW.out _ b10⟩
                    · have e3 : (tag == 3) = false := by simpa using t3
                      have T2 := hid t2
                      have T3 := hid t3
                      go_wp2
                      go_ret
                      exact ⟨by simp [Ht.out, Hfs.out, Hofs.out, Hors.out, Hr.out, HN9.out, h1, HC.out, T2.out, T3.out], HBW.out _ b10⟩
              · have z1 : ((c : Int) == 0) = false := by rw [beq_eq_false_iff_ne]; omega
                have z2 : ¬ (c : Int) = 0 := by omega
                have z3 : ((c : Int) != 0) = true := by rw [bne_iff_ne]; omega
                go_wp2
                go_ret
                exact ⟨by simp [HN9.out, h1, HC.out, hc0], HBW.out _ b10⟩
            · have hn1 : ¬ 1 < n9 := h1
              have hhd : True := trivial
              cases head with
              | false =>
                go_wp2
                go_ret
                exact ⟨by simp [Ht.out, Hfs.out, Hofs.out, Hors.out, Hr.out, HN9.out, h1], HBW.out _ bl⟩
              | true =>
                by_cases t2 : tag = 2
                · have e2 : (tag == 2) = true := by simp [t2]
                  have T2 := hid t2
                  clear t2
                  go_wp2
                  go_ret
                  exact ⟨by simp [Ht.out, Hfs.out, Hofs.out, Hors.out, Hr.out, HN9.out, h1, T2.out, show inB 1 2 4 = true by decide], HBW.out _ bl⟩
                · have e2 : (tag == 2) = false := by simpa using t2
                  by_cases t3 : tag = 3
                  · have e3 : (tag == 3) = true := by simp [t3]
                    have T3 := hid t3
                    clear t3
                    go_wp2
                    go_ret
                    exact ⟨by simp [Ht.out, Hfs.out, Hofs.out, Hors.out, Hr.out, HN9.out, h1, T3.out, show inB 1 3 4 = true by decide], HBW.out _ bl⟩
                  · have e3 : (tag == 3) = false := by simpa using t3
                    have T2 := hid t2
                    have T3 := hid t3
                    go_wp2
                    go_ret
                    exact ⟨by simp [Ht.out, Hfs.out, Hofs.out, Hors.out, Hr.out, HN9.out, h1, T2.out, T3.out], HBW.out _ bl⟩
end Go.Proofs.YtkmkencodcfloaaGreatDoor

namespace Go.Proofs.YtkmkencodcfloaaGreatDoor
open Go.RowKit
set_option linter.unusedVariables false
set_option linter.unusedSimpArgs false

def fileOk (s : ByteArray) : Bool := decide (s.size ≤ 4000) && (runesAll s.data.toList).isSome
theorem file_size {s : ByteArray} (h : fileOk s = true) : s.size ≤ 4000 := by
  unfold fileOk at h
  simp only [Bool.and_eq_true, decide_eq_true_eq] at h
  exact h.1
set_option maxHeartbeats 2000000 in
theorem specFileOk (s : ByteArray) (w : World) :
    Calls Tryz.prog 20 #[.string s] w fun e w' => e = .returned (.bool (fileOk s)) ∧ Below w.heap.size w w' := by
  obtain ⟨l, hl⟩ : ∃ l, s.data.toList = l := ⟨_, rfl⟩
  have hsl : s.size = l.length := by rw [Lib.size_eq, hl]
  by_cases hbig : (4000 : Int) < s.size
  · have HF := hid (show fileOk s = false by unfold fileOk; rw [decide_eq_false (by omega)]; rfl)
    clear hl hsl
    go_enter Tryz.func20, Tryz.ntmps20
    go_wp2
    go_ret
    rw [HF.out]
    exact ⟨rfl, Below.refl _ _⟩
  · have HF := hid (show fileOk s = (runesAll l).isSome by unfold fileOk; rw [decide_eq_true (by omega), hl]; rfl)
    have HL := hid hl
    have HSL := hid hsl
    clear hl hsl
    have hlen : l.length ≤ 4000 := by have := HSL.out; omega
    have hsz : s.size ≤ 4000 := by omega
    go_enter Tryz.func20, Tryz.ntmps20
    go_wp2
    go_loopw [3] (fun at' wr => ∃ k : Nat, k ≤ s.size ∧ at' = .int .i64 k ∧ Hid ((runesAll l).isSome = (runesAll (l.drop k)).isSome) ∧ Below w.heap.size w wr) (fun at' _ => s.size - (intOf at').toNat)
    case atStart => exact ⟨0, Nat.zero_le _, rfl, by show (runesAll l).isSome = _; simp, Below.refl _ _⟩
    case round =>
      obtain ⟨k, hk, rfl, HR, hb⟩ := hrel
      by_cases hlt : k < s.size
      · obtain ⟨c, hc⟩ : ∃ c, (next (l.drop k)).1 = c := ⟨_, rfl⟩
        obtain ⟨n, hn⟩ : ∃ n, (next (l.drop k)).2 = n := ⟨_, rfl⟩
        have hne : l.drop k ≠ [] := by
          intro h
          have := congrArg List.length h
          rw [List.length_drop] at this
          have := HSL.out
          simp at *
          omega
        have hnl : n ≤ s.size - k := by
          have := next_le (l.drop k)
          rw [hn, List.length_drop] at this
          have := HSL.out
          omega
        have HC := hid hc
        have HN := hid hn
        have HNE := hid hne
        clear hc hn hne
        go_wp2_with fail
        refine (specNext s k _ hlt (by omega)).mono ?_
        rintro e w1 ⟨rfl, hb1⟩
        rw [HL.out, HC.out, HN.out]
        have hB1 := ext_trans hb hb1
        by_cases hz : n = 0
        · subst hz
          have e1 : (runesAll l).isSome = false := by rw [HR.out, runesAll_bad HNE.out HN.out]; rfl
          have E1 := hid e1
          clear e1
          go_wp2
          go_ret
          rw [HF.out, E1.out]
          exact ⟨rfl, hB1⟩
        · have hz' : ((n : Int) == 0) = false := by rw [beq_eq_false_iff_ne]; omega
          have HR' := hid (show (runesAll l).isSome = (runesAll (l.drop (k + n))).isSome by
            rw [HR.out, runesAll_step HNE.out (by rw [HN.out]; exact hz), HC.out, HN.out, List.drop_drop]
            cases runesAll (List.drop (k + n) l) <;> simp)
          clear HR
          go_wp2
          go_roundw
          case rel => exact ⟨k + n, by omega, by go_num, HR'.out, hB1⟩
          case measure => simp [intOf]; omega
      · have : k = s.size := by omega
        subst this
        have hd : l.drop s.size = [] := List.drop_eq_nil_of_le (by rw [HSL.out]; exact Nat.le_refl _)
        have e1 : (runesAll l).isSome = true := by rw [HR.out, hd, runesAll_nil]; rfl
        have E1 := hid e1
        clear e1 hd
        go_wp2
        go_ret
        rw [HF.out, E1.out]
        exact ⟨rfl, hb⟩
set_option maxHeartbeats 2000000 in
theorem implIsFile (s : ByteArray) (w : World) (hT : Tabs w) :
    Calls Tryz.prog 50 #[.string s] w fun e w' => e = .returned (.bool (fileOk s)) ∧ Below w.heap.size w w' := by
  obtain ⟨l, hl⟩ : ∃ l, s.data.toList = l := ⟨_, rfl⟩
  have hsl : s.size = l.length := by rw [Lib.size_eq, hl]
  by_cases hbig : (4000 : Int) < s.size
  · have HF := hid (show fileOk s = false by unfold fileOk; rw [decide_eq_false (by omega)]; rfl)
    clear hl hsl
    go_enter Tryz.func50, Tryz.ntmps50
    go_wp2
    go_ret
    rw [HF.out]
    exact ⟨rfl, Below.refl _ _⟩
  have HF := hid (show fileOk s = (runesAll l).isSome by unfold fileOk; rw [decide_eq_true (by omega), hl]; rfl)
  have HL := hid hl
  clear hl
  have hsz : s.size ≤ 4000 := by omega
  clear hsl
  have HV := hid (valid_runes l)
  have CV := Any.utf8_ValidString Tryz.laysValid s w (by omega) hT
  rw [HL.out] at CV
  by_cases hv : Lib.validD l = true
  · have CI : ∀ w, Calls Tryz.prog 88 #[.string s, .int .u8 0] w fun e w' => e = .returned (.int .i64 (Lib.indexByte l 0)) ∧ w' = w := fun w => by
      have := Tryz.strings_IndexByte s 0 w
      rw [HL.out] at this
      exact this
    rw [hv] at CV
    by_cases h0 : (0 : UInt8) ∈ l
    · have e1 : (runesAll l).isSome = false := by
        cases hr : runesAll l with
        | none => rfl
        | some x => exact absurd h0 ((HV.out.2 (by rw [hr]; rfl)).2)
      have hix0 := index_ge_of_mem h0
      have hix : ¬ Lib.indexByte l 0 < 0 := by omega
      clear hix0
      have E1 := hid e1
      clear e1 h0 hv
      go_enter Tryz.func50, Tryz.ntmps50
      go_wp2_with (first | (go_at_call 87; refine CV.mono ?_; rintro e w1 ⟨rfl, hb1⟩) | (go_at_call 88; refine (CI _).mono ?_; rintro e w1 ⟨rfl, rfl⟩))
      go_ret
      rw [HF.out, E1.out]
      first | exact ⟨rfl, hb1⟩ | exact ⟨end_bool (decide_eq_false (by omega)), hb1⟩
    · have hix := index_of_not_mem h0
      have e1 : (runesAll l).isSome = true := HV.out.1 ⟨hv, h0⟩
      have E1 := hid e1
      clear hv h0 e1
      go_enter Tryz.func50, Tryz.ntmps50
      go_wp2_with (first | (go_at_call 87; refine CV.mono ?_; rintro e w1 ⟨rfl, hb1⟩) | (go_at_call 88; refine (CI _).mono ?_; rintro e w1 ⟨rfl, rfl⟩))
      go_ret
      rw [HF.out, E1.out]
      first | exact ⟨rfl, hb1⟩ | exact ⟨end_bool (decide_eq_true (by omega)), hb1⟩
  · have hv' : Lib.validD l = false := by cases h : Lib.validD l with | false => rfl | true => exact absurd h hv
    rw [hv'] at CV
    have e1 : (runesAll l).isSome = false := by
      cases hr : runesAll l with
      | none => rfl
      | some x => exact absurd (HV.out.2 (by rw [hr]; rfl)).1 hv
    have E1 := hid e1
    clear e1 hv hv'
    go_enter Tryz.func50, Tryz.ntmps50
    go_wp2_with (go_at_call 87; refine CV.mono ?_; rintro e w1 ⟨rfl, hb1⟩)
    go_ret
    rw [HF.out, E1.out]
    exact ⟨rfl, hb1⟩
end Go.Proofs.YtkmkencodcfloaaGreatDoor

namespace Go.Proofs.YtkmkencodcfloaaGreatDoor
open Go.RowKit
set_option linter.unusedVariables false
set_option linter.unusedSimpArgs false

theorem keeps_setAll {B : Nat} {w1 : World} {g : Nat} (o : Nat) : ∀ (i : Nat) (cs : List Value) {W : World}, Keeps B w1 W → g < B → Keeps B w1 (setAll W g o i cs)
  | _, [], _, h, _ => h
  | i, c :: r, _, h, hg => keeps_setAll o (i + 1) r (h.set hg c) hg
theorem below_setAll {B : Nat} {w1 : World} {g : Nat} (o : Nat) : ∀ (i : Nat) (cs : List Value) {W : World}, Below B w1 W → B ≤ g → Below B w1 (setAll W g o i cs)
  | _, [], _, h, _ => h
  | i, c :: r, _, h, hg => below_setAll o (i + 1) r (h.setCell hg c) hg
theorem blk_stay {W w1 : World} {g : Nat} {o : Obj} (h : W.heap[g]? = some o) (hb : Below W.heap.size W w1) : w1.heap[g]? = some o := (hb.block g (Array.getElem?_eq_some_iff.1 h).1).trans h
theorem blk_set {W : World} {g : Nat} {p : Addr} {o : Obj} (h : W.heap[g]? = some o) (hp : g ≠ p.block) (u : Value) : (W.setCell p u).heap[g]? = some o := (Below.heap_setCell W p u g hp).trans h
theorem blk_alloc {W : World} {g : Nat} {o : Obj} (h : W.heap[g]? = some o) (o' : Obj) : (W.alloc o').heap[g]? = some o := blk_stay h (ext_alloc W o')
theorem rdConf {S : Nat → Prop} {w : World} {cs : List Value} {x : Conf} (h : Rd.rd S w cs x) : cs = [.int .i64 x.tag, .string x.fs, .string x.rs, .string x.ofs, .string x.ors, .bool x.head] ∧ (-9223372036854775808 ≤ x.tag ∧ x.tag ≤ 9223372036854775807) ∧ (x.fs.size ≤ 9223372036854775807) ∧ (x.rs.size ≤ 9223372036854775807) ∧ (x.ofs.size ≤ 9223372036854775807) ∧ (x.ors.size ≤ 9223372036854775807) := by
  obtain ⟨_, _, rfl, ⟨rfl, h0⟩, ⟨_, _, rfl, ⟨rfl, h1⟩, ⟨_, _, rfl, ⟨rfl, h2⟩, ⟨_, _, rfl, ⟨rfl, h3⟩, ⟨_, _, rfl, ⟨rfl, h4⟩, rfl⟩⟩⟩⟩⟩ := h
  exact ⟨rfl, h0, h1, h2, h3, h4⟩
theorem rdConf_mk {S : Nat → Prop} {w : World} {x : Conf} (h0 : -9223372036854775808 ≤ x.tag ∧ x.tag ≤ 9223372036854775807) (h1 : x.fs.size ≤ 9223372036854775807) (h2 : x.rs.size ≤ 9223372036854775807) (h3 : x.ofs.size ≤ 9223372036854775807) (h4 : x.ors.size ≤ 9223372036854775807) : Rd.rd S w [.int .i64 x.tag, .string x.fs, .string x.rs, .string x.ofs, .string x.ors, .bool x.head] x :=
  ⟨_, _, rfl, ⟨rfl, h0⟩, ⟨_, _, rfl, ⟨rfl, h1⟩, ⟨_, _, rfl, ⟨rfl, h2⟩, ⟨_, _, rfl, ⟨rfl, h3⟩, ⟨_, _, rfl, ⟨rfl, h4⟩, rfl⟩⟩⟩⟩⟩
instance : Sz Conf := ⟨fun x => x.fs.size + x.rs.size + x.ofs.size + x.ors.size⟩
set_option maxHeartbeats 1000000 in
theorem szConf_any {cs : Array Value} {x : Conf} (left : Int) (w : World) (h : Rd.rd (Old w) w cs.toList x) (h3 : 0 ≤ left) (h4 : left ≤ 1048576) :
    Calls Tryz.prog 35 #[.agg cs, .int .i64 left] w fun e w' => e = .returned (.int .i64 (szOut left (Sz.sz x))) ∧ Below w.heap.size w w' := by
  obtain ⟨hcs, f0, f1, f2, f3, f4⟩ := rdConf h
  obtain rfl := arr_of_list hcs
  clear hcs
  have hsz : Sz.sz x = x.fs.size + x.rs.size + x.ofs.size + x.ors.size := rfl
  rw [hsz]; clear hsz
  by_cases k0 : (x.fs.size : Int) ≤ left
  · skip
    by_cases k1 : (x.fs.size : Int) + (x.rs.size : Int) ≤ left
    · skip
      by_cases k2 : (x.fs.size : Int) + (x.rs.size : Int) + (x.ofs.size : Int) ≤ left
      · skip
        by_cases k3 : (x.fs.size : Int) + (x.rs.size : Int) + (x.ofs.size : Int) + (x.ors.size : Int) ≤ left
        · skip
          go_enter Tryz.func35, Tryz.ntmps35
          go_wp2_with fail
          go_wp2
          go_ret
          exact ⟨end_int (by rw [szOut_val (by omega)] <;> omega), (ext_alloc _ _)⟩
        · skip
          go_enter Tryz.func35, Tryz.ntmps35
          go_wp2_with fail
          go_wp2
          go_ret
          exact ⟨end_int (by rw [szOut_bad (by omega)]), (ext_alloc _ _)⟩
      · skip
        go_enter Tryz.func35, Tryz.ntmps35
        go_wp2_with fail
        go_wp2
        go_ret
        exact ⟨end_int (by rw [szOut_bad (by omega)]), (ext_alloc _ _)⟩
    · skip
      go_enter Tryz.func35, Tryz.ntmps35
      go_wp2_with fail
      go_wp2
      go_ret
      exact ⟨end_int (by rw [szOut_bad (by omega)]), (ext_alloc _ _)⟩
  · skip
    go_enter Tryz.func35, Tryz.ntmps35
    go_wp2_with fail
    go_wp2
    go_ret
    exact ⟨end_int (by rw [szOut_bad (by omega)]), (ext_alloc _ _)⟩
set_option maxHeartbeats 2000000 in
theorem toConf_any {cs : Array Value} {x : Conf} (w : World) (h : Rd.rd (Old w) w cs.toList x) (hn : Sz.sz x ≤ 1048576) :
    Calls Tryz.prog 46 #[.agg cs] w fun e w' => ∃ cs' : Array Value, e = .returned (.agg cs') ∧ Rd.rd (New w.heap.size w') w' cs'.toList x ∧ Below w.heap.size w w' := by
  obtain ⟨hcs, f0, f1, f2, f3, f4⟩ := rdConf h
  obtain rfl := arr_of_list hcs
  clear hcs h
  clear hn
  go_enter Tryz.func46, Tryz.ntmps46
  go_wp2
  refine bodyPost_ret (v := .agg #[.int .i64 x.tag, .string x.fs, .string x.rs, .string x.ofs, .string x.ors, .bool x.head]) (by simp [results, Tryz.results46, go_sem]) rfl ⟨_, rfl, ?_, ?_⟩
  · exact rdConf_mk f0 f1 f2 f3 f4
  · exact (by repeat' (first | (with_reducible exact Below.refl _ _) | (with_reducible refine Below.setCell ?_ ?_ _) | (with_reducible refine Below.alloc ?_ ?_ _) | (simp; done) | (simp; omega) | omega))
set_option maxHeartbeats 2000000 in
theorem eqConf_same {cs cs' : Array Value} {x : Conf} (w : World) (h : Rd.rd (Old w) w cs.toList x) (h' : Rd.rd (Old w) w cs'.toList x) :
    Calls Tryz.prog 52 #[.agg cs, .agg cs'] w fun e w' => e = .returned (.bool true) ∧ Below w.heap.size w w' := by
  obtain ⟨hcs, f0, f1, f2, f3, f4⟩ := rdConf h
  obtain rfl := arr_of_list hcs
  obtain ⟨hcs', gf0, gf1, gf2, gf3, gf4⟩ := rdConf h'
  obtain rfl := arr_of_list hcs'
  clear hcs hcs' h h'
  go_enter Tryz.func52, Tryz.ntmps52
  go_wp2
  go_ret
  exact ⟨rfl, (by repeat' (first | (with_reducible exact Below.refl _ _) | (with_reducible refine Below.setCell ?_ ?_ _) | (with_reducible refine Below.alloc ?_ ?_ _) | (simp; done) | (simp; omega) | omega))⟩

theorem rdFile {S : Nat → Prop} {w : World} {cs : List Value} {x : File} (h : Rd.rd S w cs x) : cs = [.string x.name, .string x.text] ∧ (x.name.size ≤ 9223372036854775807) ∧ (x.text.size ≤ 9223372036854775807) := by
  obtain ⟨_, _, rfl, ⟨rfl, h0⟩, ⟨rfl, h1⟩⟩ := h
  exact ⟨rfl, h0, h1⟩
theorem rdFile_mk {S : Nat → Prop} {w : World} {x : File} (h0 : x.name.size ≤ 9223372036854775807) (h1 : x.text.size ≤ 9223372036854775807) : Rd.rd S w [.string x.name, .string x.text] x :=
  ⟨_, _, rfl, ⟨rfl, h0⟩, ⟨rfl, h1⟩⟩
instance : Sz File := ⟨fun x => x.name.size + x.text.size⟩
set_option maxHeartbeats 1000000 in
theorem szFile_any {cs : Array Value} {x : File} (left : Int) (w : World) (h : Rd.rd (Old w) w cs.toList x) (h3 : 0 ≤ left) (h4 : left ≤ 1048576) :
    Calls Tryz.prog 76 #[.agg cs, .int .i64 left] w fun e w' => e = .returned (.int .i64 (szOut left (Sz.sz x))) ∧ Below w.heap.size w w' := by
  obtain ⟨hcs, f0, f1⟩ := rdFile h
  obtain rfl := arr_of_list hcs
  clear hcs
  have hsz : Sz.sz x = x.name.size + x.text.size := rfl
  rw [hsz]; clear hsz
  by_cases k0 : (x.name.size : Int) ≤ left
  · skip
    by_cases k1 : (x.name.size : Int) + (x.text.size : Int) ≤ left
    · skip
      go_enter Tryz.func76, Tryz.ntmps76
      go_wp2_with fail
      go_wp2
      go_ret
      exact ⟨end_int (by rw [szOut_val (by omega)] <;> omega), (ext_alloc _ _)⟩
    · skip
      go_enter Tryz.func76, Tryz.ntmps76
      go_wp2_with fail
      go_wp2
      go_ret
      exact ⟨end_int (by rw [szOut_bad (by omega)]), (ext_alloc _ _)⟩
  · skip
    go_enter Tryz.func76, Tryz.ntmps76
    go_wp2_with fail
    go_wp2
    go_ret
    exact ⟨end_int (by rw [szOut_bad (by omega)]), (ext_alloc _ _)⟩
set_option maxHeartbeats 2000000 in
theorem toFile_any {cs : Array Value} {x : File} (w : World) (h : Rd.rd (Old w) w cs.toList x) (hn : Sz.sz x ≤ 1048576) :
    Calls Tryz.prog 80 #[.agg cs] w fun e w' => ∃ cs' : Array Value, e = .returned (.agg cs') ∧ Rd.rd (New w.heap.size w') w' cs'.toList x ∧ Below w.heap.size w w' := by
  obtain ⟨hcs, f0, f1⟩ := rdFile h
  obtain rfl := arr_of_list hcs
  clear hcs h
  clear hn
  go_enter Tryz.func80, Tryz.ntmps80
  go_wp2
  refine bodyPost_ret (v := .agg #[.string x.name, .string x.text]) (by simp [results, Tryz.results80, go_sem]) rfl ⟨_, rfl, ?_, ?_⟩
  · exact rdFile_mk f0 f1
  · exact (by repeat' (first | (with_reducible exact Below.refl _ _) | (with_reducible refine Below.setCell ?_ ?_ _) | (with_reducible refine Below.alloc ?_ ?_ _) | (simp; done) | (simp; omega) | omega))
set_option maxHeartbeats 2000000 in
theorem eqFile_same {cs cs' : Array Value} {x : File} (w : World) (h : Rd.rd (Old w) w cs.toList x) (h' : Rd.rd (Old w) w cs'.toList x) :
    Calls Tryz.prog 89 #[.agg cs, .agg cs'] w fun e w' => e = .returned (.bool true) ∧ Below w.heap.size w w' := by
  obtain ⟨hcs, f0, f1⟩ := rdFile h
  obtain rfl := arr_of_list hcs
  obtain ⟨hcs', gf0, gf1⟩ := rdFile h'
  obtain rfl := arr_of_list hcs'
  clear hcs hcs' h h'
  go_enter Tryz.func89, Tryz.ntmps89
  go_wp2
  go_ret
  exact ⟨rfl, (by repeat' (first | (with_reducible exact Below.refl _ _) | (with_reducible refine Below.setCell ?_ ?_ _) | (with_reducible refine Below.alloc ?_ ?_ _) | (simp; done) | (simp; omega) | omega))⟩

set_option maxHeartbeats 1000000 in
theorem szFileS_any {v : Value} {xs : List File} (left : Int) (w : World) (h : Rd.rd (Old w) w [v] xs) (h3 : 0 ≤ left) (h4 : left ≤ 1048576) :
    Calls Tryz.prog 36 #[v, .int .i64 left] w fun e w' => e = .returned (.int .i64 (szOut left (Sz.sz xs))) ∧ Below w.heap.size w w' := by
  obtain ⟨a, cap, hv, h1, h2, hc⟩ := h
  obtain rfl : v = .slice a xs.length cap := by simpa using hv
  clear hv
  have hss : Sz.sz xs = xs.length + sumTo Sz.sz xs xs.length := rfl
  rw [hss]; clear hss
  by_cases hl : (xs.length : Int) ≤ left
  · go_enter Tryz.func36, Tryz.ntmps36
    go_wp2
    go_loopw [1, 5] (fun l i wr => ∃ k : Nat, k ≤ xs.length ∧ i = .int .i64 k ∧ 0 ≤ left - xs.length - sumTo Sz.sz xs k ∧ l = .int .i64 (left - xs.length - sumTo Sz.sz xs k) ∧ Below w.heap.size w wr) (fun _ i _ => xs.length - (intOf i).toNat)
    case atStart => exact ⟨0, Nat.zero_le _, rfl, by rw [sumTo_zero]; omega, by rw [sumTo_zero]; simp, Below.refl _ _⟩
    case round =>
      obtain ⟨k, hk, rfl, hr, rfl, hb⟩ := hrel
      by_cases hlt : k < xs.length
      · have HS := hid (sumTo_succ Sz.sz xs k hlt)
        have HM := hid (sumTo_le Sz.sz xs (show k + 1 ≤ xs.length by omega))
        obtain ⟨b, off, rfl, hB, hrow⟩ := hc (by omega)
        obtain ⟨cs, hcell, hx⟩ := hrow k hlt
        obtain ⟨hcs, f0, f1⟩ := rdFile hx
        subst hcs
        have t0 : wr.cell? ⟨b, off + k * 2, none⟩ = some (.string xs[k].name) := (hb.cell (p := ⟨b, off + k * 2, none⟩) hB).trans (hcell 0 (by decide))
        have t1 : wr.cell? ⟨b, off + k * 2 + 1, none⟩ = some (.string xs[k].text) := (hb.cell (p := ⟨b, off + k * 2 + 1, none⟩) hB).trans (hcell 1 (by decide))
        clear hrow hcell
        clear hc
        have hx' := Rd.later hb hx
        go_wp2_with fail
        refine (szFile_any _ _ (by exact hx') (by omega) (by omega)).mono ?_
        rintro e w1 ⟨rfl, hb1⟩
        have hB1 := ext_trans hb hb1
        by_cases hfit : ((Sz.sz xs[k] : Nat) : Int) ≤ left - xs.length - sumTo Sz.sz xs k
        · rw [szOut_val hfit]
          go_wp2
          go_roundw
          case rel => exact ⟨k + 1, by omega, by go_num, by rw [HS.out]; omega, by rw [HS.out]; go_num, hB1⟩
          case measure => simp [intOf]; omega
        · rw [szOut_bad (by omega)]
          go_wp2
          go_ret
          exact ⟨end_int (by have := HS.out; have := HM.out; rw [szOut_bad (by omega)]), hB1⟩
      · have : k = xs.length := by omega
        subst this
        clear hc
        go_wp2
        go_ret
        exact ⟨end_int (by rw [szOut_val (by omega)]; omega), hb⟩
  · clear hc
    go_enter Tryz.func36, Tryz.ntmps36
    go_wp2
    go_ret
    exact ⟨end_int (by rw [szOut_bad (by omega)]), Below.refl _ _⟩
theorem info_File : (Tryz.prog.info? 70).map (fun i => (i.zero.isSome, i.size, i.bytes)) = some (true, 2, 32) := by kernel_rfl
set_option maxHeartbeats 2000000 in
theorem toFileS_any {v : Value} {xs : List File} (w : World) (h : Rd.rd (Old w) w [v] xs) (hsz : Sz.sz xs ≤ 1048576) :
    Calls Tryz.prog 47 #[v] w fun e w' => ∃ u, e = .returned u ∧ Rd.rd (New w.heap.size w') w' [u] xs ∧ Below w.heap.size w w' := by
  obtain ⟨a, cap, hv, h1, h2, hc⟩ := h
  obtain rfl : v = .slice a xs.length cap := by simpa using hv
  clear hv
  have hn : xs.length ≤ 1048576 := Nat.le_trans (sz_len xs) hsz
  have HZ := hid (sz_each hsz)
  clear hsz
  obtain ⟨zc, hzl, hmk⟩ := make_cells (P := Tryz.prog) (t := 33) (e := 70) (n := 2) (bytes := 32) Tryz.underlying33 info_File xs.length (by omega) (by omega)
  go_enter Tryz.func47, Tryz.ntmps47
  go_wp2
  clear hmk
  go_loopw [4] (fun i wr => ∃ (k : Nat) (css : List (List Value)) (rest : List Value), k ≤ xs.length ∧ i = .int .i64 k ∧ Below w.heap.size w wr ∧ w.heap.size < wr.heap.size ∧ wr.heap[w.heap.size]? = some (.cells (css.flatten ++ rest).toArray 70 (0, 0)) ∧ rest.length = (xs.length - k) * 2 ∧ Each (New (w.heap.size + 1) wr) wr css (xs.take k)) (fun i _ => xs.length - (intOf i).toNat)
  case atStart => exact ⟨0, [], zc, Nat.zero_le _, rfl, ext_alloc _ _, by simp, by simpa using heap_alloc_new w _, by simpa using hzl, Each.nil⟩
  case round =>
    obtain ⟨k, css, rest, hk, rfl, hb, hsz, hg, hrl, he⟩ := hrel
    by_cases hlt : k < xs.length
    · have hcl := each_take he hk
      obtain ⟨b, off, rfl, hB, hrow⟩ := hc (by omega)
      obtain ⟨cs, hcell, hx⟩ := hrow k hlt
      obtain ⟨hcs, f0, f1⟩ := rdFile hx
      subst hcs
      have t0 : wr.cell? ⟨b, off + k * 2, none⟩ = some (.string xs[k].name) := (hb.cell (p := ⟨b, off + k * 2, none⟩) hB).trans (hcell 0 (by decide))
      have t1 : wr.cell? ⟨b, off + k * 2 + 1, none⟩ = some (.string xs[k].text) := (hb.cell (p := ⟨b, off + k * 2 + 1, none⟩) hB).trans (hcell 1 (by decide))
      clear hrow hcell
      clear hc
      have hx' := Rd.later hb hx
      have HR := hid hrl
      have HG := hid hg
      have HE := hid he
      have HL := hid hcl
      have hrn : 2 ≤ rest.length := by rw [hrl]; have := Nat.mul_le_mul_right 2 (show 1 ≤ xs.length - k by omega); omega
      clear hrl hg he hcl
      go_wp2_with fail
      refine (toFile_any _ (by exact hx') (HZ.out k hlt)).mono ?_
      rintro e w1 ⟨cs1, rfl, hr1, hb1⟩
      obtain ⟨hcs1, rf0, rf1⟩ := rdFile hr1
      obtain rfl := arr_of_list hcs1
      have HX := hid hr1
      clear hcs1 hr1
      have hB1 := ext_trans hb hb1
      have HG1 := hid ((hb1.block _ hsz).trans HG.out)
      obtain ⟨o0, s0⟩ : ∃ v, w1.cell? ⟨w.heap.size, k * 2, none⟩ = some v := row_get (n := 2) HG1.out HE.out.len HL.out hrn (j := 0) (by decide)
      obtain ⟨o1, s1⟩ : ∃ v, w1.cell? ⟨w.heap.size, k * 2 + 1, none⟩ = some v := row_get (n := 2) HG1.out HE.out.len HL.out hrn (j := 1) (by decide)
      have z0 : w1.frozen? ⟨w.heap.size, k * 2, none⟩ = false := frozen_of_row w1 w.heap.size _ _ _ HG1.out
      have z1 : w1.frozen? ⟨w.heap.size, k * 2 + 1, none⟩ = false := frozen_of_row w1 w.heap.size _ _ _ HG1.out
      have hl1 : w.heap.size < w1.heap.size := by have := hb1.size; omega
      go_wp2
      go_roundw
      case rel =>
        obtain ⟨rest', hg', hrl', hs', hB', he'⟩ := row_next (g := w.heap.size) (n := 2) rfl hlt HG1.out HE.out HL.out HR.out hsz hb1 hB1 HX.out
        exact ⟨k + 1, _, rest', by omega, by go_num, hB', hs', hg', hrl', he'⟩
      case measure => simp [intOf]; omega
    · have : k = xs.length := by omega
      subst this
      clear hc
      have HG := hid hg
      have HE := hid he
      clear hg he hrl
      go_wp2
      go_ret
      refine ⟨_, rfl, ?_, hb⟩
      have he := HE.out
      rw [List.take_length] at he
      exact rd_of_block HG.out (he.mono (T := New w.heap.size wr) (fun b (hb' : w.heap.size + 1 ≤ b ∧ b < wr.heap.size) => ⟨by omega, hb'.2⟩)) ⟨Nat.le_refl _, hsz⟩ (Nat.le_refl _) (by omega)
set_option maxHeartbeats 4000000 in
theorem eqFileS_same {v u : Value} {xs : List File} (w : World) (h : Rd.rd (Old w) w [v] xs) (h' : Rd.rd (Old w) w [u] xs) :
    Calls Tryz.prog 53 #[v, u] w fun e w' => e = .returned (.bool true) ∧ Below w.heap.size w w' := by
  obtain ⟨a, cap, hv, h1, h2, hc⟩ := h
  obtain rfl : v = .slice a xs.length cap := by simpa using hv
  obtain ⟨a', cap', hv', h1', h2', hc'⟩ := h'
  obtain rfl : u = .slice a' xs.length cap' := by simpa using hv'
  clear hv hv'
  go_enter Tryz.func53, Tryz.ntmps53
  go_wp2
  go_loopw [5] (fun i wr => ∃ k : Nat, k ≤ xs.length ∧ i = .int .i64 k ∧ Below w.heap.size w wr) (fun i _ => xs.length - (intOf i).toNat)
  case atStart => exact ⟨0, Nat.zero_le _, rfl, Below.refl _ _⟩
  case round =>
    obtain ⟨k, hk, rfl, hb⟩ := hrel
    by_cases hlt : k < xs.length
    · skip
      obtain ⟨b, off, rfl, hB, hrow⟩ := hc (by omega)
      obtain ⟨cs, hcell, hx⟩ := hrow k hlt
      obtain ⟨hcs, f0, f1⟩ := rdFile hx
      subst hcs
      have t0 : wr.cell? ⟨b, off + k * 2, none⟩ = some (.string xs[k].name) := (hb.cell (p := ⟨b, off + k * 2, none⟩) hB).trans (hcell 0 (by decide))
      have t1 : wr.cell? ⟨b, off + k * 2 + 1, none⟩ = some (.string xs[k].text) := (hb.cell (p := ⟨b, off + k * 2 + 1, none⟩) hB).trans (hcell 1 (by decide))
      clear hrow hcell
      obtain ⟨b', off', rfl, hBq, hrowq⟩ := hc' (by omega)
      obtain ⟨csq, hcellq, hxq⟩ := hrowq k hlt
      obtain ⟨hcsq, qf0, qf1⟩ := rdFile hxq
      subst hcsq
      have tq0 : wr.cell? ⟨b', off' + k * 2, none⟩ = some (.string xs[k].name) := (hb.cell (p := ⟨b', off' + k * 2, none⟩) hBq).trans (hcellq 0 (by decide))
      have tq1 : wr.cell? ⟨b', off' + k * 2 + 1, none⟩ = some (.string xs[k].text) := (hb.cell (p := ⟨b', off' + k * 2 + 1, none⟩) hBq).trans (hcellq 1 (by decide))
      clear hrowq hcellq
      clear hc hc'
      have hx' := Rd.later hb hx
      have hqx' := Rd.later hb hxq
      have hi1 : (0 : Int) ≤ k := by omega
      have hi2 : (k : Int) < xs.length := by omega
      have hwr : wr.heap.size ≤ wr.heap.size := Nat.le_refl _
      go_wp2_with fail
      go_region_held3 (fun w' => w'.cell? ⟨b, off + k * 2, none⟩ = some (.string xs[k].name) ∧ w'.cell? ⟨b, off + k * 2 + 1, none⟩ = some (.string xs[k].text) ∧ w'.cell? ⟨b', off' + k * 2, none⟩ = some (.string xs[k].name) ∧ w'.cell? ⟨b', off' + k * 2 + 1, none⟩ = some (.string xs[k].text)) (simp [*])
        ((go_at_call 89; refine (eqFile_same _ (by exact Rd.later (by repeat' (first | (with_reducible exact Below.refl _ _) | (with_reducible refine Below.drew ?_))) hx') (by exact Rd.later (by repeat' (first | (with_reducible exact Below.refl _ _) | (with_reducible refine Below.drew ?_))) hqx')).mono ?_; rintro e w1 ⟨rfl, hb1⟩; have hk1 := keeps_cells hb1; have hbx := ext_trans (by repeat' (first | (with_reducible exact hb) | (with_reducible refine Below.drew ?_)) : Below w.heap.size w _) hb1))
      go_wp2
      go_roundw
      case rel => exact ⟨k + 1, by omega, by go_num, by repeat' (first | (with_reducible exact hbx) | (with_reducible refine Below.drew ?_))⟩
      case measure => simp [intOf]; omega
    · have : k = xs.length := by omega
      subst this
      clear hc hc'
      go_wp2
      go_ret
      exact ⟨rfl, hb⟩

end Go.Proofs.YtkmkencodcfloaaGreatDoor

namespace Go.Proofs.YtkmkencodcfloaaGreatDoor
open Go.RowKit
set_option linter.unusedVariables false
set_option linter.unusedSimpArgs false
theorem rdWorldT {S : Nat → Prop} {w : World} {cs : List Value} {x : WorldT} (h : Rd.rd S w cs x) : ∃ (a12 : Option Addr) (c12 : Nat), ∃ (a13 : Option Addr) (c13 : Nat), cs = [.int .i64 x.inp.tag, .string x.inp.fs, .string x.inp.rs, .string x.inp.ofs, .string x.inp.ors, .bool x.inp.head, .int .i64 x.out.tag, .string x.out.fs, .string x.out.rs, .string x.out.ofs, .string x.out.ors, .bool x.out.head, .slice a12 x.files.length c12, .slice a13 x.args.length c13] ∧ (-9223372036854775808 ≤ x.inp.tag ∧ x.inp.tag ≤ 9223372036854775807) ∧ (x.inp.fs.size ≤ 9223372036854775807) ∧ (x.inp.rs.size ≤ 9223372036854775807) ∧ (x.inp.ofs.size ≤ 9223372036854775807) ∧ (x.inp.ors.size ≤ 9223372036854775807) ∧ (-9223372036854775808 ≤ x.out.tag ∧ x.out.tag ≤ 9223372036854775807) ∧ (x.out.fs.size ≤ 9223372036854775807) ∧ (x.out.rs.size ≤ 9223372036854775807) ∧ (x.out.ofs.size ≤ 9223372036854775807) ∧ (x.out.ors.size ≤ 9223372036854775807) ∧ (Rd.rd S w [.slice a12 x.files.length c12] x.files) ∧ (Rd.rd S w [.slice a13 x.args.length c13] x.args) := by
  obtain ⟨_, _, rfl, ⟨_, _, rfl, ⟨rfl, h0⟩, ⟨_, _, rfl, ⟨rfl, h1⟩, ⟨_, _, rfl, ⟨rfl, h2⟩, ⟨_, _, rfl, ⟨rfl, h3⟩, ⟨_, _, rfl, ⟨rfl, h4⟩, rfl⟩⟩⟩⟩⟩, ⟨_, _, rfl, ⟨_, _, rfl, ⟨rfl, h6⟩, ⟨_, _, rfl, ⟨rfl, h7⟩, ⟨_, _, rfl, ⟨rfl, h8⟩, ⟨_, _, rfl, ⟨rfl, h9⟩, ⟨_, _, rfl, ⟨rfl, h10⟩, rfl⟩⟩⟩⟩⟩, ⟨_, _, rfl, h12, h13⟩⟩⟩ := h
  obtain ⟨a12, c12, e12⟩ := rdSlc h12
  subst e12
  obtain ⟨a13, c13, e13⟩ := rdSlc h13
  subst e13
  exact ⟨a12, c12, a13, c13, rfl, h0, h1, h2, h3, h4, h6, h7, h8, h9, h10, h12, h13⟩
theorem rdWorldT_mk {S : Nat → Prop} {w : World} {x : WorldT} {a12 : Option Addr} {c12 : Nat} {a13 : Option Addr} {c13 : Nat} (h0 : -9223372036854775808 ≤ x.inp.tag ∧ x.inp.tag ≤ 9223372036854775807) (h1 : x.inp.fs.size ≤ 9223372036854775807) (h2 : x.inp.rs.size ≤ 9223372036854775807) (h3 : x.inp.ofs.size ≤ 9223372036854775807) (h4 : x.inp.ors.size ≤ 9223372036854775807) (h5 : -9223372036854775808 ≤ x.out.tag ∧ x.out.tag ≤ 9223372036854775807) (h6 : x.out.fs.size ≤ 9223372036854775807) (h7 : x.out.rs.size ≤ 9223372036854775807) (h8 : x.out.ofs.size ≤ 9223372036854775807) (h9 : x.out.ors.size ≤ 9223372036854775807) (h10 : Rd.rd S w [.slice a12 x.files.length c12] x.files) (h11 : Rd.rd S w [.slice a13 x.args.length c13] x.args) : Rd.rd S w [.int .i64 x.inp.tag, .string x.inp.fs, .string x.inp.rs, .string x.inp.ofs, .string x.inp.ors, .bool x.inp.head, .int .i64 x.out.tag, .string x.out.fs, .string x.out.rs, .string x.out.ofs, .string x.out.ors, .bool x.out.head, .slice a12 x.files.length c12, .slice a13 x.args.length c13] x :=
  ⟨_, _, rfl, ⟨_, _, rfl, ⟨rfl, h0⟩, ⟨_, _, rfl, ⟨rfl, h1⟩, ⟨_, _, rfl, ⟨rfl, h2⟩, ⟨_, _, rfl, ⟨rfl, h3⟩, ⟨_, _, rfl, ⟨rfl, h4⟩, rfl⟩⟩⟩⟩⟩, ⟨_, _, rfl, ⟨_, _, rfl, ⟨rfl, h5⟩, ⟨_, _, rfl, ⟨rfl, h6⟩, ⟨_, _, rfl, ⟨rfl, h7⟩, ⟨_, _, rfl, ⟨rfl, h8⟩, ⟨_, _, rfl, ⟨rfl, h9⟩, rfl⟩⟩⟩⟩⟩, ⟨_, _, rfl, h10, h11⟩⟩⟩
instance : Sz WorldT := ⟨fun x => Sz.sz x.inp + Sz.sz x.out + Sz.sz x.files + Sz.sz x.args⟩
theorem rdJob {S : Nat → Prop} {w : World} {cs : List Value} {x : Job} (h : Rd.rd S w cs x) : ∃ (a12 : Option Addr) (c12 : Nat), ∃ (a13 : Option Addr) (c13 : Nat), cs = [.int .i64 x.world.inp.tag, .string x.world.inp.fs, .string x.world.inp.rs, .string x.world.inp.ofs, .string x.world.inp.ors, .bool x.world.inp.head, .int .i64 x.world.out.tag, .string x.world.out.fs, .string x.world.out.rs, .string x.world.out.ofs, .string x.world.out.ors, .bool x.world.out.head, .slice a12 x.world.files.length c12, .slice a13 x.world.args.length c13, .string x.source, .int .i64 x.fuel] ∧ (-9223372036854775808 ≤ x.world.inp.tag ∧ x.world.inp.tag ≤ 9223372036854775807) ∧ (x.world.inp.fs.size ≤ 9223372036854775807) ∧ (x.world.inp.rs.size ≤ 9223372036854775807) ∧ (x.world.inp.ofs.size ≤ 9223372036854775807) ∧ (x.world.inp.ors.size ≤ 9223372036854775807) ∧ (-9223372036854775808 ≤ x.world.out.tag ∧ x.world.out.tag ≤ 9223372036854775807) ∧ (x.world.out.fs.size ≤ 9223372036854775807) ∧ (x.world.out.rs.size ≤ 9223372036854775807) ∧ (x.world.out.ofs.size ≤ 9223372036854775807) ∧ (x.world.out.ors.size ≤ 9223372036854775807) ∧ (Rd.rd S w [.slice a12 x.world.files.length c12] x.world.files) ∧ (Rd.rd S w [.slice a13 x.world.args.length c13] x.world.args) ∧ (x.source.size ≤ 9223372036854775807) ∧ (-9223372036854775808 ≤ x.fuel ∧ x.fuel ≤ 9223372036854775807) := by
  obtain ⟨_, _, rfl, ⟨_, _, rfl, ⟨_, _, rfl, ⟨rfl, h0⟩, ⟨_, _, rfl, ⟨rfl, h1⟩, ⟨_, _, rfl, ⟨rfl, h2⟩, ⟨_, _, rfl, ⟨rfl, h3⟩, ⟨_, _, rfl, ⟨rfl, h4⟩, rfl⟩⟩⟩⟩⟩, ⟨_, _, rfl, ⟨_, _, rfl, ⟨rfl, h6⟩, ⟨_, _, rfl, ⟨rfl, h7⟩, ⟨_, _, rfl, ⟨rfl, h8⟩, ⟨_, _, rfl, ⟨rfl, h9⟩, ⟨_, _, rfl, ⟨rfl, h10⟩, rfl⟩⟩⟩⟩⟩, ⟨_, _, rfl, h12, h13⟩⟩⟩, ⟨_, _, rfl, ⟨rfl, h14⟩, ⟨rfl, h15⟩⟩⟩ := h
  obtain ⟨a12, c12, e12⟩ := rdSlc h12
  subst e12
  obtain ⟨a13, c13, e13⟩ := rdSlc h13
  subst e13
  exact ⟨a12, c12, a13, c13, rfl, h0, h1, h2, h3, h4, h6, h7, h8, h9, h10, h12, h13, h14, h15⟩
theorem rdJob_mk {S : Nat → Prop} {w : World} {x : Job} {a12 : Option Addr} {c12 : Nat} {a13 : Option Addr} {c13 : Nat} (h0 : -9223372036854775808 ≤ x.world.inp.tag ∧ x.world.inp.tag ≤ 9223372036854775807) (h1 : x.world.inp.fs.size ≤ 9223372036854775807) (h2 : x.world.inp.rs.size ≤ 9223372036854775807) (h3 : x.world.inp.ofs.size ≤ 9223372036854775807) (h4 : x.world.inp.ors.size ≤ 9223372036854775807) (h5 : -9223372036854775808 ≤ x.world.out.tag ∧ x.world.out.tag ≤ 9223372036854775807) (h6 : x.world.out.fs.size ≤ 9223372036854775807) (h7 : x.world.out.rs.size ≤ 9223372036854775807) (h8 : x.world.out.ofs.size ≤ 9223372036854775807) (h9 : x.world.out.ors.size ≤ 9223372036854775807) (h10 : Rd.rd S w [.slice a12 x.world.files.length c12] x.world.files) (h11 : Rd.rd S w [.slice a13 x.world.args.length c13] x.world.args) (h12 : x.source.size ≤ 9223372036854775807) (h13 : -9223372036854775808 ≤ x.fuel ∧ x.fuel ≤ 9223372036854775807) : Rd.rd S w [.int .i64 x.world.inp.tag, .string x.world.inp.fs, .string x.world.inp.rs, .string x.world.inp.ofs, .string x.world.inp.ors, .bool x.world.inp.head, .int .i64 x.world.out.tag, .string x.world.out.fs, .string x.world.out.rs, .string x.world.out.ofs, .string x.world.out.ors, .bool x.world.out.head, .slice a12 x.world.files.length c12, .slice a13 x.world.args.length c13, .string x.source, .int .i64 x.fuel] x :=
  ⟨_, _, rfl, ⟨_, _, rfl, ⟨_, _, rfl, ⟨rfl, h0⟩, ⟨_, _, rfl, ⟨rfl, h1⟩, ⟨_, _, rfl, ⟨rfl, h2⟩, ⟨_, _, rfl, ⟨rfl, h3⟩, ⟨_, _, rfl, ⟨rfl, h4⟩, rfl⟩⟩⟩⟩⟩, ⟨_, _, rfl, ⟨_, _, rfl, ⟨rfl, h5⟩, ⟨_, _, rfl, ⟨rfl, h6⟩, ⟨_, _, rfl, ⟨rfl, h7⟩, ⟨_, _, rfl, ⟨rfl, h8⟩, ⟨_, _, rfl, ⟨rfl, h9⟩, rfl⟩⟩⟩⟩⟩, ⟨_, _, rfl, h10, h11⟩⟩⟩, ⟨_, _, rfl, ⟨rfl, h12⟩, ⟨rfl, h13⟩⟩⟩
instance : Sz Job := ⟨fun x => Sz.sz x.world + x.source.size⟩
end Go.Proofs.YtkmkencodcfloaaGreatDoor

namespace Go.Proofs.YtkmkencodcfloaaGreatDoor
open Go.RowKit
set_option linter.unusedVariables false
set_option linter.unusedSimpArgs false
set_option maxHeartbeats 1000000 in
theorem szWorldT_any {cs : Array Value} {x : WorldT} (left : Int) (w : World) (h : Rd.rd (Old w) w cs.toList x) (h3 : 0 ≤ left) (h4 : left ≤ 1048576) :
    Calls Tryz.prog 18 #[.agg cs, .int .i64 left] w fun e w' => e = .returned (.int .i64 (szOut left (Sz.sz x))) ∧ Below w.heap.size w w' := by
  obtain ⟨a12, c12, a13, c13, hcs, f0, f1, f2, f3, f4, f6, f7, f8, f9, f10, f12, f13⟩ := rdWorldT h
  obtain rfl := arr_of_list hcs
  clear hcs
  have hsz : Sz.sz x = Sz.sz x.inp + Sz.sz x.out + Sz.sz x.files + Sz.sz x.args := rfl
  rw [hsz]; clear hsz
  generalize hg_inp : Sz.sz x.inp = n_inp
  have Hg_inp := hid hg_inp; clear hg_inp
  generalize hg_out : Sz.sz x.out = n_out
  have Hg_out := hid hg_out; clear hg_out
  generalize hg_files : Sz.sz x.files = n_files
  have Hg_files := hid hg_files; clear hg_files
  generalize hg_args : Sz.sz x.args = n_args
  have Hg_args := hid hg_args; clear hg_args
  by_cases k0 : (n_inp : Int) ≤ left
  · skip
    by_cases k1 : (n_inp : Int) + (n_out : Int) ≤ left
    · skip
      by_cases k2 : (n_inp : Int) + (n_out : Int) + (n_files : Int) ≤ left
      · skip
        by_cases k3 : (n_inp : Int) + (n_out : Int) + (n_files : Int) + (n_args : Int) ≤ left
        · skip
          go_enter Tryz.func18, Tryz.ntmps18
          go_wp2_with fail
          refine (szConf_any _ _ (by exact rdConf_mk f0 f1 f2 f3 f4) (by omega) (by omega)).mono ?_
          rintro e w1 ⟨rfl, hb0⟩
          rw [Hg_inp.out, szOut_val (by omega)]
          obtain ⟨hc0, hf0⟩ := bcell hb0
          have hl0 : w.heap.size < w1.heap.size := by have := hb0.size; (try simp at this); omega
          go_wp2_with fail
          refine (szConf_any _ _ (by exact rdConf_mk f6 f7 f8 f9 f10) (by omega) (by omega)).mono ?_
          rintro e w2 ⟨rfl, hb1⟩
          rw [Hg_out.out, szOut_val (by omega)]
          obtain ⟨hc1, hf1⟩ := bcell hb1
          have hl1 : w.heap.size < w2.heap.size := by have := hb1.size; (try simp at this); omega
          go_wp2_with fail
          refine (szFileS_any _ _ (by exact Rd.later (ext_trans (ext_trans (ext_alloc _ _) hb0) hb1) (f12)) (by omega) (by omega)).mono ?_
          rintro e w3 ⟨rfl, hb2⟩
          rw [Hg_files.out, szOut_val (by omega)]
          obtain ⟨hc2, hf2⟩ := bcell hb2
          have hl2 : w.heap.size < w3.heap.size := by have := hb2.size; (try simp at this); omega
          go_wp2_with fail
          refine (szStrs_any _ _ (by exact Rd.later (ext_trans (ext_trans (ext_trans (ext_alloc _ _) hb0) hb1) hb2) (f13)) (by omega) (by omega)).mono ?_
          rintro e w4 ⟨rfl, hb3⟩
          rw [Hg_args.out, szOut_val (by omega)]
          obtain ⟨hc3, hf3⟩ := bcell hb3
          have hl3 : w.heap.size < w4.heap.size := by have := hb3.size; (try simp at this); omega
          go_wp2
          go_ret
          exact ⟨end_int (by rw [szOut_val (by omega)] <;> omega), (ext_trans (ext_trans (ext_trans (ext_trans (ext_alloc _ _) hb0) hb1) hb2) hb3)⟩
        · skip
          go_enter Tryz.func18, Tryz.ntmps18
          go_wp2_with fail
          refine (szConf_any _ _ (by exact rdConf_mk f0 f1 f2 f3 f4) (by omega) (by omega)).mono ?_
          rintro e w1 ⟨rfl, hb0⟩
          rw [Hg_inp.out, szOut_val (by omega)]
          obtain ⟨hc0, hf0⟩ := bcell hb0
          have hl0 : w.heap.size < w1.heap.size := by have := hb0.size; (try simp at this); omega
          go_wp2_with fail
          refine (szConf_any _ _ (by exact rdConf_mk f6 f7 f8 f9 f10) (by omega) (by omega)).mono ?_
          rintro e w2 ⟨rfl, hb1⟩
          rw [Hg_out.out, szOut_val (by omega)]
          obtain ⟨hc1, hf1⟩ := bcell hb1
          have hl1 : w.heap.size < w2.heap.size := by have := hb1.size; (try simp at this); omega
          go_wp2_with fail
          refine (szFileS_any _ _ (by exact Rd.later (ext_trans (ext_trans (ext_alloc _ _) hb0) hb1) (f12)) (by omega) (by omega)).mono ?_
          rintro e w3 ⟨rfl, hb2⟩
          rw [Hg_files.out, szOut_val (by omega)]
          obtain ⟨hc2, hf2⟩ := bcell hb2
          have hl2 : w.heap.size < w3.heap.size := by have := hb2.size; (try simp at this); omega
          go_wp2_with fail
          refine (szStrs_any _ _ (by exact Rd.later (ext_trans (ext_trans (ext_trans (ext_alloc _ _) hb0) hb1) hb2) (f13)) (by omega) (by omega)).mono ?_
          rintro e w4 ⟨rfl, hb3⟩
          rw [Hg_args.out, szOut_bad (by omega)]
          obtain ⟨hc3, hf3⟩ := bcell hb3
          have hl3 : w.heap.size < w4.heap.size := by have := hb3.size; (try simp at this); omega
          go_wp2
          go_ret
          exact ⟨end_int (by rw [szOut_bad (by omega)]), (ext_trans (ext_trans (ext_trans (ext_trans (ext_alloc _ _) hb0) hb1) hb2) hb3)⟩
      · skip
        go_enter Tryz.func18, Tryz.ntmps18
        go_wp2_with fail
        refine (szConf_any _ _ (by exact rdConf_mk f0 f1 f2 f3 f4) (by omega) (by omega)).mono ?_
        rintro e w1 ⟨rfl, hb0⟩
        rw [Hg_inp.out, szOut_val (by omega)]
        obtain ⟨hc0, hf0⟩ := bcell hb0
        have hl0 : w.heap.size < w1.heap.size := by have := hb0.size; (try simp at this); omega
        go_wp2_with fail
        refine (szConf_any _ _ (by exact rdConf_mk f6 f7 f8 f9 f10) (by omega) (by omega)).mono ?_
        rintro e w2 ⟨rfl, hb1⟩
        rw [Hg_out.out, szOut_val (by omega)]
        obtain ⟨hc1, hf1⟩ := bcell hb1
        have hl1 : w.heap.size < w2.heap.size := by have := hb1.size; (try simp at this); omega
        go_wp2_with fail
        refine (szFileS_any _ _ (by exact Rd.later (ext_trans (ext_trans (ext_alloc _ _) hb0) hb1) (f12)) (by omega) (by omega)).mono ?_
        rintro e w3 ⟨rfl, hb2⟩
        rw [Hg_files.out, szOut_bad (by omega)]
        obtain ⟨hc2, hf2⟩ := bcell hb2
        have hl2 : w.heap.size < w3.heap.size := by have := hb2.size; (try simp at this); omega
        go_wp2
        go_ret
        exact ⟨end_int (by rw [szOut_bad (by omega)]), (ext_trans (ext_trans (ext_trans (ext_alloc _ _) hb0) hb1) hb2)⟩
    · skip
      go_enter Tryz.func18, Tryz.ntmps18
      go_wp2_with fail
      refine (szConf_any _ _ (by exact rdConf_mk f0 f1 f2 f3 f4) (by omega) (by omega)).mono ?_
      rintro e w1 ⟨rfl, hb0⟩
      rw [Hg_inp.out, szOut_val (by omega)]
      obtain ⟨hc0, hf0⟩ := bcell hb0
      have hl0 : w.heap.size < w1.heap.size := by have := hb0.size; (try simp at this); omega
      go_wp2_with fail
      refine (szConf_any _ _ (by exact rdConf_mk f6 f7 f8 f9 f10) (by omega) (by omega)).mono ?_
      rintro e w2 ⟨rfl, hb1⟩
      rw [Hg_out.out, szOut_bad (by omega)]
      obtain ⟨hc1, hf1⟩ := bcell hb1
      have hl1 : w.heap.size < w2.heap.size := by have := hb1.size; (try simp at this); omega
      go_wp2
      go_ret
      exact ⟨end_int (by rw [szOut_bad (by omega)]), (ext_trans (ext_trans (ext_alloc _ _) hb0) hb1)⟩
  · skip
    go_enter Tryz.func18, Tryz.ntmps18
    go_wp2_with fail
    refine (szConf_any _ _ (by exact rdConf_mk f0 f1 f2 f3 f4) (by omega) (by omega)).mono ?_
    rintro e w1 ⟨rfl, hb0⟩
    rw [Hg_inp.out, szOut_bad (by omega)]
    obtain ⟨hc0, hf0⟩ := bcell hb0
    have hl0 : w.heap.size < w1.heap.size := by have := hb0.size; (try simp at this); omega
    go_wp2
    go_ret
    exact ⟨end_int (by rw [szOut_bad (by omega)]), (ext_trans (ext_alloc _ _) hb0)⟩
set_option maxHeartbeats 16000000 in
theorem toWorldT_any {cs : Array Value} {x : WorldT} (w : World) (h : Rd.rd (Old w) w cs.toList x) (hn : Sz.sz x ≤ 1048576) :
    Calls Tryz.prog 23 #[.agg cs] w fun e w' => ∃ cs' : Array Value, e = .returned (.agg cs') ∧ Rd.rd (New w.heap.size w') w' cs'.toList x ∧ Below w.heap.size w w' := by
  obtain ⟨a12, c12, a13, c13, hcs, f0, f1, f2, f3, f4, f6, f7, f8, f9, f10, f12, f13⟩ := rdWorldT h
  obtain rfl := arr_of_list hcs
  clear hcs h
  have hn_inp : Sz.sz x.inp ≤ 1048576 := Nat.le_trans (by show _ ≤ Sz.sz x.inp + Sz.sz x.out + Sz.sz x.files + Sz.sz x.args; omega) hn
  have hn_out : Sz.sz x.out ≤ 1048576 := Nat.le_trans (by show _ ≤ Sz.sz x.inp + Sz.sz x.out + Sz.sz x.files + Sz.sz x.args; omega) hn
  have hn_files : Sz.sz x.files ≤ 1048576 := Nat.le_trans (by show _ ≤ Sz.sz x.inp + Sz.sz x.out + Sz.sz x.files + Sz.sz x.args; omega) hn
  have hn_args : Sz.sz x.args ≤ 1048576 := Nat.le_trans (by show _ ≤ Sz.sz x.inp + Sz.sz x.out + Sz.sz x.files + Sz.sz x.args; omega) hn
  have HN := hid hn
  clear hn
  go_enter Tryz.func23, Tryz.ntmps23
  go_wp2_with fail
  refine (toConf_any _ (by exact rdConf_mk f0 f1 f2 f3 f4) hn_inp).mono ?_
  rintro e w1 ⟨r0, rfl, hr0, hb0⟩
  obtain ⟨hcs0, r0_f0, r0_f1, r0_f2, r0_f3, r0_f4⟩ := rdConf hr0
  obtain rfl := arr_of_list hcs0
  clear hcs0
  have hB1 : Below w.heap.size w w1 := ext_trans (by repeat' (first | (with_reducible exact Below.refl _ _) | (with_reducible refine Below.setCell ?_ ?_ _) | (with_reducible refine Below.alloc ?_ ?_ _) | (simp; done) | (simp; omega) | omega)) hb0
  obtain ⟨hc0, hf0⟩ := bcell hb0
  have hl0 : w.heap.size + 1 + 1 < w1.heap.size := by have := hb0.size; (try simp at this); omega
  have hl0' : w.heap.size + 1 < w1.heap.size := by omega
  have hl0'' : w.heap.size < w1.heap.size := by omega
  go_wp2_with fail
  refine (toConf_any _ (by exact rdConf_mk f6 f7 f8 f9 f10) hn_out).mono ?_
  rintro e w2 ⟨r1, rfl, hr1, hb1⟩
  obtain ⟨hcs1, r1_f0, r1_f1, r1_f2, r1_f3, r1_f4⟩ := rdConf hr1
  obtain rfl := arr_of_list hcs1
  clear hcs1
  have hB2 : Below w.heap.size w w2 := ext_trans (by repeat' (first | (with_reducible exact hB1) | (with_reducible exact Below.refl _ _) | (with_reducible refine Below.setCell ?_ ?_ _) | (with_reducible refine Below.alloc ?_ ?_ _) | (simp; done) | (simp; omega) | omega)) hb1
  obtain ⟨hc1, hf1⟩ := bcell hb1
  have hl1 : w.heap.size + 1 + 1 < w2.heap.size := by have := hb1.size; (try simp at this); omega
  have hl1' : w.heap.size + 1 < w2.heap.size := by omega
  have hl1'' : w.heap.size < w2.heap.size := by omega
  go_wp2_with fail
  refine (toFileS_any _ (by exact Rd.later (by repeat' (first | (with_reducible exact hB2) | (with_reducible exact hB1) | (with_reducible exact Below.refl _ _) | (with_reducible refine Below.setCell ?_ ?_ _) | (with_reducible refine Below.alloc ?_ ?_ _) | (simp; done) | (simp; omega) | omega)) (f12)) hn_files).mono ?_
  rintro e w3 ⟨r2, rfl, hr2, hb2⟩
  obtain ⟨r2_a, r2_c, e2⟩ := rdSlc hr2
  obtain rfl : r2 = .slice r2_a x.files.length r2_c := by simpa using e2
  clear e2
  have hB3 : Below w.heap.size w w3 := ext_trans (by repeat' (first | (with_reducible exact hB2) | (with_reducible exact hB1) | (with_reducible exact Below.refl _ _) | (with_reducible refine Below.setCell ?_ ?_ _) | (with_reducible refine Below.alloc ?_ ?_ _) | (simp; done) | (simp; omega) | omega)) hb2
  obtain ⟨hc2, hf2⟩ := bcell hb2
  have hl2 : w.heap.size + 1 + 1 < w3.heap.size := by have := hb2.size; (try simp at this); omega
  have hl2' : w.heap.size + 1 < w3.heap.size := by omega
  have hl2'' : w.heap.size < w3.heap.size := by omega
  go_wp2_with fail
  refine (toStrs_any _ (by exact Rd.later (by repeat' (first | (with_reducible exact hB3) | (with_reducible exact hB2) | (with_reducible exact hB1) | (with_reducible exact Below.refl _ _) | (with_reducible refine Below.setCell ?_ ?_ _) | (with_reducible refine Below.alloc ?_ ?_ _) | (simp; done) | (simp; omega) | omega)) (f13)) hn_args).mono ?_
  rintro e w4 ⟨r3, rfl, hr3, hb3⟩
  obtain ⟨r3_a, r3_c, e3⟩ := rdSlc hr3
  obtain rfl : r3 = .slice r3_a x.args.length r3_c := by simpa using e3
  clear e3
  have hB4 : Below w.heap.size w w4 := ext_trans (by repeat' (first | (with_reducible exact hB3) | (with_reducible exact hB2) | (with_reducible exact hB1) | (with_reducible exact Below.refl _ _) | (with_reducible refine Below.setCell ?_ ?_ _) | (with_reducible refine Below.alloc ?_ ?_ _) | (simp; done) | (simp; omega) | omega)) hb3
  obtain ⟨hc3, hf3⟩ := bcell hb3
  have hl3 : w.heap.size + 1 + 1 < w4.heap.size := by have := hb3.size; (try simp at this); omega
  have hl3' : w.heap.size + 1 < w4.heap.size := by omega
  have hl3'' : w.heap.size < w4.heap.size := by omega
  have ez : (w.alloc (.cells #[.int .i64 x.inp.tag, .string x.inp.fs, .string x.inp.rs, .string x.inp.ofs, .string x.inp.ors, .bool x.inp.head, .int .i64 x.out.tag, .string x.out.fs, .string x.out.rs, .string x.out.ofs, .string x.out.ors, .bool x.out.head, .slice a12 x.files.length c12, .slice a13 x.args.length c13] 27)).heap.size = w.heap.size + 1 := by simp
  have Z0 : ((w.alloc (.cells #[.int .i64 x.inp.tag, .string x.inp.fs, .string x.inp.rs, .string x.inp.ofs, .string x.inp.ors, .bool x.inp.head, .int .i64 x.out.tag, .string x.out.fs, .string x.out.rs, .string x.out.ofs, .string x.out.ors, .bool x.out.head, .slice a12 x.files.length c12, .slice a13 x.args.length c13] 27)).alloc (.cells ([.int .i64 0, .string ⟨#[]⟩, .string ⟨#[]⟩, .string ⟨#[]⟩, .string ⟨#[]⟩, .bool false, .int .i64 0, .string ⟨#[]⟩, .string ⟨#[]⟩, .string ⟨#[]⟩, .string ⟨#[]⟩, .bool false, .slice none 0 0, .slice none 0 0] : List Value).toArray 35 (0, 0))).heap[w.heap.size + 1]? = some (.cells ([.int .i64 0, .string ⟨#[]⟩, .string ⟨#[]⟩, .string ⟨#[]⟩, .string ⟨#[]⟩, .bool false, .int .i64 0, .string ⟨#[]⟩, .string ⟨#[]⟩, .string ⟨#[]⟩, .string ⟨#[]⟩, .bool false, .slice none 0 0, .slice none 0 0] : List Value).toArray 35 (0, 0)) := by rw [← ez]; exact heap_alloc_new _ _
  have hne1 : w.heap.size + 1 ≠ w.heap.size + 1 + 1 := by omega
  have Z1 : w1.heap[w.heap.size + 1]? = some (.cells ([.int .i64 0, .string ⟨#[]⟩, .string ⟨#[]⟩, .string ⟨#[]⟩, .string ⟨#[]⟩, .bool false, .int .i64 0, .string ⟨#[]⟩, .string ⟨#[]⟩, .string ⟨#[]⟩, .string ⟨#[]⟩, .bool false, .slice none 0 0, .slice none 0 0] : List Value).toArray 35 (0, 0)) := blk_stay (by exact (blk_alloc Z0 _)) hb0
  have Z2 : w2.heap[w.heap.size + 1]? = some (.cells ([.int .i64 0, .string ⟨#[]⟩, .string ⟨#[]⟩, .string ⟨#[]⟩, .string ⟨#[]⟩, .bool false, .int .i64 0, .string ⟨#[]⟩, .string ⟨#[]⟩, .string ⟨#[]⟩, .string ⟨#[]⟩, .bool false, .slice none 0 0, .slice none 0 0] : List Value).toArray 35 (0, 0)) := blk_stay (by refine blk_set ?_ hne1 _; refine blk_set ?_ hne1 _; refine blk_set ?_ hne1 _; refine blk_set ?_ hne1 _; refine blk_set ?_ hne1 _; refine blk_set ?_ hne1 _; exact Z1) hb1
  have Z3 : w3.heap[w.heap.size + 1]? = some (.cells ([.int .i64 0, .string ⟨#[]⟩, .string ⟨#[]⟩, .string ⟨#[]⟩, .string ⟨#[]⟩, .bool false, .int .i64 0, .string ⟨#[]⟩, .string ⟨#[]⟩, .string ⟨#[]⟩, .string ⟨#[]⟩, .bool false, .slice none 0 0, .slice none 0 0] : List Value).toArray 35 (0, 0)) := blk_stay (by refine blk_set ?_ hne1 _; refine blk_set ?_ hne1 _; refine blk_set ?_ hne1 _; refine blk_set ?_ hne1 _; refine blk_set ?_ hne1 _; refine blk_set ?_ hne1 _; exact Z2) hb2
  have Z4 : w4.heap[w.heap.size + 1]? = some (.cells ([.int .i64 0, .string ⟨#[]⟩, .string ⟨#[]⟩, .string ⟨#[]⟩, .string ⟨#[]⟩, .bool false, .int .i64 0, .string ⟨#[]⟩, .string ⟨#[]⟩, .string ⟨#[]⟩, .string ⟨#[]⟩, .bool false, .slice none 0 0, .slice none 0 0] : List Value).toArray 35 (0, 0)) := blk_stay (by refine blk_set ?_ hne1 _; exact Z3) hb3
  have ZF : ((w4).setCell ⟨w.heap.size + 1 + 1, 13, none⟩ (.slice r3_a x.args.length r3_c)).heap[w.heap.size + 1]? = some (.cells ([.int .i64 0, .string ⟨#[]⟩, .string ⟨#[]⟩, .string ⟨#[]⟩, .string ⟨#[]⟩, .bool false, .int .i64 0, .string ⟨#[]⟩, .string ⟨#[]⟩, .string ⟨#[]⟩, .string ⟨#[]⟩, .bool false, .slice none 0 0, .slice none 0 0] : List Value).toArray 35 (0, 0)) := by refine blk_set ?_ hne1 _; exact Z4
  have FB := (setAll_block [.int .i64 x.inp.tag, .string x.inp.fs, .string x.inp.rs, .string x.inp.ofs, .string x.inp.ors, .bool x.inp.head, .int .i64 x.out.tag, .string x.out.fs, .string x.out.rs, .string x.out.ofs, .string x.out.ors, .bool x.out.head, .slice r2_a x.files.length r2_c, .slice r3_a x.args.length r3_c] ((w4).setCell ⟨w.heap.size + 1 + 1, 13, none⟩ (.slice r3_a x.args.length r3_c)) (w.heap.size + 1) 0 0 [] [.int .i64 0, .string ⟨#[]⟩, .string ⟨#[]⟩, .string ⟨#[]⟩, .string ⟨#[]⟩, .bool false, .int .i64 0, .string ⟨#[]⟩, .string ⟨#[]⟩, .string ⟨#[]⟩, .string ⟨#[]⟩, .bool false, .slice none 0 0, .slice none 0 0] [] 35 ZF rfl rfl).1
  obtain ⟨wF, hwF⟩ : ∃ W', setAll ((w4).setCell ⟨w.heap.size + 1 + 1, 13, none⟩ (.slice r3_a x.args.length r3_c)) (w.heap.size + 1) 0 0 [.int .i64 x.inp.tag, .string x.inp.fs, .string x.inp.rs, .string x.inp.ofs, .string x.inp.ors, .bool x.inp.head, .int .i64 x.out.tag, .string x.out.fs, .string x.out.rs, .string x.out.ofs, .string x.out.ors, .bool x.out.head, .slice r2_a x.files.length r2_c, .slice r3_a x.args.length r3_c] = W' := ⟨_, rfl⟩
  rw [hwF] at FB
  have F0 : wF.cell? ⟨w.heap.size + 1, 0, none⟩ = some (.int .i64 x.inp.tag) := cell_of_block FB
  have F1 : wF.cell? ⟨w.heap.size + 1, 1, none⟩ = some (.string x.inp.fs) := cell_of_block FB
  have F2 : wF.cell? ⟨w.heap.size + 1, 2, none⟩ = some (.string x.inp.rs) := cell_of_block FB
  have F3 : wF.cell? ⟨w.heap.size + 1, 3, none⟩ = some (.string x.inp.ofs) := cell_of_block FB
  have F4 : wF.cell? ⟨w.heap.size + 1, 4, none⟩ = some (.string x.inp.ors) := cell_of_block FB
  have F5 : wF.cell? ⟨w.heap.size + 1, 5, none⟩ = some (.bool x.inp.head) := cell_of_block FB
  have F6 : wF.cell? ⟨w.heap.size + 1, 6, none⟩ = some (.int .i64 x.out.tag) := cell_of_block FB
  have F7 : wF.cell? ⟨w.heap.size + 1, 7, none⟩ = some (.string x.out.fs) := cell_of_block FB
  have F8 : wF.cell? ⟨w.heap.size + 1, 8, none⟩ = some (.string x.out.rs) := cell_of_block FB
  have F9 : wF.cell? ⟨w.heap.size + 1, 9, none⟩ = some (.string x.out.ofs) := cell_of_block FB
  have F10 : wF.cell? ⟨w.heap.size + 1, 10, none⟩ = some (.string x.out.ors) := cell_of_block FB
  have F11 : wF.cell? ⟨w.heap.size + 1, 11, none⟩ = some (.bool x.out.head) := cell_of_block FB
  have F12 : wF.cell? ⟨w.heap.size + 1, 12, none⟩ = some (.slice r2_a x.files.length r2_c) := cell_of_block FB
  have F13 : wF.cell? ⟨w.heap.size + 1, 13, none⟩ = some (.slice r3_a x.args.length r3_c) := cell_of_block FB
  have HFB := hid FB
  have HWF := hid hwF
  clear FB ZF Z0 Z1 Z2 Z3 Z4 ez hwF
  go_wp2
  change bodyPost _ _ _ _ _ (setAll ((w4).setCell ⟨w.heap.size + 1 + 1, 13, none⟩ (.slice r3_a x.args.length r3_c)) (w.heap.size + 1) 0 0 [.int .i64 x.inp.tag, .string x.inp.fs, .string x.inp.rs, .string x.inp.ofs, .string x.inp.ors, .bool x.inp.head, .int .i64 x.out.tag, .string x.out.fs, .string x.out.rs, .string x.out.ofs, .string x.out.ors, .bool x.out.head, .slice r2_a x.files.length r2_c, .slice r3_a x.args.length r3_c])
  rw [HWF.out]
  refine bodyPost_ret (v := .agg #[.int .i64 x.inp.tag, .string x.inp.fs, .string x.inp.rs, .string x.inp.ofs, .string x.inp.ors, .bool x.inp.head, .int .i64 x.out.tag, .string x.out.fs, .string x.out.rs, .string x.out.ofs, .string x.out.ors, .bool x.out.head, .slice r2_a x.files.length r2_c, .slice r3_a x.args.length r3_c]) (by simp [results, Tryz.results23, go_sem, F0, F1, F2, F3, F4, F5, F6, F7, F8, F9, F10, F11, F12, F13]) rfl ⟨_, rfl, ?_, ?_⟩
  · exact rdWorldT_mk f0 f1 f2 f3 f4 f6 f7 f8 f9 f10 (Keeps.rd (by rw [← HWF.out]; refine keeps_setAll _ _ _ ?_ ?_; repeat' (first | (with_reducible exact Keeps.refl _ _) | (with_reducible refine Keeps.call ?_ hb3) | (with_reducible refine Keeps.set ?_ ?_ _) | (with_reducible refine Keeps.alloc ?_ _) | (simp; done) | (simp; omega) | omega)) (by first | (simp; done) | (simp; omega) | omega) hr2) (Keeps.rd (by rw [← HWF.out]; refine keeps_setAll _ _ _ ?_ ?_; repeat' (first | (with_reducible exact Keeps.refl _ _) | (with_reducible refine Keeps.set ?_ ?_ _) | (with_reducible refine Keeps.alloc ?_ _) | (simp; done) | (simp; omega) | omega)) (by first | (simp; done) | (simp; omega) | omega) hr3)
  · exact (by rw [← HWF.out]; refine below_setAll _ _ _ ?_ ?_; repeat' (first | (with_reducible exact hB4) | (with_reducible exact hB3) | (with_reducible exact hB2) | (with_reducible exact hB1) | (with_reducible exact Below.refl _ _) | (with_reducible refine Below.setCell ?_ ?_ _) | (with_reducible refine Below.alloc ?_ ?_ _) | (simp; done) | (simp; omega) | omega))
set_option maxHeartbeats 2000000 in
theorem eqWorldT_same {cs cs' : Array Value} {x : WorldT} (w : World) (h : Rd.rd (Old w) w cs.toList x) (h' : Rd.rd (Old w) w cs'.toList x) :
    Calls Tryz.prog 25 #[.agg cs, .agg cs'] w fun e w' => e = .returned (.bool true) ∧ Below w.heap.size w w' := by
  obtain ⟨a12, c12, a13, c13, hcs, f0, f1, f2, f3, f4, f6, f7, f8, f9, f10, f12, f13⟩ := rdWorldT h
  obtain rfl := arr_of_list hcs
  obtain ⟨ga12, gc12, ga13, gc13, hcs', gf0, gf1, gf2, gf3, gf4, gf6, gf7, gf8, gf9, gf10, gf12, gf13⟩ := rdWorldT h'
  obtain rfl := arr_of_list hcs'
  clear hcs hcs' h h'
  go_enter Tryz.func25, Tryz.ntmps25
  go_wp2_with fail
  refine (eqConf_same _ (by exact rdConf_mk f0 f1 f2 f3 f4) (by exact rdConf_mk gf0 gf1 gf2 gf3 gf4)).mono ?_
  rintro e w1 ⟨rfl, hb0⟩
  have hB1 : Below w.heap.size w w1 := ext_trans (by repeat' (first | (with_reducible exact Below.refl _ _) | (with_reducible refine Below.setCell ?_ ?_ _) | (with_reducible refine Below.alloc ?_ ?_ _) | (simp; done) | (simp; omega) | omega)) hb0
  obtain ⟨hc0, hf0⟩ := bcell hb0
  have hl0 : w.heap.size + 1 < w1.heap.size := by have := hb0.size; (try simp at this); omega
  have hl0' : w.heap.size < w1.heap.size := by omega
  go_wp2_with fail
  refine (eqConf_same _ (by exact rdConf_mk f6 f7 f8 f9 f10) (by exact rdConf_mk gf6 gf7 gf8 gf9 gf10)).mono ?_
  rintro e w2 ⟨rfl, hb1⟩
  have hB2 : Below w.heap.size w w2 := ext_trans (by repeat' (first | (with_reducible exact hB1) | (with_reducible exact Below.refl _ _) | (with_reducible refine Below.setCell ?_ ?_ _) | (with_reducible refine Below.alloc ?_ ?_ _) | (simp; done) | (simp; omega) | omega)) hb1
  obtain ⟨hc1, hf1⟩ := bcell hb1
  have hl1 : w.heap.size + 1 < w2.heap.size := by have := hb1.size; (try simp at this); omega
  have hl1' : w.heap.size < w2.heap.size := by omega
  go_wp2_with fail
  refine (eqFileS_same _ (by exact Rd.later (by repeat' (first | (with_reducible exact hB2) | (with_reducible exact hB1) | (with_reducible exact Below.refl _ _) | (with_reducible refine Below.setCell ?_ ?_ _) | (with_reducible refine Below.alloc ?_ ?_ _) | (simp; done) | (simp; omega) | omega)) f12) (by exact Rd.later (by repeat' (first | (with_reducible exact hB2) | (with_reducible exact hB1) | (with_reducible exact Below.refl _ _) | (with_reducible refine Below.setCell ?_ ?_ _) | (with_reducible refine Below.alloc ?_ ?_ _) | (simp; done) | (simp; omega) | omega)) gf12)).mono ?_
  rintro e w3 ⟨rfl, hb2⟩
  have hB3 : Below w.heap.size w w3 := ext_trans (by repeat' (first | (with_reducible exact hB2) | (with_reducible exact hB1) | (with_reducible exact Below.refl _ _) | (with_reducible refine Below.setCell ?_ ?_ _) | (with_reducible refine Below.alloc ?_ ?_ _) | (simp; done) | (simp; omega) | omega)) hb2
  obtain ⟨hc2, hf2⟩ := bcell hb2
  have hl2 : w.heap.size + 1 < w3.heap.size := by have := hb2.size; (try simp at this); omega
  have hl2' : w.heap.size < w3.heap.size := by omega
  go_wp2_with fail
  refine (eqStrs_same _ (by exact Rd.later (by repeat' (first | (with_reducible exact hB3) | (with_reducible exact hB2) | (with_reducible exact hB1) | (with_reducible exact Below.refl _ _) | (with_reducible refine Below.setCell ?_ ?_ _) | (with_reducible refine Below.alloc ?_ ?_ _) | (simp; done) | (simp; omega) | omega)) f13) (by exact Rd.later (by repeat' (first | (with_reducible exact hB3) | (with_reducible exact hB2) | (with_reducible exact hB1) | (with_reducible exact Below.refl _ _) | (with_reducible refine Below.setCell ?_ ?_ _) | (with_reducible refine Below.alloc ?_ ?_ _) | (simp; done) | (simp; omega) | omega)) gf13)).mono ?_
  rintro e w4 ⟨rfl, hb3⟩
  have hB4 : Below w.heap.size w w4 := ext_trans (by repeat' (first | (with_reducible exact hB3) | (with_reducible exact hB2) | (with_reducible exact hB1) | (with_reducible exact Below.refl _ _) | (with_reducible refine Below.setCell ?_ ?_ _) | (with_reducible refine Below.alloc ?_ ?_ _) | (simp; done) | (simp; omega) | omega)) hb3
  obtain ⟨hc3, hf3⟩ := bcell hb3
  have hl3 : w.heap.size + 1 < w4.heap.size := by have := hb3.size; (try simp at this); omega
  have hl3' : w.heap.size < w4.heap.size := by omega
  go_wp2
  go_ret
  exact ⟨rfl, (by repeat' (first | (with_reducible exact hB4) | (with_reducible exact hB3) | (with_reducible exact hB2) | (with_reducible exact hB1) | (with_reducible exact Below.refl _ _) | (with_reducible refine Below.setCell ?_ ?_ _) | (with_reducible refine Below.alloc ?_ ?_ _) | (simp; done) | (simp; omega) | omega))⟩

set_option maxHeartbeats 1000000 in
theorem szJob_any {cs : Array Value} {x : Job} (left : Int) (w : World) (h : Rd.rd (Old w) w cs.toList x) (h3 : 0 ≤ left) (h4 : left ≤ 1048576) :
    Calls Tryz.prog 6 #[.agg cs, .int .i64 left] w fun e w' => e = .returned (.int .i64 (szOut left (Sz.sz x))) ∧ Below w.heap.size w w' := by
  obtain ⟨a12, c12, a13, c13, hcs, f0, f1, f2, f3, f4, f6, f7, f8, f9, f10, f12, f13, f14, f15⟩ := rdJob h
  obtain rfl := arr_of_list hcs
  clear hcs
  have hsz : Sz.sz x = Sz.sz x.world + x.source.size := rfl
  rw [hsz]; clear hsz
  generalize hg_world : Sz.sz x.world = n_world
  have Hg_world := hid hg_world; clear hg_world
  by_cases k0 : (n_world : Int) ≤ left
  · skip
    by_cases k1 : (n_world : Int) + (x.source.size : Int) ≤ left
    · skip
      go_enter Tryz.func6, Tryz.ntmps6
      go_wp2_with fail
      refine (szWorldT_any _ _ (by exact Rd.later (ext_alloc _ _) (rdWorldT_mk f0 f1 f2 f3 f4 f6 f7 f8 f9 f10 f12 f13)) (by omega) (by omega)).mono ?_
      rintro e w1 ⟨rfl, hb0⟩
      rw [Hg_world.out, szOut_val (by omega)]
      obtain ⟨hc0, hf0⟩ := bcell hb0
      have hl0 : w.heap.size < w1.heap.size := by have := hb0.size; (try simp at this); omega
      go_wp2
      go_ret
      exact ⟨end_int (by rw [szOut_val (by omega)] <;> omega), (ext_trans (ext_alloc _ _) hb0)⟩
    · skip
      go_enter Tryz.func6, Tryz.ntmps6
      go_wp2_with fail
      refine (szWorldT_any _ _ (by exact Rd.later (ext_alloc _ _) (rdWorldT_mk f0 f1 f2 f3 f4 f6 f7 f8 f9 f10 f12 f13)) (by omega) (by omega)).mono ?_
      rintro e w1 ⟨rfl, hb0⟩
      rw [Hg_world.out, szOut_val (by omega)]
      obtain ⟨hc0, hf0⟩ := bcell hb0
      have hl0 : w.heap.size < w1.heap.size := by have := hb0.size; (try simp at this); omega
      go_wp2
      go_ret
      exact ⟨end_int (by rw [szOut_bad (by omega)]), (ext_trans (ext_alloc _ _) hb0)⟩
  · skip
    go_enter Tryz.func6, Tryz.ntmps6
    go_wp2_with fail
    refine (szWorldT_any _ _ (by exact Rd.later (ext_alloc _ _) (rdWorldT_mk f0 f1 f2 f3 f4 f6 f7 f8 f9 f10 f12 f13)) (by omega) (by omega)).mono ?_
    rintro e w1 ⟨rfl, hb0⟩
    rw [Hg_world.out, szOut_bad (by omega)]
    obtain ⟨hc0, hf0⟩ := bcell hb0
    have hl0 : w.heap.size < w1.heap.size := by have := hb0.size; (try simp at this); omega
    go_wp2
    go_ret
    exact ⟨end_int (by rw [szOut_bad (by omega)]), (ext_trans (ext_alloc _ _) hb0)⟩
set_option maxHeartbeats 16000000 in
theorem toJob_any {cs : Array Value} {x : Job} (w : World) (h : Rd.rd (Old w) w cs.toList x) (hn : Sz.sz x ≤ 1048576) :
    Calls Tryz.prog 8 #[.agg cs] w fun e w' => ∃ cs' : Array Value, e = .returned (.agg cs') ∧ Rd.rd (New w.heap.size w') w' cs'.toList x ∧ Below w.heap.size w w' := by
  obtain ⟨a12, c12, a13, c13, hcs, f0, f1, f2, f3, f4, f6, f7, f8, f9, f10, f12, f13, f14, f15⟩ := rdJob h
  obtain rfl := arr_of_list hcs
  clear hcs h
  have hn_world : Sz.sz x.world ≤ 1048576 := Nat.le_trans (by show _ ≤ Sz.sz x.world + x.source.size; omega) hn
  have HN := hid hn
  clear hn
  go_enter Tryz.func8, Tryz.ntmps8
  go_wp2_with fail
  refine (toWorldT_any _ (by exact Rd.later (by repeat' (first | (with_reducible exact Below.refl _ _) | (with_reducible refine Below.setCell ?_ ?_ _) | (with_reducible refine Below.alloc ?_ ?_ _) | (simp; done) | (simp; omega) | omega)) (rdWorldT_mk f0 f1 f2 f3 f4 f6 f7 f8 f9 f10 f12 f13)) hn_world).mono ?_
  rintro e w1 ⟨r0, rfl, hr0, hb0⟩
  obtain ⟨r0_a12, r0_c12, r0_a13, r0_c13, hcs0, r0_f0, r0_f1, r0_f2, r0_f3, r0_f4, r0_f6, r0_f7, r0_f8, r0_f9, r0_f10, r0_f12, r0_f13⟩ := rdWorldT hr0
  obtain rfl := arr_of_list hcs0
  clear hcs0
  have hB1 : Below w.heap.size w w1 := ext_trans (by repeat' (first | (with_reducible exact Below.refl _ _) | (with_reducible refine Below.setCell ?_ ?_ _) | (with_reducible refine Below.alloc ?_ ?_ _) | (simp; done) | (simp; omega) | omega)) hb0
  obtain ⟨hc0, hf0⟩ := bcell hb0
  have hl0 : w.heap.size + 1 + 1 < w1.heap.size := by have := hb0.size; (try simp at this); omega
  have hl0' : w.heap.size + 1 < w1.heap.size := by omega
  have hl0'' : w.heap.size < w1.heap.size := by omega
  have ez : (w.alloc (.cells #[.int .i64 x.world.inp.tag, .string x.world.inp.fs, .string x.world.inp.rs, .string x.world.inp.ofs, .string x.world.inp.ors, .bool x.world.inp.head, .int .i64 x.world.out.tag, .string x.world.out.fs, .string x.world.out.rs, .string x.world.out.ofs, .string x.world.out.ors, .bool x.world.out.head, .slice a12 x.world.files.length c12, .slice a13 x.world.args.length c13, .string x.source, .int .i64 x.fuel] 29)).heap.size = w.heap.size + 1 := by simp
  have Z0 : ((w.alloc (.cells #[.int .i64 x.world.inp.tag, .string x.world.inp.fs, .string x.world.inp.rs, .string x.world.inp.ofs, .string x.world.inp.ors, .bool x.world.inp.head, .int .i64 x.world.out.tag, .string x.world.out.fs, .string x.world.out.rs, .string x.world.out.ofs, .string x.world.out.ors, .bool x.world.out.head, .slice a12 x.world.files.length c12, .slice a13 x.world.args.length c13, .string x.source, .int .i64 x.fuel] 29)).alloc (.cells ([.int .i64 0, .string ⟨#[]⟩, .string ⟨#[]⟩, .string ⟨#[]⟩, .string ⟨#[]⟩, .bool false, .int .i64 0, .string ⟨#[]⟩, .string ⟨#[]⟩, .string ⟨#[]⟩, .string ⟨#[]⟩, .bool false, .slice none 0 0, .slice none 0 0, .string ⟨#[]⟩, .int .i64 0] : List Value).toArray 37 (0, 0))).heap[w.heap.size + 1]? = some (.cells ([.int .i64 0, .string ⟨#[]⟩, .string ⟨#[]⟩, .string ⟨#[]⟩, .string ⟨#[]⟩, .bool false, .int .i64 0, .string ⟨#[]⟩, .string ⟨#[]⟩, .string ⟨#[]⟩, .string ⟨#[]⟩, .bool false, .slice none 0 0, .slice none 0 0, .string ⟨#[]⟩, .int .i64 0] : List Value).toArray 37 (0, 0)) := by rw [← ez]; exact heap_alloc_new _ _
  have hne1 : w.heap.size + 1 ≠ w.heap.size + 1 + 1 := by omega
  have Z1 : w1.heap[w.heap.size + 1]? = some (.cells ([.int .i64 0, .string ⟨#[]⟩, .string ⟨#[]⟩, .string ⟨#[]⟩, .string ⟨#[]⟩, .bool false, .int .i64 0, .string ⟨#[]⟩, .string ⟨#[]⟩, .string ⟨#[]⟩, .string ⟨#[]⟩, .bool false, .slice none 0 0, .slice none 0 0, .string ⟨#[]⟩, .int .i64 0] : List Value).toArray 37 (0, 0)) := blk_stay (by exact (blk_alloc Z0 _)) hb0
  have ZF : (((((((((((((((((w1).setCell ⟨w.heap.size + 1 + 1, 0, none⟩ (.int .i64 x.world.inp.tag)).setCell ⟨w.heap.size + 1 + 1, 1, none⟩ (.string x.world.inp.fs)).setCell ⟨w.heap.size + 1 + 1, 2, none⟩ (.string x.world.inp.rs)).setCell ⟨w.heap.size + 1 + 1, 3, none⟩ (.string x.world.inp.ofs)).setCell ⟨w.heap.size + 1 + 1, 4, none⟩ (.string x.world.inp.ors)).setCell ⟨w.heap.size + 1 + 1, 5, none⟩ (.bool x.world.inp.head)).setCell ⟨w.heap.size + 1 + 1, 6, none⟩ (.int .i64 x.world.out.tag)).setCell ⟨w.heap.size + 1 + 1, 7, none⟩ (.string x.world.out.fs)).setCell ⟨w.heap.size + 1 + 1, 8, none⟩ (.string x.world.out.rs)).setCell ⟨w.heap.size + 1 + 1, 9, none⟩ (.string x.world.out.ofs)).setCell ⟨w.heap.size + 1 + 1, 10, none⟩ (.string x.world.out.ors)).setCell ⟨w.heap.size + 1 + 1, 11, none⟩ (.bool x.world.out.head)).setCell ⟨w.heap.size + 1 + 1, 12, none⟩ (.slice r0_a12 x.world.files.length r0_c12)).setCell ⟨w.heap.size + 1 + 1, 13, none⟩ (.slice r0_a13 x.world.args.length r0_c13)).setCell ⟨w.heap.size + 1 + 1, 14, none⟩ (.string x.source)).setCell ⟨w.heap.size + 1 + 1, 15, none⟩ (.int .i64 x.fuel)).heap[w.heap.size + 1]? = some (.cells ([.int .i64 0, .string ⟨#[]⟩, .string ⟨#[]⟩, .string ⟨#[]⟩, .string ⟨#[]⟩, .bool false, .int .i64 0, .string ⟨#[]⟩, .string ⟨#[]⟩, .string ⟨#[]⟩, .string ⟨#[]⟩, .bool false, .slice none 0 0, .slice none 0 0, .string ⟨#[]⟩, .int .i64 0] : List Value).toArray 37 (0, 0)) := by refine blk_set ?_ hne1 _; refine blk_set ?_ hne1 _; refine blk_set ?_ hne1 _; refine blk_set ?_ hne1 _; refine blk_set ?_ hne1 _; refine blk_set ?_ hne1 _; refine blk_set ?_ hne1 _; refine blk_set ?_ hne1 _; refine blk_set ?_ hne1 _; refine blk_set ?_ hne1 _; refine blk_set ?_ hne1 _; refine blk_set ?_ hne1 _; refine blk_set ?_ hne1 _; refine blk_set ?_ hne1 _; refine blk_set ?_ hne1 _; refine blk_set ?_ hne1 _; exact Z1
  have FB := (setAll_block [.int .i64 x.world.inp.tag, .string x.world.inp.fs, .string x.world.inp.rs, .string x.world.inp.ofs, .string x.world.inp.ors, .bool x.world.inp.head, .int .i64 x.world.out.tag, .string x.world.out.fs, .string x.world.out.rs, .string x.world.out.ofs, .string x.world.out.ors, .bool x.world.out.head, .slice r0_a12 x.world.files.length r0_c12, .slice r0_a13 x.world.args.length r0_c13, .string x.source, .int .i64 x.fuel] (((((((((((((((((w1).setCell ⟨w.heap.size + 1 + 1, 0, none⟩ (.int .i64 x.world.inp.tag)).setCell ⟨w.heap.size + 1 + 1, 1, none⟩ (.string x.world.inp.fs)).setCell ⟨w.heap.size + 1 + 1, 2, none⟩ (.string x.world.inp.rs)).setCell ⟨w.heap.size + 1 + 1, 3, none⟩ (.string x.world.inp.ofs)).setCell ⟨w.heap.size + 1 + 1, 4, none⟩ (.string x.world.inp.ors)).setCell ⟨w.heap.size + 1 + 1, 5, none⟩ (.bool x.world.inp.head)).setCell ⟨w.heap.size + 1 + 1, 6, none⟩ (.int .i64 x.world.out.tag)).setCell ⟨w.heap.size + 1 + 1, 7, none⟩ (.string x.world.out.fs)).setCell ⟨w.heap.size + 1 + 1, 8, none⟩ (.string x.world.out.rs)).setCell ⟨w.heap.size + 1 + 1, 9, none⟩ (.string x.world.out.ofs)).setCell ⟨w.heap.size + 1 + 1, 10, none⟩ (.string x.world.out.ors)).setCell ⟨w.heap.size + 1 + 1, 11, none⟩ (.bool x.world.out.head)).setCell ⟨w.heap.size + 1 + 1, 12, none⟩ (.slice r0_a12 x.world.files.length r0_c12)).setCell ⟨w.heap.size + 1 + 1, 13, none⟩ (.slice r0_a13 x.world.args.length r0_c13)).setCell ⟨w.heap.size + 1 + 1, 14, none⟩ (.string x.source)).setCell ⟨w.heap.size + 1 + 1, 15, none⟩ (.int .i64 x.fuel)) (w.heap.size + 1) 0 0 [] [.int .i64 0, .string ⟨#[]⟩, .string ⟨#[]⟩, .string ⟨#[]⟩, .string ⟨#[]⟩, .bool false, .int .i64 0, .string ⟨#[]⟩, .string ⟨#[]⟩, .string ⟨#[]⟩, .string ⟨#[]⟩, .bool false, .slice none 0 0, .slice none 0 0, .string ⟨#[]⟩, .int .i64 0] [] 37 ZF rfl rfl).1
  obtain ⟨wF, hwF⟩ : ∃ W', setAll (((((((((((((((((w1).setCell ⟨w.heap.size + 1 + 1, 0, none⟩ (.int .i64 x.world.inp.tag)).setCell ⟨w.heap.size + 1 + 1, 1, none⟩ (.string x.world.inp.fs)).setCell ⟨w.heap.size + 1 + 1, 2, none⟩ (.string x.world.inp.rs)).setCell ⟨w.heap.size + 1 + 1, 3, none⟩ (.string x.world.inp.ofs)).setCell ⟨w.heap.size + 1 + 1, 4, none⟩ (.string x.world.inp.ors)).setCell ⟨w.heap.size + 1 + 1, 5, none⟩ (.bool x.world.inp.head)).setCell ⟨w.heap.size + 1 + 1, 6, none⟩ (.int .i64 x.world.out.tag)).setCell ⟨w.heap.size + 1 + 1, 7, none⟩ (.string x.world.out.fs)).setCell ⟨w.heap.size + 1 + 1, 8, none⟩ (.string x.world.out.rs)).setCell ⟨w.heap.size + 1 + 1, 9, none⟩ (.string x.world.out.ofs)).setCell ⟨w.heap.size + 1 + 1, 10, none⟩ (.string x.world.out.ors)).setCell ⟨w.heap.size + 1 + 1, 11, none⟩ (.bool x.world.out.head)).setCell ⟨w.heap.size + 1 + 1, 12, none⟩ (.slice r0_a12 x.world.files.length r0_c12)).setCell ⟨w.heap.size + 1 + 1, 13, none⟩ (.slice r0_a13 x.world.args.length r0_c13)).setCell ⟨w.heap.size + 1 + 1, 14, none⟩ (.string x.source)).setCell ⟨w.heap.size + 1 + 1, 15, none⟩ (.int .i64 x.fuel)) (w.heap.size + 1) 0 0 [.int .i64 x.world.inp.tag, .string x.world.inp.fs, .string x.world.inp.rs, .string x.world.inp.ofs, .string x.world.inp.ors, .bool x.world.inp.head, .int .i64 x.world.out.tag, .string x.world.out.fs, .string x.world.out.rs, .string x.world.out.ofs, .string x.world.out.ors, .bool x.world.out.head, .slice r0_a12 x.world.files.length r0_c12, .slice r0_a13 x.world.args.length r0_c13, .string x.source, .int .i64 x.fuel] = W' := ⟨_, rfl⟩
  rw [hwF] at FB
  have F0 : wF.cell? ⟨w.heap.size + 1, 0, none⟩ = some (.int .i64 x.world.inp.tag) := cell_of_block FB
  have F1 : wF.cell? ⟨w.heap.size + 1, 1, none⟩ = some (.string x.world.inp.fs) := cell_of_block FB
  have F2 : wF.cell? ⟨w.heap.size + 1, 2, none⟩ = some (.string x.world.inp.rs) := cell_of_block FB
  have F3 : wF.cell? ⟨w.heap.size + 1, 3, none⟩ = some (.string x.world.inp.ofs) := cell_of_block FB
  have F4 : wF.cell? ⟨w.heap.size + 1, 4, none⟩ = some (.string x.world.inp.ors) := cell_of_block FB
  have F5 : wF.cell? ⟨w.heap.size + 1, 5, none⟩ = some (.bool x.world.inp.head) := cell_of_block FB
  have F6 : wF.cell? ⟨w.heap.size + 1, 6, none⟩ = some (.int .i64 x.world.out.tag) := cell_of_block FB
  have F7 : wF.cell? ⟨w.heap.size + 1, 7, none⟩ = some (.string x.world.out.fs) := cell_of_block FB
  have F8 : wF.cell? ⟨w.heap.size + 1, 8, none⟩ = some (.string x.world.out.rs) := cell_of_block FB
  have F9 : wF.cell? ⟨w.heap.size + 1, 9, none⟩ = some (.string x.world.out.ofs) := cell_of_block FB
  have F10 : wF.cell? ⟨w.heap.size + 1, 10, none⟩ = some (.string x.world.out.ors) := cell_of_block FB
  have F11 : wF.cell? ⟨w.heap.size + 1, 11, none⟩ = some (.bool x.world.out.head) := cell_of_block FB
  have F12 : wF.cell? ⟨w.heap.size + 1, 12, none⟩ = some (.slice r0_a12 x.world.files.length r0_c12) := cell_of_block FB
  have F13 : wF.cell? ⟨w.heap.size + 1, 13, none⟩ = some (.slice r0_a13 x.world.args.length r0_c13) := cell_of_block FB
  have F14 : wF.cell? ⟨w.heap.size + 1, 14, none⟩ = some (.string x.source) := cell_of_block FB
  have F15 : wF.cell? ⟨w.heap.size + 1, 15, none⟩ = some (.int .i64 x.fuel) := cell_of_block FB
  have HFB := hid FB
  have HWF := hid hwF
  clear FB ZF Z0 Z1 ez hwF
  go_wp2
  change bodyPost _ _ _ _ _ (setAll (((((((((((((((((w1).setCell ⟨w.heap.size + 1 + 1, 0, none⟩ (.int .i64 x.world.inp.tag)).setCell ⟨w.heap.size + 1 + 1, 1, none⟩ (.string x.world.inp.fs)).setCell ⟨w.heap.size + 1 + 1, 2, none⟩ (.string x.world.inp.rs)).setCell ⟨w.heap.size + 1 + 1, 3, none⟩ (.string x.world.inp.ofs)).setCell ⟨w.heap.size + 1 + 1, 4, none⟩ (.string x.world.inp.ors)).setCell ⟨w.heap.size + 1 + 1, 5, none⟩ (.bool x.world.inp.head)).setCell ⟨w.heap.size + 1 + 1, 6, none⟩ (.int .i64 x.world.out.tag)).setCell ⟨w.heap.size + 1 + 1, 7, none⟩ (.string x.world.out.fs)).setCell ⟨w.heap.size + 1 + 1, 8, none⟩ (.string x.world.out.rs)).setCell ⟨w.heap.size + 1 + 1, 9, none⟩ (.string x.world.out.ofs)).setCell ⟨w.heap.size + 1 + 1, 10, none⟩ (.string x.world.out.ors)).setCell ⟨w.heap.size + 1 + 1, 11, none⟩ (.bool x.world.out.head)).setCell ⟨w.heap.size + 1 + 1, 12, none⟩ (.slice r0_a12 x.world.files.length r0_c12)).setCell ⟨w.heap.size + 1 + 1, 13, none⟩ (.slice r0_a13 x.world.args.length r0_c13)).setCell ⟨w.heap.size + 1 + 1, 14, none⟩ (.string x.source)).setCell ⟨w.heap.size + 1 + 1, 15, none⟩ (.int .i64 x.fuel)) (w.heap.size + 1) 0 0 [.int .i64 x.world.inp.tag, .string x.world.inp.fs, .string x.world.inp.rs, .string x.world.inp.ofs, .string x.world.inp.ors, .bool x.world.inp.head, .int .i64 x.world.out.tag, .string x.world.out.fs, .string x.world.out.rs, .string x.world.out.ofs, .string x.world.out.ors, .bool x.world.out.head, .slice r0_a12 x.world.files.length r0_c12, .slice r0_a13 x.world.args.length r0_c13, .string x.source, .int .i64 x.fuel])
  rw [HWF.out]
  refine bodyPost_ret (v := .agg #[.int .i64 x.world.inp.tag, .string x.world.inp.fs, .string x.world.inp.rs, .string x.world.inp.ofs, .string x.world.inp.ors, .bool x.world.inp.head, .int .i64 x.world.out.tag, .string x.world.out.fs, .string x.world.out.rs, .string x.world.out.ofs, .string x.world.out.ors, .bool x.world.out.head, .slice r0_a12 x.world.files.length r0_c12, .slice r0_a13 x.world.args.length r0_c13, .string x.source, .int .i64 x.fuel]) (by simp [results, Tryz.results8, go_sem, F0, F1, F2, F3, F4, F5, F6, F7, F8, F9, F10, F11, F12, F13, F14, F15]) rfl ⟨_, rfl, ?_, ?_⟩
  · exact rdJob_mk f0 f1 f2 f3 f4 f6 f7 f8 f9 f10 (Keeps.rd (by rw [← HWF.out]; refine keeps_setAll _ _ _ ?_ ?_; repeat' (first | (with_reducible exact Keeps.refl _ _) | (with_reducible refine Keeps.set ?_ ?_ _) | (with_reducible refine Keeps.alloc ?_ _) | (simp; done) | (simp; omega) | omega)) (by first | (simp; done) | (simp; omega) | omega) r0_f12) (Keeps.rd (by rw [← HWF.out]; refine keeps_setAll _ _ _ ?_ ?_; repeat' (first | (with_reducible exact Keeps.refl _ _) | (with_reducible refine Keeps.set ?_ ?_ _) | (with_reducible refine Keeps.alloc ?_ _) | (simp; done) | (simp; omega) | omega)) (by first | (simp; done) | (simp; omega) | omega) r0_f13) f14 f15
  · exact (by rw [← HWF.out]; refine below_setAll _ _ _ ?_ ?_; repeat' (first | (with_reducible exact hB1) | (with_reducible exact Below.refl _ _) | (with_reducible refine Below.setCell ?_ ?_ _) | (with_reducible refine Below.alloc ?_ ?_ _) | (simp; done) | (simp; omega) | omega))
set_option maxHeartbeats 2000000 in
theorem eqJob_same {cs cs' : Array Value} {x : Job} (w : World) (h : Rd.rd (Old w) w cs.toList x) (h' : Rd.rd (Old w) w cs'.toList x) :
    Calls Tryz.prog 10 #[.agg cs, .agg cs'] w fun e w' => e = .returned (.bool true) ∧ Below w.heap.size w w' := by
  obtain ⟨a12, c12, a13, c13, hcs, f0, f1, f2, f3, f4, f6, f7, f8, f9, f10, f12, f13, f14, f15⟩ := rdJob h
  obtain rfl := arr_of_list hcs
  obtain ⟨ga12, gc12, ga13, gc13, hcs', gf0, gf1, gf2, gf3, gf4, gf6, gf7, gf8, gf9, gf10, gf12, gf13, gf14, gf15⟩ := rdJob h'
  obtain rfl := arr_of_list hcs'
  clear hcs hcs' h h'
  go_enter Tryz.func10, Tryz.ntmps10
  go_wp2_with fail
  refine (eqWorldT_same _ (by exact rdWorldT_mk f0 f1 f2 f3 f4 f6 f7 f8 f9 f10 (Rd.later (by repeat' (first | (with_reducible exact Below.refl _ _) | (with_reducible refine Below.setCell ?_ ?_ _) | (with_reducible refine Below.alloc ?_ ?_ _) | (simp; done) | (simp; omega) | omega)) f12) (Rd.later (by repeat' (first | (with_reducible exact Below.refl _ _) | (with_reducible refine Below.setCell ?_ ?_ _) | (with_reducible refine Below.alloc ?_ ?_ _) | (simp; done) | (simp; omega) | omega)) f13)) (by exact rdWorldT_mk gf0 gf1 gf2 gf3 gf4 gf6 gf7 gf8 gf9 gf10 (Rd.later (by repeat' (first | (with_reducible exact Below.refl _ _) | (with_reducible refine Below.setCell ?_ ?_ _) | (with_reducible refine Below.alloc ?_ ?_ _) | (simp; done) | (simp; omega) | omega)) gf12) (Rd.later (by repeat' (first | (with_reducible exact Below.refl _ _) | (with_reducible refine Below.setCell ?_ ?_ _) | (with_reducible refine Below.alloc ?_ ?_ _) | (simp; done) | (simp; omega) | omega)) gf13))).mono ?_
  rintro e w1 ⟨rfl, hb0⟩
  have hB1 : Below w.heap.size w w1 := ext_trans (by repeat' (first | (with_reducible exact Below.refl _ _) | (with_reducible refine Below.setCell ?_ ?_ _) | (with_reducible refine Below.alloc ?_ ?_ _) | (simp; done) | (simp; omega) | omega)) hb0
  obtain ⟨hc0, hf0⟩ := bcell hb0
  have hl0 : w.heap.size + 1 < w1.heap.size := by have := hb0.size; (try simp at this); omega
  have hl0' : w.heap.size < w1.heap.size := by omega
  go_wp2
  go_ret
  exact ⟨rfl, (by repeat' (first | (with_reducible exact hB1) | (with_reducible exact Below.refl _ _) | (with_reducible refine Below.setCell ?_ ?_ _) | (with_reducible refine Below.alloc ?_ ?_ _) | (simp; done) | (simp; omega) | omega))⟩

end Go.Proofs.YtkmkencodcfloaaGreatDoor

namespace Go.Proofs.YtkmkencodcfloaaGreatDoor
open Go.RowKit
set_option linter.unusedVariables false
set_option linter.unusedSimpArgs false

def idxGo {α : Type} (p : α → Bool) : List α → Nat → Int
  | [], _ => -1
  | x :: r, k => if p x = true then (k : Int) else idxGo p r (k + 1)
/-- the first place at which p holds; -1 of none -/
def idxP {α : Type} (p : α → Bool) (xs : List α) : Int := idxGo p xs 0
theorem idxGo_hit {α : Type} {p : α → Bool} : ∀ {xs : List α} {k b : Nat} (h : k < xs.length), p xs[k] = true → (∀ j (hj : j < xs.length), j < k → p xs[j] = false) → idxGo p xs b = ((b + k : Nat) : Int)
  | x :: r, 0, b, _, h1, _ => by rw [idxGo, if_pos (by simpa using h1), Nat.add_zero]
  | x :: r, k + 1, b, h, h1, h2 => by
    have h0 := h2 0 (by simp) (by omega)
    rw [idxGo, if_neg (by simpa using h0), idxGo_hit (k := k) (b := b + 1) (by simpa using h) (by simpa using h1) (fun j hj hjk => by
      have := h2 (j + 1) (by simp only [List.length_cons]; omega) (by omega)
      simpa using this)]
    congr 1
    omega
theorem idxP_hit {α : Type} {p : α → Bool} {xs : List α} {k : Nat} (h : k < xs.length) (h1 : p xs[k] = true) (h2 : ∀ j (hj : j < xs.length), j < k → p xs[j] = false) : idxP p xs = (k : Int) := by
  unfold idxP
  rw [idxGo_hit h h1 h2, Nat.zero_add]
theorem idxGo_miss {α : Type} {p : α → Bool} : ∀ {xs : List α} {b : Nat}, (∀ j (hj : j < xs.length), p xs[j] = false) → idxGo p xs b = -1
  | [], b, _ => rfl
  | x :: r, b, h => by
    have h0 := h 0 (by simp)
    rw [idxGo, if_neg (by simpa using h0)]
    exact idxGo_miss (fun j hj => by
      have := h (j + 1) (by simp only [List.length_cons]; omega)
      simpa using this)
theorem idxP_miss {α : Type} {p : α → Bool} {xs : List α} (h : ∀ j (hj : j < xs.length), p xs[j] = false) : idxP p xs = -1 := idxGo_miss h
theorem idxGo_nonneg {α : Type} {p : α → Bool} : ∀ {xs : List α} {b : Nat}, decide (0 ≤ idxGo p xs b) = xs.any p
  | [], b => by simp [idxGo]
  | x :: r, b => by
    rw [idxGo, List.any_cons]
    cases hx : p x with
    | true => simp
    | false => simp [idxGo_nonneg (xs := r) (b := b + 1)]
theorem idxP_nonneg {α : Type} {p : α → Bool} {xs : List α} : decide (0 ≤ idxP p xs) = xs.any p := idxGo_nonneg
theorem eq_dec (a b : ByteArray) : (a.toList == b.toList) = decide (a = b) := by
  by_cases h : a = b
  · subst h; simp
  · rw [ba_ne h, decide_eq_false h]
theorem rd_take {α : Type} [Rd α] {S : Nat → Prop} {w : World} {a : Option Addr} {cap : Nat} {xs : List α} (h : Rd.rd S w [.slice a xs.length cap] xs) {k : Nat} (hk : k ≤ xs.length) : Rd.rd S w [.slice a k cap] (xs.take k) := by
  obtain ⟨a', cap', hv, h1, h2, hF⟩ := h
  obtain ⟨rfl, rfl⟩ : a = a' ∧ cap = cap' := by simpa using hv
  refine ⟨a, cap, by rw [List.length_take, Nat.min_eq_left hk], by rw [List.length_take]; omega, h2, fun h0 => ?_⟩
  obtain ⟨b, off, rfl, hB, hrow⟩ := hF (by rw [List.length_take] at h0; omega)
  refine ⟨b, off, rfl, hB, fun i hi => ?_⟩
  have hi' : i < xs.length := by rw [List.length_take] at hi; omega
  obtain ⟨cs, hc, hx⟩ := hrow i hi'
  exact ⟨cs, hc, by rw [List.getElem_take]; exact hx⟩
set_option maxHeartbeats 2000000 in
theorem idxFile (p : File → Bool) (g : Nat) (lb : Array Value) (eg : ∀ args w, (callFunc g args).run Tryz.prog w = .ok (.enter g args) w) {v : Value} {xs : List File} (w : World) (h : Rd.rd (Old w) w [v] xs) (hn : xs.length ≤ 9223372036854775807)
    (hp : ∀ (x : File) (W : World), Below w.heap.size w W → Calls Tryz.prog g (#[.agg #[.string x.name, .string x.text]] ++ lb) W fun e W' => e = .returned (.bool (p x)) ∧ Below W.heap.size W W') :
    Calls Tryz.prog 106 #[v, .func (.func g) #[] lb] w fun e w' => e = .returned (.int .i64 (idxP p xs)) ∧ Below w.heap.size w w' := by
  obtain ⟨a, cap, hv, h1, h2, hF⟩ := h
  obtain rfl : v = .slice a xs.length cap := by simpa using hv
  have HP := hid hp
  clear hv hp
  go_enter Tryz.func106, Tryz.ntmps106
  go_wp2
  go_loopw [5, 8] (fun _ i wr => ∃ k : Nat, k ≤ xs.length ∧ i = .int .i64 (k : Int) ∧ Hid (∀ j (hj : j < xs.length), j < k → p xs[j] = false) ∧ Below w.heap.size w wr) (fun _ i _ => xs.length - (intOf i).toNat)
  case atStart => exact ⟨0, Nat.zero_le _, rfl, hid (fun j _ hj => absurd hj (Nat.not_lt_zero _)), Below.refl _ _⟩
  case round =>
    obtain ⟨k, hk, rfl, HA, hb⟩ := hrel
    by_cases hlt : k < xs.length
    · obtain ⟨b, off, rfl, hB, hrow⟩ := hF (by omega)
      obtain ⟨cs, hcell, hx⟩ := hrow k hlt
      obtain ⟨hcs, f0, f1⟩ := rdFile hx
      subst hcs
      have t0 : wr.cell? ⟨b, off + k * 2, none⟩ = some (.string xs[k].name) := (hb.cell (p := ⟨b, off + k * 2, none⟩) hB).trans (by have h9 := hcell 0 (by decide); exact h9)
      have t1 : wr.cell? ⟨b, off + k * 2 + 1, none⟩ = some (.string xs[k].text) := (hb.cell (p := ⟨b, off + k * 2 + 1, none⟩) hB).trans (by have h9 := hcell 1 (by decide); exact h9)
      obtain ⟨x, hxe⟩ : ∃ x, xs[k] = x := ⟨_, rfl⟩
      rw [hxe] at t0 t1
      have HX := hid hxe
      have CP := HP.out x wr hb
      obtain ⟨q, hq⟩ : ∃ q, p x = q := ⟨_, rfl⟩
      rw [hq] at CP
      have HQ := hid hq
      have hki : (k : Int) < (xs.length : Int) := by omega
      have hk0 : (0 : Int) ≤ (k : Int) := by omega
      clear hrow hcell hx hq hxe hF
      cases q with
      | true =>
        go_wp2_with fail
        refine CP.mono ?_
        rintro e w1 ⟨rfl, hb1⟩
        clear CP
        go_wp2
        go_ret
        exact ⟨end_int (idxP_hit hlt (by rw [HX.out]; exact HQ.out) (fun j hj hjk => HA.out j hj hjk)).symm, ext_trans hb hb1⟩
      | false =>
        go_wp2_with fail
        refine CP.mono ?_
        rintro e w1 ⟨rfl, hb1⟩
        clear CP
        go_wp2
        go_roundw
        case rel =>
          refine ⟨k + 1, by omega, by go_num, hid (fun j hj hjk => ?_), ext_trans hb hb1⟩
          by_cases e : j = k
          · subst e; rw [HX.out]; exact HQ.out
          · exact HA.out j hj (by omega)
        case measure => simp [intOf]; omega
    · have hki : ¬ (k : Int) < (xs.length : Int) := by omega
      clear hF
      go_wp2
      go_ret
      exact ⟨end_int (idxP_miss (fun j hj => HA.out j hj (by omega))).symm, hb⟩
set_option maxHeartbeats 1000000 in
theorem anyFile (p : File → Bool) (g : Nat) (lb : Array Value) (eg : ∀ args w, (callFunc g args).run Tryz.prog w = .ok (.enter g args) w) {v : Value} {xs : List File} (w : World) (h : Rd.rd (Old w) w [v] xs) (hn : xs.length ≤ 9223372036854775807)
    (hp : ∀ (x : File) (W : World), Below w.heap.size w W → Calls Tryz.prog g (#[.agg #[.string x.name, .string x.text]] ++ lb) W fun e W' => e = .returned (.bool (p x)) ∧ Below W.heap.size W W') :
    Calls Tryz.prog 83 #[v, .func (.func g) #[] lb] w fun e w' => e = .returned (.bool (xs.any p)) ∧ Below w.heap.size w w' := by
  have CI := idxFile p g lb eg w h hn hp
  obtain ⟨z, hz⟩ : ∃ z, idxP p xs = z := ⟨_, rfl⟩
  rw [← idxP_nonneg, hz]
  rw [hz] at CI
  clear hz hp h
  go_enter Tryz.func83, Tryz.ntmps83
  go_wp2_with fail
  refine CI.mono ?_
  rintro e w1 ⟨rfl, hb1⟩
  go_wp2
  go_ret
  exact ⟨rfl, hb1⟩
set_option maxHeartbeats 2000000 in
theorem idxText (p : ByteArray → Bool) (g : Nat) (lb : Array Value) (eg : ∀ args w, (callFunc g args).run Tryz.prog w = .ok (.enter g args) w) {v : Value} {xs : List ByteArray} (w : World) (h : Rd.rd (Old w) w [v] xs) (hn : xs.length ≤ 9223372036854775807)
    (hp : ∀ (x : ByteArray) (W : World), Below w.heap.size w W → Calls Tryz.prog g (#[.string x] ++ lb) W fun e W' => e = .returned (.bool (p x)) ∧ Below W.heap.size W W') :
    Calls Tryz.prog 107 #[v, .func (.func g) #[] lb] w fun e w' => e = .returned (.int .i64 (idxP p xs)) ∧ Below w.heap.size w w' := by
  obtain ⟨a, cap, hv, h1, h2, hF⟩ := h
  obtain rfl : v = .slice a xs.length cap := by simpa using hv
  have HP := hid hp
  clear hv hp
  go_enter Tryz.func107, Tryz.ntmps107
  go_wp2
  go_loopw [5, 8] (fun _ i wr => ∃ k : Nat, k ≤ xs.length ∧ i = .int .i64 (k : Int) ∧ Hid (∀ j (hj : j < xs.length), j < k → p xs[j] = false) ∧ Below w.heap.size w wr) (fun _ i _ => xs.length - (intOf i).toNat)
  case atStart => exact ⟨0, Nat.zero_le _, rfl, hid (fun j _ hj => absurd hj (Nat.not_lt_zero _)), Below.refl _ _⟩
  case round =>
    obtain ⟨k, hk, rfl, HA, hb⟩ := hrel
    by_cases hlt : k < xs.length
    · obtain ⟨b, off, rfl, hB, hrow⟩ := hF (by omega)
      obtain ⟨cs, hcell, hx⟩ := hrow k hlt
      have hx0 := hx; obtain ⟨hcs, f0⟩ := hx0
      subst hcs
      have t0 : wr.cell? ⟨b, off + k, none⟩ = some (.string xs[k]) := (hb.cell (p := ⟨b, off + k, none⟩) hB).trans (by have h9 := hcell 0 (by decide); rw [show off + k * Rd.n ByteArray + 0 = off + k from by show off + k * 1 + 0 = _; omega] at h9; exact h9)
      obtain ⟨x, hxe⟩ : ∃ x, xs[k] = x := ⟨_, rfl⟩
      rw [hxe] at t0
      have HX := hid hxe
      have CP := HP.out x wr hb
      obtain ⟨q, hq⟩ : ∃ q, p x = q := ⟨_, rfl⟩
      rw [hq] at CP
      have HQ := hid hq
      have hki : (k : Int) < (xs.length : Int) := by omega
      have hk0 : (0 : Int) ≤ (k : Int) := by omega
      clear hrow hcell hx hq hxe hF
      cases q with
      | true =>
        go_wp2_with fail
        refine CP.mono ?_
        rintro e w1 ⟨rfl, hb1⟩
        clear CP
        go_wp2
        go_ret
        exact ⟨end_int (idxP_hit hlt (by rw [HX.out]; exact HQ.out) (fun j hj hjk => HA.out j hj hjk)).symm, ext_trans hb hb1⟩
      | false =>
        go_wp2_with fail
        refine CP.mono ?_
        rintro e w1 ⟨rfl, hb1⟩
        clear CP
        go_wp2
        go_roundw
        case rel =>
          refine ⟨k + 1, by omega, by go_num, hid (fun j hj hjk => ?_), ext_trans hb hb1⟩
          by_cases e : j = k
          · subst e; rw [HX.out]; exact HQ.out
          · exact HA.out j hj (by omega)
        case measure => simp [intOf]; omega
    · have hki : ¬ (k : Int) < (xs.length : Int) := by omega
      clear hF
      go_wp2
      go_ret
      exact ⟨end_int (idxP_miss (fun j hj => HA.out j hj (by omega))).symm, hb⟩
set_option maxHeartbeats 1000000 in
theorem anyText (p : ByteArray → Bool) (g : Nat) (lb : Array Value) (eg : ∀ args w, (callFunc g args).run Tryz.prog w = .ok (.enter g args) w) {v : Value} {xs : List ByteArray} (w : World) (h : Rd.rd (Old w) w [v] xs) (hn : xs.length ≤ 9223372036854775807)
    (hp : ∀ (x : ByteArray) (W : World), Below w.heap.size w W → Calls Tryz.prog g (#[.string x] ++ lb) W fun e W' => e = .returned (.bool (p x)) ∧ Below W.heap.size W W') :
    Calls Tryz.prog 85 #[v, .func (.func g) #[] lb] w fun e w' => e = .returned (.bool (xs.any p)) ∧ Below w.heap.size w w' := by
  have CI := idxText p g lb eg w h hn hp
  obtain ⟨z, hz⟩ : ∃ z, idxP p xs = z := ⟨_, rfl⟩
  rw [← idxP_nonneg, hz]
  rw [hz] at CI
  clear hz hp h
  go_enter Tryz.func85, Tryz.ntmps85
  go_wp2_with fail
  refine CI.mono ?_
  rintro e w1 ⟨rfl, hb1⟩
  go_wp2
  go_ret
  exact ⟨rfl, hb1⟩
theorem isWorldName (nm : ByteArray) (fb : Nat) (g : File) (W : World) (hlt : fb < W.heap.size) (hc : W.cell? ⟨fb, 0, none⟩ = some (.string nm)) :
    Calls Tryz.prog 84 #[.agg #[.string g.name, .string g.text], .pointer (some ⟨fb, 0, none⟩)] W fun e W' => e = .returned (.bool (decide (g.name = nm))) ∧ Below W.heap.size W W' := by
  have hne : fb ≠ W.heap.size := by omega
  have hne' : W.heap.size ≠ fb := by omega
  have hc' : (W.alloc (.cells #[.string g.name, .string g.text] 70)).cell? ⟨fb, 0, none⟩ = some (.string nm) := (World.cell?_alloc_lt _ _ _ hlt).trans hc
  go_enter Tryz.func84, Tryz.ntmps84
  go_wp2
  go_ret
  exact ⟨end_bool (eq_dec _ _), ext_alloc _ _⟩
set_option maxHeartbeats 2000000 in
theorem specFirst {v : Value} {xs : List File} (nm : ByteArray) (w : World) (h : Rd.rd (Old w) w [v] xs) (hn : xs.length ≤ 9223372036854775807) :
    Calls Tryz.prog 40 #[v, .string nm] w fun e w' => e = .returned (.int .i64 (idxP (fun f => decide (f.name = nm)) xs)) ∧ Below w.heap.size w w' := by
  obtain ⟨a, cap, hv, h1, h2, hF⟩ := h
  obtain rfl : v = .slice a xs.length cap := by simpa using hv
  clear hv
  go_enter Tryz.func40, Tryz.ntmps40
  go_wp2
  go_loopw [5] (fun i wr => ∃ k : Nat, k ≤ xs.length ∧ i = .int .i64 (k : Int) ∧ Hid (∀ j (hj : j < xs.length), j < k → decide (xs[j].name = nm) = false) ∧ Below w.heap.size w wr) (fun i _ => xs.length - (intOf i).toNat)
  case atStart => exact ⟨0, Nat.zero_le _, rfl, hid (fun j _ hj => absurd hj (Nat.not_lt_zero _)), Below.refl _ _⟩
  case round =>
    obtain ⟨k, hk, rfl, HA, hb⟩ := hrel
    by_cases hlt : k < xs.length
    · obtain ⟨b, off, rfl, hB, hrow⟩ := hF (by omega)
      obtain ⟨cs, hcell, hx⟩ := hrow k hlt
      obtain ⟨hcs, f0, f1⟩ := rdFile hx
      subst hcs
      have t0 : wr.cell? ⟨b, off + k * 2, none⟩ = some (.string xs[k].name) := (hb.cell (p := ⟨b, off + k * 2, none⟩) hB).trans (hcell 0 (by decide))
      obtain ⟨x, hxe⟩ : ∃ x, xs[k].name = x := ⟨_, rfl⟩
      rw [hxe] at t0
      have HX := hid hxe
      have hki : (k : Int) < (xs.length : Int) := by omega
      have hk0 : (0 : Int) ≤ (k : Int) := by omega
      clear hrow hcell hx hxe hF
      by_cases hq : x = nm
      · subst hq
        go_wp2
        go_ret
        exact ⟨end_int (idxP_hit hlt (decide_eq_true HX.out) (fun j hj hjk => HA.out j hj hjk)).symm, by repeat' (first | (with_reducible exact hb) | (with_reducible refine Below.drew ?_))⟩
      · have e1 := ba_ne hq
        have HQ := hid hq
        clear hq
        go_wp2
        go_roundw
        case rel =>
          refine ⟨k + 1, by omega, by go_num, hid (fun j hj hjk => ?_), by repeat' (first | (with_reducible exact hb) | (with_reducible refine Below.drew ?_))⟩
          by_cases e : j = k
          · subst e; rw [HX.out]; exact decide_eq_false HQ.out
          · exact HA.out j hj (by omega)
        case measure => simp [intOf]; omega
    · have hki : ¬ (k : Int) < (xs.length : Int) := by omega
      clear hF
      go_wp2
      go_ret
      exact ⟨end_int (idxP_miss (fun j hj => HA.out j hj (by omega))).symm, hb⟩
end Go.Proofs.YtkmkencodcfloaaGreatDoor
