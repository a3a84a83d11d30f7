/-
  What is proved here: impl.Part, spec.Part and spec.l01Text return the bytes of the chosen code points. The condition 'Tabs' says that the library's tables for UTF-8 lie in the world.
-/
import Derived.Test.YtlfkfofeenakhaaDoorTextOf
import Derived.Lib.ConvBytes
import Derived.Laws.IdiomStrings
namespace Go.Proofs.YtlfkfofeenakhaaDoor
open Go.RowKit
set_option linter.unusedVariables false
set_option linter.unusedSimpArgs false

def selB (f c : Int) (i : Nat) : Bool := decide (f ≤ (i : Int) + 1) && decide (0 < c) && decide ((i : Int) + 1 - c < f)
def partK (rs : List Nat) (f c : Int) (k : Nat) : List Nat := ((List.range k).filter (selB f c)).map (fun i => rs.getD i 0)
def partL (rs : List Nat) (f c : Int) : List Nat := partK rs f c rs.length
theorem partK_yes {rs : List Nat} {f c : Int} {k : Nat} (h : selB f c k = true) (hk : k < rs.length) : partK rs f c (k + 1) = partK rs f c k ++ [rs[k]] := by
  unfold partK
  rw [List.range_succ, List.filter_append, List.map_append]
  simp [h, List.getD_eq_getElem?_getD, List.getElem?_eq_getElem hk]
theorem partK_no {rs : List Nat} {f c : Int} {k : Nat} (h : selB f c k = false) : partK rs f c (k + 1) = partK rs f c k := by
  unfold partK
  rw [List.range_succ, List.filter_append, List.map_append]
  simp [h]
theorem partK_len (rs : List Nat) (f c : Int) (k : Nat) : (partK rs f c k).length ≤ k := by
  unfold partK
  rw [List.length_map]
  exact Nat.le_trans (List.length_filter_le _ _) (by simp)
theorem partK_none {rs : List Nat} {f c : Int} (h : c < 1) (k : Nat) : partK rs f c k = [] := by
  unfold partK
  have : (List.range k).filter (selB f c) = [] := by
    rw [List.filter_eq_nil_iff]
    intro i _
    unfold selB
    rw [decide_eq_false (show ¬ 0 < c by omega)]
    simp
  rw [this]; rfl
theorem partK_pt {rs : List Nat} {f c : Int} (h : ∀ x ∈ rs, isPt x) {k : Nat} (hk : k ≤ rs.length) : ∀ x ∈ partK rs f c k, isPt x := by
  intro x hx
  unfold partK at hx
  obtain ⟨i, hi, rfl⟩ := List.mem_map.1 hx
  have := (List.mem_filter.1 hi).1
  rw [List.mem_range] at this
  rw [List.getD_eq_getElem?_getD, List.getElem?_eq_getElem (show i < rs.length by omega)]
  exact h _ (List.getElem_mem _)
def partT (s : ByteArray) (f c : Int) : ByteArray := if okText s then mkB (texts (partL (runesN s.data.toList) f c)) else ⟨#[]⟩
theorem ok_pts {s : ByteArray} (h : okText s = true) : (∀ c ∈ runesN s.data.toList, isPt c) ∧ (runesN s.data.toList).length ≤ 1000 := by
  obtain ⟨h1, h2, h3⟩ := ok_runes h
  exact ⟨(runesAll_len _ _ _ rfl h1).2.1, by omega⟩

end Go.Proofs.YtlfkfofeenakhaaDoor
