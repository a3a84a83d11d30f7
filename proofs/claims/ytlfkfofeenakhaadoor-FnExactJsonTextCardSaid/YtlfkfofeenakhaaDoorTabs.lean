/-
  What is proved here: from what a row lists of the tables of unicode-utf8 to what the contract of ValidString asks of the world. No condition.
-/
import Derived.Test.YtlfkfofeenakhaaDoorShelfA
import Derived.MakeChecks
namespace Go.Proofs.YtlfkfofeenakhaaDoor
open Go.Shelf Go.Lib

def Tabs (w : World) : Prop := Lib.Utf8Tabs (Tryd.laysValid_ren.g 3) (Tryd.laysValid_ren.g 4) w
theorem tabs_below {w w' : World} (h : Tabs w) (hb : Go.RowKit.Below w.heap.size w w') : Tabs w' := Utf8Tabs_below h hb

theorem tabs_of_reads {P : Program} {ρ : Ren} {n1 n2 : String} (L : Lays.n196 P ρ) (hn3 : P.globalNamed n1 = some (ρ.g 3)) (hn4 : P.globalNamed n2 = some (ρ.g 4))
    (y3 : (P.globals[ρ.g 3]?).map (·.type) = some (ρ.t 119)) (y4 : (P.globals[ρ.g 4]?).map (·.type) = some (ρ.t 139)) (c5 : P.cellsOf (ρ.t 5) = 1) (c119 : P.cellsOf (ρ.t 119) = 256) (c138 : P.cellsOf (ρ.t 138) = 2)
    {w : World} (h3 : VarReads P w n1 firstData) (h4 : VarReads P w n2 acceptData) : Lib.Utf8Tabs (ρ.g 3) (ρ.g 4) w := by
  refine ⟨fun c hc => ?_, fun i hi => ?_⟩
  · obtain ⟨g, t, cs, fuel, p, hg, hty, hvar, hd⟩ := h3
    obtain rfl := Option.some.inj (hn3.symm.trans hg)
    obtain rfl := Option.some.inj (y3.symm.trans hty)
    have hcs := cells_of_tab L.t119 L.t5 c5 c119 hd
    have := World.var?_cell hg hvar c
    rw [this, ← Array.getElem?_toList, hcs]
    simp [firstTab, hc]
  · obtain ⟨g, t, cs, fuel, p, hg, hty, hvar, hd⟩ := h4
    obtain rfl := Option.some.inj (hn4.symm.trans hg)
    obtain rfl := Option.some.inj (y4.symm.trans hty)
    obtain ⟨fuel', d, q, hdi, he⟩ := array_elem L.t139 hd i hi
    simp only [List.getElem?_map, List.getElem?_range hi, Option.map_some, Option.some.injEq] at hdi
    subst hdi
    rw [c138] at he
    have hcs := ints_of_struct L.t138 (fun j f hj => by
      match j, hj with
      | 0, hj => simp at hj; subst hj; exact ⟨L.t5, rfl, c5⟩
      | 1, hj => simp at hj; subst hj; exact ⟨L.t5, rfl, c5⟩
      | j + 2, hj => simp at hj) (by rw [c138]; rfl) he
    have e0 := congrArg (·[0]?) hcs
    have e1 := congrArg (·[1]?) hcs
    simp only [List.getElem?_take, List.getElem?_drop] at e0 e1
    constructor
    · rw [World.var?_cell hg hvar (2 * i), ← Array.getElem?_toList]
      simpa [Nat.mul_comm] using e0
    · rw [World.var?_cell hg hvar (2 * i + 1), ← Array.getElem?_toList]
      simpa [Nat.mul_comm] using e1

theorem tabs_of_list {n1 n2 : String} {d1 d2 : DataW Unit} {rest : List (String × DataW Unit)} {W : World} (hp : (((n1, d1) :: (n2, d2) :: rest).all fun x => x.2.handleName?.isNone) = true) (e1 : d1 = acceptData) (e2 : d2 = firstData)
    (hn2 : Tryd.prog.globalNamed n2 = some (Tryd.laysValid_ren.g 3)) (hn1 : Tryd.prog.globalNamed n1 = some (Tryd.laysValid_ren.g 4)) (h : laidMetH Tryd.prog ((n1, d1) :: (n2, d2) :: rest) W) : Tabs W := by
  rw [Go.MakeChecks.laidMetH_plain _ _ _ hp] at h
  subst e1 e2
  exact tabs_of_reads Tryd.laysValid hn2 hn1 (by kernel_rfl) (by kernel_rfl) (by kernel_rfl) (by kernel_rfl) (by kernel_rfl) (laidMet.reads h (by simp)) (laidMet.reads h (by simp))
end Go.Proofs.YtlfkfofeenakhaaDoor
