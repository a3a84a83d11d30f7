/-
  What is proved here: from what a row lists (the tables of unicode-utf8, the powers of ten) to what the library's contracts ask of the world. No condition.
-/
import Derived.Test.YtomcoilmpkpoeaaGreatDoorVB
import Derived.Test.YtomcoilmpkpoeaaGreatDoorVNum
namespace Go.Proofs.YtomcoilmpkpoeaaGreatDoor
open Go.Shelf Go.Lib

def TP (w : World) : Prop := Tabs w ∧ PT w
theorem tp_below {w w' : World} (h : TP w) (hb : Go.RowKit.Below w.heap.size w w') : TP w' := ⟨tabs_below h.1 hb, pt_below h.2 hb⟩
theorem pt_of_reads {w : World} (h : VarReads Tryz.prog w "internal/strconv.uint64pow10" (tabData .u64 pow10Tab)) : PT w := by
  obtain ⟨g, t, cs, fuel, p, hg, hty, hvar, hd⟩ := h
  obtain rfl : 5 = g := Option.some.inj ((show Tryz.prog.globalNamed "internal/strconv.uint64pow10" = some 5 by kernel_rfl).symm.trans hg)
  obtain rfl : 206 = t := Option.some.inj ((show (Tryz.prog.globals[5]?).map (·.type) = some 206 by kernel_rfl).symm.trans hty)
  unfold PT TabIs
  rw [hvar, ← cells_of_tab Tryz.underlying206 Tryz.underlying165 (by kernel_rfl) (by kernel_rfl) hd]
theorem tp_of_list {n3 n4 n0 n1 n2 : String} {d3 d4 d0 d1 d2 : DataW Unit} {W : World} {l : List (String × DataW Unit)} (hl : l = [(n3, d3), (n4, d4), (n0, d0), (n1, d1), (n2, d2)]) (hp : (l.all fun x => x.2.handleName?.isNone) = true) (e0 : d0 = tabData .u64 pow10Tab) (e1 : d1 = acceptData) (e2 : d2 = firstData)
    (hn0 : n0 = "internal/strconv.uint64pow10") (hn2 : Tryz.prog.globalNamed n2 = some (Tryz.laysValid_ren.g 3)) (hn1 : Tryz.prog.globalNamed n1 = some (Tryz.laysValid_ren.g 4)) (h : laidMetH Tryz.prog l W) : TP W := by
  rw [Go.MakeChecks.laidMetH_plain _ _ _ hp] at h
  subst hl e0 e1 e2 hn0
  exact ⟨tabs_of_reads Tryz.laysValid hn2 hn1 (by kernel_rfl) (by kernel_rfl) (by kernel_rfl) (by kernel_rfl) (by kernel_rfl) (laidMet.reads h (by simp)) (laidMet.reads h (by simp)), pt_of_reads (laidMet.reads h (by simp))⟩
theorem tp_of_list7 {n3 n4 n0 n1 n5 n6 n2 : String} {d3 d4 d0 d1 d5 d6 d2 : DataW Unit} {W : World} {l : List (String × DataW Unit)} (hl : l = [(n3, d3), (n4, d4), (n0, d0), (n1, d1), (n5, d5), (n6, d6), (n2, d2)]) (hp : (l.all fun x => x.2.handleName?.isNone) = true) (e0 : d0 = tabData .u64 pow10Tab) (e1 : d1 = acceptData) (e2 : d2 = firstData)
    (hn0 : n0 = "internal/strconv.uint64pow10") (hn2 : Tryz.prog.globalNamed n2 = some (Tryz.laysValid_ren.g 3)) (hn1 : Tryz.prog.globalNamed n1 = some (Tryz.laysValid_ren.g 4)) (h : laidMetH Tryz.prog l W) : TP W := by
  rw [Go.MakeChecks.laidMetH_plain _ _ _ hp] at h
  subst hl e0 e1 e2 hn0
  exact ⟨tabs_of_reads Tryz.laysValid hn2 hn1 (by kernel_rfl) (by kernel_rfl) (by kernel_rfl) (by kernel_rfl) (by kernel_rfl) (laidMet.reads h (by simp)) (laidMet.reads h (by simp)), pt_of_reads (laidMet.reads h (by simp))⟩
end Go.Proofs.YtomcoilmpkpoeaaGreatDoor
