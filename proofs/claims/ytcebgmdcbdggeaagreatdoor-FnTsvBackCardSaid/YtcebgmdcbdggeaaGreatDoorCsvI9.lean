/-
  What is proved here: RowsOk of impl. The condition 'Tabs' says that the library's tables for UTF-8 lie in the world.
-/
import Derived.Test.YtcebgmdcbdggeaaGreatDoorCsvI8
import Derived.Test.YtcebgmdcbdggeaaGreatDoorWithin
import Derived.Test.YtcebgmdcbdggeaaGreatDoorValOk
namespace Go.Proofs.YtcebgmdcbdggeaaGreatDoor
open Go.RowKit
set_option linter.unusedVariables false
set_option linter.unusedSimpArgs false

/-- a row's cells as lists of bytes -/
def rowL (x : CsvRow) : List (List UInt8) := x.cells.map fun s => s.data.toList
theorem rowOk_def (x : CsvRow) : rowOk (rowL x) = !(!(inB 1 (x.cells.length : Int) 100) || x.cells.any fun s => !(okText s)) := by
  unfold rowOk rowL
  rw [List.length_map, List.all_map]
  have h1 : inB 1 (x.cells.length : Int) 100 = decide (1 ≤ x.cells.length ∧ x.cells.length ≤ 100) := by
    rw [Bool.eq_iff_iff]
    unfold inB
    simp
    omega
  rw [h1, Bool.not_or, Bool.not_not, List.not_any_eq_all_not]
  congr 1
  congr 1
  funext s
  simp [okText]
set_option maxHeartbeats 1000000 in
theorem implCellBad (s : ByteArray) (w : World) (hT : Tabs w) :
    Calls Tryz.prog 46 #[.string s] w fun e w' => e = .returned (.bool (!(okText s))) ∧ Below w.heap.size w w' := by
  have C := hid (implTextOk s w hT)
  obtain ⟨q, hq⟩ : ∃ q, okText s = q := ⟨_, rfl⟩
  rw [hq] at C ⊢
  clear hq hT
  go_enter Tryz.func46, Tryz.ntmps46
  go_wp2_with fail
  refine C.out.mono ?_
  rintro e w1 ⟨rfl, hb⟩
  go_wp2
  go_ret
  exact ⟨rfl, hb⟩
set_option maxHeartbeats 4000000 in
theorem implRowBad (x : CsvRow) (u : Value) (w : World) (hT : Tabs w) (hx : Rd.rd (Old w) w [u] x) :
    Calls Tryz.prog 43 #[.agg #[u]] w fun e w' => e = .returned (.bool (!(rowOk (rowL x)))) ∧ Below w.heap.size w w' := by
  obtain ⟨a, c, hu, hr⟩ := rdRow hx
  obtain rfl : u = .slice a x.cells.length c := by simpa using hu
  have hlen : x.cells.length ≤ 9223372036854775807 := by
    obtain ⟨a', c', h0, h1, h2, _⟩ := hr
    omega
  have hal := ext_alloc w (.cells #[.slice a x.cells.length c] 34)
  have hnew := heap_alloc_new w (.cells #[.slice a x.cells.length c] 34)
  obtain ⟨w0, hw0⟩ : ∃ w0, w.alloc (.cells #[.slice a x.cells.length c] 34) = w0 := ⟨_, rfl⟩
  rw [hw0] at hal hnew
  have hT0 := tabs_below hT hal
  have a0 : w0.cell? ⟨w.heap.size, 0, none⟩ = some (.slice a x.cells.length c) := cell_of_row _ _ 0 _ _ _ hnew
  have ay : w0.frozen? ⟨w.heap.size, 0, none⟩ = false := frozen_of_row _ _ 0 _ _ hnew
  have CA := hid (anyText (fun s => !(okText s)) 46 #[] (enters_of Tryz.func46 (by kernel_rfl) rfl) w0 (Rd.later hal hr) hlen (fun s W hb => implCellBad s W (tabs_below hT0 hb)))
  have CW := hid (within_any (x.cells.length : Int) 1 100 w0)
  rw [rowOk_def, Bool.not_not]
  obtain ⟨q, hq⟩ : ∃ q, (x.cells.any fun s => !(okText s)) = q := ⟨_, rfl⟩
  rw [hq] at CA ⊢
  obtain ⟨n, hn⟩ : ∃ n, x.cells.length = n := ⟨_, rfl⟩
  rw [hn] at CA CW a0 hw0 ⊢
  have HAL := hid hal
  clear hq hT hT0 hx hr hu hlen hnew hn hal
  cases hi : inB 1 (n : Int) 100 with
  | true =>
    rw [hi] at CW
    clear hi
    go_enter Tryz.func43, Tryz.ntmps43
    go_wp2_with fail
    try rw [hw0]
    clear hw0
    refine CW.out.mono ?_
    rintro e w1 ⟨rfl, rfl⟩
    go_wp2_with fail
    refine CA.out.mono ?_
    rintro e w2 ⟨rfl, hb2⟩
    have HB2 := hid (ext_trans HAL.out hb2)
    clear hb2
    go_wp2
    go_ret
    exact ⟨by cases q <;> rfl, HB2.out⟩
  | false =>
    rw [hi] at CW
    clear hi
    go_enter Tryz.func43, Tryz.ntmps43
    go_wp2_with fail
    try rw [hw0]
    clear hw0
    refine CW.out.mono ?_
    rintro e w1 ⟨rfl, rfl⟩
    go_wp2
    go_ret
    exact ⟨rfl, HAL.out⟩
set_option maxHeartbeats 1000000 in
theorem implRowsOk {v : Value} {xs : List CsvRow} (w : World) (hT : Tabs w) (h : Rd.rd (Old w) w [v] xs) (hn : xs.length ≤ 9223372036854775807) :
    Calls Tryz.prog 28 #[v] w fun e w' => e = .returned (.bool (rowsOk (xs.map rowL))) ∧ Below w.heap.size w w' := by
  have CA := hid (anyRow (fun x => !(rowOk (rowL x))) 43 #[] (enters_of Tryz.func43 (by kernel_rfl) rfl) w h hn (fun x u W hx hb => implRowBad x u W (tabs_below hT hb) (Rd.later hb hx)))
  have HR := hid (show rowsOk (xs.map rowL) = !(xs.any fun x => !(rowOk (rowL x))) by unfold rowsOk; rw [List.all_map, List.not_any_eq_all_not]; congr 1; funext x; simp)
  obtain ⟨q, hq⟩ : ∃ q, (xs.any fun x => !(rowOk (rowL x))) = q := ⟨_, rfl⟩
  rw [hq] at CA HR
  rw [HR.out]
  clear hq hT h HR
  go_enter Tryz.func28, Tryz.ntmps28
  go_wp2_with fail
  refine CA.out.mono ?_
  rintro e w1 ⟨rfl, hb⟩
  go_wp2
  go_ret
  exact ⟨rfl, hb⟩
end Go.Proofs.YtcebgmdcbdggeaaGreatDoor
