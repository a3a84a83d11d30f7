/-
  What is proved here: the reference's classes of code points. No condition.
-/
import Derived.Test.YtomcoilmpkpoeaaGreatDoorQRxS3
namespace Go.Proofs.YtomcoilmpkpoeaaGreatDoor
open Go.RowKit
set_option linter.unusedVariables false
set_option linter.unusedSimpArgs false

set_option maxHeartbeats 16000000 in
theorem specClass (acc : List Nat) (w : World) :
    Calls Tryz.prog 217 #[.string (mkB (nameB acc))] w fun e w' => e = .returned (.slice (some ⟨w.heap.size, 0, none⟩) (classOf acc).length (classOf acc).length) ∧ w'.heap[w.heap.size]? = some (.cells (ints' (classOf acc)).toArray 3 (0, 0)) ∧ Below w.heap.size w w' := by
  have b0 : ((mkB (nameB acc)).toList == ([97, 108, 112, 104, 97] : List UInt8)) = decide (acc = [97, 108, 112, 104, 97]) := nameB_is' acc [97, 108, 112, 104, 97] _ rfl (by decide)
  have b1 : ((mkB (nameB acc)).toList == ([100, 105, 103, 105, 116] : List UInt8)) = decide (acc = [100, 105, 103, 105, 116]) := nameB_is' acc [100, 105, 103, 105, 116] _ rfl (by decide)
  have b2 : ((mkB (nameB acc)).toList == ([97, 108, 110, 117, 109] : List UInt8)) = decide (acc = [97, 108, 110, 117, 109]) := nameB_is' acc [97, 108, 110, 117, 109] _ rfl (by decide)
  have b3 : ((mkB (nameB acc)).toList == ([117, 112, 112, 101, 114] : List UInt8)) = decide (acc = [117, 112, 112, 101, 114]) := nameB_is' acc [117, 112, 112, 101, 114] _ rfl (by decide)
  have b4 : ((mkB (nameB acc)).toList == ([108, 111, 119, 101, 114] : List UInt8)) = decide (acc = [108, 111, 119, 101, 114]) := nameB_is' acc [108, 111, 119, 101, 114] _ rfl (by decide)
  have b5 : ((mkB (nameB acc)).toList == ([115, 112, 97, 99, 101] : List UInt8)) = decide (acc = [115, 112, 97, 99, 101]) := nameB_is' acc [115, 112, 97, 99, 101] _ rfl (by decide)
  have b6 : ((mkB (nameB acc)).toList == ([98, 108, 97, 110, 107] : List UInt8)) = decide (acc = [98, 108, 97, 110, 107]) := nameB_is' acc [98, 108, 97, 110, 107] _ rfl (by decide)
  have b7 : ((mkB (nameB acc)).toList == ([112, 117, 110, 99, 116] : List UInt8)) = decide (acc = [112, 117, 110, 99, 116]) := nameB_is' acc [112, 117, 110, 99, 116] _ rfl (by decide)
  have b8 : ((mkB (nameB acc)).toList == ([120, 100, 105, 103, 105, 116] : List UInt8)) = decide (acc = [120, 100, 105, 103, 105, 116]) := nameB_is' acc [120, 100, 105, 103, 105, 116] _ rfl (by decide)
  by_cases h0 : acc = [97, 108, 112, 104, 97]
  · rw [decide_eq_true h0] at b0
    have HO := hid (show classOf acc = [65, 90, 97, 122] by rw [h0]; rfl)
    rw [HO.out]
    clear h0 b1 b2 b3 b4 b5 b6 b7 b8
    go_enter Tryz.func217, Tryz.ntmps217
    go_wp2
    go_ret
    exact ⟨rfl, heap_alloc_new _ _, ext_alloc _ _⟩
  rw [decide_eq_false h0] at b0
  by_cases h1 : acc = [100, 105, 103, 105, 116]
  · rw [decide_eq_true h1] at b1
    have HO := hid (show classOf acc = [48, 57] by rw [h1]; rfl)
    rw [HO.out]
    clear h1 b2 b3 b4 b5 b6 b7 b8
    go_enter Tryz.func217, Tryz.ntmps217
    go_wp2
    go_ret
    exact ⟨rfl, heap_alloc_new _ _, ext_alloc _ _⟩
  rw [decide_eq_false h1] at b1
  by_cases h2 : acc = [97, 108, 110, 117, 109]
  · rw [decide_eq_true h2] at b2
    have HO := hid (show classOf acc = [48, 57, 65, 90, 97, 122] by rw [h2]; rfl)
    rw [HO.out]
    clear h2 b3 b4 b5 b6 b7 b8
    go_enter Tryz.func217, Tryz.ntmps217
    go_wp2
    go_ret
    exact ⟨rfl, heap_alloc_new _ _, ext_alloc _ _⟩
  rw [decide_eq_false h2] at b2
  by_cases h3 : acc = [117, 112, 112, 101, 114]
  · rw [decide_eq_true h3] at b3
    have HO := hid (show classOf acc = [65, 90] by rw [h3]; rfl)
    rw [HO.out]
    clear h3 b4 b5 b6 b7 b8
    go_enter Tryz.func217, Tryz.ntmps217
    go_wp2
    go_ret
    exact ⟨rfl, heap_alloc_new _ _, ext_alloc _ _⟩
  rw [decide_eq_false h3] at b3
  by_cases h4 : acc = [108, 111, 119, 101, 114]
  · rw [decide_eq_true h4] at b4
    have HO := hid (show classOf acc = [97, 122] by rw [h4]; rfl)
    rw [HO.out]
    clear h4 b5 b6 b7 b8
    go_enter Tryz.func217, Tryz.ntmps217
    go_wp2
    go_ret
    exact ⟨rfl, heap_alloc_new _ _, ext_alloc _ _⟩
  rw [decide_eq_false h4] at b4
  by_cases h5 : acc = [115, 112, 97, 99, 101]
  · rw [decide_eq_true h5] at b5
    have HO := hid (show classOf acc = [9, 13, 32, 32] by rw [h5]; rfl)
    rw [HO.out]
    clear h5 b6 b7 b8
    go_enter Tryz.func217, Tryz.ntmps217
    go_wp2
    go_ret
    exact ⟨rfl, heap_alloc_new _ _, ext_alloc _ _⟩
  rw [decide_eq_false h5] at b5
  by_cases h6 : acc = [98, 108, 97, 110, 107]
  · rw [decide_eq_true h6] at b6
    have HO := hid (show classOf acc = [9, 9, 32, 32] by rw [h6]; rfl)
    rw [HO.out]
    clear h6 b7 b8
    go_enter Tryz.func217, Tryz.ntmps217
    go_wp2
    go_ret
    exact ⟨rfl, heap_alloc_new _ _, ext_alloc _ _⟩
  rw [decide_eq_false h6] at b6
  by_cases h7 : acc = [112, 117, 110, 99, 116]
  · rw [decide_eq_true h7] at b7
    have HO := hid (show classOf acc = [33, 47, 58, 64, 91, 96, 123, 126] by rw [h7]; rfl)
    rw [HO.out]
    clear h7 b8
    go_enter Tryz.func217, Tryz.ntmps217
    go_wp2
    go_ret
    exact ⟨rfl, heap_alloc_new _ _, ext_alloc _ _⟩
  rw [decide_eq_false h7] at b7
  by_cases h8 : acc = [120, 100, 105, 103, 105, 116]
  · rw [decide_eq_true h8] at b8
    have HO := hid (show classOf acc = [48, 57, 65, 70, 97, 102] by rw [h8]; rfl)
    rw [HO.out]
    clear h8 
    go_enter Tryz.func217, Tryz.ntmps217
    go_wp2
    go_ret
    exact ⟨rfl, heap_alloc_new _ _, ext_alloc _ _⟩
  rw [decide_eq_false h8] at b8
  have HO := hid (show classOf acc = [] by unfold classOf; rw [if_neg h0, if_neg h1, if_neg h2, if_neg h3, if_neg h4, if_neg h5, if_neg h6, if_neg h7, if_neg h8])
  rw [HO.out]
  clear h0 h1 h2 h3 h4 h5 h6 h7 h8
  go_enter Tryz.func217, Tryz.ntmps217
  go_wp2
  go_ret
  exact ⟨rfl, heap_alloc_new _ _, ext_alloc _ _⟩
end Go.Proofs.YtomcoilmpkpoeaaGreatDoor
