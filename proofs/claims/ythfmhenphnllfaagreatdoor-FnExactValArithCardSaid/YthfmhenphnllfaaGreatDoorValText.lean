/-
  What is proved here: spec.ValText and impl.ValText return the text of a value. The condition 'TP' says that the library's tables lie in the world.
-/
import Derived.Test.YthfmhenphnllfaaGreatDoorDecText
import Derived.Test.YthfmhenphnllfaaGreatDoorTabs3
namespace Go.Proofs.YthfmhenphnllfaaGreatDoor
open Go.RowKit
set_option linter.unusedVariables false
set_option linter.unusedSimpArgs false

def valT (x : Val) : ByteArray := if (soundVal x).kind = 1 then decTx (soundVal x).num else (soundVal x).text
theorem sound_dec {x : Val} (h : (soundVal x).kind = 1) : decOk (soundVal x).num = true := by
  unfold soundVal at h ⊢
  split
  · rename_i hv
    rw [if_pos hv] at h
    unfold valOk at hv
    rw [if_neg (by omega), if_pos h] at hv
    simp only [Bool.and_eq_true] at hv
    exact hv.1
  · rename_i hv
    rw [if_neg hv] at h
    exact absurd h (by decide)
set_option maxHeartbeats 1000000 in
theorem implValid {cs : Array Value} {x : Val} (w : World) (hrd : Rd.rd (Old w) w cs.toList x) (hT : Tabs w) :
    Calls Tryz.prog 78 #[.agg cs] w fun e w' => ∃ cs' : Array Value, e = .returned (.agg cs') ∧ Rd.rd (Old w') w' cs'.toList (soundVal x) ∧ Below w.heap.size w w' := by
  obtain ⟨hcs, g0, g1, g2, g3⟩ := rdVal hrd
  obtain rfl := arr_of_list hcs
  clear hcs hrd
  obtain ⟨b, hb⟩ : ∃ b, valOk x = b := ⟨_, rfl⟩
  have HB := hid hb
  clear hb
  have hres := fun (S : Nat → Prop) (w : World) => rd_sound (S := S) (w := w) (v := x) g0 g1 g2 g3
  cases b
  · have HS := hid (show soundVal x = val0 by unfold soundVal; rw [HB.out]; rfl)
    go_enter Tryz.func78, Tryz.ntmps78
    go_wp2_with fail
    refine (implIsVal (x := x) _ (by exact rdVal_mk g0 g1 g2 g3) (tabs_below hT (ext_trans (ext_alloc _ _) (ext_alloc _ _)))).mono ?_
    rintro e w1 ⟨rfl, hb⟩
    rw [HB.out]
    obtain ⟨hc1, hf1⟩ := bcell hb
    have hl : w.heap.size + 1 < w1.heap.size := by have := hb.size; (try simp at this); omega
    have hl' : w.heap.size < w1.heap.size := by omega
    have hbw : Below w.heap.size w w1 := ext_trans (ext_trans (ext_alloc _ _) (ext_alloc _ _)) hb
    go_wp2
    refine bodyPost_ret (v := .agg #[.int .i64 0, .bool false, .string ⟨#[]⟩, .int .i64 0, .string ⟨#[]⟩]) (by simp [results, Tryz.results78, go_sem, hc1, hl, hl']) rfl ⟨_, rfl, ?_, ?_⟩
    · rw [HS.out]; exact rd_val0
    · repeat' (first | (with_reducible exact hbw) | (with_reducible refine Below.setCell ?_ ?_ _) | (simp; done) | (simp; omega) | omega)
  · have HS := hid (show soundVal x = x by unfold soundVal; rw [HB.out]; rfl)
    go_enter Tryz.func78, Tryz.ntmps78
    go_wp2_with fail
    refine (implIsVal (x := x) _ (by exact rdVal_mk g0 g1 g2 g3) (tabs_below hT (ext_trans (ext_alloc _ _) (ext_alloc _ _)))).mono ?_
    rintro e w1 ⟨rfl, hb⟩
    rw [HB.out]
    obtain ⟨hc1, hf1⟩ := bcell hb
    have hl : w.heap.size + 1 < w1.heap.size := by have := hb.size; (try simp at this); omega
    have hl' : w.heap.size < w1.heap.size := by omega
    have hbw : Below w.heap.size w w1 := ext_trans (ext_trans (ext_alloc _ _) (ext_alloc _ _)) hb
    go_wp2
    refine bodyPost_ret (v := .agg #[.int .i64 x.kind, .bool x.num.neg, .string x.num.dig, .int .i64 x.num.exp, .string x.text]) (by simp [results, Tryz.results78, go_sem, hc1, hl, hl']) rfl ⟨_, rfl, ?_, ?_⟩
    · rw [HS.out]; exact rdVal_mk g0 g1 g2 g3
    · repeat' (first | (with_reducible exact hbw) | (with_reducible refine Below.setCell ?_ ?_ _) | (simp; done) | (simp; omega) | omega)
end Go.Proofs.YthfmhenphnllfaaGreatDoor
