/-
  What is proved here: spec.ValText and impl.ValText return the text of a value. The condition 'TP' says that the library's tables lie in the world.
-/
import Derived.Test.YtomcoilmpkpoeaaGreatDoorVDecText
import Derived.Test.YtomcoilmpkpoeaaGreatDoorVTabs3
namespace Go.Proofs.YtomcoilmpkpoeaaGreatDoor
open Go.RowKit
set_option linter.unusedVariables false
set_option linter.unusedSimpArgs false

def valT (x : Val) : ByteArray := if (soundVal x).kind = 1 then decTx (soundVal x).num else (soundVal x).text
theorem sound_dec {x : Val} (h : (soundVal x).kind = 1) : decOk (soundVal x).num = true := by
  unfold soundVal at h ⊢
  split
  · rename_i hv
    rw [if_pos hv] at h
    unfold valOk at hv
    rw [if_neg (by omega), if_pos h] at hv
    simp only [Bool.and_eq_true] at hv
    exact hv.1
  · rename_i hv
    rw [if_neg hv] at h
    exact absurd h (by decide)
set_option maxHeartbeats 1000000 in
theorem implValid {cs : Array Value} {x : Val} (w : World) (hrd : Rd.rd (Old w) w cs.toList x) (hT : Tabs w) :
    Calls Tryz.prog 49 #[.agg cs] w fun e w' => ∃ cs' : Array Value, e = .returned (.agg cs') ∧ Rd.rd (Old w') w' cs'.toList (soundVal x) ∧ Below w.heap.size w w' := by
  obtain ⟨hcs, g0, g1, g2, g3⟩ := rdVal hrd
  obtain rfl := arr_of_list hcs
  clear hcs hrd
  obtain ⟨b, hb⟩ : ∃ b, valOk x = b := ⟨_, rfl⟩
  have HB := hid hb
  clear hb
  have hres := fun (S : Nat → Prop) (w : World) => rd_sound (S := S) (w := w) (v := x) g0 g1 g2 g3
  cases b
  · have HS := hid (show soundVal x = val0 by unfold soundVal; rw [HB.out]; rfl)
    go_enter Tryz.func49, Tryz.ntmps49
    go_wp2_with fail
    refine (implIsVal (x := x) _ (by exact rdVal_mk g0 g1 g2 g3) (tabs_below hT (ext_trans (ext_alloc _ _) (ext_alloc _ _)))).mono ?_
    rintro e w1 ⟨rfl, hb⟩
    rw [HB.out]
    obtain ⟨hc1, hf1⟩ := bcell hb
    have hl : w.heap.size + 1 < w1.heap.size := by have := hb.size; (try simp at this); omega
    have hl' : w.heap.size < w1.heap.size := by omega
    have hbw : Below w.heap.size w w1 := ext_trans (ext_trans (ext_alloc _ _) (ext_alloc _ _)) hb
    go_wp2
    refine bodyPost_ret (v := .agg #[.int .i64 0, .bool false, .string ⟨#[]⟩, .int .i64 0, .string ⟨#[]⟩]) (by simp [results, Tryz.results49, go_sem, hc1, hl, hl']) rfl ⟨_, rfl, ?_, ?_⟩
    · rw [HS.out]; exact rd_val0
    · repeat' (first | (with_reducible exact hbw) | (with_reducible refine Below.setCell ?_ ?_ _) | (simp; done) | (simp; omega) | omega)
  · have HS := hid (show soundVal x = x by unfold soundVal; rw [HB.out]; rfl)
    go_enter Tryz.func49, Tryz.ntmps49
    go_wp2_with fail
    refine (implIsVal (x := x) _ (by exact rdVal_mk g0 g1 g2 g3) (tabs_below hT (ext_trans (ext_alloc _ _) (ext_alloc _ _)))).mono ?_
    rintro e w1 ⟨rfl, hb⟩
    rw [HB.out]
    obtain ⟨hc1, hf1⟩ := bcell hb
    have hl : w.heap.size + 1 < w1.heap.size := by have := hb.size; (try simp at this); omega
    have hl' : w.heap.size < w1.heap.size := by omega
    have hbw : Below w.heap.size w w1 := ext_trans (ext_trans (ext_alloc _ _) (ext_alloc _ _)) hb
    go_wp2
    refine bodyPost_ret (v := .agg #[.int .i64 x.kind, .bool x.num.neg, .string x.num.dig, .int .i64 x.num.exp, .string x.text]) (by simp [results, Tryz.results49, go_sem, hc1, hl, hl']) rfl ⟨_, rfl, ?_, ?_⟩
    · rw [HS.out]; exact rdVal_mk g0 g1 g2 g3
    · repeat' (first | (with_reducible exact hbw) | (with_reducible refine Below.setCell ?_ ?_ _) | (simp; done) | (simp; omega) | omega)
set_option maxHeartbeats 2000000 in
theorem implValText0 {cs : Array Value} {x : Val} (w : World) (hrd : Rd.rd (Old w) w cs.toList x) (hT : TP w) :
    Calls Tryz.prog 41 #[.agg cs] w fun e w' => e = .returned (.string (valT x)) ∧ Below w.heap.size w w' := by
  obtain ⟨hcs, g0, g1, g2, g3⟩ := rdVal hrd
  obtain rfl := arr_of_list hcs
  clear hcs hrd
  go_enter Tryz.func41, Tryz.ntmps41
  go_wp2_with fail
  refine (implValid (x := x) _ (by exact rdVal_mk g0 g1 g2 g3) (tabs_below hT.1 (ext_alloc _ _))).mono ?_
  rintro e w1 ⟨cs1, rfl, hr, hb⟩
  obtain ⟨hcs1, k0, k1, k2, k3⟩ := rdVal hr
  obtain rfl := arr_of_list hcs1
  have HD := hid (sound_dec (x := x))
  have HT0 := hid (show valT x = if (soundVal x).kind = 1 then decTx (soundVal x).num else (soundVal x).text from rfl)
  clear hcs1 hr
  obtain ⟨v, hv⟩ : ∃ v, soundVal x = v := ⟨_, rfl⟩
  rw [hv] at k0 k1 k2 k3 HD HT0 ⊢
  clear hv
  obtain ⟨hc1, hf1⟩ := bcell hb
  have hl' : w.heap.size < w1.heap.size := by have := hb.size; (try simp at this); omega
  have hbw : Below w.heap.size w w1 := ext_trans (ext_alloc _ _) hb
  by_cases hk : v.kind = 1
  · have gk : (v.kind == 1) = true := by rw [hk]; rfl
    have HR := hid (show valT x = decTx v.num by rw [HT0.out, if_pos hk])
    have HD2 := hid (HD.out hk)
    clear hk HT0 HD
    go_wp2_with fail
    refine (implDecText0 v.num.neg v.num.dig v.num.exp _ k1 k2 HD2.out (pt_below hT.2 (by repeat' (first | (with_reducible exact hbw) | (with_reducible refine Below.setCell ?_ ?_ _) | (simp; done) | (simp; omega) | omega)))).mono ?_
    rintro e w2 ⟨rfl, hb2⟩
    go_wp2
    go_ret
    rw [HR.out]
    refine ⟨end_string (by unfold decTx; rw [HD2.out]; rfl), ext_trans ?_ hb2⟩
    repeat' (first | (with_reducible exact hbw) | (with_reducible refine Below.setCell ?_ ?_ _) | (simp; done) | (simp; omega) | omega)
  · have gk : (v.kind == 1) = false := by rw [beq_eq_false_iff_ne]; exact hk
    have HR := hid (show valT x = v.text by rw [HT0.out, if_neg hk])
    clear hk HT0 HD
    go_wp2
    go_ret
    rw [HR.out]
    refine ⟨rfl, ?_⟩
    repeat' (first | (with_reducible exact hbw) | (with_reducible refine Below.setCell ?_ ?_ _) | (simp; done) | (simp; omega) | omega)
theorem implValText {cs : Array Value} {x : Val} (w : World) (hrd : Rd.rd (Old w) w cs.toList x) (hT : TP w) :
    Calls Tryz.prog 15 #[.agg cs] w fun e w' => e = .returned (.string (valT x)) ∧ Below w.heap.size w w' := by
  obtain ⟨hcs, g0, g1, g2, g3⟩ := rdVal hrd
  obtain rfl := arr_of_list hcs
  clear hcs hrd
  go_enter Tryz.func15, Tryz.ntmps15
  go_wp2_with fail
  refine (implValText0 (x := x) _ (by exact rdVal_mk g0 g1 g2 g3) (tp_below hT (ext_alloc _ _))).mono ?_
  rintro e w1 ⟨rfl, hb⟩
  go_wp2
  go_ret
  exact ⟨rfl, ext_trans (ext_alloc _ _) hb⟩
end Go.Proofs.YtomcoilmpkpoeaaGreatDoor
