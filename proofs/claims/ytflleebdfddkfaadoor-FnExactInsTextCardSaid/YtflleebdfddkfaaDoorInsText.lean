/-
  What is proved here: spec.InsText and impl.InsText return the text of an instruction. The condition 'TP' says that the library's tables lie in the world.
-/
import Derived.Test.YtflleebdfddkfaaDoorNum
import Derived.Test.YtflleebdfddkfaaDoorQuote
import Derived.Test.YtflleebdfddkfaaDoorTabs3
import Derived.Test.YtflleebdfddkfaaDoorDvIns
import Derived.Laws.Concat
import Derived.Laws.Cover1
import Derived.Laws.Slices
namespace Go.Proofs.YtflleebdfddkfaaDoor
open Go.RowKit
set_option linter.unusedVariables false
set_option linter.unusedSimpArgs false

def insF (x : Ins) (k : Nat) : Int := if k = 0 then x.place else if k = 1 then x.a else x.b
def insC (k : Nat) : UInt8 := if k = 0 then 112 else if k = 1 then 97 else 98
def insP (x : Ins) : Nat → ByteArray
  | 0 => numB x.op
  | k + 1 => if insF x k = 0 then insP x k else insP x k ++ ⟨#[32, insC k]⟩ ++ numB (insF x k)
def insT (x : Ins) : ByteArray := if x.s.size = 0 then insP x 3 else insP x 3 ++ ⟨#[32]⟩ ++ quoteT x.s
set_option maxHeartbeats 16000000 in
set_option maxRecDepth 100000 in
theorem specInsText {cs : Array Value} {x : Ins} (w : World) (hrd : Rd.rd (Old w) w cs.toList x) :
    Calls Tryd.prog 10 #[.agg cs] w fun e w' => e = .returned (.string (insT x)) ∧ Below w.heap.size w w' := by
  obtain ⟨hcs, b0, b1, b2, b3, b4⟩ := rdIns hrd
  obtain rfl := arr_of_list hcs
  clear hcs hrd
  by_cases h0 : x.place = 0
  · have g0 : (x.place != 0) = false := by rw [h0]; rfl
    by_cases h1 : x.a = 0
    · have g1 : (x.a != 0) = false := by rw [h1]; rfl
      by_cases h2 : x.b = 0
      · have g2 : (x.b != 0) = false := by rw [h2]; rfl
        by_cases h3 : x.s.size = 0
        · have g3 : (x.s.toList == []) = true := by rw [ba_nil h3, Lib.toList_data]; rfl
          have HR := hid (show insT x = numB x.op by simp [insT, insP, insF, insC, h0, h1, h2, h3])
          clear h0 h1 h2 h3
          go_enter Tryd.func10, Tryd.ntmps10
          go_wp2_with fail
          refine (specNumText x.op _ b0).mono ?_
          rintro e w0 ⟨rfl, hb0⟩
          obtain ⟨hc0, hf0⟩ := bcell hb0
          have hl0 : w.heap.size < w0.heap.size := by have := hb0.size; (try simp at this); omega
          obtain ⟨nb0, hnb0⟩ : ∃ nb, numB x.op = nb := ⟨_, rfl⟩
          rw [hnb0]
          have hns0 : nb0.size ≤ 21 := by rw [← hnb0]; exact numB_size b0
          have HN0 := hid hnb0
          clear hnb0
          go_wp2
          go_ret
          rw [HR.out, HN0.out]
          exact ⟨rfl, ext_trans (ext_alloc _ _) hb0⟩
        · have g3 : (x.s.toList == []) = false := ba_nil_beq h3
          have HR := hid (show insT x = numB x.op ++ ⟨#[32]⟩ ++ quoteT x.s by simp [insT, insP, insF, insC, h0, h1, h2, h3])
          clear h0 h1 h2 h3
          go_enter Tryd.func10, Tryd.ntmps10
          go_wp2_with fail
          refine (specNumText x.op _ b0).mono ?_
          rintro e w0 ⟨rfl, hb0⟩
          obtain ⟨hc0, hf0⟩ := bcell hb0
          have hl0 : w.heap.size < w0.heap.size := by have := hb0.size; (try simp at this); omega
          obtain ⟨nb0, hnb0⟩ : ∃ nb, numB x.op = nb := ⟨_, rfl⟩
          rw [hnb0]
          have hns0 : nb0.size ≤ 21 := by rw [← hnb0]; exact numB_size b0
          have HN0 := hid hnb0
          clear hnb0
          have z1 : ¬ 9223372036854775807 < nb0.size + 1 := by omega
          go_wp2_with fail
          refine (specQuote x.s _).mono ?_
          rintro e w4 ⟨rfl, hb4⟩
          obtain ⟨hc4, hf4⟩ := bcell hb4
          have hl4 : w.heap.size < w4.heap.size := by have := hb4.size; (try simp at this); omega
          obtain ⟨nb4, hnb4⟩ : ∃ nb, quoteT x.s = nb := ⟨_, rfl⟩
          rw [hnb4]
          have hns4 : nb4.size ≤ 2002 := by rw [← hnb4]; exact quoteT_size _
          have HN4 := hid hnb4
          clear hnb4
          have z2 : ¬ 9223372036854775807 < nb0.size + 1 + nb4.size := by omega
          go_wp2
          go_ret
          rw [HR.out, HN0.out, HN4.out]
          exact ⟨rfl, ext_trans (ext_trans (ext_alloc _ _) hb0) hb4⟩
      · have g2 : (x.b != 0) = true := by rw [bne_iff_ne]; exact h2
        by_cases h3 : x.s.size = 0
        · have g3 : (x.s.toList == []) = true := by rw [ba_nil h3, Lib.toList_data]; rfl
          have HR := hid (show insT x = numB x.op ++ ⟨#[32, 98]⟩ ++ numB x.b by simp [insT, insP, insF, insC, h0, h1, h2, h3])
          clear h0 h1 h2 h3
          go_enter Tryd.func10, Tryd.ntmps10
          go_wp2_with fail
          refine (specNumText x.op _ b0).mono ?_
          rintro e w0 ⟨rfl, hb0⟩
          obtain ⟨hc0, hf0⟩ := bcell hb0
          have hl0 : w.heap.size < w0.heap.size := by have := hb0.size; (try simp at this); omega
          obtain ⟨nb0, hnb0⟩ : ∃ nb, numB x.op = nb := ⟨_, rfl⟩
          rw [hnb0]
          have hns0 : nb0.size ≤ 21 := by rw [← hnb0]; exact numB_size b0
          have HN0 := hid hnb0
          clear hnb0
          have z1 : ¬ 9223372036854775807 < nb0.size + 2 := by omega
          go_wp2_with fail
          refine (specNumText x.b _ b3).mono ?_
          rintro e w3 ⟨rfl, hb3⟩
          obtain ⟨hc3, hf3⟩ := bcell hb3
          have hl3 : w.heap.size < w3.heap.size := by have := hb3.size; (try simp at this); omega
          obtain ⟨nb3, hnb3⟩ : ∃ nb, numB x.b = nb := ⟨_, rfl⟩
          rw [hnb3]
          have hns3 : nb3.size ≤ 21 := by rw [← hnb3]; exact numB_size b3
          have HN3 := hid hnb3
          clear hnb3
          have z2 : ¬ 9223372036854775807 < nb0.size + 2 + nb3.size := by omega
          go_wp2
          go_ret
          rw [HR.out, HN0.out, HN3.out]
          exact ⟨rfl, ext_trans (ext_trans (ext_alloc _ _) hb0) hb3⟩
        · have g3 : (x.s.toList == []) = false := ba_nil_beq h3
          have HR := hid (show insT x = numB x.op ++ ⟨#[32, 98]⟩ ++ numB x.b ++ ⟨#[32]⟩ ++ quoteT x.s by simp [insT, insP, insF, insC, h0, h1, h2, h3])
          clear h0 h1 h2 h3
          go_enter Tryd.func10, Tryd.ntmps10
          go_wp2_with fail
          refine (specNumText x.op _ b0).mono ?_
          rintro e w0 ⟨rfl, hb0⟩
          obtain ⟨hc0, hf0⟩ := bcell hb0
          have hl0 : w.heap.size < w0.heap.size := by have := hb0.size; (try simp at this); omega
          obtain ⟨nb0, hnb0⟩ : ∃ nb, numB x.op = nb := ⟨_, rfl⟩
          rw [hnb0]
          have hns0 : nb0.size ≤ 21 := by rw [← hnb0]; exact numB_size b0
          have HN0 := hid hnb0
          clear hnb0
          have z1 : ¬ 9223372036854775807 < nb0.size + 2 := by omega
          go_wp2_with fail
          refine (specNumText x.b _ b3).mono ?_
          rintro e w3 ⟨rfl, hb3⟩
          obtain ⟨hc3, hf3⟩ := bcell hb3
          have hl3 : w.heap.size < w3.heap.size := by have := hb3.size; (try simp at this); omega
          obtain ⟨nb3, hnb3⟩ : ∃ nb, numB x.b = nb := ⟨_, rfl⟩
          rw [hnb3]
          have hns3 : nb3.size ≤ 21 := by rw [← hnb3]; exact numB_size b3
          have HN3 := hid hnb3
          clear hnb3
          have z2 : ¬ 9223372036854775807 < nb0.size + 2 + nb3.size := by omega
          have z3 : ¬ 9223372036854775807 < nb0.size + 2 + nb3.size + 1 := by omega
          go_wp2_with fail
          refine (specQuote x.s _).mono ?_
          rintro e w4 ⟨rfl, hb4⟩
          obtain ⟨hc4, hf4⟩ := bcell hb4
          have hl4 : w.heap.size < w4.heap.size := by have := hb4.size; (try simp at this); omega
          obtain ⟨nb4, hnb4⟩ : ∃ nb, quoteT x.s = nb := ⟨_, rfl⟩
          rw [hnb4]
          have hns4 : nb4.size ≤ 2002 := by rw [← hnb4]; exact quoteT_size _
          have HN4 := hid hnb4
          clear hnb4
          have z4 : ¬ 9223372036854775807 < nb0.size + 2 + nb3.size + 1 + nb4.size := by omega
          go_wp2
          go_ret
          rw [HR.out, HN0.out, HN3.out, HN4.out]
          exact ⟨rfl, ext_trans (ext_trans (ext_trans (ext_alloc _ _) hb0) hb3) hb4⟩
    · have g1 : (x.a != 0) = true := by rw [bne_iff_ne]; exact h1
      by_cases h2 : x.b = 0
      · have g2 : (x.b != 0) = false := by rw [h2]; rfl
        by_cases h3 : x.s.size = 0
        · have g3 : (x.s.toList == []) = true := by rw [ba_nil h3, Lib.toList_data]; rfl
          have HR := hid (show insT x = numB x.op ++ ⟨#[32, 97]⟩ ++ numB x.a by simp [insT, insP, insF, insC, h0, h1, h2, h3])
          clear h0 h1 h2 h3
          go_enter Tryd.func10, Tryd.ntmps10
          go_wp2_with fail
          refine (specNumText x.op _ b0).mono ?_
          rintro e w0 ⟨rfl, hb0⟩
          obtain ⟨hc0, hf0⟩ := bcell hb0
          have hl0 : w.heap.size < w0.heap.size := by have := hb0.size; (try simp at this); omega
          obtain ⟨nb0, hnb0⟩ : ∃ nb, numB x.op = nb := ⟨_, rfl⟩
          rw [hnb0]
          have hns0 : nb0.size ≤ 21 := by rw [← hnb0]; exact numB_size b0
          have HN0 := hid hnb0
          clear hnb0
          have z1 : ¬ 9223372036854775807 < nb0.size + 2 := by omega
          go_wp2_with fail
          refine (specNumText x.a _ b2).mono ?_
          rintro e w2 ⟨rfl, hb2⟩
          obtain ⟨hc2, hf2⟩ := bcell hb2
          have hl2 : w.heap.size < w2.heap.size := by have := hb2.size; (try simp at this); omega
          obtain ⟨nb2, hnb2⟩ : ∃ nb, numB x.a = nb := ⟨_, rfl⟩
          rw [hnb2]
          have hns2 : nb2.size ≤ 21 := by rw [← hnb2]; exact numB_size b2
          have HN2 := hid hnb2
          clear hnb2
          have z2 : ¬ 9223372036854775807 < nb0.size + 2 + nb2.size := by omega
          go_wp2
          go_ret
          rw [HR.out, HN0.out, HN2.out]
          exact ⟨rfl, ext_trans (ext_trans (ext_alloc _ _) hb0) hb2⟩
        · have g3 : (x.s.toList == []) = false := ba_nil_beq h3
          have HR := hid (show insT x = numB x.op ++ ⟨#[32, 97]⟩ ++ numB x.a ++ ⟨#[32]⟩ ++ quoteT x.s by simp [insT, insP, insF, insC, h0, h1, h2, h3])
          clear h0 h1 h2 h3
          go_enter Tryd.func10, Tryd.ntmps10
          go_wp2_with fail
          refine (specNumText x.op _ b0).mono ?_
          rintro e w0 ⟨rfl, hb0⟩
          obtain ⟨hc0, hf0⟩ := bcell hb0
          have hl0 : w.heap.size < w0.heap.size := by have := hb0.size; (try simp at this); omega
          obtain ⟨nb0, hnb0⟩ : ∃ nb, numB x.op = nb := ⟨_, rfl⟩
          rw [hnb0]
          have hns0 : nb0.size ≤ 21 := by rw [← hnb0]; exact numB_size b0
          have HN0 := hid hnb0
          clear hnb0
          have z1 : ¬ 9223372036854775807 < nb0.size + 2 := by omega
          go_wp2_with fail
          refine (specNumText x.a _ b2).mono ?_
          rintro e w2 ⟨rfl, hb2⟩
          obtain ⟨hc2, hf2⟩ := bcell hb2
          have hl2 : w.heap.size < w2.heap.size := by have := hb2.size; (try simp at this); omega
          obtain ⟨nb2, hnb2⟩ : ∃ nb, numB x.a = nb := ⟨_, rfl⟩
          rw [hnb2]
          have hns2 : nb2.size ≤ 21 := by rw [← hnb2]; exact numB_size b2
          have HN2 := hid hnb2
          clear hnb2
          have z2 : ¬ 9223372036854775807 < nb0.size + 2 + nb2.size := by omega
          have z3 : ¬ 9223372036854775807 < nb0.size + 2 + nb2.size + 1 := by omega
          go_wp2_with fail
          refine (specQuote x.s _).mono ?_
          rintro e w4 ⟨rfl, hb4⟩
          obtain ⟨hc4, hf4⟩ := bcell hb4
          have hl4 : w.heap.size < w4.heap.size := by have := hb4.size; (try simp at this); omega
          obtain ⟨nb4, hnb4⟩ : ∃ nb, quoteT x.s = nb := ⟨_, rfl⟩
          rw [hnb4]
          have hns4 : nb4.size ≤ 2002 := by rw [← hnb4]; exact quoteT_size _
          have HN4 := hid hnb4
          clear hnb4
          have z4 : ¬ 9223372036854775807 < nb0.size + 2 + nb2.size + 1 + nb4.size := by omega
          go_wp2
          go_ret
          rw [HR.out, HN0.out, HN2.out, HN4.out]
          exact ⟨rfl, ext_trans (ext_trans (ext_trans (ext_alloc _ _) hb0) hb2) hb4⟩
      · have g2 : (x.b != 0) = true := by rw [bne_iff_ne]; exact h2
        by_cases h3 : x.s.size = 0
        · have g3 : (x.s.toList == []) = true := by rw [ba_nil h3, Lib.toList_data]; rfl
          have HR := hid (show insT x = numB x.op ++ ⟨#[32, 97]⟩ ++ numB x.a ++ ⟨#[32, 98]⟩ ++ numB x.b by simp [insT, insP, insF, insC, h0, h1, h2, h3])
          clear h0 h1 h2 h3
          go_enter Tryd.func10, Tryd.ntmps10
          go_wp2_with fail
          refine (specNumText x.op _ b0).mono ?_
          rintro e w0 ⟨rfl, hb0⟩
          obtain ⟨hc0, hf0⟩ := bcell hb0
          have hl0 : w.heap.size < w0.heap.size := by have := hb0.size; (try simp at this); omega
          obtain ⟨nb0, hnb0⟩ : ∃ nb, numB x.op = nb := ⟨_, rfl⟩
          rw [hnb0]
          have hns0 : nb0.size ≤ 21 := by rw [← hnb0]; exact numB_size b0
          have HN0 := hid hnb0
          clear hnb0
          have z1 : ¬ 9223372036854775807 < nb0.size + 2 := by omega
          go_wp2_with fail
          refine (specNumText x.a _ b2).mono ?_
          rintro e w2 ⟨rfl, hb2⟩
          obtain ⟨hc2, hf2⟩ := bcell hb2
          have hl2 : w.heap.size < w2.heap.size := by have := hb2.size; (try simp at this); omega
          obtain ⟨nb2, hnb2⟩ : ∃ nb, numB x.a = nb := ⟨_, rfl⟩
          rw [hnb2]
          have hns2 : nb2.size ≤ 21 := by rw [← hnb2]; exact numB_size b2
          have HN2 := hid hnb2
          clear hnb2
          have z2 : ¬ 9223372036854775807 < nb0.size + 2 + nb2.size := by omega
          have z3 : ¬ 9223372036854775807 < nb0.size + 2 + nb2.size + 2 := by omega
          go_wp2_with fail
          refine (specNumText x.b _ b3).mono ?_
          rintro e w3 ⟨rfl, hb3⟩
          obtain ⟨hc3, hf3⟩ := bcell hb3
          have hl3 : w.heap.size < w3.heap.size := by have := hb3.size; (try simp at this); omega
          obtain ⟨nb3, hnb3⟩ : ∃ nb, numB x.b = nb := ⟨_, rfl⟩
          rw [hnb3]
          have hns3 : nb3.size ≤ 21 := by rw [← hnb3]; exact numB_size b3
          have HN3 := hid hnb3
          clear hnb3
          have z4 : ¬ 9223372036854775807 < nb0.size + 2 + nb2.size + 2 + nb3.size := by omega
          go_wp2
          go_ret
          rw [HR.out, HN0.out, HN2.out, HN3.out]
          exact ⟨rfl, ext_trans (ext_trans (ext_trans (ext_alloc _ _) hb0) hb2) hb3⟩
        · have g3 : (x.s.toList == []) = false := ba_nil_beq h3
          have HR := hid (show insT x = numB x.op ++ ⟨#[32, 97]⟩ ++ numB x.a ++ ⟨#[32, 98]⟩ ++ numB x.b ++ ⟨#[32]⟩ ++ quoteT x.s by simp [insT, insP, insF, insC, h0, h1, h2, h3])
          clear h0 h1 h2 h3
          go_enter Tryd.func10, Tryd.ntmps10
          go_wp2_with fail
          refine (specNumText x.op _ b0).mono ?_
          rintro e w0 ⟨rfl, hb0⟩
          obtain ⟨hc0, hf0⟩ := bcell hb0
          have hl0 : w.heap.size < w0.heap.size := by have := hb0.size; (try simp at this); omega
          obtain ⟨nb0, hnb0⟩ : ∃ nb, numB x.op = nb := ⟨_, rfl⟩
          rw [hnb0]
          have hns0 : nb0.size ≤ 21 := by rw [← hnb0]; exact numB_size b0
          have HN0 := hid hnb0
          clear hnb0
          have z1 : ¬ 9223372036854775807 < nb0.size + 2 := by omega
          go_wp2_with fail
          refine (specNumText x.a _ b2).mono ?_
          rintro e w2 ⟨rfl, hb2⟩
          obtain ⟨hc2, hf2⟩ := bcell hb2
          have hl2 : w.heap.size < w2.heap.size := by have := hb2.size; (try simp at this); omega
          obtain ⟨nb2, hnb2⟩ : ∃ nb, numB x.a = nb := ⟨_, rfl⟩
          rw [hnb2]
          have hns2 : nb2.size ≤ 21 := by rw [← hnb2]; exact numB_size b2
          have HN2 := hid hnb2
          clear hnb2
          have z2 : ¬ 9223372036854775807 < nb0.size + 2 + nb2.size := by omega
          have z3 : ¬ 9223372036854775807 < nb0.size + 2 + nb2.size + 2 := by omega
          go_wp2_with fail
          refine (specNumText x.b _ b3).mono ?_
          rintro e w3 ⟨rfl, hb3⟩
          obtain ⟨hc3, hf3⟩ := bcell hb3
          have hl3 : w.heap.size < w3.heap.size := by have := hb3.size; (try simp at this); omega
          obtain ⟨nb3, hnb3⟩ : ∃ nb, numB x.b = nb := ⟨_, rfl⟩
          rw [hnb3]
          have hns3 : nb3.size ≤ 21 := by rw [← hnb3]; exact numB_size b3
          have HN3 := hid hnb3
          clear hnb3
          have z4 : ¬ 9223372036854775807 < nb0.size + 2 + nb2.size + 2 + nb3.size := by omega
          have z5 : ¬ 9223372036854775807 < nb0.size + 2 + nb2.size + 2 + nb3.size + 1 := by omega
          go_wp2_with fail
          refine (specQuote x.s _).mono ?_
          rintro e w4 ⟨rfl, hb4⟩
          obtain ⟨hc4, hf4⟩ := bcell hb4
          have hl4 : w.heap.size < w4.heap.size := by have := hb4.size; (try simp at this); omega
          obtain ⟨nb4, hnb4⟩ : ∃ nb, quoteT x.s = nb := ⟨_, rfl⟩
          rw [hnb4]
          have hns4 : nb4.size ≤ 2002 := by rw [← hnb4]; exact quoteT_size _
          have HN4 := hid hnb4
          clear hnb4
          have z6 : ¬ 9223372036854775807 < nb0.size + 2 + nb2.size + 2 + nb3.size + 1 + nb4.size := by omega
          go_wp2
          go_ret
          rw [HR.out, HN0.out, HN2.out, HN3.out, HN4.out]
          exact ⟨rfl, ext_trans (ext_trans (ext_trans (ext_trans (ext_alloc _ _) hb0) hb2) hb3) hb4⟩
  · have g0 : (x.place != 0) = true := by rw [bne_iff_ne]; exact h0
    by_cases h1 : x.a = 0
    · have g1 : (x.a != 0) = false := by rw [h1]; rfl
      by_cases h2 : x.b = 0
      · have g2 : (x.b != 0) = false := by rw [h2]; rfl
        by_cases h3 : x.s.size = 0
        · have g3 : (x.s.toList == []) = true := by rw [ba_nil h3, Lib.toList_data]; rfl
          have HR := hid (show insT x = numB x.op ++ ⟨#[32, 112]⟩ ++ numB x.place by simp [insT, insP, insF, insC, h0, h1, h2, h3])
          clear h0 h1 h2 h3
          go_enter Tryd.func10, Tryd.ntmps10
          go_wp2_with fail
          refine (specNumText x.op _ b0).mono ?_
          rintro e w0 ⟨rfl, hb0⟩
          obtain ⟨hc0, hf0⟩ := bcell hb0
          have hl0 : w.heap.size < w0.heap.size := by have := hb0.size; (try simp at this); omega
          obtain ⟨nb0, hnb0⟩ : ∃ nb, numB x.op = nb := ⟨_, rfl⟩
          rw [hnb0]
          have hns0 : nb0.size ≤ 21 := by rw [← hnb0]; exact numB_size b0
          have HN0 := hid hnb0
          clear hnb0
          have z1 : ¬ 9223372036854775807 < nb0.size + 2 := by omega
          go_wp2_with fail
          refine (specNumText x.place _ b1).mono ?_
          rintro e w1 ⟨rfl, hb1⟩
          obtain ⟨hc1, hf1⟩ := bcell hb1
          have hl1 : w.heap.size < w1.heap.size := by have := hb1.size; (try simp at this); omega
          obtain ⟨nb1, hnb1⟩ : ∃ nb, numB x.place = nb := ⟨_, rfl⟩
          rw [hnb1]
          have hns1 : nb1.size ≤ 21 := by rw [← hnb1]; exact numB_size b1
          have HN1 := hid hnb1
          clear hnb1
          have z2 : ¬ 9223372036854775807 < nb0.size + 2 + nb1.size := by omega
          go_wp2
          go_ret
          rw [HR.out, HN0.out, HN1.out]
          exact ⟨rfl, ext_trans (ext_trans (ext_alloc _ _) hb0) hb1⟩
        · have g3 : (x.s.toList == []) = false := ba_nil_beq h3
          have HR := hid (show insT x = numB x.op ++ ⟨#[32, 112]⟩ ++ numB x.place ++ ⟨#[32]⟩ ++ quoteT x.s by simp [insT, insP, insF, insC, h0, h1, h2, h3])
          clear h0 h1 h2 h3
          go_enter Tryd.func10, Tryd.ntmps10
          go_wp2_with fail
          refine (specNumText x.op _ b0).mono ?_
          rintro e w0 ⟨rfl, hb0⟩
          obtain ⟨hc0, hf0⟩ := bcell hb0
          have hl0 : w.heap.size < w0.heap.size := by have := hb0.size; (try simp at this); omega
          obtain ⟨nb0, hnb0⟩ : ∃ nb, numB x.op = nb := ⟨_, rfl⟩
          rw [hnb0]
          have hns0 : nb0.size ≤ 21 := by rw [← hnb0]; exact numB_size b0
          have HN0 := hid hnb0
          clear hnb0
          have z1 : ¬ 9223372036854775807 < nb0.size + 2 := by omega
          go_wp2_with fail
          refine (specNumText x.place _ b1).mono ?_
          rintro e w1 ⟨rfl, hb1⟩
          obtain ⟨hc1, hf1⟩ := bcell hb1
          have hl1 : w.heap.size < w1.heap.size := by have := hb1.size; (try simp at this); omega
          obtain ⟨nb1, hnb1⟩ : ∃ nb, numB x.place = nb := ⟨_, rfl⟩
          rw [hnb1]
          have hns1 : nb1.size ≤ 21 := by rw [← hnb1]; exact numB_size b1
          have HN1 := hid hnb1
          clear hnb1
          have z2 : ¬ 9223372036854775807 < nb0.size + 2 + nb1.size := by omega
          have z3 : ¬ 9223372036854775807 < nb0.size + 2 + nb1.size + 1 := by omega
          go_wp2_with fail
          refine (specQuote x.s _).mono ?_
          rintro e w4 ⟨rfl, hb4⟩
          obtain ⟨hc4, hf4⟩ := bcell hb4
          have hl4 : w.heap.size < w4.heap.size := by have := hb4.size; (try simp at this); omega
          obtain ⟨nb4, hnb4⟩ : ∃ nb, quoteT x.s = nb := ⟨_, rfl⟩
          rw [hnb4]
          have hns4 : nb4.size ≤ 2002 := by rw [← hnb4]; exact quoteT_size _
          have HN4 := hid hnb4
          clear hnb4
          have z4 : ¬ 9223372036854775807 < nb0.size + 2 + nb1.size + 1 + nb4.size := by omega
          go_wp2
          go_ret
          rw [HR.out, HN0.out, HN1.out, HN4.out]
          exact ⟨rfl, ext_trans (ext_trans (ext_trans (ext_alloc _ _) hb0) hb1) hb4⟩
      · have g2 : (x.b != 0) = true := by rw [bne_iff_ne]; exact h2
        by_cases h3 : x.s.size = 0
        · have g3 : (x.s.toList == []) = true := by rw [ba_nil h3, Lib.toList_data]; rfl
          have HR := hid (show insT x = numB x.op ++ ⟨#[32, 112]⟩ ++ numB x.place ++ ⟨#[32, 98]⟩ ++ numB x.b by simp [insT, insP, insF, insC, h0, h1, h2, h3])
          clear h0 h1 h2 h3
          go_enter Tryd.func10, Tryd.ntmps10
          go_wp2_with fail
          refine (specNumText x.op _ b0).mono ?_
          rintro e w0 ⟨rfl, hb0⟩
          obtain ⟨hc0, hf0⟩ := bcell hb0
          have hl0 : w.heap.size < w0.heap.size := by have := hb0.size; (try simp at this); omega
          obtain ⟨nb0, hnb0⟩ : ∃ nb, numB x.op = nb := ⟨_, rfl⟩
          rw [hnb0]
          have hns0 : nb0.size ≤ 21 := by rw [← hnb0]; exact numB_size b0
          have HN0 := hid hnb0
          clear hnb0
          have z1 : ¬ 9223372036854775807 < nb0.size + 2 := by omega
          go_wp2_with fail
          refine (specNumText x.place _ b1).mono ?_
          rintro e w1 ⟨rfl, hb1⟩
          obtain ⟨hc1, hf1⟩ := bcell hb1
          have hl1 : w.heap.size < w1.heap.size := by have := hb1.size; (try simp at this); omega
          obtain ⟨nb1, hnb1⟩ : ∃ nb, numB x.place = nb := ⟨_, rfl⟩
          rw [hnb1]
          have hns1 : nb1.size ≤ 21 := by rw [← hnb1]; exact numB_size b1
          have HN1 := hid hnb1
          clear hnb1
          have z2 : ¬ 9223372036854775807 < nb0.size + 2 + nb1.size := by omega
          have z3 : ¬ 9223372036854775807 < nb0.size + 2 + nb1.size + 2 := by omega
          go_wp2_with fail
          refine (specNumText x.b _ b3).mono ?_
          rintro e w3 ⟨rfl, hb3⟩
          obtain ⟨hc3, hf3⟩ := bcell hb3
          have hl3 : w.heap.size < w3.heap.size := by have := hb3.size; (try simp at this); omega
          obtain ⟨nb3, hnb3⟩ : ∃ nb, numB x.b = nb := ⟨_, rfl⟩
          rw [hnb3]
          have hns3 : nb3.size ≤ 21 := by rw [← hnb3]; exact numB_size b3
          have HN3 := hid hnb3
          clear hnb3
          have z4 : ¬ 9223372036854775807 < nb0.size + 2 + nb1.size + 2 + nb3.size := by omega
          go_wp2
          go_ret
          rw [HR.out, HN0.out, HN1.out, HN3.out]
          exact ⟨rfl, ext_trans (ext_trans (ext_trans (ext_alloc _ _) hb0) hb1) hb3⟩
        · have g3 : (x.s.toList == []) = false := ba_nil_beq h3
          have HR := hid (show insT x = numB x.op ++ ⟨#[32, 112]⟩ ++ numB x.place ++ ⟨#[32, 98]⟩ ++ numB x.b ++ ⟨#[32]⟩ ++ quoteT x.s by simp [insT, insP, insF, insC, h0, h1, h2, h3])
          clear h0 h1 h2 h3
          go_enter Tryd.func10, Tryd.ntmps10
          go_wp2_with fail
          refine (specNumText x.op _ b0).mono ?_
          rintro e w0 ⟨rfl, hb0⟩
          obtain ⟨hc0, hf0⟩ := bcell hb0
          have hl0 : w.heap.size < w0.heap.size := by have := hb0.size; (try simp at this); omega
          obtain ⟨nb0, hnb0⟩ : ∃ nb, numB x.op = nb := ⟨_, rfl⟩
          rw [hnb0]
          have hns0 : nb0.size ≤ 21 := by rw [← hnb0]; exact numB_size b0
          have HN0 := hid hnb0
          clear hnb0
          have z1 : ¬ 9223372036854775807 < nb0.size + 2 := by omega
          go_wp2_with fail
          refine (specNumText x.place _ b1).mono ?_
          rintro e w1 ⟨rfl, hb1⟩
          obtain ⟨hc1, hf1⟩ := bcell hb1
          have hl1 : w.heap.size < w1.heap.size := by have := hb1.size; (try simp at this); omega
          obtain ⟨nb1, hnb1⟩ : ∃ nb, numB x.place = nb := ⟨_, rfl⟩
          rw [hnb1]
          have hns1 : nb1.size ≤ 21 := by rw [← hnb1]; exact numB_size b1
          have HN1 := hid hnb1
          clear hnb1
          have z2 : ¬ 9223372036854775807 < nb0.size + 2 + nb1.size := by omega
          have z3 : ¬ 9223372036854775807 < nb0.size + 2 + nb1.size + 2 := by omega
          go_wp2_with fail
          refine (specNumText x.b _ b3).mono ?_
          rintro e w3 ⟨rfl, hb3⟩
          obtain ⟨hc3, hf3⟩ := bcell hb3
          have hl3 : w.heap.size < w3.heap.size := by have := hb3.size; (try simp at this); omega
          obtain ⟨nb3, hnb3⟩ : ∃ nb, numB x.b = nb := ⟨_, rfl⟩
          rw [hnb3]
          have hns3 : nb3.size ≤ 21 := by rw [← hnb3]; exact numB_size b3
          have HN3 := hid hnb3
          clear hnb3
          have z4 : ¬ 9223372036854775807 < nb0.size + 2 + nb1.size + 2 + nb3.size := by omega
          have z5 : ¬ 9223372036854775807 < nb0.size + 2 + nb1.size + 2 + nb3.size + 1 := by omega
          go_wp2_with fail
          refine (specQuote x.s _).mono ?_
          rintro e w4 ⟨rfl, hb4⟩
          obtain ⟨hc4, hf4⟩ := bcell hb4
          have hl4 : w.heap.size < w4.heap.size := by have := hb4.size; (try simp at this); omega
          obtain ⟨nb4, hnb4⟩ : ∃ nb, quoteT x.s = nb := ⟨_, rfl⟩
          rw [hnb4]
          have hns4 : nb4.size ≤ 2002 := by rw [← hnb4]; exact quoteT_size _
          have HN4 := hid hnb4
          clear hnb4
          have z6 : ¬ 9223372036854775807 < nb0.size + 2 + nb1.size + 2 + nb3.size + 1 + nb4.size := by omega
          go_wp2
          go_ret
          rw [HR.out, HN0.out, HN1.out, HN3.out, HN4.out]
          exact ⟨rfl, ext_trans (ext_trans (ext_trans (ext_trans (ext_alloc _ _) hb0) hb1) hb3) hb4⟩
    · have g1 : (x.a != 0) = true := by rw [bne_iff_ne]; exact h1
      by_cases h2 : x.b = 0
      · have g2 : (x.b != 0) = false := by rw [h2]; rfl
        by_cases h3 : x.s.size = 0
        · have g3 : (x.s.toList == []) = true := by rw [ba_nil h3, Lib.toList_data]; rfl
          have HR := hid (show insT x = numB x.op ++ ⟨#[32, 112]⟩ ++ numB x.place ++ ⟨#[32, 97]⟩ ++ numB x.a by simp [insT, insP, insF, insC, h0, h1, h2, h3])
          clear h0 h1 h2 h3
          go_enter Tryd.func10, Tryd.ntmps10
          go_wp2_with fail
          refine (specNumText x.op _ b0).mono ?_
          rintro e w0 ⟨rfl, hb0⟩
          obtain ⟨hc0, hf0⟩ := bcell hb0
          have hl0 : w.heap.size < w0.heap.size := by have := hb0.size; (try simp at this); omega
          obtain ⟨nb0, hnb0⟩ : ∃ nb, numB x.op = nb := ⟨_, rfl⟩
          rw [hnb0]
          have hns0 : nb0.size ≤ 21 := by rw [← hnb0]; exact numB_size b0
          have HN0 := hid hnb0
          clear hnb0
          have z1 : ¬ 9223372036854775807 < nb0.size + 2 := by omega
          go_wp2_with fail
          refine (specNumText x.place _ b1).mono ?_
          rintro e w1 ⟨rfl, hb1⟩
          obtain ⟨hc1, hf1⟩ := bcell hb1
          have hl1 : w.heap.size < w1.heap.size := by have := hb1.size; (try simp at this); omega
          obtain ⟨nb1, hnb1⟩ : ∃ nb, numB x.place = nb := ⟨_, rfl⟩
          rw [hnb1]
          have hns1 : nb1.size ≤ 21 := by rw [← hnb1]; exact numB_size b1
          have HN1 := hid hnb1
          clear hnb1
          have z2 : ¬ 9223372036854775807 < nb0.size + 2 + nb1.size := by omega
          have z3 : ¬ 9223372036854775807 < nb0.size + 2 + nb1.size + 2 := by omega
          go_wp2_with fail
          refine (specNumText x.a _ b2).mono ?_
          rintro e w2 ⟨rfl, hb2⟩
          obtain ⟨hc2, hf2⟩ := bcell hb2
          have hl2 : w.heap.size < w2.heap.size := by have := hb2.size; (try simp at this); omega
          obtain ⟨nb2, hnb2⟩ : ∃ nb, numB x.a = nb := ⟨_, rfl⟩
          rw [hnb2]
          have hns2 : nb2.size ≤ 21 := by rw [← hnb2]; exact numB_size b2
          have HN2 := hid hnb2
          clear hnb2
          have z4 : ¬ 9223372036854775807 < nb0.size + 2 + nb1.size + 2 + nb2.size := by omega
          go_wp2
          go_ret
          rw [HR.out, HN0.out, HN1.out, HN2.out]
          exact ⟨rfl, ext_trans (ext_trans (ext_trans (ext_alloc _ _) hb0) hb1) hb2⟩
        · have g3 : (x.s.toList == []) = false := ba_nil_beq h3
          have HR := hid (show insT x = numB x.op ++ ⟨#[32, 112]⟩ ++ numB x.place ++ ⟨#[32, 97]⟩ ++ numB x.a ++ ⟨#[32]⟩ ++ quoteT x.s by simp [insT, insP, insF, insC, h0, h1, h2, h3])
          clear h0 h1 h2 h3
          go_enter Tryd.func10, Tryd.ntmps10
          go_wp2_with fail
          refine (specNumText x.op _ b0).mono ?_
          rintro e w0 ⟨rfl, hb0⟩
          obtain ⟨hc0, hf0⟩ := bcell hb0
          have hl0 : w.heap.size < w0.heap.size := by have := hb0.size; (try simp at this); omega
          obtain ⟨nb0, hnb0⟩ : ∃ nb, numB x.op = nb := ⟨_, rfl⟩
          rw [hnb0]
          have hns0 : nb0.size ≤ 21 := by rw [← hnb0]; exact numB_size b0
          have HN0 := hid hnb0
          clear hnb0
          have z1 : ¬ 9223372036854775807 < nb0.size + 2 := by omega
          go_wp2_with fail
          refine (specNumText x.place _ b1).mono ?_
          rintro e w1 ⟨rfl, hb1⟩
          obtain ⟨hc1, hf1⟩ := bcell hb1
          have hl1 : w.heap.size < w1.heap.size := by have := hb1.size; (try simp at this); omega
          obtain ⟨nb1, hnb1⟩ : ∃ nb, numB x.place = nb := ⟨_, rfl⟩
          rw [hnb1]
          have hns1 : nb1.size ≤ 21 := by rw [← hnb1]; exact numB_size b1
          have HN1 := hid hnb1
          clear hnb1
          have z2 : ¬ 9223372036854775807 < nb0.size + 2 + nb1.size := by omega
          have z3 : ¬ 9223372036854775807 < nb0.size + 2 + nb1.size + 2 := by omega
          go_wp2_with fail
          refine (specNumText x.a _ b2).mono ?_
          rintro e w2 ⟨rfl, hb2⟩
          obtain ⟨hc2, hf2⟩ := bcell hb2
          have hl2 : w.heap.size < w2.heap.size := by have := hb2.size; (try simp at this); omega
          obtain ⟨nb2, hnb2⟩ : ∃ nb, numB x.a = nb := ⟨_, rfl⟩
          rw [hnb2]
          have hns2 : nb2.size ≤ 21 := by rw [← hnb2]; exact numB_size b2
          have HN2 := hid hnb2
          clear hnb2
          have z4 : ¬ 9223372036854775807 < nb0.size + 2 + nb1.size + 2 + nb2.size := by omega
          have z5 : ¬ 9223372036854775807 < nb0.size + 2 + nb1.size + 2 + nb2.size + 1 := by omega
          go_wp2_with fail
          refine (specQuote x.s _).mono ?_
          rintro e w4 ⟨rfl, hb4⟩
          obtain ⟨hc4, hf4⟩ := bcell hb4
          have hl4 : w.heap.size < w4.heap.size := by have := hb4.size; (try simp at this); omega
          obtain ⟨nb4, hnb4⟩ : ∃ nb, quoteT x.s = nb := ⟨_, rfl⟩
          rw [hnb4]
          have hns4 : nb4.size ≤ 2002 := by rw [← hnb4]; exact quoteT_size _
          have HN4 := hid hnb4
          clear hnb4
          have z6 : ¬ 9223372036854775807 < nb0.size + 2 + nb1.size + 2 + nb2.size + 1 + nb4.size := by omega
          go_wp2
          go_ret
          rw [HR.out, HN0.out, HN1.out, HN2.out, HN4.out]
          exact ⟨rfl, ext_trans (ext_trans (ext_trans (ext_trans (ext_alloc _ _) hb0) hb1) hb2) hb4⟩
      · have g2 : (x.b != 0) = true := by rw [bne_iff_ne]; exact h2
        by_cases h3 : x.s.size = 0
        · have g3 : (x.s.toList == []) = true := by rw [ba_nil h3, Lib.toList_data]; rfl
          have HR := hid (show insT x = numB x.op ++ ⟨#[32, 112]⟩ ++ numB x.place ++ ⟨#[32, 97]⟩ ++ numB x.a ++ ⟨#[32, 98]⟩ ++ numB x.b by simp [insT, insP, insF, insC, h0, h1, h2, h3])
          clear h0 h1 h2 h3
          go_enter Tryd.func10, Tryd.ntmps10
          go_wp2_with fail
          refine (specNumText x.op _ b0).mono ?_
          rintro e w0 ⟨rfl, hb0⟩
          obtain ⟨hc0, hf0⟩ := bcell hb0
          have hl0 : w.heap.size < w0.heap.size := by have := hb0.size; (try simp at this); omega
          obtain ⟨nb0, hnb0⟩ : ∃ nb, numB x.op = nb := ⟨_, rfl⟩
          rw [hnb0]
          have hns0 : nb0.size ≤ 21 := by rw [← hnb0]; exact numB_size b0
          have HN0 := hid hnb0
          clear hnb0
          have z1 : ¬ 9223372036854775807 < nb0.size + 2 := by omega
          go_wp2_with fail
          refine (specNumText x.place _ b1).mono ?_
          rintro e w1 ⟨rfl, hb1⟩
          obtain ⟨hc1, hf1⟩ := bcell hb1
          have hl1 : w.heap.size < w1.heap.size := by have := hb1.size; (try simp at this); omega
          obtain ⟨nb1, hnb1⟩ : ∃ nb, numB x.place = nb := ⟨_, rfl⟩
          rw [hnb1]
          have hns1 : nb1.size ≤ 21 := by rw [← hnb1]; exact numB_size b1
          have HN1 := hid hnb1
          clear hnb1
          have z2 : ¬ 9223372036854775807 < nb0.size + 2 + nb1.size := by omega
          have z3 : ¬ 9223372036854775807 < nb0.size + 2 + nb1.size + 2 := by omega
          go_wp2_with fail
          refine (specNumText x.a _ b2).mono ?_
          rintro e w2 ⟨rfl, hb2⟩
          obtain ⟨hc2, hf2⟩ := bcell hb2
          have hl2 : w.heap.size < w2.heap.size := by have := hb2.size; (try simp at this); omega
          obtain ⟨nb2, hnb2⟩ : ∃ nb, numB x.a = nb := ⟨_, rfl⟩
          rw [hnb2]
          have hns2 : nb2.size ≤ 21 := by rw [← hnb2]; exact numB_size b2
          have HN2 := hid hnb2
          clear hnb2
          have z4 : ¬ 9223372036854775807 < nb0.size + 2 + nb1.size + 2 + nb2.size := by omega
          have z5 : ¬ 9223372036854775807 < nb0.size + 2 + nb1.size + 2 + nb2.size + 2 := by omega
          go_wp2_with fail
          refine (specNumText x.b _ b3).mono ?_
          rintro e w3 ⟨rfl, hb3⟩
          obtain ⟨hc3, hf3⟩ := bcell hb3
          have hl3 : w.heap.size < w3.heap.size := by have := hb3.size; (try simp at this); omega
          obtain ⟨nb3, hnb3⟩ : ∃ nb, numB x.b = nb := ⟨_, rfl⟩
          rw [hnb3]
          have hns3 : nb3.size ≤ 21 := by rw [← hnb3]; exact numB_size b3
          have HN3 := hid hnb3
          clear hnb3
          have z6 : ¬ 9223372036854775807 < nb0.size + 2 + nb1.size + 2 + nb2.size + 2 + nb3.size := by omega
          go_wp2
          go_ret
          rw [HR.out, HN0.out, HN1.out, HN2.out, HN3.out]
          exact ⟨rfl, ext_trans (ext_trans (ext_trans (ext_trans (ext_alloc _ _) hb0) hb1) hb2) hb3⟩
        · have g3 : (x.s.toList == []) = false := ba_nil_beq h3
          have HR := hid (show insT x = numB x.op ++ ⟨#[32, 112]⟩ ++ numB x.place ++ ⟨#[32, 97]⟩ ++ numB x.a ++ ⟨#[32, 98]⟩ ++ numB x.b ++ ⟨#[32]⟩ ++ quoteT x.s by simp [insT, insP, insF, insC, h0, h1, h2, h3])
          clear h0 h1 h2 h3
          go_enter Tryd.func10, Tryd.ntmps10
          go_wp2_with fail
          refine (specNumText x.op _ b0).mono ?_
          rintro e w0 ⟨rfl, hb0⟩
          obtain ⟨hc0, hf0⟩ := bcell hb0
          have hl0 : w.heap.size < w0.heap.size := by have := hb0.size; (try simp at this); omega
          obtain ⟨nb0, hnb0⟩ : ∃ nb, numB x.op = nb := ⟨_, rfl⟩
          rw [hnb0]
          have hns0 : nb0.size ≤ 21 := by rw [← hnb0]; exact numB_size b0
          have HN0 := hid hnb0
          clear hnb0
          have z1 : ¬ 9223372036854775807 < nb0.size + 2 := by omega
          go_wp2_with fail
          refine (specNumText x.place _ b1).mono ?_
          rintro e w1 ⟨rfl, hb1⟩
          obtain ⟨hc1, hf1⟩ := bcell hb1
          have hl1 : w.heap.size < w1.heap.size := by have := hb1.size; (try simp at this); omega
          obtain ⟨nb1, hnb1⟩ : ∃ nb, numB x.place = nb := ⟨_, rfl⟩
          rw [hnb1]
          have hns1 : nb1.size ≤ 21 := by rw [← hnb1]; exact numB_size b1
          have HN1 := hid hnb1
          clear hnb1
          have z2 : ¬ 9223372036854775807 < nb0.size + 2 + nb1.size := by omega
          have z3 : ¬ 9223372036854775807 < nb0.size + 2 + nb1.size + 2 := by omega
          go_wp2_with fail
          refine (specNumText x.a _ b2).mono ?_
          rintro e w2 ⟨rfl, hb2⟩
          obtain ⟨hc2, hf2⟩ := bcell hb2
          have hl2 : w.heap.size < w2.heap.size := by have := hb2.size; (try simp at this); omega
          obtain ⟨nb2, hnb2⟩ : ∃ nb, numB x.a = nb := ⟨_, rfl⟩
          rw [hnb2]
          have hns2 : nb2.size ≤ 21 := by rw [← hnb2]; exact numB_size b2
          have HN2 := hid hnb2
          clear hnb2
          have z4 : ¬ 9223372036854775807 < nb0.size + 2 + nb1.size + 2 + nb2.size := by omega
          have z5 : ¬ 9223372036854775807 < nb0.size + 2 + nb1.size + 2 + nb2.size + 2 := by omega
          go_wp2_with fail
          refine (specNumText x.b _ b3).mono ?_
          rintro e w3 ⟨rfl, hb3⟩
          obtain ⟨hc3, hf3⟩ := bcell hb3
          have hl3 : w.heap.size < w3.heap.size := by have := hb3.size; (try simp at this); omega
          obtain ⟨nb3, hnb3⟩ : ∃ nb, numB x.b = nb := ⟨_, rfl⟩
          rw [hnb3]
          have hns3 : nb3.size ≤ 21 := by rw [← hnb3]; exact numB_size b3
          have HN3 := hid hnb3
          clear hnb3
          have z6 : ¬ 9223372036854775807 < nb0.size + 2 + nb1.size + 2 + nb2.size + 2 + nb3.size := by omega
          have z7 : ¬ 9223372036854775807 < nb0.size + 2 + nb1.size + 2 + nb2.size + 2 + nb3.size + 1 := by omega
          go_wp2_with fail
          refine (specQuote x.s _).mono ?_
          rintro e w4 ⟨rfl, hb4⟩
          obtain ⟨hc4, hf4⟩ := bcell hb4
          have hl4 : w.heap.size < w4.heap.size := by have := hb4.size; (try simp at this); omega
          obtain ⟨nb4, hnb4⟩ : ∃ nb, quoteT x.s = nb := ⟨_, rfl⟩
          rw [hnb4]
          have hns4 : nb4.size ≤ 2002 := by rw [← hnb4]; exact quoteT_size _
          have HN4 := hid hnb4
          clear hnb4
          have z8 : ¬ 9223372036854775807 < nb0.size + 2 + nb1.size + 2 + nb2.size + 2 + nb3.size + 1 + nb4.size := by omega
          go_wp2
          go_ret
          rw [HR.out, HN0.out, HN1.out, HN2.out, HN3.out, HN4.out]
          exact ⟨rfl, ext_trans (ext_trans (ext_trans (ext_trans (ext_trans (ext_alloc _ _) hb0) hb1) hb2) hb3) hb4⟩
theorem insP_size {x : Ins} (b0 : -9223372036854775808 ≤ x.op ∧ x.op ≤ 9223372036854775807) (b1 : -9223372036854775808 ≤ x.place ∧ x.place ≤ 9223372036854775807) (b2 : -9223372036854775808 ≤ x.a ∧ x.a ≤ 9223372036854775807) (b3 : -9223372036854775808 ≤ x.b ∧ x.b ≤ 9223372036854775807) : ∀ k, (insP x k).size ≤ 21 + 23 * k
  | 0 => by show (numB x.op).size ≤ _; have := numB_size b0; omega
  | k + 1 => by
    have ih := insP_size b0 b1 b2 b3 k
    have hn : (numB (insF x k)).size ≤ 21 := by
      apply numB_size
      unfold insF
      split
      · exact b1
      · split
        · exact b2
        · exact b3
    show (if insF x k = 0 then insP x k else insP x k ++ ⟨#[32, insC k]⟩ ++ numB (insF x k)).size ≤ _
    split
    · omega
    · rw [ByteArray.size_append, ByteArray.size_append]
      show (insP x k).size + 2 + _ ≤ _
      omega
set_option maxHeartbeats 16000000 in
set_option maxRecDepth 100000 in
theorem implInsText {cs : Array Value} {x : Ins} (w : World) (hrd : Rd.rd (Old w) w cs.toList x) (hT : TP w) :
    Calls Tryd.prog 12 #[.agg cs] w fun e w' => e = .returned (.string (insT x)) ∧ Below w.heap.size w w' := by
  obtain ⟨hcs, b0, b1, b2, b3, b4⟩ := rdIns hrd
  obtain rfl := arr_of_list hcs
  clear hcs hrd
  have hPS := insP_size b0 b1 b2 b3
  have j0 : ∀ w, (Instr.index 69 (.agg #[.int .i64 x.place, .int .i64 x.a, .int .i64 x.b]) (.int .i64 0)).run Tryd.prog w = .ok (.int .i64 x.place) w := fun _ => by kernel_rfl
  have j1 : ∀ w, (Instr.index 69 (.agg #[.int .i64 x.place, .int .i64 x.a, .int .i64 x.b]) (.int .i64 1)).run Tryd.prog w = .ok (.int .i64 x.a) w := fun _ => by kernel_rfl
  have j2 : ∀ w, (Instr.index 69 (.agg #[.int .i64 x.place, .int .i64 x.a, .int .i64 x.b]) (.int .i64 2)).run Tryd.prog w = .ok (.int .i64 x.b) w := fun _ => by kernel_rfl
  have w1' : IntKind.i64.wrap 1 = 1 := by decide
  have w2' : IntKind.i64.wrap 2 = 2 := by decide
  have w3' : IntKind.i64.wrap 3 = 3 := by decide
  have hp0 : (⟨#[112, 97, 98]⟩ : ByteArray).extract 0 1 = ⟨#[112]⟩ := by decide
  have hp1 : (⟨#[112, 97, 98]⟩ : ByteArray).extract 1 2 = ⟨#[97]⟩ := by decide
  have hp2 : (⟨#[112, 97, 98]⟩ : ByteArray).extract 2 3 = ⟨#[98]⟩ := by decide
  go_enter Tryd.func12, Tryd.ntmps12
  go_wp2_with fail
  refine (implNumText x.op _ (pt_below hT.2 (ext_alloc _ _)) b0).mono ?_
  rintro e w1 ⟨rfl, hb0⟩
  obtain ⟨hc1, hf1⟩ := bcell hb0
  have hl : w.heap.size < w1.heap.size := by have := hb0.size; (try simp at this); omega
  go_wp2
  go_loopw [3, 16] (fun s i wr => ∃ k : Nat, k ≤ 3 ∧ i = .int .i64 (k : Int) ∧ s = .string (insP x k) ∧ Below w1.heap.size w1 wr) (fun _ i _ => 3 - (intOf i).toNat)
  case atStart => exact ⟨0, by omega, rfl, rfl, Below.refl _ _⟩
  case round =>
    obtain ⟨k, hk, rfl, rfl, hb⟩ := hrel
    have hBw : Below w.heap.size w wr := ext_trans (ext_trans (ext_alloc _ _) hb0) hb
    have hsp := hPS k
    obtain ⟨sp, hspe⟩ : ∃ sp, insP x k = sp := ⟨_, rfl⟩
    rw [hspe] at hsp ⊢
    have HSP := hid hspe
    clear hspe
    by_cases hlt : k < 3
    · have hk3 : k = 0 ∨ k = 1 ∨ k = 2 := by omega
      rcases hk3 with rfl | rfl | rfl
      · by_cases h0 : x.place = 0
        · have g0 : (x.place != 0) = false := by rw [h0]; rfl
          have HS := hid (show insP x 1 = sp by rw [← HSP.out]; simp [insP, insF, h0])
          clear h0
          go_wp2
          go_roundw
          case rel => exact ⟨1, by omega, rfl, by rw [HS.out], hb⟩
          case measure => simp [intOf]
        · have g0 : (x.place != 0) = true := by rw [bne_iff_ne]; exact h0
          have HS := hid (show insP x 1 = sp ++ ⟨#[32, 112]⟩ ++ numB x.place by rw [← HSP.out]; simp [insP, insF, insC, h0])
          clear h0
          obtain ⟨nb, hnb⟩ : ∃ nb, numB x.place = nb := ⟨_, rfl⟩
          have hns : nb.size ≤ 21 := by rw [← hnb]; exact numB_size b1
          obtain ⟨q1, q2, q3⟩ : (¬ 9223372036854775807 < 2 + nb.size) ∧ (¬ 9223372036854775807 < sp.size + (2 + nb.size)) ∧ (¬ 9223372036854775807 < nb.size) := ⟨by omega, by omega, by omega⟩
          rw [hnb] at HS
          have HN := hid hnb
          clear hnb
          go_wp2_with fail
          refine wp_region_held_drew (S := fun w' => True) (by kernel_rfl) ?_ (fun hHeld => ?_)
          · trivial
          refine wpAnyH_take (i := 0) (v := ?_) rfl (by kernel_rfl) (by kernel_rfl) (by kernel_rfl) (fun _ _ _ h => h) (Or.inl ⟨by rfl, ?_⟩) (by assumption) ?_
          rotate_left
          · (intro w' hSw; (try dsimp only at hSw); go_simp; try (with_reducible rfl))
          change wpAnyH _ _ _ _ _ _ _ (Act.put _ (some 22) _) _
          try simp only [Act.put, List.setIfInBounds_toArray, List.set_cons_zero, List.set_cons_succ]
          refine wpAnyH_take (i := 1) (v := ?_) rfl (by kernel_rfl) (by kernel_rfl) (by kernel_rfl) (fun _ _ _ h => h) (Or.inl ⟨by rfl, ?_⟩) (by assumption) ?_
          rotate_left
          · (intro w' hSw; (try dsimp only at hSw); go_simp; try (with_reducible rfl))
          change wpAnyH _ _ _ _ _ _ _ (Act.put _ (some 23) _) _
          try simp only [Act.put, List.setIfInBounds_toArray, List.set_cons_zero, List.set_cons_succ]
          refine wpAnyH_take (i := 2) (v := ?_) rfl (by kernel_rfl) (by kernel_rfl) (by kernel_rfl) (fun _ _ _ h => h) (Or.inl ⟨by rfl, ?_⟩) (by assumption) ?_
          rotate_left
          · (intro w' hSw; (try dsimp only at hSw); go_simp; try (with_reducible rfl))
          change wpAnyH _ _ _ _ _ _ _ (Act.put _ (some 24) _) _
          try simp only [Act.put, List.setIfInBounds_toArray, List.set_cons_zero, List.set_cons_succ]
          refine wpAnyH_take (i := 3) (v := ?_) rfl (by kernel_rfl) (by kernel_rfl) (by kernel_rfl) (fun _ _ _ h => h) (Or.inl ⟨by rfl, ?_⟩) (by assumption) ?_
          rotate_left
          · (intro w' hSw; (try dsimp only at hSw); go_simp; try (with_reducible rfl))
          change wpAnyH _ _ _ _ _ _ _ (Act.put _ (some 25) _) _
          try simp only [Act.put, List.setIfInBounds_toArray, List.set_cons_zero, List.set_cons_succ]
          refine wpAnyH_take (i := 4) (v := ?_) rfl (by kernel_rfl) (by kernel_rfl) (by kernel_rfl) (fun _ _ _ h => h) (Or.inl ⟨by rfl, ?_⟩) (by assumption) ?_
          rotate_left
          · (intro w' hSw; (try dsimp only at hSw); go_simp; try (with_reducible rfl))
          change wpAnyH _ _ _ _ _ _ _ (Act.put _ (some 26) _) _
          try simp only [Act.put, List.setIfInBounds_toArray, List.set_cons_zero, List.set_cons_succ]
          refine wpAnyH_take (i := 5) (v := ?_) rfl (by kernel_rfl) (by kernel_rfl) (by kernel_rfl) (fun _ _ _ h => h) (Or.inl ⟨by rfl, ?_⟩) (by assumption) ?_
          rotate_left
          · (intro w' hSw; (try dsimp only at hSw); go_simp; try (with_reducible rfl))
          change wpAnyH _ _ _ _ _ _ _ (Act.put _ (some 27) _) _
          try simp only [Act.put, List.setIfInBounds_toArray, List.set_cons_zero, List.set_cons_succ]
          refine wpAnyH_take (i := 6) (v := ?_) rfl (by kernel_rfl) (by kernel_rfl) (by kernel_rfl) (fun _ _ _ h => h) (Or.inl ⟨by rfl, ?_⟩) (by assumption) ?_
          rotate_left
          · (intro w' hSw; (try dsimp only at hSw); go_simp; try (with_reducible rfl))
          change wpAnyH _ _ _ _ _ _ _ (Act.put _ (some 28) _) _
          try simp only [Act.put, List.setIfInBounds_toArray, List.set_cons_zero, List.set_cons_succ]
          refine wpAnyH_ready (rs := [7]) (by kernel_rfl) (by simp) ?_
          refine AllReadyH.cons (i := 7) rfl (fun K hK => ?_) AllReadyH.nil
          simp only [List.getElem_toArray, List.getElem_cons_succ, List.getElem_cons_zero]
          rw [if_pos (by rfl)]
          go_simp
          (go_at_call 36; refine (implNumText x.place _ (pt_below hT.2 (Below.drew hBw)) b1).mono ?_; rintro e w3 ⟨rfl, hb3⟩; rw [HN.out]; go_wp2_with fail)
          refine hK.out _ _ ?_ (fun hHeld => ?_)
          · (try dsimp only); try trivial
          clear hK K
          try simp only [Act.put, List.setIfInBounds_toArray, List.set_cons_zero, List.set_cons_succ]
          refine wpAnyH_take (i := 8) (v := ?_) rfl (by kernel_rfl) (by kernel_rfl) (by kernel_rfl) (fun _ _ _ h => h) (Or.inl ⟨by rfl, ?_⟩) (by assumption) ?_
          rotate_left
          · (intro w' hSw; (try dsimp only at hSw); go_simp; try (with_reducible rfl))
          change wpAnyH _ _ _ _ _ _ _ (Act.put _ (some 30) _) _
          try simp only [Act.put, List.setIfInBounds_toArray, List.set_cons_zero, List.set_cons_succ]
          refine wpAnyH_take (i := 9) (v := ?_) rfl (by kernel_rfl) (by kernel_rfl) (by kernel_rfl) (fun _ _ _ h => h) (Or.inl ⟨by rfl, ?_⟩) (by assumption) ?_
          rotate_left
          · (intro w' hSw; (try dsimp only at hSw); go_simp; try (with_reducible rfl))
          change wpAnyH _ _ _ _ _ _ _ (Act.put _ (some 31) _) _
          try simp only [Act.put, List.setIfInBounds_toArray, List.set_cons_zero, List.set_cons_succ]
          refine wpAnyH_take (i := 10) (v := ?_) rfl (by kernel_rfl) (by kernel_rfl) (by kernel_rfl) (fun _ _ _ h => h) (Or.inl ⟨by rfl, ?_⟩) (by assumption) ?_
          rotate_left
          · (intro w' hSw; (try dsimp only at hSw); go_simp; try (with_reducible rfl))
          change wpAnyH _ _ _ _ _ _ _ (Act.put _ (some 3) _) _
          try simp only [Act.put, List.setIfInBounds_toArray, List.set_cons_zero, List.set_cons_succ]
          refine wpAnyH_done (by kernel_rfl) ?_ _
          go_wp2
          go_roundw
          case rel => exact ⟨1, by omega, rfl, by rw [HS.out]; congr 1; apply ba_list; simp, ext_trans (Below.drew hb) hb3⟩
          case measure => simp [intOf]
      · by_cases h0 : x.a = 0
        · have g0 : (x.a != 0) = false := by rw [h0]; rfl
          have HS := hid (show insP x 2 = sp by rw [← HSP.out]; simp [insP, insF, h0])
          clear h0
          go_wp2
          go_roundw
          case rel => exact ⟨2, by omega, rfl, by rw [HS.out], hb⟩
          case measure => simp [intOf]
        · have g0 : (x.a != 0) = true := by rw [bne_iff_ne]; exact h0
          have HS := hid (show insP x 2 = sp ++ ⟨#[32, 97]⟩ ++ numB x.a by rw [← HSP.out]; simp [insP, insF, insC, h0])
          clear h0
          obtain ⟨nb, hnb⟩ : ∃ nb, numB x.a = nb := ⟨_, rfl⟩
          have hns : nb.size ≤ 21 := by rw [← hnb]; exact numB_size b2
          obtain ⟨q1, q2, q3⟩ : (¬ 9223372036854775807 < 2 + nb.size) ∧ (¬ 9223372036854775807 < sp.size + (2 + nb.size)) ∧ (¬ 9223372036854775807 < nb.size) := ⟨by omega, by omega, by omega⟩
          rw [hnb] at HS
          have HN := hid hnb
          clear hnb
          go_wp2_with fail
          refine wp_region_held_drew (S := fun w' => True) (by kernel_rfl) ?_ (fun hHeld => ?_)
          · trivial
          refine wpAnyH_take (i := 0) (v := ?_) rfl (by kernel_rfl) (by kernel_rfl) (by kernel_rfl) (fun _ _ _ h => h) (Or.inl ⟨by rfl, ?_⟩) (by assumption) ?_
          rotate_left
          · (intro w' hSw; (try dsimp only at hSw); go_simp; try (with_reducible rfl))
          change wpAnyH _ _ _ _ _ _ _ (Act.put _ (some 22) _) _
          try simp only [Act.put, List.setIfInBounds_toArray, List.set_cons_zero, List.set_cons_succ]
          refine wpAnyH_take (i := 1) (v := ?_) rfl (by kernel_rfl) (by kernel_rfl) (by kernel_rfl) (fun _ _ _ h => h) (Or.inl ⟨by rfl, ?_⟩) (by assumption) ?_
          rotate_left
          · (intro w' hSw; (try dsimp only at hSw); go_simp; try (with_reducible rfl))
          change wpAnyH _ _ _ _ _ _ _ (Act.put _ (some 23) _) _
          try simp only [Act.put, List.setIfInBounds_toArray, List.set_cons_zero, List.set_cons_succ]
          refine wpAnyH_take (i := 2) (v := ?_) rfl (by kernel_rfl) (by kernel_rfl) (by kernel_rfl) (fun _ _ _ h => h) (Or.inl ⟨by rfl, ?_⟩) (by assumption) ?_
          rotate_left
          · (intro w' hSw; (try dsimp only at hSw); go_simp; try (with_reducible rfl))
          change wpAnyH _ _ _ _ _ _ _ (Act.put _ (some 24) _) _
          try simp only [Act.put, List.setIfInBounds_toArray, List.set_cons_zero, List.set_cons_succ]
          refine wpAnyH_take (i := 3) (v := ?_) rfl (by kernel_rfl) (by kernel_rfl) (by kernel_rfl) (fun _ _ _ h => h) (Or.inl ⟨by rfl, ?_⟩) (by assumption) ?_
          rotate_left
          · (intro w' hSw; (try dsimp only at hSw); go_simp; try (with_reducible rfl))
          change wpAnyH _ _ _ _ _ _ _ (Act.put _ (some 25) _) _
          try simp only [Act.put, List.setIfInBounds_toArray, List.set_cons_zero, List.set_cons_succ]
          refine wpAnyH_take (i := 4) (v := ?_) rfl (by kernel_rfl) (by kernel_rfl) (by kernel_rfl) (fun _ _ _ h => h) (Or.inl ⟨by rfl, ?_⟩) (by assumption) ?_
          rotate_left
          · (intro w' hSw; (try dsimp only at hSw); go_simp; try (with_reducible rfl))
          change wpAnyH _ _ _ _ _ _ _ (Act.put _ (some 26) _) _
          try simp only [Act.put, List.setIfInBounds_toArray, List.set_cons_zero, List.set_cons_succ]
          refine wpAnyH_take (i := 5) (v := ?_) rfl (by kernel_rfl) (by kernel_rfl) (by kernel_rfl) (fun _ _ _ h => h) (Or.inl ⟨by rfl, ?_⟩) (by assumption) ?_
          rotate_left
          · (intro w' hSw; (try dsimp only at hSw); go_simp; try (with_reducible rfl))
          change wpAnyH _ _ _ _ _ _ _ (Act.put _ (some 27) _) _
          try simp only [Act.put, List.setIfInBounds_toArray, List.set_cons_zero, List.set_cons_succ]
          refine wpAnyH_take (i := 6) (v := ?_) rfl (by kernel_rfl) (by kernel_rfl) (by kernel_rfl) (fun _ _ _ h => h) (Or.inl ⟨by rfl, ?_⟩) (by assumption) ?_
          rotate_left
          · (intro w' hSw; (try dsimp only at hSw); go_simp; try (with_reducible rfl))
          change wpAnyH _ _ _ _ _ _ _ (Act.put _ (some 28) _) _
          try simp only [Act.put, List.setIfInBounds_toArray, List.set_cons_zero, List.set_cons_succ]
          refine wpAnyH_ready (rs := [7]) (by kernel_rfl) (by simp) ?_
          refine AllReadyH.cons (i := 7) rfl (fun K hK => ?_) AllReadyH.nil
          simp only [List.getElem_toArray, List.getElem_cons_succ, List.getElem_cons_zero]
          rw [if_pos (by rfl)]
          go_simp
          (go_at_call 36; refine (implNumText x.a _ (pt_below hT.2 (Below.drew hBw)) b2).mono ?_; rintro e w3 ⟨rfl, hb3⟩; rw [HN.out]; go_wp2_with fail)
          refine hK.out _ _ ?_ (fun hHeld => ?_)
          · (try dsimp only); try trivial
          clear hK K
          try simp only [Act.put, List.setIfInBounds_toArray, List.set_cons_zero, List.set_cons_succ]
          refine wpAnyH_take (i := 8) (v := ?_) rfl (by kernel_rfl) (by kernel_rfl) (by kernel_rfl) (fun _ _ _ h => h) (Or.inl ⟨by rfl, ?_⟩) (by assumption) ?_
          rotate_left
          · (intro w' hSw; (try dsimp only at hSw); go_simp; try (with_reducible rfl))
          change wpAnyH _ _ _ _ _ _ _ (Act.put _ (some 30) _) _
          try simp only [Act.put, List.setIfInBounds_toArray, List.set_cons_zero, List.set_cons_succ]
          refine wpAnyH_take (i := 9) (v := ?_) rfl (by kernel_rfl) (by kernel_rfl) (by kernel_rfl) (fun _ _ _ h => h) (Or.inl ⟨by rfl, ?_⟩) (by assumption) ?_
          rotate_left
          · (intro w' hSw; (try dsimp only at hSw); go_simp; try (with_reducible rfl))
          change wpAnyH _ _ _ _ _ _ _ (Act.put _ (some 31) _) _
          try simp only [Act.put, List.setIfInBounds_toArray, List.set_cons_zero, List.set_cons_succ]
          refine wpAnyH_take (i := 10) (v := ?_) rfl (by kernel_rfl) (by kernel_rfl) (by kernel_rfl) (fun _ _ _ h => h) (Or.inl ⟨by rfl, ?_⟩) (by assumption) ?_
          rotate_left
          · (intro w' hSw; (try dsimp only at hSw); go_simp; try (with_reducible rfl))
          change wpAnyH _ _ _ _ _ _ _ (Act.put _ (some 3) _) _
          try simp only [Act.put, List.setIfInBounds_toArray, List.set_cons_zero, List.set_cons_succ]
          refine wpAnyH_done (by kernel_rfl) ?_ _
          go_wp2
          go_roundw
          case rel => exact ⟨2, by omega, rfl, by rw [HS.out]; congr 1; apply ba_list; simp, ext_trans (Below.drew hb) hb3⟩
          case measure => simp [intOf]
      · by_cases h0 : x.b = 0
        · have g0 : (x.b != 0) = false := by rw [h0]; rfl
          have HS := hid (show insP x 3 = sp by rw [← HSP.out]; simp [insP, insF, h0])
          clear h0
          go_wp2
          go_roundw
          case rel => exact ⟨3, by omega, rfl, by rw [HS.out], hb⟩
          case measure => simp [intOf]
        · have g0 : (x.b != 0) = true := by rw [bne_iff_ne]; exact h0
          have HS := hid (show insP x 3 = sp ++ ⟨#[32, 98]⟩ ++ numB x.b by rw [← HSP.out]; simp [insP, insF, insC, h0])
          clear h0
          obtain ⟨nb, hnb⟩ : ∃ nb, numB x.b = nb := ⟨_, rfl⟩
          have hns : nb.size ≤ 21 := by rw [← hnb]; exact numB_size b3
          obtain ⟨q1, q2, q3⟩ : (¬ 9223372036854775807 < 2 + nb.size) ∧ (¬ 9223372036854775807 < sp.size + (2 + nb.size)) ∧ (¬ 9223372036854775807 < nb.size) := ⟨by omega, by omega, by omega⟩
          rw [hnb] at HS
          have HN := hid hnb
          clear hnb
          go_wp2_with fail
          refine wp_region_held_drew (S := fun w' => True) (by kernel_rfl) ?_ (fun hHeld => ?_)
          · trivial
          refine wpAnyH_take (i := 0) (v := ?_) rfl (by kernel_rfl) (by kernel_rfl) (by kernel_rfl) (fun _ _ _ h => h) (Or.inl ⟨by rfl, ?_⟩) (by assumption) ?_
          rotate_left
          · (intro w' hSw; (try dsimp only at hSw); go_simp; try (with_reducible rfl))
          change wpAnyH _ _ _ _ _ _ _ (Act.put _ (some 22) _) _
          try simp only [Act.put, List.setIfInBounds_toArray, List.set_cons_zero, List.set_cons_succ]
          refine wpAnyH_take (i := 1) (v := ?_) rfl (by kernel_rfl) (by kernel_rfl) (by kernel_rfl) (fun _ _ _ h => h) (Or.inl ⟨by rfl, ?_⟩) (by assumption) ?_
          rotate_left
          · (intro w' hSw; (try dsimp only at hSw); go_simp; try (with_reducible rfl))
          change wpAnyH _ _ _ _ _ _ _ (Act.put _ (some 23) _) _
          try simp only [Act.put, List.setIfInBounds_toArray, List.set_cons_zero, List.set_cons_succ]
          refine wpAnyH_take (i := 2) (v := ?_) rfl (by kernel_rfl) (by kernel_rfl) (by kernel_rfl) (fun _ _ _ h => h) (Or.inl ⟨by rfl, ?_⟩) (by assumption) ?_
          rotate_left
          · (intro w' hSw; (try dsimp only at hSw); go_simp; try (with_reducible rfl))
          change wpAnyH _ _ _ _ _ _ _ (Act.put _ (some 24) _) _
          try simp only [Act.put, List.setIfInBounds_toArray, List.set_cons_zero, List.set_cons_succ]
          refine wpAnyH_take (i := 3) (v := ?_) rfl (by kernel_rfl) (by kernel_rfl) (by kernel_rfl) (fun _ _ _ h => h) (Or.inl ⟨by rfl, ?_⟩) (by assumption) ?_
          rotate_left
          · (intro w' hSw; (try dsimp only at hSw); go_simp; try (with_reducible rfl))
          change wpAnyH _ _ _ _ _ _ _ (Act.put _ (some 25) _) _
          try simp only [Act.put, List.setIfInBounds_toArray, List.set_cons_zero, List.set_cons_succ]
          refine wpAnyH_take (i := 4) (v := ?_) rfl (by kernel_rfl) (by kernel_rfl) (by kernel_rfl) (fun _ _ _ h => h) (Or.inl ⟨by rfl, ?_⟩) (by assumption) ?_
          rotate_left
          · (intro w' hSw; (try dsimp only at hSw); go_simp; try (with_reducible rfl))
          change wpAnyH _ _ _ _ _ _ _ (Act.put _ (some 26) _) _
          try simp only [Act.put, List.setIfInBounds_toArray, List.set_cons_zero, List.set_cons_succ]
          refine wpAnyH_take (i := 5) (v := ?_) rfl (by kernel_rfl) (by kernel_rfl) (by kernel_rfl) (fun _ _ _ h => h) (Or.inl ⟨by rfl, ?_⟩) (by assumption) ?_
          rotate_left
          · (intro w' hSw; (try dsimp only at hSw); go_simp; try (with_reducible rfl))
          change wpAnyH _ _ _ _ _ _ _ (Act.put _ (some 27) _) _
          try simp only [Act.put, List.setIfInBounds_toArray, List.set_cons_zero, List.set_cons_succ]
          refine wpAnyH_take (i := 6) (v := ?_) rfl (by kernel_rfl) (by kernel_rfl) (by kernel_rfl) (fun _ _ _ h => h) (Or.inl ⟨by rfl, ?_⟩) (by assumption) ?_
          rotate_left
          · (intro w' hSw; (try dsimp only at hSw); go_simp; try (with_reducible rfl))
          change wpAnyH _ _ _ _ _ _ _ (Act.put _ (some 28) _) _
          try simp only [Act.put, List.setIfInBounds_toArray, List.set_cons_zero, List.set_cons_succ]
          refine wpAnyH_ready (rs := [7]) (by kernel_rfl) (by simp) ?_
          refine AllReadyH.cons (i := 7) rfl (fun K hK => ?_) AllReadyH.nil
          simp only [List.getElem_toArray, List.getElem_cons_succ, List.getElem_cons_zero]
          rw [if_pos (by rfl)]
          go_simp
          (go_at_call 36; refine (implNumText x.b _ (pt_below hT.2 (Below.drew hBw)) b3).mono ?_; rintro e w3 ⟨rfl, hb3⟩; rw [HN.out]; go_wp2_with fail)
          refine hK.out _ _ ?_ (fun hHeld => ?_)
          · (try dsimp only); try trivial
          clear hK K
          try simp only [Act.put, List.setIfInBounds_toArray, List.set_cons_zero, List.set_cons_succ]
          refine wpAnyH_take (i := 8) (v := ?_) rfl (by kernel_rfl) (by kernel_rfl) (by kernel_rfl) (fun _ _ _ h => h) (Or.inl ⟨by rfl, ?_⟩) (by assumption) ?_
          rotate_left
          · (intro w' hSw; (try dsimp only at hSw); go_simp; try (with_reducible rfl))
          change wpAnyH _ _ _ _ _ _ _ (Act.put _ (some 30) _) _
          try simp only [Act.put, List.setIfInBounds_toArray, List.set_cons_zero, List.set_cons_succ]
          refine wpAnyH_take (i := 9) (v := ?_) rfl (by kernel_rfl) (by kernel_rfl) (by kernel_rfl) (fun _ _ _ h => h) (Or.inl ⟨by rfl, ?_⟩) (by assumption) ?_
          rotate_left
          · (intro w' hSw; (try dsimp only at hSw); go_simp; try (with_reducible rfl))
          change wpAnyH _ _ _ _ _ _ _ (Act.put _ (some 31) _) _
          try simp only [Act.put, List.setIfInBounds_toArray, List.set_cons_zero, List.set_cons_succ]
          refine wpAnyH_take (i := 10) (v := ?_) rfl (by kernel_rfl) (by kernel_rfl) (by kernel_rfl) (fun _ _ _ h => h) (Or.inl ⟨by rfl, ?_⟩) (by assumption) ?_
          rotate_left
          · (intro w' hSw; (try dsimp only at hSw); go_simp; try (with_reducible rfl))
          change wpAnyH _ _ _ _ _ _ _ (Act.put _ (some 3) _) _
          try simp only [Act.put, List.setIfInBounds_toArray, List.set_cons_zero, List.set_cons_succ]
          refine wpAnyH_done (by kernel_rfl) ?_ _
          go_wp2
          go_roundw
          case rel => exact ⟨3, by omega, rfl, by rw [HS.out]; congr 1; apply ba_list; simp, ext_trans (Below.drew hb) hb3⟩
          case measure => simp [intOf]
    · have hk3 : k = 3 := by omega
      subst hk3
      obtain ⟨hc2, hf2⟩ := bcell hb
      by_cases h3 : x.s.size = 0
      · have g3 : (x.s.toList == []) = true := by rw [ba_nil h3, Lib.toList_data]; rfl
        have HR := hid (show insT x = sp by unfold insT; rw [if_pos h3]; exact HSP.out)
        clear h3
        go_wp2
        go_ret
        rw [HR.out]
        exact ⟨rfl, hBw⟩
      · have g3 : (x.s.toList == []) = false := ba_nil_beq h3
        have HR := hid (show insT x = sp ++ ⟨#[32]⟩ ++ quoteT x.s by unfold insT; rw [if_neg h3, HSP.out])
        clear h3
        go_wp2_with fail
        refine (implQuote x.s _ (tabs_below hT.1 hBw)).mono ?_
        rintro e w4 ⟨rfl, hb4⟩
        have hqs := quoteT_size x.s
        obtain ⟨qt, hqt⟩ : ∃ qt, quoteT x.s = qt := ⟨_, rfl⟩
        rw [hqt] at hqs ⊢
        obtain ⟨q1, q2⟩ : (¬ 9223372036854775807 < 1 + qt.size) ∧ (¬ 9223372036854775807 < sp.size + (1 + qt.size)) := ⟨by omega, by omega⟩
        have HQ := hid hqt
        clear hqt
        go_wp2
        go_ret
        refine ⟨end_string ?_, ext_trans hBw hb4⟩
        rw [HR.out, HQ.out]
        apply ba_list
        simp
end Go.Proofs.YtflleebdfddkfaaDoor
