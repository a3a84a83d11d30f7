/-
  What is proved here: ValTruth of both packages. The conditions 'Tabs' and 'Mx' speak of the library's tables and of its MaxLen.
-/
import Derived.Test.YtomcoilmpkpoeaaGreatDoorVLooks
import Derived.Test.YtomcoilmpkpoeaaGreatDoorVValNum
namespace Go.Proofs.YtomcoilmpkpoeaaGreatDoor
open Go.RowKit
set_option linter.unusedVariables false
set_option linter.unusedSimpArgs false

noncomputable def numericV (v : Val) : Bool := decide (v.kind = 0) || decide (v.kind = 1) || (decide (v.kind = 3) && looksB v.text)
noncomputable def truthV (v : Val) : Bool := if numericV v = true then !decide ((valNumV v).1.dig.size = 0) else !decide (v.text.size = 0)
noncomputable def truthR (x : Val) : Bool := truthV (soundVal x)
theorem empty_size (t : ByteArray) : t.toList.isEmpty = decide (t.size = 0) := by
  by_cases h : t.size = 0
  · rw [decide_eq_true h, ba_nil h, Lib.toList_data]; rfl
  · rw [decide_eq_false h, ba_nil_empty h]
theorem ok_val0 : valOk val0 = true := by
  unfold val0
  rw [valOk_0]
  unfold isDec0
  have e : (⟨#[]⟩ : ByteArray).toList = [] := by rw [Lib.toList_data]
  simp [e]
theorem sound_ok (x : Val) : valOk (soundVal x) = true := by
  unfold soundVal
  split
  · assumption
  · exact ok_val0
theorem sound_of {v : Val} (h : valOk v = true) : soundVal v = v := by unfold soundVal; rw [if_pos h]
theorem formD_dec0 {neg : Bool} {D : List UInt8} {exp : Int} (hD : digits D) : (formD neg D exp).1 = dec0 ∨ ¬ (formD neg D exp).1.dig.size = 0 := by
  unfold formD
  split
  · exact Or.inl rfl
  · rename_i h0
    simp only
    split
    · exact Or.inl rfl
    · split
      · exact Or.inl rfl
      · right
        show ¬ (mkB _).size = 0
        rw [mkB_size]
        intro h
        exact stripL_ne (cutL_ne hD h0) (List.eq_nil_of_length_eq_zero h)
theorem prefixR_dec0 (s : ByteArray) : (prefixR s).1 = dec0 ∨ ¬ (prefixR s).1.dig.size = 0 := by
  unfold prefixR
  split
  · exact Or.inl rfl
  · split
    · exact Or.inl rfl
    · rename_i hz
      have h := (numP_fits hz).2.1
      exact formD_dec0 (digits_append h.2.1 h.2.2.1)
theorem valNumV_dec0 {v : Val} (hv : valOk v = true) : (valNumV v).1 = dec0 ∨ ¬ (valNumV v).1.dig.size = 0 := by
  unfold valNumV
  split
  · rename_i h1
    by_cases hs : v.num.dig.size = 0
    · left
      obtain ⟨k, ⟨neg, dig, exp⟩, t⟩ := v
      obtain rfl : k = 1 := h1
      rw [valOk_1] at hv
      simp only [Bool.and_eq_true] at hv
      obtain rfl := ba_nil (s := dig) hs
      rw [decOk_nil] at hv
      simp only [Bool.and_eq_true, Bool.not_eq_true', decide_eq_true_eq] at hv
      obtain ⟨⟨rfl, rfl⟩, _⟩ := hv
      rfl
    · exact Or.inr hs
  · split
    · exact prefixR_dec0 _
    · exact Or.inl rfl
theorem truth_zero {v : Val} (hv : valOk v = true) (h : v.kind = 0) : v.text.size = 0 ∧ truthV v = false := by
  obtain ⟨k, d, t⟩ := v
  obtain rfl : k = 0 := h
  rw [valOk_0] at hv
  simp only [Bool.and_eq_true, decide_eq_true_eq] at hv
  refine ⟨?_, ?_⟩
  · show t.size = 0
    rw [Lib.size_eq, ← Lib.toList_data, hv.2]; rfl
  · unfold truthV
    rw [if_pos (by unfold numericV; simp)]
    rfl
set_option maxHeartbeats 8000000 in
theorem implTruth {cs : Array Value} {x : Val} (w : World) (hrd : Rd.rd (Old w) w cs.toList x) (hT : Tabs w) (hM : Mx w) :
    Calls Tryz.prog 20 #[.agg cs] w fun e w' => e = .returned (.bool (truthR x)) ∧ Below w.heap.size w w' := by
  obtain ⟨hcs, g0, g1, g2, g3⟩ := rdVal hrd
  obtain rfl := arr_of_list hcs
  clear hcs hrd
  have CS : Hid (∀ w, Tabs w → Calls Tryz.prog 49 #[.agg #[.int .i64 x.kind, .bool x.num.neg, .string x.num.dig, .int .i64 x.num.exp, .string x.text]] w fun e w' => ∃ cs' : Array Value, e = .returned (.agg cs') ∧ Rd.rd (Old w') w' cs'.toList (soundVal x) ∧ Below w.heap.size w w') := hid (fun w h => implValid (x := x) w (by exact rdVal_mk g0 g1 g2 g3) h)
  have hok := sound_ok x
  unfold truthR
  obtain ⟨v, hv⟩ : ∃ v, soundVal x = v := ⟨_, rfl⟩
  rw [hv] at CS hok ⊢
  have CL := hid (fun (w : World) (h : Tabs w) (m : Mx w) => implLooks v.text w h m)
  have CP := hid (fun (w : World) (ht : Tabs w) (hm : Mx w) => show Calls Tryz.prog 51 #[.string v.text] w fun e w' => e = .returned (.tuple #[.agg #[.bool (prefixR v.text).1.neg, .string (prefixR v.text).1.dig, .int .i64 (prefixR v.text).1.exp], .int .i64 (prefixR v.text).2]) ∧ Below w.heap.size w w' from implPrefix v.text w ht hm)
  have HOK := hid hok
  clear hv hok
  go_enter Tryz.func20, Tryz.ntmps20
  go_wp2_with fail
  refine (CS.out _ (tabs_below hT (ext_alloc _ _))).mono ?_
  rintro e w1 ⟨cs', rfl, hrd, hb⟩
  obtain ⟨hcs, k0, k1, k2, k3⟩ := rdVal hrd
  obtain rfl := arr_of_list hcs
  clear hcs hrd
  obtain ⟨hc1, hf1⟩ := bcell hb
  have hl' : w.heap.size < w1.heap.size := by have := hb.size; (try simp at this); omega
  have hbw : Below w.heap.size w w1 := ext_trans (ext_alloc _ _) hb
  have s0 := hc1 w.heap.size 0 (by simp)
  have s1 := hc1 w.heap.size 1 (by simp)
  have s2 := hc1 w.heap.size 2 (by simp)
  have s3 := hc1 w.heap.size 3 (by simp)
  have s4 := hc1 w.heap.size 4 (by simp)
  have z0 := hf1 w.heap.size 0 (by simp)
  have z1 := hf1 w.heap.size 1 (by simp)
  have z2 := hf1 w.heap.size 2 (by simp)
  have z3 := hf1 w.heap.size 3 (by simp)
  have z4 := hf1 w.heap.size 4 (by simp)
  simp at s0 z0 s1 z1 s2 z2 s3 z3 s4 z4
  clear hc1 hf1
  by_cases h1 : v.kind = 1
  · have HR := hid (show truthV v = !v.num.dig.toList.isEmpty by
      unfold truthV
      rw [if_pos (by unfold numericV; simp [h1]), empty_size]
      unfold valNumV
      rw [if_pos h1])
    have gk : (v.kind == 1) = true := by rw [beq_iff_eq]; exact h1
    clear h1
    go_wp2
    go_ret
    rw [HR.out]
    exact ⟨rfl, by repeat' (first | (with_reducible exact hbw) | (with_reducible refine Below.setCell ?_ ?_ _) | (simp; done) | (simp; omega) | omega)⟩
  have gk1 : (v.kind == 1) = false := by rw [beq_eq_false_iff_ne]; exact h1
  by_cases h3 : v.kind = 3
  · have gk3 : (v.kind == 3) = true := by rw [beq_iff_eq]; exact h3
    obtain ⟨lk, hlk⟩ : ∃ b, looksB v.text = b := ⟨_, rfl⟩
    have hnu : numericV v = lk := by unfold numericV; rw [hlk]; simp [h3]
    rw [hlk] at CL
    clear hlk
    cases lk
    · have HR := hid (show truthV v = !v.text.toList.isEmpty by unfold truthV; rw [if_neg (by rw [hnu]; decide), empty_size])
      clear h1 h3 hnu
      go_wp2_with fail
      refine (CL.out _ (tabs_below hT (by repeat' (first | (with_reducible exact hbw) | (with_reducible refine Below.setCell ?_ ?_ _) | (simp; done) | (simp; omega) | omega))) (mx_below hM (by repeat' (first | (with_reducible exact hbw) | (with_reducible refine Below.setCell ?_ ?_ _) | (simp; done) | (simp; omega) | omega)))).mono ?_
      rintro e w2 ⟨rfl, hb2⟩
      obtain ⟨hc2, hf2⟩ := bcell hb2
      replace s0 : w2.cell? ⟨w.heap.size, 0, none⟩ = some (.int .i64 v.kind) := (hc2 w.heap.size 0 (by simp; omega)).trans (by go_simp)
      replace s1 : w2.cell? ⟨w.heap.size, 1, none⟩ = some (.bool v.num.neg) := (hc2 w.heap.size 1 (by simp; omega)).trans (by go_simp)
      replace s2 : w2.cell? ⟨w.heap.size, 2, none⟩ = some (.string v.num.dig) := (hc2 w.heap.size 2 (by simp; omega)).trans (by go_simp)
      replace s3 : w2.cell? ⟨w.heap.size, 3, none⟩ = some (.int .i64 v.num.exp) := (hc2 w.heap.size 3 (by simp; omega)).trans (by go_simp)
      replace s4 : w2.cell? ⟨w.heap.size, 4, none⟩ = some (.string v.text) := (hc2 w.heap.size 4 (by simp; omega)).trans (by go_simp)
      replace z0 : w2.frozen? ⟨w.heap.size, 0, none⟩ = false := (hf2 w.heap.size 0 (by simp; omega)).trans (by go_simp)
      replace z1 : w2.frozen? ⟨w.heap.size, 1, none⟩ = false := (hf2 w.heap.size 1 (by simp; omega)).trans (by go_simp)
      replace z2 : w2.frozen? ⟨w.heap.size, 2, none⟩ = false := (hf2 w.heap.size 2 (by simp; omega)).trans (by go_simp)
      replace z3 : w2.frozen? ⟨w.heap.size, 3, none⟩ = false := (hf2 w.heap.size 3 (by simp; omega)).trans (by go_simp)
      replace z4 : w2.frozen? ⟨w.heap.size, 4, none⟩ = false := (hf2 w.heap.size 4 (by simp; omega)).trans (by go_simp)
      replace hl' : w.heap.size < w2.heap.size := by have := hb2.size; (try simp at this); omega
      clear hc2 hf2
      have hbw2 : Below w.heap.size w w2 := by
        refine Below.trans ?_ (hb2.mono (by simp; have := hbw.size; omega))
        repeat' (first | (with_reducible exact hbw) | (with_reducible refine Below.setCell ?_ ?_ _) | (simp; done) | (simp; omega) | omega)
      go_wp2
      go_ret
      rw [HR.out]
      exact ⟨rfl, hbw2⟩
    · have HR := hid (show truthV v = !(prefixR v.text).1.dig.toList.isEmpty by
        unfold truthV
        rw [if_pos hnu, empty_size]
        unfold valNumV
        rw [if_neg h1, if_pos (Or.inr h3)])
      clear h1 h3 hnu
      go_wp2_with fail
      refine (CL.out _ (tabs_below hT (by repeat' (first | (with_reducible exact hbw) | (with_reducible refine Below.setCell ?_ ?_ _) | (simp; done) | (simp; omega) | omega))) (mx_below hM (by repeat' (first | (with_reducible exact hbw) | (with_reducible refine Below.setCell ?_ ?_ _) | (simp; done) | (simp; omega) | omega)))).mono ?_
      rintro e w2 ⟨rfl, hb2⟩
      obtain ⟨hc2, hf2⟩ := bcell hb2
      replace s0 : w2.cell? ⟨w.heap.size, 0, none⟩ = some (.int .i64 v.kind) := (hc2 w.heap.size 0 (by simp; omega)).trans (by go_simp)
      replace s1 : w2.cell? ⟨w.heap.size, 1, none⟩ = some (.bool v.num.neg) := (hc2 w.heap.size 1 (by simp; omega)).trans (by go_simp)
      replace s2 : w2.cell? ⟨w.heap.size, 2, none⟩ = some (.string v.num.dig) := (hc2 w.heap.size 2 (by simp; omega)).trans (by go_simp)
      replace s3 : w2.cell? ⟨w.heap.size, 3, none⟩ = some (.int .i64 v.num.exp) := (hc2 w.heap.size 3 (by simp; omega)).trans (by go_simp)
      replace s4 : w2.cell? ⟨w.heap.size, 4, none⟩ = some (.string v.text) := (hc2 w.heap.size 4 (by simp; omega)).trans (by go_simp)
      replace z0 : w2.frozen? ⟨w.heap.size, 0, none⟩ = false := (hf2 w.heap.size 0 (by simp; omega)).trans (by go_simp)
      replace z1 : w2.frozen? ⟨w.heap.size, 1, none⟩ = false := (hf2 w.heap.size 1 (by simp; omega)).trans (by go_simp)
      replace z2 : w2.frozen? ⟨w.heap.size, 2, none⟩ = false := (hf2 w.heap.size 2 (by simp; omega)).trans (by go_simp)
      replace z3 : w2.frozen? ⟨w.heap.size, 3, none⟩ = false := (hf2 w.heap.size 3 (by simp; omega)).trans (by go_simp)
      replace z4 : w2.frozen? ⟨w.heap.size, 4, none⟩ = false := (hf2 w.heap.size 4 (by simp; omega)).trans (by go_simp)
      replace hl' : w.heap.size < w2.heap.size := by have := hb2.size; (try simp at this); omega
      clear hc2 hf2
      have hbw2 : Below w.heap.size w w2 := by
        refine Below.trans ?_ (hb2.mono (by simp; have := hbw.size; omega))
        repeat' (first | (with_reducible exact hbw) | (with_reducible refine Below.setCell ?_ ?_ _) | (simp; done) | (simp; omega) | omega)
      go_wp2_with fail
      refine (CP.out _ (tabs_below hT hbw2) (mx_below hM hbw2)).mono ?_
      rintro e w3 ⟨rfl, hb3⟩
      have hbw3 : Below w.heap.size w w3 := ext_trans hbw2 hb3
      go_wp2
      go_ret
      rw [HR.out]
      exact ⟨rfl, by repeat' (first | (with_reducible exact hbw3) | (with_reducible refine ext_trans ?_ (ext_alloc _ _)) | (with_reducible refine Below.setCell ?_ ?_ _) | (simp; done) | (simp; omega) | omega)⟩
  have gk3 : (v.kind == 3) = false := by rw [beq_eq_false_iff_ne]; exact h3
  have HR := hid (show truthV v = !v.text.toList.isEmpty by
    by_cases h0 : v.kind = 0
    · obtain ⟨e1, e2⟩ := truth_zero HOK.out h0
      rw [e2, empty_size, decide_eq_true e1]; rfl
    · unfold truthV
      rw [if_neg (by unfold numericV; simp [h0, h1, h3]), empty_size])
  clear h1 h3
  go_wp2
  go_ret
  rw [HR.out]
  exact ⟨rfl, by repeat' (first | (with_reducible exact hbw) | (with_reducible refine Below.setCell ?_ ?_ _) | (simp; done) | (simp; omega) | omega)⟩
end Go.Proofs.YtomcoilmpkpoeaaGreatDoor
