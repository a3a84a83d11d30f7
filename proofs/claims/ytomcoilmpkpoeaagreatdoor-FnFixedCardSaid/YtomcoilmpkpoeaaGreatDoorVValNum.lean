/-
  What is proved here: ValNum, Looks and ValTruth of both packages. The conditions 'Tabs' and 'Mx' speak of the library's tables and of its MaxLen.
-/
import Derived.Test.YtomcoilmpkpoeaaGreatDoorVPrefix
import Derived.Test.YtomcoilmpkpoeaaGreatDoorVValText
namespace Go.Proofs.YtomcoilmpkpoeaaGreatDoor
open Go.RowKit
set_option linter.unusedVariables false
set_option linter.unusedSimpArgs false

def smallR (r : Dec × Int) : Prop := r.1.dig.size ≤ 9223372036854775807 ∧ (-9223372036854775808 ≤ r.1.exp ∧ r.1.exp ≤ 9223372036854775807)
theorem small_dec0 (c : Int) : smallR (dec0, c) := ⟨Nat.zero_le _, by show -9223372036854775808 ≤ (0 : Int) ∧ (0 : Int) ≤ 9223372036854775807; decide⟩
theorem formD_small {neg : Bool} {D : List UInt8} {exp : Int} (h : D.length ≤ 1000) : smallR (formD neg D exp) := by
  unfold formD
  split
  · exact small_dec0 0
  · simp only
    split
    · exact small_dec0 1
    · split
      · exact small_dec0 0
      · have h1 := stripL_len (cutL (trimL D))
        have h2 := cutL_size (trimL D)
        have h3 := (trimL_len D).1
        refine ⟨?_, ?_⟩
        · show (mkB _).size ≤ _
          rw [mkB_size]; omega
        · simp only; omega
theorem prefixR_small (s : ByteArray) : smallR (prefixR s) := by
  unfold prefixR
  split
  · exact small_dec0 3
  · rename_i hok
    split
    · exact small_dec0 0
    · rename_i hz
      refine formD_small ?_
      have h := (numP_fits hz).1
      have hl := congrArg List.length h
      have h1 : okText s = true := by simpa using hok
      have h2 := ok_size h1
      rw [Lib.size_eq] at h2
      have h3 : (bodyL s).length ≤ s.data.toList.length := by unfold bodyL; rw [List.length_drop]; omega
      simp only [List.length_append, List.length_take] at hl ⊢
      omega
noncomputable def valNumV (v : Val) : Dec × Int := if v.kind = 1 then (v.num, 0) else if v.kind = 2 ∨ v.kind = 3 then prefixR v.text else (dec0, 0)
noncomputable def valNumR (v : Val) : Dec × Int := valNumV (soundVal v)
theorem dec0_of {d : Dec} (h : isDec0 d = true) : d = dec0 := by
  obtain ⟨neg, dig, exp⟩ := d
  unfold isDec0 at h
  simp only [Bool.and_eq_true, Bool.not_eq_true', decide_eq_true_eq] at h
  obtain ⟨⟨h1, h2⟩, h3⟩ := h
  subst h1 h3
  have : dig = ⟨#[]⟩ := ba_toList_inj (h2.trans (by rw [Lib.toList_data]))
  rw [this]; rfl
theorem sound_kind (x : Val) : ((soundVal x).kind = 1 ∨ (soundVal x).kind = 2 ∨ (soundVal x).kind = 3) ∨ (soundVal x).num = dec0 := by
  unfold soundVal
  split
  · rename_i h
    obtain ⟨k, d, t⟩ := x
    by_cases h0 : k = 0
    · subst h0
      rw [valOk_0] at h
      simp only [Bool.and_eq_true] at h
      exact Or.inr (dec0_of h.1)
    by_cases h1 : k = 1
    · exact Or.inl (Or.inl h1)
    by_cases h2 : k = 2
    · exact Or.inl (Or.inr (Or.inl h2))
    by_cases h3 : k = 3
    · exact Or.inl (Or.inr (Or.inr h3))
    rw [valOk_else d t h0 h1 h2 h3] at h
    cases h
  · exact Or.inr rfl
theorem valNumV_small {v : Val} (h1 : v.num.dig.size ≤ 9223372036854775807) (h2 : -9223372036854775808 ≤ v.num.exp ∧ v.num.exp ≤ 9223372036854775807) : smallR (valNumV v) := by
  unfold valNumV
  split
  · exact ⟨h1, h2⟩
  · split
    · exact prefixR_small _
    · exact small_dec0 0
set_option maxHeartbeats 4000000 in
theorem implValNum0 {cs : Array Value} {x : Val} (w : World) (hrd : Rd.rd (Old w) w cs.toList x) (hT : Tabs w) (hM : Mx w) :
    Calls Tryz.prog 42 #[.agg cs] w fun e w' => e = .returned (formV (valNumR x)) ∧ smallR (valNumR x) ∧ Below w.heap.size w w' := by
  obtain ⟨hcs, g0, g1, g2, g3⟩ := rdVal hrd
  obtain rfl := arr_of_list hcs
  clear hcs hrd
  have CS : Hid (∀ w, Tabs w → Calls Tryz.prog 49 #[.agg #[.int .i64 x.kind, .bool x.num.neg, .string x.num.dig, .int .i64 x.num.exp, .string x.text]] w fun e w' => ∃ cs' : Array Value, e = .returned (.agg cs') ∧ Rd.rd (Old w') w' cs'.toList (soundVal x) ∧ Below w.heap.size w w') := hid (fun w h => implValid (x := x) w (by exact rdVal_mk g0 g1 g2 g3) h)
  have hsk := sound_kind x
  unfold valNumR
  obtain ⟨v, hv⟩ : ∃ v, soundVal x = v := ⟨_, rfl⟩
  rw [hv] at CS hsk ⊢
  have HSK := hid hsk
  clear hsk
  have CP := hid (fun (w : World) (ht : Tabs w) (hm : Mx w) => show Calls Tryz.prog 51 #[.string v.text] w fun e w' => e = .returned (.tuple #[.agg #[.bool (prefixR v.text).1.neg, .string (prefixR v.text).1.dig, .int .i64 (prefixR v.text).1.exp], .int .i64 (prefixR v.text).2]) ∧ Below w.heap.size w w' from implPrefix v.text w ht hm)
  clear hv
  have e0 : ((w.alloc (.cells #[.int .i64 x.kind, .bool x.num.neg, .string x.num.dig, .int .i64 x.num.exp, .string x.text] 39)).alloc (.cells #[.bool false, .string ⟨#[]⟩, .int .i64 0] 36)).heap.size = w.heap.size + 1 + 1 := by simp
  go_enter Tryz.func42, Tryz.ntmps42
  go_wp2_with fail
  refine (CS.out _ (tabs_below hT (ext_trans (ext_alloc _ _) (ext_alloc _ _)))).mono ?_
  rintro e w1 ⟨cs', rfl, hrd, hb⟩
  obtain ⟨hcs, k0, k1, k2, k3⟩ := rdVal hrd
  obtain rfl := arr_of_list hcs
  clear hcs hrd
  obtain ⟨hc1, hf1⟩ := bcell hb
  have hl : w.heap.size + 1 < w1.heap.size := by have := hb.size; (try simp at this); omega
  have hl' : w.heap.size < w1.heap.size := by omega
  have hbw : Below w.heap.size w w1 := ext_trans (ext_trans (ext_alloc _ _) (ext_alloc _ _)) hb
  have s0 := hc1 w.heap.size 0 (by simp; omega)
  have s1 := hc1 w.heap.size 1 (by simp; omega)
  have s2 := hc1 w.heap.size 2 (by simp; omega)
  have s3 := hc1 w.heap.size 3 (by simp; omega)
  have s4 := hc1 w.heap.size 4 (by simp; omega)
  have z0 := hf1 w.heap.size 0 (by simp; omega)
  have z1 := hf1 w.heap.size 1 (by simp; omega)
  have z2 := hf1 w.heap.size 2 (by simp; omega)
  have z3 := hf1 w.heap.size 3 (by simp; omega)
  have z4 := hf1 w.heap.size 4 (by simp; omega)
  have t0 := hc1 (w.heap.size + 1) 0 (by simp)
  have t1 := hc1 (w.heap.size + 1) 1 (by simp)
  have t2 := hc1 (w.heap.size + 1) 2 (by simp)
  have r0 := hf1 (w.heap.size + 1) 0 (by simp)
  have r1 := hf1 (w.heap.size + 1) 1 (by simp)
  have r2 := hf1 (w.heap.size + 1) 2 (by simp)
  simp at s0 s1 s2 s3 s4 z0 z1 z2 z3 z4 t0 t1 t2 r0 r1 r2
  clear hc1 hf1
  have HSM := hid (valNumV_small (v := v) k1 k2)
  by_cases h2 : v.kind = 2
  · have HR := hid (show valNumV v = prefixR v.text by unfold valNumV; rw [if_neg (by omega), if_pos (by omega)])
    rw [HR.out] at HSM
    rw [h2]
    clear h2
    go_wp2_with fail
    refine (CP.out _ (tabs_below hT (by repeat' (first | (with_reducible exact hbw) | (with_reducible refine Below.setCell ?_ ?_ _) | (simp; done) | (simp; omega) | omega))) (mx_below hM (by repeat' (first | (with_reducible exact hbw) | (with_reducible refine Below.setCell ?_ ?_ _) | (simp; done) | (simp; omega) | omega)))).mono ?_
    rintro e wN ⟨rfl, hb2⟩
    obtain ⟨hc2, hf2⟩ := bcell hb2
    have hl3 : w.heap.size + 1 < wN.heap.size := by have := hb2.size; (try simp at this); omega
    replace t0 : wN.cell? ⟨w.heap.size + 1, 0, none⟩ = some (.bool false) := (hc2 (w.heap.size + 1) 0 (by simp; omega)).trans (by go_simp)
    replace t1 : wN.cell? ⟨w.heap.size + 1, 1, none⟩ = some (.string ⟨#[]⟩) := (hc2 (w.heap.size + 1) 1 (by simp; omega)).trans (by go_simp)
    replace t2 : wN.cell? ⟨w.heap.size + 1, 2, none⟩ = some (.int .i64 0) := (hc2 (w.heap.size + 1) 2 (by simp; omega)).trans (by go_simp)
    replace r0 : wN.frozen? ⟨w.heap.size + 1, 0, none⟩ = false := (hf2 (w.heap.size + 1) 0 (by simp; omega)).trans (by go_simp)
    replace r1 : wN.frozen? ⟨w.heap.size + 1, 1, none⟩ = false := (hf2 (w.heap.size + 1) 1 (by simp; omega)).trans (by go_simp)
    replace r2 : wN.frozen? ⟨w.heap.size + 1, 2, none⟩ = false := (hf2 (w.heap.size + 1) 2 (by simp; omega)).trans (by go_simp)
    clear hc2 hf2
    have hbN : Below w.heap.size w wN := by
      refine Below.trans ?_ (hb2.mono (by simp; omega))
      repeat' (first | (with_reducible exact hbw) | (with_reducible refine Below.setCell ?_ ?_ _) | (simp; done) | (simp; omega) | omega)
    go_wp2
    refine bodyPost_ret (v := formV (prefixR v.text)) (by simp [results, Tryz.results42, go_sem, hl, hl', hl3, formV, s0, s1, s2, s3, s4, z0, z1, z2, z3, z4, t0, t1, t2, r0, r1, r2]) rfl ⟨by rw [HR.out], by rw [HR.out]; exact HSM.out, ?_⟩
    repeat' (first | (with_reducible exact hbN) | (with_reducible refine Below.setCell ?_ ?_ _) | (simp; done) | (simp; omega) | omega)
  by_cases h3 : v.kind = 3
  · have HR := hid (show valNumV v = prefixR v.text by unfold valNumV; rw [if_neg (by omega), if_pos (by omega)])
    rw [HR.out] at HSM
    rw [h3]
    clear h3
    go_wp2_with fail
    refine (CP.out _ (tabs_below hT (by repeat' (first | (with_reducible exact hbw) | (with_reducible refine Below.setCell ?_ ?_ _) | (simp; done) | (simp; omega) | omega))) (mx_below hM (by repeat' (first | (with_reducible exact hbw) | (with_reducible refine Below.setCell ?_ ?_ _) | (simp; done) | (simp; omega) | omega)))).mono ?_
    rintro e wN ⟨rfl, hb2⟩
    obtain ⟨hc2, hf2⟩ := bcell hb2
    have hl3 : w.heap.size + 1 < wN.heap.size := by have := hb2.size; (try simp at this); omega
    replace t0 : wN.cell? ⟨w.heap.size + 1, 0, none⟩ = some (.bool false) := (hc2 (w.heap.size + 1) 0 (by simp; omega)).trans (by go_simp)
    replace t1 : wN.cell? ⟨w.heap.size + 1, 1, none⟩ = some (.string ⟨#[]⟩) := (hc2 (w.heap.size + 1) 1 (by simp; omega)).trans (by go_simp)
    replace t2 : wN.cell? ⟨w.heap.size + 1, 2, none⟩ = some (.int .i64 0) := (hc2 (w.heap.size + 1) 2 (by simp; omega)).trans (by go_simp)
    replace r0 : wN.frozen? ⟨w.heap.size + 1, 0, none⟩ = false := (hf2 (w.heap.size + 1) 0 (by simp; omega)).trans (by go_simp)
    replace r1 : wN.frozen? ⟨w.heap.size + 1, 1, none⟩ = false := (hf2 (w.heap.size + 1) 1 (by simp; omega)).trans (by go_simp)
    replace r2 : wN.frozen? ⟨w.heap.size + 1, 2, none⟩ = false := (hf2 (w.heap.size + 1) 2 (by simp; omega)).trans (by go_simp)
    clear hc2 hf2
    have hbN : Below w.heap.size w wN := by
      refine Below.trans ?_ (hb2.mono (by simp; omega))
      repeat' (first | (with_reducible exact hbw) | (with_reducible refine Below.setCell ?_ ?_ _) | (simp; done) | (simp; omega) | omega)
    go_wp2
    refine bodyPost_ret (v := formV (prefixR v.text)) (by simp [results, Tryz.results42, go_sem, hl, hl', hl3, formV, s0, s1, s2, s3, s4, z0, z1, z2, z3, z4, t0, t1, t2, r0, r1, r2]) rfl ⟨by rw [HR.out], by rw [HR.out]; exact HSM.out, ?_⟩
    repeat' (first | (with_reducible exact hbN) | (with_reducible refine Below.setCell ?_ ?_ _) | (simp; done) | (simp; omega) | omega)
  have HR := hid (show valNumV v = (v.num, 0) by
    unfold valNumV
    by_cases h1 : v.kind = 1
    · rw [if_pos h1]
    · rw [if_neg h1, if_neg (by omega)]
      rcases HSK.out with h | h
      · omega
      · rw [h])
  rw [HR.out] at HSM
  have g2 : (v.kind == 2) = false := by rw [beq_eq_false_iff_ne]; exact h2
  have g3 : (v.kind == 3) = false := by rw [beq_eq_false_iff_ne]; exact h3
  clear h2 h3
  go_wp2
  refine bodyPost_ret (v := formV (v.num, 0)) (by simp [results, Tryz.results42, go_sem, hl, hl', formV, s0, s1, s2, s3, s4, z0, z1, z2, z3, z4, t0, t1, t2, r0, r1, r2]) rfl ⟨by rw [HR.out], by rw [HR.out]; exact HSM.out, ?_⟩
  repeat' (first | (with_reducible exact hbw) | (with_reducible refine Below.setCell ?_ ?_ _) | (simp; done) | (simp; omega) | omega)
set_option maxHeartbeats 4000000 in
theorem implValNum {cs : Array Value} {x : Val} (w : World) (hrd : Rd.rd (Old w) w cs.toList x) (hT : Tabs w) (hM : Mx w) :
    Calls Tryz.prog 16 #[.agg cs] w fun e w' => e = .returned (formV (valNumR x)) ∧ smallR (valNumR x) ∧ Below w.heap.size w w' := by
  obtain ⟨hcs, g0, g1, g2, g3⟩ := rdVal hrd
  obtain rfl := arr_of_list hcs
  clear hcs hrd
  have CS : Hid (∀ w, Tabs w → Mx w → Calls Tryz.prog 42 #[.agg #[.int .i64 x.kind, .bool x.num.neg, .string x.num.dig, .int .i64 x.num.exp, .string x.text]] w fun e w' => e = .returned (.tuple #[.agg #[.bool (valNumR x).1.neg, .string (valNumR x).1.dig, .int .i64 (valNumR x).1.exp], .int .i64 (valNumR x).2]) ∧ smallR (valNumR x) ∧ Below w.heap.size w w') := hid (fun w h m => implValNum0 (x := x) w (by exact rdVal_mk g0 g1 g2 g3) h m)
  go_enter Tryz.func16, Tryz.ntmps16
  go_wp2_with fail
  refine (CS.out _ (tabs_below hT (ext_trans (ext_alloc _ _) (ext_alloc _ _))) (mx_below hM (ext_trans (ext_alloc _ _) (ext_alloc _ _)))).mono ?_
  rintro e w1 ⟨rfl, hsm, hb⟩
  obtain ⟨hc1, hf1⟩ := bcell hb
  have hl : w.heap.size + 1 < w1.heap.size := by have := hb.size; (try simp at this); omega
  have hl' : w.heap.size < w1.heap.size := by omega
  have hbw : Below w.heap.size w w1 := ext_trans (ext_trans (ext_alloc _ _) (ext_alloc _ _)) hb
  have s0 := hc1 w.heap.size 0 (by simp; omega)
  have s1 := hc1 w.heap.size 1 (by simp; omega)
  have s2 := hc1 w.heap.size 2 (by simp; omega)
  have s3 := hc1 w.heap.size 3 (by simp; omega)
  have s4 := hc1 w.heap.size 4 (by simp; omega)
  have z0 := hf1 w.heap.size 0 (by simp; omega)
  have z1 := hf1 w.heap.size 1 (by simp; omega)
  have z2 := hf1 w.heap.size 2 (by simp; omega)
  have z3 := hf1 w.heap.size 3 (by simp; omega)
  have z4 := hf1 w.heap.size 4 (by simp; omega)
  have t0 := hc1 (w.heap.size + 1) 0 (by simp)
  have t1 := hc1 (w.heap.size + 1) 1 (by simp)
  have t2 := hc1 (w.heap.size + 1) 2 (by simp)
  have r0 := hf1 (w.heap.size + 1) 0 (by simp)
  have r1 := hf1 (w.heap.size + 1) 1 (by simp)
  have r2 := hf1 (w.heap.size + 1) 2 (by simp)
  simp at s0 s1 s2 s3 s4 z0 z1 z2 z3 z4 t0 t1 t2 r0 r1 r2
  clear hc1 hf1
  go_wp2
  refine bodyPost_ret (v := formV (valNumR x)) (by simp [results, Tryz.results16, go_sem, hl, hl', formV, s0, s1, s2, s3, s4, z0, z1, z2, z3, z4, t0, t1, t2, r0, r1, r2]) rfl ⟨rfl, hsm, ?_⟩
  repeat' (first | (with_reducible exact hbw) | (with_reducible refine Below.setCell ?_ ?_ _) | (simp; done) | (simp; omega) | omega)
end Go.Proofs.YtomcoilmpkpoeaaGreatDoor
