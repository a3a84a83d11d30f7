/-
  What is proved here: impl.isNumeric, and ValCmp of both packages. The conditions 'TP' and 'Mx' speak of the library's tables and of its MaxLen.
-/
import Derived.Test.YtjpkdgedglnchaaGreatDoorNumOk
import Derived.Test.YtjpkdgedglnchaaGreatDoorTabs3
namespace Go.Proofs.YtjpkdgedglnchaaGreatDoor
open Go.RowKit
set_option linter.unusedVariables false
set_option linter.unusedSimpArgs false

theorem less_eq : ∀ a b : List UInt8, Op.bytesLess a b = false → (a == b) = !Op.bytesLess b a
  | [], [], _ => by simp [Op.bytesLess]
  | [], _ :: _, h => by simp [Op.bytesLess] at h
  | _ :: _, [], _ => by simp [Op.bytesLess]
  | x :: a, y :: b, h => by
    have ih := less_eq a b
    rw [Op.bytesLess] at h ⊢
    by_cases h1 : x < y
    · simp [h1] at h
    · by_cases h2 : y < x
      · have hne : ¬ x = y := fun h => by rw [h] at h2; exact absurd h2 (by rw [UInt8.lt_iff_toNat_lt]; omega)
        simp [h2, hne]
      · have he : x = y := by
          have h3 : ¬ x.toNat < y.toNat := h1
          have h4 : ¬ y.toNat < x.toNat := h2
          exact UInt8.toNat.inj (by omega)
        subst he
        simp [h1] at h ⊢
        simpa using ih h
def valB (v : Val) : Prop := (-9223372036854775808 ≤ v.kind ∧ v.kind ≤ 9223372036854775807) ∧ v.num.dig.size ≤ 9223372036854775807 ∧ (-9223372036854775808 ≤ v.num.exp ∧ v.num.exp ≤ 9223372036854775807) ∧ v.text.size ≤ 9223372036854775807
theorem valB_sound {x : Val} (h : valB x) : valB (soundVal x) := by
  unfold soundVal
  split
  · exact h
  · exact ⟨⟨by decide, by decide⟩, by decide, ⟨by decide, by decide⟩, by decide⟩
theorem sound_sound (x : Val) : soundVal (soundVal x) = soundVal x := sound_of (sound_ok x)
theorem valT_sound (x : Val) : valT (soundVal x) = valT x := by unfold valT; rw [sound_sound]
theorem numR_sound (x : Val) : valNumR (soundVal x) = valNumV (soundVal x) := by unfold valNumR; rw [sound_sound]
set_option maxHeartbeats 8000000 in
theorem implNumeric {cs : Array Value} {x : Val} (w : World) (hrd : Rd.rd (Old w) w cs.toList x) (hT : Tabs w) (hM : Mx w) :
    Calls Tryz.prog 26 #[.agg cs] w fun e w' => e = .returned (.bool (numericV (soundVal x))) ∧ Below w.heap.size w w' := by
  obtain ⟨hcs, g0, g1, g2, g3⟩ := rdVal hrd
  obtain rfl := arr_of_list hcs
  clear hcs hrd
  have CS : Hid (∀ w, Tabs w → Calls Tryz.prog 21 #[.agg #[.int .i64 x.kind, .bool x.num.neg, .string x.num.dig, .int .i64 x.num.exp, .string x.text]] w fun e w' => ∃ cs' : Array Value, e = .returned (.agg cs') ∧ Rd.rd (Old w') w' cs'.toList (soundVal x) ∧ Below w.heap.size w w') := hid (fun w h => implValid (x := x) w (by exact rdVal_mk g0 g1 g2 g3) h)
  obtain ⟨v, hv⟩ : ∃ v, soundVal x = v := ⟨_, rfl⟩
  rw [hv] at CS ⊢
  have CL := hid (fun (w : World) (h : Tabs w) (m : Mx w) => implLooks v.text w h m)
  clear hv
  go_enter Tryz.func26, Tryz.ntmps26
  go_wp2_with fail
  refine (CS.out _ (tabs_below hT (ext_alloc _ _))).mono ?_
  rintro e w1 ⟨cs', rfl, hrd, hb⟩
  obtain ⟨hcs, k0, k1, k2, k3⟩ := rdVal hrd
  obtain rfl := arr_of_list hcs
  clear hcs hrd
  obtain ⟨hc1, hf1⟩ := bcell hb
  have hl' : w.heap.size < w1.heap.size := by have := hb.size; (try simp at this); omega
  have hbw : Below w.heap.size w w1 := ext_trans (ext_alloc _ _) hb
  have s0 := hc1 w.heap.size 0 (by simp)
  have s1 := hc1 w.heap.size 1 (by simp)
  have s2 := hc1 w.heap.size 2 (by simp)
  have s3 := hc1 w.heap.size 3 (by simp)
  have s4 := hc1 w.heap.size 4 (by simp)
  have z0 := hf1 w.heap.size 0 (by simp)
  have z1 := hf1 w.heap.size 1 (by simp)
  have z2 := hf1 w.heap.size 2 (by simp)
  have z3 := hf1 w.heap.size 3 (by simp)
  have z4 := hf1 w.heap.size 4 (by simp)
  simp at s0 z0 s1 z1 s2 z2 s3 z3 s4 z4
  clear hc1 hf1
  have hbs : Below w.heap.size w (((((w1.setCell ⟨w.heap.size, 0, none⟩ (.int .i64 v.kind)).setCell ⟨w.heap.size, 1, none⟩ (.bool v.num.neg)).setCell ⟨w.heap.size, 2, none⟩ (.string v.num.dig)).setCell ⟨w.heap.size, 3, none⟩ (.int .i64 v.num.exp)).setCell ⟨w.heap.size, 4, none⟩ (.string v.text)) := by repeat' (first | (with_reducible exact hbw) | (with_reducible refine Below.setCell ?_ ?_ _) | (simp; done) | (simp; omega) | omega)
  by_cases h0 : v.kind = 0
  · have HR := hid (show numericV v = true by unfold numericV; simp [h0])
    have gk0 : (v.kind == 0) = true := by rw [beq_iff_eq]; exact h0
    clear h0
    go_wp2
    go_ret
    rw [HR.out]
    exact ⟨rfl, hbs⟩
  have gk0 : (v.kind == 0) = false := by rw [beq_eq_false_iff_ne]; exact h0
  by_cases h1 : v.kind = 1
  · have HR := hid (show numericV v = true by unfold numericV; simp [h1])
    have gk1 : (v.kind == 1) = true := by rw [beq_iff_eq]; exact h1
    clear h0 h1
    go_wp2
    go_ret
    rw [HR.out]
    exact ⟨rfl, hbs⟩
  have gk1 : (v.kind == 1) = false := by rw [beq_eq_false_iff_ne]; exact h1
  by_cases h3 : v.kind = 3
  · have HR := hid (show numericV v = looksB v.text by unfold numericV; simp [h0, h1, h3])
    have gk3 : (v.kind == 3) = true := by rw [beq_iff_eq]; exact h3
    clear h0 h1 h3
    go_wp2_with fail
    refine (CL.out _ (tabs_below hT hbs) (mx_below hM hbs)).mono ?_
    rintro e w2 ⟨rfl, hb2⟩
    go_wp2
    go_ret
    rw [HR.out]
    exact ⟨rfl, hbs.trans (hb2.mono (by simp; have := hbw.size; omega))⟩
  · have HR := hid (show numericV v = false by unfold numericV; simp [h0, h1, h3])
    have gk3 : (v.kind == 3) = false := by rw [beq_eq_false_iff_ne]; exact h3
    clear h0 h1 h3
    go_wp2
    go_ret
    rw [HR.out]
    exact ⟨rfl, hbs⟩
set_option maxHeartbeats 16000000 in
set_option maxRecDepth 100000 in
theorem specValCmp0 (x y : Val) (w : World) (hx : valB x) (hy : valB y) :
    Calls Tryz.prog 13 #[.agg #[.int .i64 x.kind, .bool x.num.neg, .string x.num.dig, .int .i64 x.num.exp, .string x.text], .agg #[.int .i64 y.kind, .bool y.num.neg, .string y.num.dig, .int .i64 y.num.exp, .string y.text]] w fun e w' => e = .returned (.int .i64 (cmpV x y)) ∧ Below w.heap.size w w' := by
  have CSX : Hid (∀ w, Calls Tryz.prog 16 #[.agg #[.int .i64 x.kind, .bool x.num.neg, .string x.num.dig, .int .i64 x.num.exp, .string x.text]] w fun e w' => e = .returned (.agg #[.int .i64 (soundVal x).kind, .bool (soundVal x).num.neg, .string (soundVal x).num.dig, .int .i64 (soundVal x).num.exp, .string (soundVal x).text]) ∧ Below w.heap.size w w') := hid (fun w => by
    refine (specSound (x := x) w (by exact rdVal_mk hx.1 hx.2.1 hx.2.2.1 hx.2.2.2)).mono ?_
    rintro e w' ⟨cs', rfl, hrd, hb⟩
    obtain ⟨hcs, _⟩ := rdVal hrd
    obtain rfl := arr_of_list hcs
    exact ⟨rfl, hb⟩)
  have CSY : Hid (∀ w, Calls Tryz.prog 16 #[.agg #[.int .i64 y.kind, .bool y.num.neg, .string y.num.dig, .int .i64 y.num.exp, .string y.text]] w fun e w' => e = .returned (.agg #[.int .i64 (soundVal y).kind, .bool (soundVal y).num.neg, .string (soundVal y).num.dig, .int .i64 (soundVal y).num.exp, .string (soundVal y).text]) ∧ Below w.heap.size w w') := hid (fun w => by
    refine (specSound (x := y) w (by exact rdVal_mk hy.1 hy.2.1 hy.2.2.1 hy.2.2.2)).mono ?_
    rintro e w' ⟨cs', rfl, hrd, hb⟩
    obtain ⟨hcs, _⟩ := rdVal hrd
    obtain rfl := arr_of_list hcs
    exact ⟨rfl, hb⟩)
  have bx := valB_sound hx
  have bY := valB_sound hy
  have okx := valNumV_ok (sound_ok x)
  have oky := valNumV_ok (sound_ok y)
  have nrx := numR_sound x
  have nry := numR_sound y
  have CTX := hid (fun (w : World) => specValText (x := soundVal x) w (by exact rdVal_mk bx.1 bx.2.1 bx.2.2.1 bx.2.2.2))
  have CTY := hid (fun (w : World) => specValText (x := soundVal y) w (by exact rdVal_mk bY.1 bY.2.1 bY.2.2.1 bY.2.2.2))
  rw [valT_sound] at CTX CTY
  have CNX := hid (fun (w : World) => specNumeric (soundVal x) w)
  have CNY := hid (fun (w : World) => specNumeric (soundVal y) w)
  have CVX := hid (fun (w : World) => specValNum (x := soundVal x) w (by exact rdVal_mk bx.1 bx.2.1 bx.2.2.1 bx.2.2.2))
  have CVY := hid (fun (w : World) => specValNum (x := soundVal y) w (by exact rdVal_mk bY.1 bY.2.1 bY.2.2.1 bY.2.2.2))
  rw [nrx] at CVX
  rw [nry] at CVY
  have hcv : cmpV x y = if (numericV (soundVal x) && numericV (soundVal y)) = true then cmpD (valNumV (soundVal x)).1 (valNumV (soundVal y)).1 else Lib.compareBytes (valT x).data.toList (valT y).data.toList := rfl
  obtain ⟨sx, hsx⟩ : ∃ v, soundVal x = v := ⟨_, rfl⟩
  obtain ⟨sy, hsy⟩ : ∃ v, soundVal y = v := ⟨_, rfl⟩
  obtain ⟨tx, htx⟩ : ∃ t, valT x = t := ⟨_, rfl⟩
  obtain ⟨ty, hty⟩ : ∃ t, valT y = t := ⟨_, rfl⟩
  rw [hsx] at CSX CTX CNX CVX okx hcv
  rw [hsy] at CSY CTY CNY CVY oky hcv
  rw [htx] at CTX hcv
  rw [hty] at CTY hcv
  obtain ⟨rx, hrx⟩ : ∃ r, valNumV sx = r := ⟨_, rfl⟩
  obtain ⟨ry, hry⟩ : ∃ r, valNumV sy = r := ⟨_, rfl⟩
  obtain ⟨nx, hnx⟩ : ∃ r, numericV sx = r := ⟨_, rfl⟩
  obtain ⟨ny, hny⟩ : ∃ r, numericV sy = r := ⟨_, rfl⟩
  rw [hrx] at CVX okx hcv
  rw [hry] at CVY oky hcv
  rw [hnx] at CNX hcv
  rw [hny] at CNY hcv
  obtain ⟨dx, cx⟩ := rx
  obtain ⟨dy, cy⟩ := ry
  have CVX2 : Hid (∀ w, Calls Tryz.prog 7 #[.agg #[.int .i64 sx.kind, .bool sx.num.neg, .string sx.num.dig, .int .i64 sx.num.exp, .string sx.text]] w fun e w' => e = .returned (.tuple #[.agg #[.bool dx.neg, .string dx.dig, .int .i64 dx.exp], .int .i64 cx]) ∧ Below w.heap.size w w') := hid (fun w => (CVX.out w).mono fun e w' h => ⟨h.1, h.2.2⟩)
  have CVY2 : Hid (∀ w, Calls Tryz.prog 7 #[.agg #[.int .i64 sy.kind, .bool sy.num.neg, .string sy.num.dig, .int .i64 sy.num.exp, .string sy.text]] w fun e w' => e = .returned (.tuple #[.agg #[.bool dy.neg, .string dy.dig, .int .i64 dy.exp], .int .i64 cy]) ∧ Below w.heap.size w w') := hid (fun w => (CVY.out w).mono fun e w' h => ⟨h.1, h.2.2⟩)
  have CDC := hid (fun (w : World) => specDecCmp dx dy w okx oky)
  obtain ⟨R, hR⟩ : ∃ r, cmpV x y = r := ⟨_, rfl⟩
  rw [hR] at hcv ⊢
  have HR := hid hcv
  clear hcv hR hrx hry hnx hny hsx hsy htx hty CVX CVY okx oky nrx nry
  go_enter Tryz.func13, Tryz.ntmps13
  go_upto_region 1 with fail
  obtain ⟨w2, hw2⟩ : ∃ w', (w.alloc (.cells #[.int .i64 x.kind, .bool x.num.neg, .string x.num.dig, .int .i64 x.num.exp, .string x.text] 31)).alloc (.cells #[.int .i64 y.kind, .bool y.num.neg, .string y.num.dig, .int .i64 y.num.exp, .string y.text] 31) = w' := ⟨_, rfl⟩
  rw [hw2]
  have hbw : Below w.heap.size w w2 := by subst hw2; exact ext_trans (ext_alloc _ _) (ext_alloc _ _)
  have kl0 : w.heap.size < w2.heap.size := by subst hw2; simp; omega
  have kl1 : w.heap.size + 1 < w2.heap.size := by subst hw2; simp
  have k00 : w2.cell? ⟨w.heap.size, 0, none⟩ = some (.int .i64 x.kind) := by subst hw2; go_simp
  have k01 : w2.cell? ⟨w.heap.size, 1, none⟩ = some (.bool x.num.neg) := by subst hw2; go_simp
  have k02 : w2.cell? ⟨w.heap.size, 2, none⟩ = some (.string x.num.dig) := by subst hw2; go_simp
  have k03 : w2.cell? ⟨w.heap.size, 3, none⟩ = some (.int .i64 x.num.exp) := by subst hw2; go_simp
  have k04 : w2.cell? ⟨w.heap.size, 4, none⟩ = some (.string x.text) := by subst hw2; go_simp
  have z00 : w2.frozen? ⟨w.heap.size, 0, none⟩ = false := by subst hw2; go_simp
  have z01 : w2.frozen? ⟨w.heap.size, 1, none⟩ = false := by subst hw2; go_simp
  have z02 : w2.frozen? ⟨w.heap.size, 2, none⟩ = false := by subst hw2; go_simp
  have z03 : w2.frozen? ⟨w.heap.size, 3, none⟩ = false := by subst hw2; go_simp
  have z04 : w2.frozen? ⟨w.heap.size, 4, none⟩ = false := by subst hw2; go_simp
  have k10 : w2.cell? ⟨w.heap.size + 1, 0, none⟩ = some (.int .i64 y.kind) := by subst hw2; go_simp
  have k11 : w2.cell? ⟨w.heap.size + 1, 1, none⟩ = some (.bool y.num.neg) := by subst hw2; go_simp
  have k12 : w2.cell? ⟨w.heap.size + 1, 2, none⟩ = some (.string y.num.dig) := by subst hw2; go_simp
  have k13 : w2.cell? ⟨w.heap.size + 1, 3, none⟩ = some (.int .i64 y.num.exp) := by subst hw2; go_simp
  have k14 : w2.cell? ⟨w.heap.size + 1, 4, none⟩ = some (.string y.text) := by subst hw2; go_simp
  have z10 : w2.frozen? ⟨w.heap.size + 1, 0, none⟩ = false := by subst hw2; go_simp
  have z11 : w2.frozen? ⟨w.heap.size + 1, 1, none⟩ = false := by subst hw2; go_simp
  have z12 : w2.frozen? ⟨w.heap.size + 1, 2, none⟩ = false := by subst hw2; go_simp
  have z13 : w2.frozen? ⟨w.heap.size + 1, 3, none⟩ = false := by subst hw2; go_simp
  have z14 : w2.frozen? ⟨w.heap.size + 1, 4, none⟩ = false := by subst hw2; go_simp
  clear hw2
  go_cut [] from 11 (fun wr => Below w.heap.size w wr ∧ w.heap.size + 1 < wr.heap.size ∧ wr.cell? ⟨w.heap.size, 0, none⟩ = some (.int .i64 sx.kind) ∧ wr.cell? ⟨w.heap.size, 1, none⟩ = some (.bool sx.num.neg) ∧ wr.cell? ⟨w.heap.size, 2, none⟩ = some (.string sx.num.dig) ∧ wr.cell? ⟨w.heap.size, 3, none⟩ = some (.int .i64 sx.num.exp) ∧ wr.cell? ⟨w.heap.size, 4, none⟩ = some (.string sx.text) ∧ wr.cell? ⟨w.heap.size + 1, 0, none⟩ = some (.int .i64 sy.kind) ∧ wr.cell? ⟨w.heap.size + 1, 1, none⟩ = some (.bool sy.num.neg) ∧ wr.cell? ⟨w.heap.size + 1, 2, none⟩ = some (.string sy.num.dig) ∧ wr.cell? ⟨w.heap.size + 1, 3, none⟩ = some (.int .i64 sy.num.exp) ∧ wr.cell? ⟨w.heap.size + 1, 4, none⟩ = some (.string sy.text))
  case first =>
    refine wp_region_held_drew (S := fun w' => True) (by kernel_rfl) ?_ (fun hHeld => ?_)
    · trivial
    refine wpAnyH_ready (rs := [0, 2]) (by kernel_rfl) (by simp) ?_
    refine AllReadyH.cons (i := 0) rfl (fun K hK => ?_) ?_
    · simp only [List.getElem_toArray, List.getElem_cons_succ, List.getElem_cons_zero]
      rw [if_pos (by rfl)]
      go_simp
      refine hK.out _ _ ?_ (fun hHeld => ?_)
      · first | trivial | ((try dsimp only); trivial)
      clear hK K
      try simp only [Act.put, List.setIfInBounds_toArray, List.set_cons_zero, List.set_cons_succ]
      refine wpAnyH_ready (rs := [1, 2]) (by kernel_rfl) (by simp) ?_
      refine AllReadyH.cons (i := 1) rfl (fun K hK => ?_) ?_
      · simp only [List.getElem_toArray, List.getElem_cons_succ, List.getElem_cons_zero]
        rw [if_pos (by rfl)]
        go_simp
        (go_at_call 16; refine (CSX.out _).mono ?_; rintro e' tA ⟨rfl, hbA⟩; go_wp2_with fail)
        replace k00 := keeps_cells hbA ⟨w.heap.size, 0, none⟩ (.int .i64 x.kind) k00
        replace k01 := keeps_cells hbA ⟨w.heap.size, 1, none⟩ (.bool x.num.neg) k01
        replace k02 := keeps_cells hbA ⟨w.heap.size, 2, none⟩ (.string x.num.dig) k02
        replace k03 := keeps_cells hbA ⟨w.heap.size, 3, none⟩ (.int .i64 x.num.exp) k03
        replace k04 := keeps_cells hbA ⟨w.heap.size, 4, none⟩ (.string x.text) k04
        replace k10 := keeps_cells hbA ⟨w.heap.size + 1, 0, none⟩ (.int .i64 y.kind) k10
        replace k11 := keeps_cells hbA ⟨w.heap.size + 1, 1, none⟩ (.bool y.num.neg) k11
        replace k12 := keeps_cells hbA ⟨w.heap.size + 1, 2, none⟩ (.string y.num.dig) k12
        replace k13 := keeps_cells hbA ⟨w.heap.size + 1, 3, none⟩ (.int .i64 y.num.exp) k13
        replace k14 := keeps_cells hbA ⟨w.heap.size + 1, 4, none⟩ (.string y.text) k14
        replace z00 := (hbA.frozen (p := ⟨w.heap.size, 0, none⟩) kl0).trans z00
        replace z01 := (hbA.frozen (p := ⟨w.heap.size, 1, none⟩) kl0).trans z01
        replace z02 := (hbA.frozen (p := ⟨w.heap.size, 2, none⟩) kl0).trans z02
        replace z03 := (hbA.frozen (p := ⟨w.heap.size, 3, none⟩) kl0).trans z03
        replace z04 := (hbA.frozen (p := ⟨w.heap.size, 4, none⟩) kl0).trans z04
        replace z10 := (hbA.frozen (p := ⟨w.heap.size + 1, 0, none⟩) kl1).trans z10
        replace z11 := (hbA.frozen (p := ⟨w.heap.size + 1, 1, none⟩) kl1).trans z11
        replace z12 := (hbA.frozen (p := ⟨w.heap.size + 1, 2, none⟩) kl1).trans z12
        replace z13 := (hbA.frozen (p := ⟨w.heap.size + 1, 3, none⟩) kl1).trans z13
        replace z14 := (hbA.frozen (p := ⟨w.heap.size + 1, 4, none⟩) kl1).trans z14
        replace kl0 := Nat.lt_of_lt_of_le kl0 hbA.size
        replace kl1 := Nat.lt_of_lt_of_le kl1 hbA.size
        replace hbw := ext_trans (Below.drew hbw) hbA
        refine hK.out _ _ ?_ (fun hHeld => ?_)
        · first | trivial | ((try dsimp only); trivial)
        clear hK K
        try simp only [Act.put, List.setIfInBounds_toArray, List.set_cons_zero, List.set_cons_succ]
        refine wpAnyH_ready (rs := [2]) (by kernel_rfl) (by simp) ?_
        refine AllReadyH.cons (i := 2) rfl (fun K hK => ?_) AllReadyH.nil
        simp only [List.getElem_toArray, List.getElem_cons_succ, List.getElem_cons_zero]
        rw [if_pos (by rfl)]
        go_simp
        refine hK.out _ _ ?_ (fun hHeld => ?_)
        · first | trivial | ((try dsimp only); trivial)
        clear hK K
        try simp only [Act.put, List.setIfInBounds_toArray, List.set_cons_zero, List.set_cons_succ]
        refine wpAnyH_ready (rs := [3]) (by kernel_rfl) (by simp) ?_
        refine AllReadyH.cons (i := 3) rfl (fun K hK => ?_) AllReadyH.nil
        simp only [List.getElem_toArray, List.getElem_cons_succ, List.getElem_cons_zero]
        rw [if_pos (by rfl)]
        go_simp
        (go_at_call 16; refine (CSY.out _).mono ?_; rintro e' tB ⟨rfl, hbB⟩; go_wp2_with fail)
        replace k00 := keeps_cells hbB ⟨w.heap.size, 0, none⟩ (.int .i64 x.kind) k00
        replace k01 := keeps_cells hbB ⟨w.heap.size, 1, none⟩ (.bool x.num.neg) k01
        replace k02 := keeps_cells hbB ⟨w.heap.size, 2, none⟩ (.string x.num.dig) k02
        replace k03 := keeps_cells hbB ⟨w.heap.size, 3, none⟩ (.int .i64 x.num.exp) k03
        replace k04 := keeps_cells hbB ⟨w.heap.size, 4, none⟩ (.string x.text) k04
        replace k10 := keeps_cells hbB ⟨w.heap.size + 1, 0, none⟩ (.int .i64 y.kind) k10
        replace k11 := keeps_cells hbB ⟨w.heap.size + 1, 1, none⟩ (.bool y.num.neg) k11
        replace k12 := keeps_cells hbB ⟨w.heap.size + 1, 2, none⟩ (.string y.num.dig) k12
        replace k13 := keeps_cells hbB ⟨w.heap.size + 1, 3, none⟩ (.int .i64 y.num.exp) k13
        replace k14 := keeps_cells hbB ⟨w.heap.size + 1, 4, none⟩ (.string y.text) k14
        replace z00 := (hbB.frozen (p := ⟨w.heap.size, 0, none⟩) kl0).trans z00
        replace z01 := (hbB.frozen (p := ⟨w.heap.size, 1, none⟩) kl0).trans z01
        replace z02 := (hbB.frozen (p := ⟨w.heap.size, 2, none⟩) kl0).trans z02
        replace z03 := (hbB.frozen (p := ⟨w.heap.size, 3, none⟩) kl0).trans z03
        replace z04 := (hbB.frozen (p := ⟨w.heap.size, 4, none⟩) kl0).trans z04
        replace z10 := (hbB.frozen (p := ⟨w.heap.size + 1, 0, none⟩) kl1).trans z10
        replace z11 := (hbB.frozen (p := ⟨w.heap.size + 1, 1, none⟩) kl1).trans z11
        replace z12 := (hbB.frozen (p := ⟨w.heap.size + 1, 2, none⟩) kl1).trans z12
        replace z13 := (hbB.frozen (p := ⟨w.heap.size + 1, 3, none⟩) kl1).trans z13
        replace z14 := (hbB.frozen (p := ⟨w.heap.size + 1, 4, none⟩) kl1).trans z14
        replace kl0 := Nat.lt_of_lt_of_le kl0 hbB.size
        replace kl1 := Nat.lt_of_lt_of_le kl1 hbB.size
        replace hbw := ext_trans hbw hbB
        refine hK.out _ _ ?_ (fun hHeld => ?_)
        · first | trivial | ((try dsimp only); trivial)
        clear hK K
        try simp only [Act.put, List.setIfInBounds_toArray, List.set_cons_zero, List.set_cons_succ]
        refine wpAnyH_ready (rs := [4]) (by kernel_rfl) (by simp) ?_
        refine AllReadyH.cons (i := 4) rfl (fun K hK => ?_) AllReadyH.nil
        simp only [List.getElem_toArray, List.getElem_cons_succ, List.getElem_cons_zero]
        rw [if_pos (by rfl)]
        go_simp
        refine hK.out _ _ ?_ (fun hHeld => ?_)
        · first | trivial | ((try dsimp only); trivial)
        clear hK K
        try simp only [Act.put, List.setIfInBounds_toArray, List.set_cons_zero, List.set_cons_succ]
        refine wpAnyH_ready (rs := [5]) (by kernel_rfl) (by simp) ?_
        refine AllReadyH.cons (i := 5) rfl (fun K hK => ?_) AllReadyH.nil
        simp only [List.getElem_toArray, List.getElem_cons_succ, List.getElem_cons_zero]
        rw [if_pos (by rfl)]
        go_simp
        refine hK.out _ _ ?_ (fun hHeld => ?_)
        · first | trivial | ((try dsimp only); trivial)
        clear hK K
        try simp only [Act.put, List.setIfInBounds_toArray, List.set_cons_zero, List.set_cons_succ]
        refine wpAnyH_done (by kernel_rfl) ?_ _
        go_wp2_with fail
        go_meet
        case rel => exact ⟨by repeat' (first | (with_reducible exact hbw) | (with_reducible refine Below.setCell ?_ ?_ _) | (simp; done) | (simp; omega) | omega), by first | (simp; done) | (simp; omega) | omega, by go_simp, by go_simp, by go_simp, by go_simp, by go_simp, by go_simp, by go_simp, by go_simp, by go_simp, by go_simp⟩
      refine AllReadyH.cons (i := 2) rfl (fun K hK => ?_) ?_
      · simp only [List.getElem_toArray, List.getElem_cons_succ, List.getElem_cons_zero]
        rw [if_pos (by rfl)]
        go_simp
        refine hK.out _ _ ?_ (fun hHeld => ?_)
        · first | trivial | ((try dsimp only); trivial)
        clear hK K
        try simp only [Act.put, List.setIfInBounds_toArray, List.set_cons_zero, List.set_cons_succ]
        refine wpAnyH_ready (rs := [1]) (by kernel_rfl) (by simp) ?_
        refine AllReadyH.cons (i := 1) rfl (fun K hK => ?_) AllReadyH.nil
        simp only [List.getElem_toArray, List.getElem_cons_succ, List.getElem_cons_zero]
        rw [if_pos (by rfl)]
        go_simp
        (go_at_call 16; refine (CSX.out _).mono ?_; rintro e' tA ⟨rfl, hbA⟩; go_wp2_with fail)
        replace k00 := keeps_cells hbA ⟨w.heap.size, 0, none⟩ (.int .i64 x.kind) k00
        replace k01 := keeps_cells hbA ⟨w.heap.size, 1, none⟩ (.bool x.num.neg) k01
        replace k02 := keeps_cells hbA ⟨w.heap.size, 2, none⟩ (.string x.num.dig) k02
        replace k03 := keeps_cells hbA ⟨w.heap.size, 3, none⟩ (.int .i64 x.num.exp) k03
        replace k04 := keeps_cells hbA ⟨w.heap.size, 4, none⟩ (.string x.text) k04
        replace k10 := keeps_cells hbA ⟨w.heap.size + 1, 0, none⟩ (.int .i64 y.kind) k10
        replace k11 := keeps_cells hbA ⟨w.heap.size + 1, 1, none⟩ (.bool y.num.neg) k11
        replace k12 := keeps_cells hbA ⟨w.heap.size + 1, 2, none⟩ (.string y.num.dig) k12
        replace k13 := keeps_cells hbA ⟨w.heap.size + 1, 3, none⟩ (.int .i64 y.num.exp) k13
        replace k14 := keeps_cells hbA ⟨w.heap.size + 1, 4, none⟩ (.string y.text) k14
        replace z00 := (hbA.frozen (p := ⟨w.heap.size, 0, none⟩) kl0).trans z00
        replace z01 := (hbA.frozen (p := ⟨w.heap.size, 1, none⟩) kl0).trans z01
        replace z02 := (hbA.frozen (p := ⟨w.heap.size, 2, none⟩) kl0).trans z02
        replace z03 := (hbA.frozen (p := ⟨w.heap.size, 3, none⟩) kl0).trans z03
        replace z04 := (hbA.frozen (p := ⟨w.heap.size, 4, none⟩) kl0).trans z04
        replace z10 := (hbA.frozen (p := ⟨w.heap.size + 1, 0, none⟩) kl1).trans z10
        replace z11 := (hbA.frozen (p := ⟨w.heap.size + 1, 1, none⟩) kl1).trans z11
        replace z12 := (hbA.frozen (p := ⟨w.heap.size + 1, 2, none⟩) kl1).trans z12
        replace z13 := (hbA.frozen (p := ⟨w.heap.size + 1, 3, none⟩) kl1).trans z13
        replace z14 := (hbA.frozen (p := ⟨w.heap.size + 1, 4, none⟩) kl1).trans z14
        replace kl0 := Nat.lt_of_lt_of_le kl0 hbA.size
        replace kl1 := Nat.lt_of_lt_of_le kl1 hbA.size
        replace hbw := ext_trans (Below.drew hbw) hbA
        refine hK.out _ _ ?_ (fun hHeld => ?_)
        · first | trivial | ((try dsimp only); trivial)
        clear hK K
        try simp only [Act.put, List.setIfInBounds_toArray, List.set_cons_zero, List.set_cons_succ]
        refine wpAnyH_ready (rs := [3]) (by kernel_rfl) (by simp) ?_
        refine AllReadyH.cons (i := 3) rfl (fun K hK => ?_) AllReadyH.nil
        simp only [List.getElem_toArray, List.getElem_cons_succ, List.getElem_cons_zero]
        rw [if_pos (by rfl)]
        go_simp
        (go_at_call 16; refine (CSY.out _).mono ?_; rintro e' tB ⟨rfl, hbB⟩; go_wp2_with fail)
        replace k00 := keeps_cells hbB ⟨w.heap.size, 0, none⟩ (.int .i64 x.kind) k00
        replace k01 := keeps_cells hbB ⟨w.heap.size, 1, none⟩ (.bool x.num.neg) k01
        replace k02 := keeps_cells hbB ⟨w.heap.size, 2, none⟩ (.string x.num.dig) k02
        replace k03 := keeps_cells hbB ⟨w.heap.size, 3, none⟩ (.int .i64 x.num.exp) k03
        replace k04 := keeps_cells hbB ⟨w.heap.size, 4, none⟩ (.string x.text) k04
        replace k10 := keeps_cells hbB ⟨w.heap.size + 1, 0, none⟩ (.int .i64 y.kind) k10
        replace k11 := keeps_cells hbB ⟨w.heap.size + 1, 1, none⟩ (.bool y.num.neg) k11
        replace k12 := keeps_cells hbB ⟨w.heap.size + 1, 2, none⟩ (.string y.num.dig) k12
        replace k13 := keeps_cells hbB ⟨w.heap.size + 1, 3, none⟩ (.int .i64 y.num.exp) k13
        replace k14 := keeps_cells hbB ⟨w.heap.size + 1, 4, none⟩ (.string y.text) k14
        replace z00 := (hbB.frozen (p := ⟨w.heap.size, 0, none⟩) kl0).trans z00
        replace z01 := (hbB.frozen (p := ⟨w.heap.size, 1, none⟩) kl0).trans z01
        replace z02 := (hbB.frozen (p := ⟨w.heap.size, 2, none⟩) kl0).trans z02
        replace z03 := (hbB.frozen (p := ⟨w.heap.size, 3, none⟩) kl0).trans z03
        replace z04 := (hbB.frozen (p := ⟨w.heap.size, 4, none⟩) kl0).trans z04
        replace z10 := (hbB.frozen (p := ⟨w.heap.size + 1, 0, none⟩) kl1).trans z10
        replace z11 := (hbB.frozen (p := ⟨w.heap.size + 1, 1, none⟩) kl1).trans z11
        replace z12 := (hbB.frozen (p := ⟨w.heap.size + 1, 2, none⟩) kl1).trans z12
        replace z13 := (hbB.frozen (p := ⟨w.heap.size + 1, 3, none⟩) kl1).trans z13
        replace z14 := (hbB.frozen (p := ⟨w.heap.size + 1, 4, none⟩) kl1).trans z14
        replace kl0 := Nat.lt_of_lt_of_le kl0 hbB.size
        replace kl1 := Nat.lt_of_lt_of_le kl1 hbB.size
        replace hbw := ext_trans hbw hbB
        refine hK.out _ _ ?_ (fun hHeld => ?_)
        · first | trivial | ((try dsimp only); trivial)
        clear hK K
        try simp only [Act.put, List.setIfInBounds_toArray, List.set_cons_zero, List.set_cons_succ]
        refine wpAnyH_ready (rs := [4]) (by kernel_rfl) (by simp) ?_
        refine AllReadyH.cons (i := 4) rfl (fun K hK => ?_) AllReadyH.nil
        simp only [List.getElem_toArray, List.getElem_cons_succ, List.getElem_cons_zero]
        rw [if_pos (by rfl)]
        go_simp
        refine hK.out _ _ ?_ (fun hHeld => ?_)
        · first | trivial | ((try dsimp only); trivial)
        clear hK K
        try simp only [Act.put, List.setIfInBounds_toArray, List.set_cons_zero, List.set_cons_succ]
        refine wpAnyH_ready (rs := [5]) (by kernel_rfl) (by simp) ?_
        refine AllReadyH.cons (i := 5) rfl (fun K hK => ?_) AllReadyH.nil
        simp only [List.getElem_toArray, List.getElem_cons_succ, List.getElem_cons_zero]
        rw [if_pos (by rfl)]
        go_simp
        refine hK.out _ _ ?_ (fun hHeld => ?_)
        · first | trivial | ((try dsimp only); trivial)
        clear hK K
        try simp only [Act.put, List.setIfInBounds_toArray, List.set_cons_zero, List.set_cons_succ]
        refine wpAnyH_done (by kernel_rfl) ?_ _
        go_wp2_with fail
        go_meet
        case rel => exact ⟨by repeat' (first | (with_reducible exact hbw) | (with_reducible refine Below.setCell ?_ ?_ _) | (simp; done) | (simp; omega) | omega), by first | (simp; done) | (simp; omega) | omega, by go_simp, by go_simp, by go_simp, by go_simp, by go_simp, by go_simp, by go_simp, by go_simp, by go_simp, by go_simp⟩
      exact AllReadyH.nil
    refine AllReadyH.cons (i := 2) rfl (fun K hK => ?_) ?_
    · simp only [List.getElem_toArray, List.getElem_cons_succ, List.getElem_cons_zero]
      rw [if_pos (by rfl)]
      go_simp
      refine hK.out _ _ ?_ (fun hHeld => ?_)
      · first | trivial | ((try dsimp only); trivial)
      clear hK K
      try simp only [Act.put, List.setIfInBounds_toArray, List.set_cons_zero, List.set_cons_succ]
      refine wpAnyH_ready (rs := [0]) (by kernel_rfl) (by simp) ?_
      refine AllReadyH.cons (i := 0) rfl (fun K hK => ?_) AllReadyH.nil
      simp only [List.getElem_toArray, List.getElem_cons_succ, List.getElem_cons_zero]
      rw [if_pos (by rfl)]
      go_simp
      refine hK.out _ _ ?_ (fun hHeld => ?_)
      · first | trivial | ((try dsimp only); trivial)
      clear hK K
      try simp only [Act.put, List.setIfInBounds_toArray, List.set_cons_zero, List.set_cons_succ]
      refine wpAnyH_ready (rs := [1]) (by kernel_rfl) (by simp) ?_
      refine AllReadyH.cons (i := 1) rfl (fun K hK => ?_) AllReadyH.nil
      simp only [List.getElem_toArray, List.getElem_cons_succ, List.getElem_cons_zero]
      rw [if_pos (by rfl)]
      go_simp
      (go_at_call 16; refine (CSX.out _).mono ?_; rintro e' tA ⟨rfl, hbA⟩; go_wp2_with fail)
      replace k00 := keeps_cells hbA ⟨w.heap.size, 0, none⟩ (.int .i64 x.kind) k00
      replace k01 := keeps_cells hbA ⟨w.heap.size, 1, none⟩ (.bool x.num.neg) k01
      replace k02 := keeps_cells hbA ⟨w.heap.size, 2, none⟩ (.string x.num.dig) k02
      replace k03 := keeps_cells hbA ⟨w.heap.size, 3, none⟩ (.int .i64 x.num.exp) k03
      replace k04 := keeps_cells hbA ⟨w.heap.size, 4, none⟩ (.string x.text) k04
      replace k10 := keeps_cells hbA ⟨w.heap.size + 1, 0, none⟩ (.int .i64 y.kind) k10
      replace k11 := keeps_cells hbA ⟨w.heap.size + 1, 1, none⟩ (.bool y.num.neg) k11
      replace k12 := keeps_cells hbA ⟨w.heap.size + 1, 2, none⟩ (.string y.num.dig) k12
      replace k13 := keeps_cells hbA ⟨w.heap.size + 1, 3, none⟩ (.int .i64 y.num.exp) k13
      replace k14 := keeps_cells hbA ⟨w.heap.size + 1, 4, none⟩ (.string y.text) k14
      replace z00 := (hbA.frozen (p := ⟨w.heap.size, 0, none⟩) kl0).trans z00
      replace z01 := (hbA.frozen (p := ⟨w.heap.size, 1, none⟩) kl0).trans z01
      replace z02 := (hbA.frozen (p := ⟨w.heap.size, 2, none⟩) kl0).trans z02
      replace z03 := (hbA.frozen (p := ⟨w.heap.size, 3, none⟩) kl0).trans z03
      replace z04 := (hbA.frozen (p := ⟨w.heap.size, 4, none⟩) kl0).trans z04
      replace z10 := (hbA.frozen (p := ⟨w.heap.size + 1, 0, none⟩) kl1).trans z10
      replace z11 := (hbA.frozen (p := ⟨w.heap.size + 1, 1, none⟩) kl1).trans z11
      replace z12 := (hbA.frozen (p := ⟨w.heap.size + 1, 2, none⟩) kl1).trans z12
      replace z13 := (hbA.frozen (p := ⟨w.heap.size + 1, 3, none⟩) kl1).trans z13
      replace z14 := (hbA.frozen (p := ⟨w.heap.size + 1, 4, none⟩) kl1).trans z14
      replace kl0 := Nat.lt_of_lt_of_le kl0 hbA.size
      replace kl1 := Nat.lt_of_lt_of_le kl1 hbA.size
      replace hbw := ext_trans (Below.drew hbw) hbA
      refine hK.out _ _ ?_ (fun hHeld => ?_)
      · first | trivial | ((try dsimp only); trivial)
      clear hK K
      try simp only [Act.put, List.setIfInBounds_toArray, List.set_cons_zero, List.set_cons_succ]
      refine wpAnyH_ready (rs := [3]) (by kernel_rfl) (by simp) ?_
      refine AllReadyH.cons (i := 3) rfl (fun K hK => ?_) AllReadyH.nil
      simp only [List.getElem_toArray, List.getElem_cons_succ, List.getElem_cons_zero]
      rw [if_pos (by rfl)]
      go_simp
      (go_at_call 16; refine (CSY.out _).mono ?_; rintro e' tB ⟨rfl, hbB⟩; go_wp2_with fail)
      replace k00 := keeps_cells hbB ⟨w.heap.size, 0, none⟩ (.int .i64 x.kind) k00
      replace k01 := keeps_cells hbB ⟨w.heap.size, 1, none⟩ (.bool x.num.neg) k01
      replace k02 := keeps_cells hbB ⟨w.heap.size, 2, none⟩ (.string x.num.dig) k02
      replace k03 := keeps_cells hbB ⟨w.heap.size, 3, none⟩ (.int .i64 x.num.exp) k03
      replace k04 := keeps_cells hbB ⟨w.heap.size, 4, none⟩ (.string x.text) k04
      replace k10 := keeps_cells hbB ⟨w.heap.size + 1, 0, none⟩ (.int .i64 y.kind) k10
      replace k11 := keeps_cells hbB ⟨w.heap.size + 1, 1, none⟩ (.bool y.num.neg) k11
      replace k12 := keeps_cells hbB ⟨w.heap.size + 1, 2, none⟩ (.string y.num.dig) k12
      replace k13 := keeps_cells hbB ⟨w.heap.size + 1, 3, none⟩ (.int .i64 y.num.exp) k13
      replace k14 := keeps_cells hbB ⟨w.heap.size + 1, 4, none⟩ (.string y.text) k14
      replace z00 := (hbB.frozen (p := ⟨w.heap.size, 0, none⟩) kl0).trans z00
      replace z01 := (hbB.frozen (p := ⟨w.heap.size, 1, none⟩) kl0).trans z01
      replace z02 := (hbB.frozen (p := ⟨w.heap.size, 2, none⟩) kl0).trans z02
      replace z03 := (hbB.frozen (p := ⟨w.heap.size, 3, none⟩) kl0).trans z03
      replace z04 := (hbB.frozen (p := ⟨w.heap.size, 4, none⟩) kl0).trans z04
      replace z10 := (hbB.frozen (p := ⟨w.heap.size + 1, 0, none⟩) kl1).trans z10
      replace z11 := (hbB.frozen (p := ⟨w.heap.size + 1, 1, none⟩) kl1).trans z11
      replace z12 := (hbB.frozen (p := ⟨w.heap.size + 1, 2, none⟩) kl1).trans z12
      replace z13 := (hbB.frozen (p := ⟨w.heap.size + 1, 3, none⟩) kl1).trans z13
      replace z14 := (hbB.frozen (p := ⟨w.heap.size + 1, 4, none⟩) kl1).trans z14
      replace kl0 := Nat.lt_of_lt_of_le kl0 hbB.size
      replace kl1 := Nat.lt_of_lt_of_le kl1 hbB.size
      replace hbw := ext_trans hbw hbB
      refine hK.out _ _ ?_ (fun hHeld => ?_)
      · first | trivial | ((try dsimp only); trivial)
      clear hK K
      try simp only [Act.put, List.setIfInBounds_toArray, List.set_cons_zero, List.set_cons_succ]
      refine wpAnyH_ready (rs := [4]) (by kernel_rfl) (by simp) ?_
      refine AllReadyH.cons (i := 4) rfl (fun K hK => ?_) AllReadyH.nil
      simp only [List.getElem_toArray, List.getElem_cons_succ, List.getElem_cons_zero]
      rw [if_pos (by rfl)]
      go_simp
      refine hK.out _ _ ?_ (fun hHeld => ?_)
      · first | trivial | ((try dsimp only); trivial)
      clear hK K
      try simp only [Act.put, List.setIfInBounds_toArray, List.set_cons_zero, List.set_cons_succ]
      refine wpAnyH_ready (rs := [5]) (by kernel_rfl) (by simp) ?_
      refine AllReadyH.cons (i := 5) rfl (fun K hK => ?_) AllReadyH.nil
      simp only [List.getElem_toArray, List.getElem_cons_succ, List.getElem_cons_zero]
      rw [if_pos (by rfl)]
      go_simp
      refine hK.out _ _ ?_ (fun hHeld => ?_)
      · first | trivial | ((try dsimp only); trivial)
      clear hK K
      try simp only [Act.put, List.setIfInBounds_toArray, List.set_cons_zero, List.set_cons_succ]
      refine wpAnyH_done (by kernel_rfl) ?_ _
      go_wp2_with fail
      go_meet
      case rel => exact ⟨by repeat' (first | (with_reducible exact hbw) | (with_reducible refine Below.setCell ?_ ?_ _) | (simp; done) | (simp; omega) | omega), by first | (simp; done) | (simp; omega) | omega, by go_simp, by go_simp, by go_simp, by go_simp, by go_simp, by go_simp, by go_simp, by go_simp, by go_simp, by go_simp⟩
    exact AllReadyH.nil
  case rest =>
  obtain ⟨hbw3, hl3, m00, m01, m02, m03, m04, m10, m11, m12, m13, m14⟩ := hcut
  clear kl0 kl1 hbw k00 z00 k01 z01 k02 z02 k03 z03 k04 z04 k10 z10 k11 z11 k12 z12 k13 z13 k14 z14 CSX CSY
  rename_i wca
  go_upto_region 2 with fail
  go_cut [20] from 15 (fun v20 wr => v20 = .bool (nx && ny) ∧ Below w.heap.size w wr ∧ w.heap.size + 1 < wr.heap.size ∧ wr.cell? ⟨w.heap.size, 0, none⟩ = some (.int .i64 sx.kind) ∧ wr.cell? ⟨w.heap.size, 1, none⟩ = some (.bool sx.num.neg) ∧ wr.cell? ⟨w.heap.size, 2, none⟩ = some (.string sx.num.dig) ∧ wr.cell? ⟨w.heap.size, 3, none⟩ = some (.int .i64 sx.num.exp) ∧ wr.cell? ⟨w.heap.size, 4, none⟩ = some (.string sx.text) ∧ wr.cell? ⟨w.heap.size + 1, 0, none⟩ = some (.int .i64 sy.kind) ∧ wr.cell? ⟨w.heap.size + 1, 1, none⟩ = some (.bool sy.num.neg) ∧ wr.cell? ⟨w.heap.size + 1, 2, none⟩ = some (.string sy.num.dig) ∧ wr.cell? ⟨w.heap.size + 1, 3, none⟩ = some (.int .i64 sy.num.exp) ∧ wr.cell? ⟨w.heap.size + 1, 4, none⟩ = some (.string sy.text))
  case first =>
    go_wp2_with fail
    refine (CNX.out _).mono ?_
    rintro e' t1 ⟨rfl, hb1⟩
    replace m00 := keeps_cells hb1 ⟨w.heap.size, 0, none⟩ (.int .i64 sx.kind) m00
    replace m01 := keeps_cells hb1 ⟨w.heap.size, 1, none⟩ (.bool sx.num.neg) m01
    replace m02 := keeps_cells hb1 ⟨w.heap.size, 2, none⟩ (.string sx.num.dig) m02
    replace m03 := keeps_cells hb1 ⟨w.heap.size, 3, none⟩ (.int .i64 sx.num.exp) m03
    replace m04 := keeps_cells hb1 ⟨w.heap.size, 4, none⟩ (.string sx.text) m04
    replace m10 := keeps_cells hb1 ⟨w.heap.size + 1, 0, none⟩ (.int .i64 sy.kind) m10
    replace m11 := keeps_cells hb1 ⟨w.heap.size + 1, 1, none⟩ (.bool sy.num.neg) m11
    replace m12 := keeps_cells hb1 ⟨w.heap.size + 1, 2, none⟩ (.string sy.num.dig) m12
    replace m13 := keeps_cells hb1 ⟨w.heap.size + 1, 3, none⟩ (.int .i64 sy.num.exp) m13
    replace m14 := keeps_cells hb1 ⟨w.heap.size + 1, 4, none⟩ (.string sy.text) m14
    have hl4 : w.heap.size + 1 < t1.heap.size := Nat.lt_of_lt_of_le hl3 hb1.size
    have hbw4 : Below w.heap.size w t1 := ext_trans hbw3 hb1
    cases nx
    · go_wp2
      go_meet
      case rel => exact ⟨rfl, hbw4, hl4, m00, m01, m02, m03, m04, m10, m11, m12, m13, m14⟩
    · go_wp2_with fail
      refine (CNY.out _).mono ?_
      rintro e' t2 ⟨rfl, hb2⟩
      replace m00 := keeps_cells hb2 ⟨w.heap.size, 0, none⟩ (.int .i64 sx.kind) m00
      replace m01 := keeps_cells hb2 ⟨w.heap.size, 1, none⟩ (.bool sx.num.neg) m01
      replace m02 := keeps_cells hb2 ⟨w.heap.size, 2, none⟩ (.string sx.num.dig) m02
      replace m03 := keeps_cells hb2 ⟨w.heap.size, 3, none⟩ (.int .i64 sx.num.exp) m03
      replace m04 := keeps_cells hb2 ⟨w.heap.size, 4, none⟩ (.string sx.text) m04
      replace m10 := keeps_cells hb2 ⟨w.heap.size + 1, 0, none⟩ (.int .i64 sy.kind) m10
      replace m11 := keeps_cells hb2 ⟨w.heap.size + 1, 1, none⟩ (.bool sy.num.neg) m11
      replace m12 := keeps_cells hb2 ⟨w.heap.size + 1, 2, none⟩ (.string sy.num.dig) m12
      replace m13 := keeps_cells hb2 ⟨w.heap.size + 1, 3, none⟩ (.int .i64 sy.num.exp) m13
      replace m14 := keeps_cells hb2 ⟨w.heap.size + 1, 4, none⟩ (.string sy.text) m14
      go_wp2
      go_meet
      case rel => exact ⟨by simp, ext_trans hbw4 hb2, Nat.lt_of_lt_of_le hl4 hb2.size, m00, m01, m02, m03, m04, m10, m11, m12, m13, m14⟩
  case rest =>
  clear m00 m01 m02 m03 m04 m10 m11 m12 m13 m14 hl3 hbw3 CNX CNY
  obtain ⟨rfl, hbw3, hl3, m00, m01, m02, m03, m04, m10, m11, m12, m13, m14⟩ := hcut
  obtain ⟨nb, hnb⟩ : ∃ b, (nx && ny) = b := ⟨_, rfl⟩
  rw [hnb] at HR ⊢
  obtain ⟨wcb, hwcb⟩ : ∃ w', wc = w' := ⟨_, rfl⟩
  rw [hwcb] at m00 m01 m02 m03 m04 m10 m11 m12 m13 m14 hbw3 hl3 ⊢
  clear hnb hwcb
  cases nb
  · have HRR := hid (show R = Lib.compareBytes tx.data.toList ty.data.toList by rw [HR.out, if_neg (by decide)])
    go_wp2_with fail
    refine wp_region_held_drew (S := fun w' => w'.cell? ⟨w.heap.size, 0, none⟩ = some (.int .i64 sx.kind) ∧ w'.cell? ⟨w.heap.size, 1, none⟩ = some (.bool sx.num.neg) ∧ w'.cell? ⟨w.heap.size, 2, none⟩ = some (.string sx.num.dig) ∧ w'.cell? ⟨w.heap.size, 3, none⟩ = some (.int .i64 sx.num.exp) ∧ w'.cell? ⟨w.heap.size, 4, none⟩ = some (.string sx.text) ∧ w'.cell? ⟨w.heap.size + 1, 0, none⟩ = some (.int .i64 sy.kind) ∧ w'.cell? ⟨w.heap.size + 1, 1, none⟩ = some (.bool sy.num.neg) ∧ w'.cell? ⟨w.heap.size + 1, 2, none⟩ = some (.string sy.num.dig) ∧ w'.cell? ⟨w.heap.size + 1, 3, none⟩ = some (.int .i64 sy.num.exp) ∧ w'.cell? ⟨w.heap.size + 1, 4, none⟩ = some (.string sy.text)) (by kernel_rfl) ?_ (fun hHeld => ?_)
    · simp [*]
    refine wpAnyH_take (i := 0) (v := ?_) rfl (by kernel_rfl) (by kernel_rfl) (by kernel_rfl) (fun _ _ _ h => h) (Or.inl ⟨by rfl, ?_⟩) (by assumption) ?_
    rotate_left
    · (intro w' hSw; (try dsimp only at hSw); go_simp; try (with_reducible rfl))
    change wpAnyH _ _ _ _ _ _ _ (Act.put _ (some 34) _) _
    try simp only [Act.put, List.setIfInBounds_toArray, List.set_cons_zero, List.set_cons_succ]
    refine wpAnyH_take (i := 2) (v := ?_) rfl (by kernel_rfl) (by kernel_rfl) (by kernel_rfl) (fun _ _ _ h => h) (Or.inl ⟨by rfl, ?_⟩) (by assumption) ?_
    rotate_left
    · (intro w' hSw; (try dsimp only at hSw); go_simp; try (with_reducible rfl))
    change wpAnyH _ _ _ _ _ _ _ (Act.put _ (some 36) _) _
    try simp only [Act.put, List.setIfInBounds_toArray, List.set_cons_zero, List.set_cons_succ]
    refine wpAnyH_ready (rs := [1]) (by kernel_rfl) (by simp) ?_
    refine AllReadyH.cons (i := 1) rfl (fun K hK => ?_) AllReadyH.nil
    simp only [List.getElem_toArray, List.getElem_cons_succ, List.getElem_cons_zero]
    rw [if_pos (by rfl)]
    go_simp
    (go_at_call 25; refine (CTX.out _).mono ?_; rintro e' w4 ⟨rfl, hb4⟩; have hkc4 := keeps_cells hb4; go_wp2_with fail)
    have hOld := hHeld
    clear hHeld
    refine hK.out _ _ ?_ (fun hHeld => ?_)
    · (try dsimp only); simp [*]
    clear hK K hOld
    try simp only [Act.put, List.setIfInBounds_toArray, List.set_cons_zero, List.set_cons_succ]
    refine wpAnyH_ready (rs := [3]) (by kernel_rfl) (by simp) ?_
    refine AllReadyH.cons (i := 3) rfl (fun K hK => ?_) AllReadyH.nil
    simp only [List.getElem_toArray, List.getElem_cons_succ, List.getElem_cons_zero]
    rw [if_pos (by rfl)]
    go_simp
    (go_at_call 25; refine (CTY.out _).mono ?_; rintro e' w5 ⟨rfl, hb5⟩; have hkc5 := keeps_cells hb5; go_wp2_with fail)
    have hOld := hHeld
    clear hHeld
    refine hK.out _ _ ?_ (fun hHeld => ?_)
    · (try dsimp only); simp [*]
    clear hK K hOld
    try simp only [Act.put, List.setIfInBounds_toArray, List.set_cons_zero, List.set_cons_succ]
    refine wpAnyH_take (i := 4) (v := ?_) rfl (by kernel_rfl) (by kernel_rfl) (by kernel_rfl) (fun _ _ _ h => h) (Or.inl ⟨by rfl, ?_⟩) (by assumption) ?_
    rotate_left
    · (intro w' hSw; (try dsimp only at hSw); go_simp; try (with_reducible rfl))
    change wpAnyH _ _ _ _ _ _ _ (Act.put _ (some 9) _) _
    try simp only [Act.put, List.setIfInBounds_toArray, List.set_cons_zero, List.set_cons_succ]
    refine wpAnyH_take (i := 5) (v := ?_) rfl (by kernel_rfl) (by kernel_rfl) (by kernel_rfl) (fun _ _ _ h => h) (Or.inl ⟨by rfl, ?_⟩) (by assumption) ?_
    rotate_left
    · (intro w' hSw; (try dsimp only at hSw); go_simp; try (with_reducible rfl))
    change wpAnyH _ _ _ _ _ _ _ (Act.put _ (some 10) _) _
    try simp only [Act.put, List.setIfInBounds_toArray, List.set_cons_zero, List.set_cons_succ]
    refine wpAnyH_done (by kernel_rfl) ?_ _
    clear hHeld
    have hcb := cmp_bytes tx.data.toList ty.data.toList
    rw [← Lib.toList_data, ← Lib.toList_data] at hcb HRR
    have hbE : Below w.heap.size w w5 := ext_trans (ext_trans hbw3 (Below.drew (Below.refl _ _))) (ext_trans hb4 hb5)
    by_cases h1 : Op.bytesLess tx.toList ty.toList = true
    · have HR2 := hid (show R = -1 by rw [HRR.out, hcb, if_pos h1])
      clear hcb
      go_wp2
      go_ret
      rw [HR2.out]
      exact ⟨rfl, hbE⟩
    · have h1' : Op.bytesLess tx.toList ty.toList = false := by simpa using h1
      have heq := less_eq _ _ h1'
      by_cases h2 : Op.bytesLess ty.toList tx.toList = true
      · have HR2 := hid (show R = 1 by rw [HRR.out, hcb, if_neg h1, if_pos h2])
        rw [h2] at heq
        clear hcb h1
        go_wp2
        go_ret
        rw [HR2.out]
        exact ⟨rfl, hbE⟩
      · have h2' : Op.bytesLess ty.toList tx.toList = false := by simpa using h2
        have HR2 := hid (show R = 0 by rw [HRR.out, hcb, if_neg h1, if_neg h2])
        rw [h2'] at heq
        clear hcb h1 h2
        go_wp2
        go_ret
        rw [HR2.out]
        exact ⟨rfl, hbE⟩
  · have HRR := hid (show R = cmpD dx dy by rw [HR.out, if_pos rfl])
    go_wp2_with fail
    refine (CVX2.out _).mono ?_
    rintro e' t3 ⟨rfl, hb3⟩
    replace m00 := keeps_cells hb3 ⟨w.heap.size, 0, none⟩ (.int .i64 sx.kind) m00
    replace m01 := keeps_cells hb3 ⟨w.heap.size, 1, none⟩ (.bool sx.num.neg) m01
    replace m02 := keeps_cells hb3 ⟨w.heap.size, 2, none⟩ (.string sx.num.dig) m02
    replace m03 := keeps_cells hb3 ⟨w.heap.size, 3, none⟩ (.int .i64 sx.num.exp) m03
    replace m04 := keeps_cells hb3 ⟨w.heap.size, 4, none⟩ (.string sx.text) m04
    replace m10 := keeps_cells hb3 ⟨w.heap.size + 1, 0, none⟩ (.int .i64 sy.kind) m10
    replace m11 := keeps_cells hb3 ⟨w.heap.size + 1, 1, none⟩ (.bool sy.num.neg) m11
    replace m12 := keeps_cells hb3 ⟨w.heap.size + 1, 2, none⟩ (.string sy.num.dig) m12
    replace m13 := keeps_cells hb3 ⟨w.heap.size + 1, 3, none⟩ (.int .i64 sy.num.exp) m13
    replace m14 := keeps_cells hb3 ⟨w.heap.size + 1, 4, none⟩ (.string sy.text) m14
    have hl5 : w.heap.size + 1 < t3.heap.size := Nat.lt_of_lt_of_le hl3 hb3.size
    have hl6 : w.heap.size < t3.heap.size := by omega
    go_wp2_with fail
    refine (CVY2.out _).mono ?_
    rintro e' t4 ⟨rfl, hb4⟩
    have d0 : t4.cell? ⟨t3.heap.size, 0, none⟩ = some (.bool dx.neg) := keeps_cells hb4 _ _ (by go_simp)
    have d1 : t4.cell? ⟨t3.heap.size, 1, none⟩ = some (.string dx.dig) := keeps_cells hb4 _ _ (by go_simp)
    have d2 : t4.cell? ⟨t3.heap.size, 2, none⟩ = some (.int .i64 dx.exp) := keeps_cells hb4 _ _ (by go_simp)
    have hq3 : t3.heap.size < t4.heap.size := by have := hb4.size; (try simp at this); omega
    go_wp2_with fail
    refine (CDC.out _).mono ?_
    rintro e' t5 ⟨rfl, hb5⟩
    go_wp2
    go_ret
    rw [HRR.out]
    exact ⟨rfl, by repeat' (first | (with_reducible exact hbw3) | (with_reducible refine ext_trans ?_ hb5) | (with_reducible refine ext_trans ?_ hb4) | (with_reducible refine ext_trans ?_ hb3) | (with_reducible refine ext_trans ?_ (ext_alloc _ _)) | (with_reducible refine Below.setCell ?_ ?_ _) | (simp; done) | (simp; omega) | omega)⟩
set_option maxHeartbeats 16000000 in
set_option maxRecDepth 100000 in
theorem implValCmp0 (x y : Val) (w : World) (hx : valB x) (hy : valB y) (hT : TP w) (hM : Mx w) :
    Calls Tryz.prog 14 #[.agg #[.int .i64 x.kind, .bool x.num.neg, .string x.num.dig, .int .i64 x.num.exp, .string x.text], .agg #[.int .i64 y.kind, .bool y.num.neg, .string y.num.dig, .int .i64 y.num.exp, .string y.text]] w fun e w' => e = .returned (.int .i64 (cmpV x y)) ∧ Below w.heap.size w w' := by
  have okx := valNumV_ok (sound_ok x)
  have oky := valNumV_ok (sound_ok y)
  have CTX := hid (fun (w : World) (h : TP w) => implValText0 (x := x) w (by exact rdVal_mk hx.1 hx.2.1 hx.2.2.1 hx.2.2.2) h)
  have CTY := hid (fun (w : World) (h : TP w) => implValText0 (x := y) w (by exact rdVal_mk hy.1 hy.2.1 hy.2.2.1 hy.2.2.2) h)
  have CNX := hid (fun (w : World) (h : Tabs w) (m : Mx w) => implNumeric (x := x) w (by exact rdVal_mk hx.1 hx.2.1 hx.2.2.1 hx.2.2.2) h m)
  have CNY := hid (fun (w : World) (h : Tabs w) (m : Mx w) => implNumeric (x := y) w (by exact rdVal_mk hy.1 hy.2.1 hy.2.2.1 hy.2.2.2) h m)
  have CVX := hid (fun (w : World) (h : Tabs w) (m : Mx w) => implValNum0 (x := x) w (by exact rdVal_mk hx.1 hx.2.1 hx.2.2.1 hx.2.2.2) h m)
  have CVY := hid (fun (w : World) (h : Tabs w) (m : Mx w) => implValNum0 (x := y) w (by exact rdVal_mk hy.1 hy.2.1 hy.2.2.1 hy.2.2.2) h m)
  have nrx : valNumR x = valNumV (soundVal x) := rfl
  have nry : valNumR y = valNumV (soundVal y) := rfl
  rw [nrx] at CVX
  rw [nry] at CVY
  have hcv : cmpV x y = if (numericV (soundVal x) && numericV (soundVal y)) = true then cmpD (valNumV (soundVal x)).1 (valNumV (soundVal y)).1 else Lib.compareBytes (valT x).data.toList (valT y).data.toList := rfl
  obtain ⟨sx, hsx⟩ : ∃ v, soundVal x = v := ⟨_, rfl⟩
  obtain ⟨sy, hsy⟩ : ∃ v, soundVal y = v := ⟨_, rfl⟩
  obtain ⟨tx, htx⟩ : ∃ t, valT x = t := ⟨_, rfl⟩
  obtain ⟨ty, hty⟩ : ∃ t, valT y = t := ⟨_, rfl⟩
  rw [hsx] at CNX CVX okx hcv
  rw [hsy] at CNY CVY oky hcv
  rw [htx] at CTX hcv
  rw [hty] at CTY hcv
  obtain ⟨rx, hrx⟩ : ∃ r, valNumV sx = r := ⟨_, rfl⟩
  obtain ⟨ry, hry⟩ : ∃ r, valNumV sy = r := ⟨_, rfl⟩
  obtain ⟨nx, hnx⟩ : ∃ r, numericV sx = r := ⟨_, rfl⟩
  obtain ⟨ny, hny⟩ : ∃ r, numericV sy = r := ⟨_, rfl⟩
  rw [hrx] at CVX okx hcv
  rw [hry] at CVY oky hcv
  rw [hnx] at CNX hcv
  rw [hny] at CNY hcv
  obtain ⟨dx, cx⟩ := rx
  obtain ⟨dy, cy⟩ := ry
  have CVX2 : Hid (∀ w, Tabs w → Mx w → Calls Tryz.prog 19 #[.agg #[.int .i64 x.kind, .bool x.num.neg, .string x.num.dig, .int .i64 x.num.exp, .string x.text]] w fun e w' => e = .returned (.tuple #[.agg #[.bool dx.neg, .string dx.dig, .int .i64 dx.exp], .int .i64 cx]) ∧ Below w.heap.size w w') := hid (fun w h m => (CVX.out w h m).mono fun e w' h => ⟨h.1, h.2.2⟩)
  have CVY2 : Hid (∀ w, Tabs w → Mx w → Calls Tryz.prog 19 #[.agg #[.int .i64 y.kind, .bool y.num.neg, .string y.num.dig, .int .i64 y.num.exp, .string y.text]] w fun e w' => e = .returned (.tuple #[.agg #[.bool dy.neg, .string dy.dig, .int .i64 dy.exp], .int .i64 cy]) ∧ Below w.heap.size w w') := hid (fun w h m => (CVY.out w h m).mono fun e w' h => ⟨h.1, h.2.2⟩)
  have CDC := hid (fun (w : World) => implDecCmp dx dy w okx oky)
  have CSC := hid (fun (w : World) => Tryz.strings_Compare tx ty w)
  obtain ⟨R, hR⟩ : ∃ r, cmpV x y = r := ⟨_, rfl⟩
  rw [hR] at hcv ⊢
  have HR := hid hcv
  clear hcv hR hrx hry hnx hny hsx hsy htx hty CVX CVY okx oky nrx nry
  go_enter Tryz.func14, Tryz.ntmps14
  go_upto_region 1 with fail
  obtain ⟨w2, hw2⟩ : ∃ w', (w.alloc (.cells #[.int .i64 x.kind, .bool x.num.neg, .string x.num.dig, .int .i64 x.num.exp, .string x.text] 31)).alloc (.cells #[.int .i64 y.kind, .bool y.num.neg, .string y.num.dig, .int .i64 y.num.exp, .string y.text] 31) = w' := ⟨_, rfl⟩
  rw [hw2]
  have hbw3 : Below w.heap.size w w2 := by subst hw2; exact ext_trans (ext_alloc _ _) (ext_alloc _ _)
  have hl3 : w.heap.size + 1 < w2.heap.size := by subst hw2; simp
  have m00 : w2.cell? ⟨w.heap.size, 0, none⟩ = some (.int .i64 x.kind) := by subst hw2; go_simp
  have m01 : w2.cell? ⟨w.heap.size, 1, none⟩ = some (.bool x.num.neg) := by subst hw2; go_simp
  have m02 : w2.cell? ⟨w.heap.size, 2, none⟩ = some (.string x.num.dig) := by subst hw2; go_simp
  have m03 : w2.cell? ⟨w.heap.size, 3, none⟩ = some (.int .i64 x.num.exp) := by subst hw2; go_simp
  have m04 : w2.cell? ⟨w.heap.size, 4, none⟩ = some (.string x.text) := by subst hw2; go_simp
  have m10 : w2.cell? ⟨w.heap.size + 1, 0, none⟩ = some (.int .i64 y.kind) := by subst hw2; go_simp
  have m11 : w2.cell? ⟨w.heap.size + 1, 1, none⟩ = some (.bool y.num.neg) := by subst hw2; go_simp
  have m12 : w2.cell? ⟨w.heap.size + 1, 2, none⟩ = some (.string y.num.dig) := by subst hw2; go_simp
  have m13 : w2.cell? ⟨w.heap.size + 1, 3, none⟩ = some (.int .i64 y.num.exp) := by subst hw2; go_simp
  have m14 : w2.cell? ⟨w.heap.size + 1, 4, none⟩ = some (.string y.text) := by subst hw2; go_simp
  clear hw2
  go_cut [14] from 9 (fun v wr => v = .bool (nx && ny) ∧ Below w.heap.size w wr ∧ w.heap.size + 1 < wr.heap.size ∧ wr.cell? ⟨w.heap.size, 0, none⟩ = some (.int .i64 x.kind) ∧ wr.cell? ⟨w.heap.size, 1, none⟩ = some (.bool x.num.neg) ∧ wr.cell? ⟨w.heap.size, 2, none⟩ = some (.string x.num.dig) ∧ wr.cell? ⟨w.heap.size, 3, none⟩ = some (.int .i64 x.num.exp) ∧ wr.cell? ⟨w.heap.size, 4, none⟩ = some (.string x.text) ∧ wr.cell? ⟨w.heap.size + 1, 0, none⟩ = some (.int .i64 y.kind) ∧ wr.cell? ⟨w.heap.size + 1, 1, none⟩ = some (.bool y.num.neg) ∧ wr.cell? ⟨w.heap.size + 1, 2, none⟩ = some (.string y.num.dig) ∧ wr.cell? ⟨w.heap.size + 1, 3, none⟩ = some (.int .i64 y.num.exp) ∧ wr.cell? ⟨w.heap.size + 1, 4, none⟩ = some (.string y.text))
  case first =>
    go_wp2_with fail
    refine (CNX.out _ (tabs_below hT.1 hbw3) (mx_below hM hbw3)).mono ?_
    rintro e' t1 ⟨rfl, hb1⟩
    replace m00 := keeps_cells hb1 ⟨w.heap.size, 0, none⟩ (.int .i64 x.kind) m00
    replace m01 := keeps_cells hb1 ⟨w.heap.size, 1, none⟩ (.bool x.num.neg) m01
    replace m02 := keeps_cells hb1 ⟨w.heap.size, 2, none⟩ (.string x.num.dig) m02
    replace m03 := keeps_cells hb1 ⟨w.heap.size, 3, none⟩ (.int .i64 x.num.exp) m03
    replace m04 := keeps_cells hb1 ⟨w.heap.size, 4, none⟩ (.string x.text) m04
    replace m10 := keeps_cells hb1 ⟨w.heap.size + 1, 0, none⟩ (.int .i64 y.kind) m10
    replace m11 := keeps_cells hb1 ⟨w.heap.size + 1, 1, none⟩ (.bool y.num.neg) m11
    replace m12 := keeps_cells hb1 ⟨w.heap.size + 1, 2, none⟩ (.string y.num.dig) m12
    replace m13 := keeps_cells hb1 ⟨w.heap.size + 1, 3, none⟩ (.int .i64 y.num.exp) m13
    replace m14 := keeps_cells hb1 ⟨w.heap.size + 1, 4, none⟩ (.string y.text) m14
    have hl4 : w.heap.size + 1 < t1.heap.size := Nat.lt_of_lt_of_le hl3 hb1.size
    have hbw4 : Below w.heap.size w t1 := ext_trans hbw3 hb1
    cases nx
    · go_wp2
      go_meet
      case rel => exact ⟨rfl, hbw4, hl4, m00, m01, m02, m03, m04, m10, m11, m12, m13, m14⟩
    · go_wp2_with fail
      refine (CNY.out _ (tabs_below hT.1 hbw4) (mx_below hM hbw4)).mono ?_
      rintro e' t2 ⟨rfl, hb2⟩
      replace m00 := keeps_cells hb2 ⟨w.heap.size, 0, none⟩ (.int .i64 x.kind) m00
      replace m01 := keeps_cells hb2 ⟨w.heap.size, 1, none⟩ (.bool x.num.neg) m01
      replace m02 := keeps_cells hb2 ⟨w.heap.size, 2, none⟩ (.string x.num.dig) m02
      replace m03 := keeps_cells hb2 ⟨w.heap.size, 3, none⟩ (.int .i64 x.num.exp) m03
      replace m04 := keeps_cells hb2 ⟨w.heap.size, 4, none⟩ (.string x.text) m04
      replace m10 := keeps_cells hb2 ⟨w.heap.size + 1, 0, none⟩ (.int .i64 y.kind) m10
      replace m11 := keeps_cells hb2 ⟨w.heap.size + 1, 1, none⟩ (.bool y.num.neg) m11
      replace m12 := keeps_cells hb2 ⟨w.heap.size + 1, 2, none⟩ (.string y.num.dig) m12
      replace m13 := keeps_cells hb2 ⟨w.heap.size + 1, 3, none⟩ (.int .i64 y.num.exp) m13
      replace m14 := keeps_cells hb2 ⟨w.heap.size + 1, 4, none⟩ (.string y.text) m14
      go_wp2
      go_meet
      case rel => exact ⟨by simp, ext_trans hbw4 hb2, Nat.lt_of_lt_of_le hl4 hb2.size, m00, m01, m02, m03, m04, m10, m11, m12, m13, m14⟩
  case rest =>
  clear m00 m01 m02 m03 m04 m10 m11 m12 m13 m14 hl3 hbw3 CNX CNY
  obtain ⟨rfl, hbw3, hl3, m00, m01, m02, m03, m04, m10, m11, m12, m13, m14⟩ := hcut
  obtain ⟨nb, hnb⟩ : ∃ b, (nx && ny) = b := ⟨_, rfl⟩
  rw [hnb] at HR ⊢
  obtain ⟨wcb, hwcb⟩ : ∃ w', wc = w' := ⟨_, rfl⟩
  rw [hwcb] at m00 m01 m02 m03 m04 m10 m11 m12 m13 m14 hbw3 hl3 ⊢
  clear hnb hwcb
  cases nb
  · have HRR := hid (show R = Lib.compareBytes tx.data.toList ty.data.toList by rw [HR.out, if_neg (by decide)])
    go_wp2_with fail
    refine wp_region_held_drew (S := fun w' => w'.cell? ⟨w.heap.size, 0, none⟩ = some (.int .i64 x.kind) ∧ w'.cell? ⟨w.heap.size, 1, none⟩ = some (.bool x.num.neg) ∧ w'.cell? ⟨w.heap.size, 2, none⟩ = some (.string x.num.dig) ∧ w'.cell? ⟨w.heap.size, 3, none⟩ = some (.int .i64 x.num.exp) ∧ w'.cell? ⟨w.heap.size, 4, none⟩ = some (.string x.text) ∧ w'.cell? ⟨w.heap.size + 1, 0, none⟩ = some (.int .i64 y.kind) ∧ w'.cell? ⟨w.heap.size + 1, 1, none⟩ = some (.bool y.num.neg) ∧ w'.cell? ⟨w.heap.size + 1, 2, none⟩ = some (.string y.num.dig) ∧ w'.cell? ⟨w.heap.size + 1, 3, none⟩ = some (.int .i64 y.num.exp) ∧ w'.cell? ⟨w.heap.size + 1, 4, none⟩ = some (.string y.text)) (by kernel_rfl) ?_ (fun hHeld => ?_)
    · simp [*]
    refine wpAnyH_take (i := 0) (v := ?_) rfl (by kernel_rfl) (by kernel_rfl) (by kernel_rfl) (fun _ _ _ h => h) (Or.inl ⟨by rfl, ?_⟩) (by assumption) ?_
    rotate_left
    · (intro w' hSw; (try dsimp only at hSw); go_simp; try (with_reducible rfl))
    change wpAnyH _ _ _ _ _ _ _ (Act.put _ (some 28) _) _
    try simp only [Act.put, List.setIfInBounds_toArray, List.set_cons_zero, List.set_cons_succ]
    refine wpAnyH_take (i := 2) (v := ?_) rfl (by kernel_rfl) (by kernel_rfl) (by kernel_rfl) (fun _ _ _ h => h) (Or.inl ⟨by rfl, ?_⟩) (by assumption) ?_
    rotate_left
    · (intro w' hSw; (try dsimp only at hSw); go_simp; try (with_reducible rfl))
    change wpAnyH _ _ _ _ _ _ _ (Act.put _ (some 30) _) _
    try simp only [Act.put, List.setIfInBounds_toArray, List.set_cons_zero, List.set_cons_succ]
    refine wpAnyH_ready (rs := [1]) (by kernel_rfl) (by simp) ?_
    refine AllReadyH.cons (i := 1) rfl (fun K hK => ?_) AllReadyH.nil
    simp only [List.getElem_toArray, List.getElem_cons_succ, List.getElem_cons_zero]
    rw [if_pos (by rfl)]
    go_simp
    (go_at_call 29; refine (CTX.out _ (tp_below hT (ext_trans hbw3 (Below.drew (Below.refl _ _))))).mono ?_; rintro e' w4 ⟨rfl, hb4⟩; have hkc4 := keeps_cells hb4; go_wp2_with fail)
    have hOld := hHeld
    clear hHeld
    refine hK.out _ _ ?_ (fun hHeld => ?_)
    · (try dsimp only); simp [*]
    clear hK K hOld
    try simp only [Act.put, List.setIfInBounds_toArray, List.set_cons_zero, List.set_cons_succ]
    refine wpAnyH_ready (rs := [3]) (by kernel_rfl) (by simp) ?_
    refine AllReadyH.cons (i := 3) rfl (fun K hK => ?_) AllReadyH.nil
    simp only [List.getElem_toArray, List.getElem_cons_succ, List.getElem_cons_zero]
    rw [if_pos (by rfl)]
    go_simp
    (go_at_call 29; refine (CTY.out _ (tp_below hT (ext_trans (ext_trans hbw3 (Below.drew (Below.refl _ _))) hb4))).mono ?_; rintro e' w5 ⟨rfl, hb5⟩; have hkc5 := keeps_cells hb5; go_wp2_with fail)
    have hOld := hHeld
    clear hHeld
    refine hK.out _ _ ?_ (fun hHeld => ?_)
    · (try dsimp only); simp [*]
    clear hK K hOld
    try simp only [Act.put, List.setIfInBounds_toArray, List.set_cons_zero, List.set_cons_succ]
    refine wpAnyH_ready (rs := [4]) (by kernel_rfl) (by simp) ?_
    refine AllReadyH.cons (i := 4) rfl (fun K hK => ?_) AllReadyH.nil
    simp only [List.getElem_toArray, List.getElem_cons_succ, List.getElem_cons_zero]
    rw [if_pos (by rfl)]
    go_simp
    (go_at_call 28; refine (CSC.out _).mono ?_; rintro e' w6 ⟨rfl, rfl⟩; go_wp2_with fail)
    have hOld := hHeld
    clear hHeld
    refine hK.out _ _ ?_ (fun hHeld => ?_)
    · (try dsimp only); simp [*]
    clear hK K hOld
    try simp only [Act.put, List.setIfInBounds_toArray, List.set_cons_zero, List.set_cons_succ]
    refine wpAnyH_take (i := 5) (v := ?_) rfl (by kernel_rfl) (by kernel_rfl) (by kernel_rfl) (fun _ _ _ h => h) (Or.inl ⟨by rfl, ?_⟩) (by assumption) ?_
    rotate_left
    · (intro w' hSw; (try dsimp only at hSw); go_simp; try (with_reducible rfl))
    change wpAnyH _ _ _ _ _ _ _ (Act.put _ (some 4) _) _
    try simp only [Act.put, List.setIfInBounds_toArray, List.set_cons_zero, List.set_cons_succ]
    refine wpAnyH_done (by kernel_rfl) ?_ _
    clear hHeld
    have hbE := ext_trans (ext_trans hbw3 (Below.drew (Below.refl _ _))) (ext_trans hb4 hb5)
    go_wp2
    go_ret
    rw [HRR.out]
    exact ⟨rfl, hbE⟩
  · have HRR := hid (show R = cmpD dx dy by rw [HR.out, if_pos rfl])
    go_wp2_with fail
    refine (CVX2.out _ (tabs_below hT.1 hbw3) (mx_below hM hbw3)).mono ?_
    rintro e' t3 ⟨rfl, hb3⟩
    replace m00 := keeps_cells hb3 ⟨w.heap.size, 0, none⟩ (.int .i64 x.kind) m00
    replace m01 := keeps_cells hb3 ⟨w.heap.size, 1, none⟩ (.bool x.num.neg) m01
    replace m02 := keeps_cells hb3 ⟨w.heap.size, 2, none⟩ (.string x.num.dig) m02
    replace m03 := keeps_cells hb3 ⟨w.heap.size, 3, none⟩ (.int .i64 x.num.exp) m03
    replace m04 := keeps_cells hb3 ⟨w.heap.size, 4, none⟩ (.string x.text) m04
    replace m10 := keeps_cells hb3 ⟨w.heap.size + 1, 0, none⟩ (.int .i64 y.kind) m10
    replace m11 := keeps_cells hb3 ⟨w.heap.size + 1, 1, none⟩ (.bool y.num.neg) m11
    replace m12 := keeps_cells hb3 ⟨w.heap.size + 1, 2, none⟩ (.string y.num.dig) m12
    replace m13 := keeps_cells hb3 ⟨w.heap.size + 1, 3, none⟩ (.int .i64 y.num.exp) m13
    replace m14 := keeps_cells hb3 ⟨w.heap.size + 1, 4, none⟩ (.string y.text) m14
    have hl5 : w.heap.size + 1 < t3.heap.size := Nat.lt_of_lt_of_le hl3 hb3.size
    have hl6 : w.heap.size < t3.heap.size := by omega
    go_wp2_with fail
    refine (CVY2.out _ (tabs_below hT.1 (by repeat' (first | (with_reducible exact hbw3) | (with_reducible refine ext_trans ?_ hb3) | (with_reducible refine ext_trans ?_ (ext_alloc _ _)) | (with_reducible refine Below.setCell ?_ ?_ _) | (simp; done) | (simp; omega) | omega))) (mx_below hM (by repeat' (first | (with_reducible exact hbw3) | (with_reducible refine ext_trans ?_ hb3) | (with_reducible refine ext_trans ?_ (ext_alloc _ _)) | (with_reducible refine Below.setCell ?_ ?_ _) | (simp; done) | (simp; omega) | omega)))).mono ?_
    rintro e' t4 ⟨rfl, hb4⟩
    have d0 : t4.cell? ⟨t3.heap.size, 0, none⟩ = some (.bool dx.neg) := keeps_cells hb4 _ _ (by go_simp)
    have d1 : t4.cell? ⟨t3.heap.size, 1, none⟩ = some (.string dx.dig) := keeps_cells hb4 _ _ (by go_simp)
    have d2 : t4.cell? ⟨t3.heap.size, 2, none⟩ = some (.int .i64 dx.exp) := keeps_cells hb4 _ _ (by go_simp)
    have hq3 : t3.heap.size < t4.heap.size := by have := hb4.size; (try simp at this); omega
    go_wp2_with fail
    refine (CDC.out _).mono ?_
    rintro e' t5 ⟨rfl, hb5⟩
    go_wp2
    go_ret
    rw [HRR.out]
    exact ⟨rfl, by repeat' (first | (with_reducible exact hbw3) | (with_reducible refine ext_trans ?_ hb5) | (with_reducible refine ext_trans ?_ hb4) | (with_reducible refine ext_trans ?_ hb3) | (with_reducible refine ext_trans ?_ (ext_alloc _ _)) | (with_reducible refine Below.setCell ?_ ?_ _) | (simp; done) | (simp; omega) | omega)⟩
theorem specValCmp {cs cs' : Array Value} {x y : Val} (w : World) (hx : Rd.rd (Old w) w cs.toList x) (hy : Rd.rd (Old w) w cs'.toList y) :
    Calls Tryz.prog 13 #[.agg cs, .agg cs'] w fun e w' => e = .returned (.int .i64 (cmpV x y)) ∧ Below w.heap.size w w' := by
  obtain ⟨h1, g1⟩ := rdVal hx
  obtain ⟨h2, g2⟩ := rdVal hy
  obtain rfl := arr_of_list h1
  obtain rfl := arr_of_list h2
  exact specValCmp0 x y w g1 g2
theorem implValCmp {cs cs' : Array Value} {x y : Val} (w : World) (hx : Rd.rd (Old w) w cs.toList x) (hy : Rd.rd (Old w) w cs'.toList y) (hT : TP w) (hM : Mx w) :
    Calls Tryz.prog 14 #[.agg cs, .agg cs'] w fun e w' => e = .returned (.int .i64 (cmpV x y)) ∧ Below w.heap.size w w' := by
  obtain ⟨h1, g1⟩ := rdVal hx
  obtain ⟨h2, g2⟩ := rdVal hy
  obtain rfl := arr_of_list h1
  obtain rfl := arr_of_list h2
  exact implValCmp0 x y w g1 g2 hT hM
end Go.Proofs.YtjpkdgedglnchaaGreatDoor
