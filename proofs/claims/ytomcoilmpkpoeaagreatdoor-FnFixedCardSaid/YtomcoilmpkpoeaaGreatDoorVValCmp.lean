/-
  What is proved here: impl.isNumeric, and ValCmp of both packages. The conditions 'TP' and 'Mx' speak of the library's tables and of its MaxLen.
-/
import Derived.Test.YtomcoilmpkpoeaaGreatDoorVD
import Derived.Test.YtomcoilmpkpoeaaGreatDoorVTabs3
namespace Go.Proofs.YtomcoilmpkpoeaaGreatDoor
open Go.RowKit
set_option linter.unusedVariables false
set_option linter.unusedSimpArgs false

theorem less_eq : ∀ a b : List UInt8, Op.bytesLess a b = false → (a == b) = !Op.bytesLess b a
  | [], [], _ => by simp [Op.bytesLess]
  | [], _ :: _, h => by simp [Op.bytesLess] at h
  | _ :: _, [], _ => by simp [Op.bytesLess]
  | x :: a, y :: b, h => by
    have ih := less_eq a b
    rw [Op.bytesLess] at h ⊢
    by_cases h1 : x < y
    · simp [h1] at h
    · by_cases h2 : y < x
      · have hne : ¬ x = y := fun h => by rw [h] at h2; exact absurd h2 (by rw [UInt8.lt_iff_toNat_lt]; omega)
        simp [h2, hne]
      · have he : x = y := by
          have h3 : ¬ x.toNat < y.toNat := h1
          have h4 : ¬ y.toNat < x.toNat := h2
          exact UInt8.toNat.inj (by omega)
        subst he
        simp [h1] at h ⊢
        simpa using ih h
def valB (v : Val) : Prop := (-9223372036854775808 ≤ v.kind ∧ v.kind ≤ 9223372036854775807) ∧ v.num.dig.size ≤ 9223372036854775807 ∧ (-9223372036854775808 ≤ v.num.exp ∧ v.num.exp ≤ 9223372036854775807) ∧ v.text.size ≤ 9223372036854775807
theorem valB_sound {x : Val} (h : valB x) : valB (soundVal x) := by
  unfold soundVal
  split
  · exact h
  · exact ⟨⟨by decide, by decide⟩, by decide, ⟨by decide, by decide⟩, by decide⟩
theorem sound_sound (x : Val) : soundVal (soundVal x) = soundVal x := sound_of (sound_ok x)
theorem valT_sound (x : Val) : valT (soundVal x) = valT x := by unfold valT; rw [sound_sound]
theorem numR_sound (x : Val) : valNumR (soundVal x) = valNumV (soundVal x) := by unfold valNumR; rw [sound_sound]
set_option maxHeartbeats 8000000 in
theorem implNumeric {cs : Array Value} {x : Val} (w : World) (hrd : Rd.rd (Old w) w cs.toList x) (hT : Tabs w) (hM : Mx w) :
    Calls Tryz.prog 46 #[.agg cs] w fun e w' => e = .returned (.bool (numericV (soundVal x))) ∧ Below w.heap.size w w' := by
  obtain ⟨hcs, g0, g1, g2, g3⟩ := rdVal hrd
  obtain rfl := arr_of_list hcs
  clear hcs hrd
  have CS : Hid (∀ w, Tabs w → Calls Tryz.prog 49 #[.agg #[.int .i64 x.kind, .bool x.num.neg, .string x.num.dig, .int .i64 x.num.exp, .string x.text]] w fun e w' => ∃ cs' : Array Value, e = .returned (.agg cs') ∧ Rd.rd (Old w') w' cs'.toList (soundVal x) ∧ Below w.heap.size w w') := hid (fun w h => implValid (x := x) w (by exact rdVal_mk g0 g1 g2 g3) h)
  obtain ⟨v, hv⟩ : ∃ v, soundVal x = v := ⟨_, rfl⟩
  rw [hv] at CS ⊢
  have CL := hid (fun (w : World) (h : Tabs w) (m : Mx w) => implLooks v.text w h m)
  clear hv
  go_enter Tryz.func46, Tryz.ntmps46
  go_wp2_with fail
  refine (CS.out _ (tabs_below hT (ext_alloc _ _))).mono ?_
  rintro e w1 ⟨cs', rfl, hrd, hb⟩
  obtain ⟨hcs, k0, k1, k2, k3⟩ := rdVal hrd
  obtain rfl := arr_of_list hcs
  clear hcs hrd
  obtain ⟨hc1, hf1⟩ := bcell hb
  have hl' : w.heap.size < w1.heap.size := by have := hb.size; (try simp at this); omega
  have hbw : Below w.heap.size w w1 := ext_trans (ext_alloc _ _) hb
  have s0 := hc1 w.heap.size 0 (by simp)
  have s1 := hc1 w.heap.size 1 (by simp)
  have s2 := hc1 w.heap.size 2 (by simp)
  have s3 := hc1 w.heap.size 3 (by simp)
  have s4 := hc1 w.heap.size 4 (by simp)
  have z0 := hf1 w.heap.size 0 (by simp)
  have z1 := hf1 w.heap.size 1 (by simp)
  have z2 := hf1 w.heap.size 2 (by simp)
  have z3 := hf1 w.heap.size 3 (by simp)
  have z4 := hf1 w.heap.size 4 (by simp)
  simp at s0 z0 s1 z1 s2 z2 s3 z3 s4 z4
  clear hc1 hf1
  have hbs : Below w.heap.size w (((((w1.setCell ⟨w.heap.size, 0, none⟩ (.int .i64 v.kind)).setCell ⟨w.heap.size, 1, none⟩ (.bool v.num.neg)).setCell ⟨w.heap.size, 2, none⟩ (.string v.num.dig)).setCell ⟨w.heap.size, 3, none⟩ (.int .i64 v.num.exp)).setCell ⟨w.heap.size, 4, none⟩ (.string v.text)) := by repeat' (first | (with_reducible exact hbw) | (with_reducible refine Below.setCell ?_ ?_ _) | (simp; done) | (simp; omega) | omega)
  by_cases h0 : v.kind = 0
  · have HR := hid (show numericV v = true by unfold numericV; simp [h0])
    have gk0 : (v.kind == 0) = true := by rw [beq_iff_eq]; exact h0
    clear h0
    go_wp2
    go_ret
    rw [HR.out]
    exact ⟨rfl, hbs⟩
  have gk0 : (v.kind == 0) = false := by rw [beq_eq_false_iff_ne]; exact h0
  by_cases h1 : v.kind = 1
  · have HR := hid (show numericV v = true by unfold numericV; simp [h1])
    have gk1 : (v.kind == 1) = true := by rw [beq_iff_eq]; exact h1
    clear h0 h1
    go_wp2
    go_ret
    rw [HR.out]
    exact ⟨rfl, hbs⟩
  have gk1 : (v.kind == 1) = false := by rw [beq_eq_false_iff_ne]; exact h1
  by_cases h3 : v.kind = 3
  · have HR := hid (show numericV v = looksB v.text by unfold numericV; simp [h0, h1, h3])
    have gk3 : (v.kind == 3) = true := by rw [beq_iff_eq]; exact h3
    clear h0 h1 h3
    go_wp2_with fail
    refine (CL.out _ (tabs_below hT hbs) (mx_below hM hbs)).mono ?_
    rintro e w2 ⟨rfl, hb2⟩
    go_wp2
    go_ret
    rw [HR.out]
    exact ⟨rfl, hbs.trans (hb2.mono (by simp; have := hbw.size; omega))⟩
  · have HR := hid (show numericV v = false by unfold numericV; simp [h0, h1, h3])
    have gk3 : (v.kind == 3) = false := by rw [beq_eq_false_iff_ne]; exact h3
    clear h0 h1 h3
    go_wp2
    go_ret
    rw [HR.out]
    exact ⟨rfl, hbs⟩
set_option maxHeartbeats 16000000 in
set_option maxRecDepth 100000 in
theorem implValCmp0 (x y : Val) (w : World) (hx : valB x) (hy : valB y) (hT : TP w) (hM : Mx w) :
    Calls Tryz.prog 19 #[.agg #[.int .i64 x.kind, .bool x.num.neg, .string x.num.dig, .int .i64 x.num.exp, .string x.text], .agg #[.int .i64 y.kind, .bool y.num.neg, .string y.num.dig, .int .i64 y.num.exp, .string y.text]] w fun e w' => e = .returned (.int .i64 (cmpV x y)) ∧ Below w.heap.size w w' := by
  have okx := valNumV_ok (sound_ok x)
  have oky := valNumV_ok (sound_ok y)
  have CTX := hid (fun (w : World) (h : TP w) => implValText0 (x := x) w (by exact rdVal_mk hx.1 hx.2.1 hx.2.2.1 hx.2.2.2) h)
  have CTY := hid (fun (w : World) (h : TP w) => implValText0 (x := y) w (by exact rdVal_mk hy.1 hy.2.1 hy.2.2.1 hy.2.2.2) h)
  have CNX := hid (fun (w : World) (h : Tabs w) (m : Mx w) => implNumeric (x := x) w (by exact rdVal_mk hx.1 hx.2.1 hx.2.2.1 hx.2.2.2) h m)
  have CNY := hid (fun (w : World) (h : Tabs w) (m : Mx w) => implNumeric (x := y) w (by exact rdVal_mk hy.1 hy.2.1 hy.2.2.1 hy.2.2.2) h m)
  have CVX := hid (fun (w : World) (h : Tabs w) (m : Mx w) => implValNum0 (x := x) w (by exact rdVal_mk hx.1 hx.2.1 hx.2.2.1 hx.2.2.2) h m)
  have CVY := hid (fun (w : World) (h : Tabs w) (m : Mx w) => implValNum0 (x := y) w (by exact rdVal_mk hy.1 hy.2.1 hy.2.2.1 hy.2.2.2) h m)
  have nrx : valNumR x = valNumV (soundVal x) := rfl
  have nry : valNumR y = valNumV (soundVal y) := rfl
  rw [nrx] at CVX
  rw [nry] at CVY
  have hcv : cmpV x y = if (numericV (soundVal x) && numericV (soundVal y)) = true then cmpD (valNumV (soundVal x)).1 (valNumV (soundVal y)).1 else Lib.compareBytes (valT x).data.toList (valT y).data.toList := rfl
  obtain ⟨sx, hsx⟩ : ∃ v, soundVal x = v := ⟨_, rfl⟩
  obtain ⟨sy, hsy⟩ : ∃ v, soundVal y = v := ⟨_, rfl⟩
  obtain ⟨tx, htx⟩ : ∃ t, valT x = t := ⟨_, rfl⟩
  obtain ⟨ty, hty⟩ : ∃ t, valT y = t := ⟨_, rfl⟩
  rw [hsx] at CNX CVX okx hcv
  rw [hsy] at CNY CVY oky hcv
  rw [htx] at CTX hcv
  rw [hty] at CTY hcv
  obtain ⟨rx, hrx⟩ : ∃ r, valNumV sx = r := ⟨_, rfl⟩
  obtain ⟨ry, hry⟩ : ∃ r, valNumV sy = r := ⟨_, rfl⟩
  obtain ⟨nx, hnx⟩ : ∃ r, numericV sx = r := ⟨_, rfl⟩
  obtain ⟨ny, hny⟩ : ∃ r, numericV sy = r := ⟨_, rfl⟩
  rw [hrx] at CVX okx hcv
  rw [hry] at CVY oky hcv
  rw [hnx] at CNX hcv
  rw [hny] at CNY hcv
  obtain ⟨dx, cx⟩ := rx
  obtain ⟨dy, cy⟩ := ry
  have CVX2 : Hid (∀ w, Tabs w → Mx w → Calls Tryz.prog 42 #[.agg #[.int .i64 x.kind, .bool x.num.neg, .string x.num.dig, .int .i64 x.num.exp, .string x.text]] w fun e w' => e = .returned (.tuple #[.agg #[.bool dx.neg, .string dx.dig, .int .i64 dx.exp], .int .i64 cx]) ∧ Below w.heap.size w w') := hid (fun w h m => (CVX.out w h m).mono fun e w' h => ⟨h.1, h.2.2⟩)
  have CVY2 : Hid (∀ w, Tabs w → Mx w → Calls Tryz.prog 42 #[.agg #[.int .i64 y.kind, .bool y.num.neg, .string y.num.dig, .int .i64 y.num.exp, .string y.text]] w fun e w' => e = .returned (.tuple #[.agg #[.bool dy.neg, .string dy.dig, .int .i64 dy.exp], .int .i64 cy]) ∧ Below w.heap.size w w') := hid (fun w h m => (CVY.out w h m).mono fun e w' h => ⟨h.1, h.2.2⟩)
  have CDC := hid (fun (w : World) => implDecCmp dx dy w okx oky)
  have CSC := hid (fun (w : World) => Tryz.strings_Compare tx ty w)
  obtain ⟨R, hR⟩ : ∃ r, cmpV x y = r := ⟨_, rfl⟩
  rw [hR] at hcv ⊢
  have HR := hid hcv
  clear hcv hR hrx hry hnx hny hsx hsy htx hty CVX CVY okx oky nrx nry
  go_enter Tryz.func19, Tryz.ntmps19
  go_upto_region 1 with fail
  obtain ⟨w2, hw2⟩ : ∃ w', (w.alloc (.cells #[.int .i64 x.kind, .bool x.num.neg, .string x.num.dig, .int .i64 x.num.exp, .string x.text] 39)).alloc (.cells #[.int .i64 y.kind, .bool y.num.neg, .string y.num.dig, .int .i64 y.num.exp, .string y.text] 39) = w' := ⟨_, rfl⟩
  rw [hw2]
  have hbw3 : Below w.heap.size w w2 := by subst hw2; exact ext_trans (ext_alloc _ _) (ext_alloc _ _)
  have hl3 : w.heap.size + 1 < w2.heap.size := by subst hw2; simp
  have m00 : w2.cell? ⟨w.heap.size, 0, none⟩ = some (.int .i64 x.kind) := by subst hw2; go_simp
  have m01 : w2.cell? ⟨w.heap.size, 1, none⟩ = some (.bool x.num.neg) := by subst hw2; go_simp
  have m02 : w2.cell? ⟨w.heap.size, 2, none⟩ = some (.string x.num.dig) := by subst hw2; go_simp
  have m03 : w2.cell? ⟨w.heap.size, 3, none⟩ = some (.int .i64 x.num.exp) := by subst hw2; go_simp
  have m04 : w2.cell? ⟨w.heap.size, 4, none⟩ = some (.string x.text) := by subst hw2; go_simp
  have m10 : w2.cell? ⟨w.heap.size + 1, 0, none⟩ = some (.int .i64 y.kind) := by subst hw2; go_simp
  have m11 : w2.cell? ⟨w.heap.size + 1, 1, none⟩ = some (.bool y.num.neg) := by subst hw2; go_simp
  have m12 : w2.cell? ⟨w.heap.size + 1, 2, none⟩ = some (.string y.num.dig) := by subst hw2; go_simp
  have m13 : w2.cell? ⟨w.heap.size + 1, 3, none⟩ = some (.int .i64 y.num.exp) := by subst hw2; go_simp
  have m14 : w2.cell? ⟨w.heap.size + 1, 4, none⟩ = some (.string y.text) := by subst hw2; go_simp
  clear hw2
  go_cut [14] from 9 (fun v wr => v = .bool (nx && ny) ∧ Below w.heap.size w wr ∧ w.heap.size + 1 < wr.heap.size ∧ wr.cell? ⟨w.heap.size, 0, none⟩ = some (.int .i64 x.kind) ∧ wr.cell? ⟨w.heap.size, 1, none⟩ = some (.bool x.num.neg) ∧ wr.cell? ⟨w.heap.size, 2, none⟩ = some (.string x.num.dig) ∧ wr.cell? ⟨w.heap.size, 3, none⟩ = some (.int .i64 x.num.exp) ∧ wr.cell? ⟨w.heap.size, 4, none⟩ = some (.string x.text) ∧ wr.cell? ⟨w.heap.size + 1, 0, none⟩ = some (.int .i64 y.kind) ∧ wr.cell? ⟨w.heap.size + 1, 1, none⟩ = some (.bool y.num.neg) ∧ wr.cell? ⟨w.heap.size + 1, 2, none⟩ = some (.string y.num.dig) ∧ wr.cell? ⟨w.heap.size + 1, 3, none⟩ = some (.int .i64 y.num.exp) ∧ wr.cell? ⟨w.heap.size + 1, 4, none⟩ = some (.string y.text))
  case first =>
    go_wp2_with fail
    refine (CNX.out _ (tabs_below hT.1 hbw3) (mx_below hM hbw3)).mono ?_
    rintro e' t1 ⟨rfl, hb1⟩
    replace m00 := keeps_cells hb1 ⟨w.heap.size, 0, none⟩ (.int .i64 x.kind) m00
    replace m01 := keeps_cells hb1 ⟨w.heap.size, 1, none⟩ (.bool x.num.neg) m01
    replace m02 := keeps_cells hb1 ⟨w.heap.size, 2, none⟩ (.string x.num.dig) m02
    replace m03 := keeps_cells hb1 ⟨w.heap.size, 3, none⟩ (.int .i64 x.num.exp) m03
    replace m04 := keeps_cells hb1 ⟨w.heap.size, 4, none⟩ (.string x.text) m04
    replace m10 := keeps_cells hb1 ⟨w.heap.size + 1, 0, none⟩ (.int .i64 y.kind) m10
    replace m11 := keeps_cells hb1 ⟨w.heap.size + 1, 1, none⟩ (.bool y.num.neg) m11
    replace m12 := keeps_cells hb1 ⟨w.heap.size + 1, 2, none⟩ (.string y.num.dig) m12
    replace m13 := keeps_cells hb1 ⟨w.heap.size + 1, 3, none⟩ (.int .i64 y.num.exp) m13
    replace m14 := keeps_cells hb1 ⟨w.heap.size + 1, 4, none⟩ (.string y.text) m14
    have hl4 : w.heap.size + 1 < t1.heap.size := Nat.lt_of_lt_of_le hl3 hb1.size
    have hbw4 : Below w.heap.size w t1 := ext_trans hbw3 hb1
    cases nx
    · go_wp2
      go_meet
      case rel => exact ⟨rfl, hbw4, hl4, m00, m01, m02, m03, m04, m10, m11, m12, m13, m14⟩
    · go_wp2_with fail
      refine (CNY.out _ (tabs_below hT.1 hbw4) (mx_below hM hbw4)).mono ?_
      rintro e' t2 ⟨rfl, hb2⟩
      replace m00 := keeps_cells hb2 ⟨w.heap.size, 0, none⟩ (.int .i64 x.kind) m00
      replace m01 := keeps_cells hb2 ⟨w.heap.size, 1, none⟩ (.bool x.num.neg) m01
      replace m02 := keeps_cells hb2 ⟨w.heap.size, 2, none⟩ (.string x.num.dig) m02
      replace m03 := keeps_cells hb2 ⟨w.heap.size, 3, none⟩ (.int .i64 x.num.exp) m03
      replace m04 := keeps_cells hb2 ⟨w.heap.size, 4, none⟩ (.string x.text) m04
      replace m10 := keeps_cells hb2 ⟨w.heap.size + 1, 0, none⟩ (.int .i64 y.kind) m10
      replace m11 := keeps_cells hb2 ⟨w.heap.size + 1, 1, none⟩ (.bool y.num.neg) m11
      replace m12 := keeps_cells hb2 ⟨w.heap.size + 1, 2, none⟩ (.string y.num.dig) m12
      replace m13 := keeps_cells hb2 ⟨w.heap.size + 1, 3, none⟩ (.int .i64 y.num.exp) m13
      replace m14 := keeps_cells hb2 ⟨w.heap.size + 1, 4, none⟩ (.string y.text) m14
      go_wp2
      go_meet
      case rel => exact ⟨by simp, ext_trans hbw4 hb2, Nat.lt_of_lt_of_le hl4 hb2.size, m00, m01, m02, m03, m04, m10, m11, m12, m13, m14⟩
  case rest =>
  clear m00 m01 m02 m03 m04 m10 m11 m12 m13 m14 hl3 hbw3 CNX CNY
  obtain ⟨rfl, hbw3, hl3, m00, m01, m02, m03, m04, m10, m11, m12, m13, m14⟩ := hcut
  obtain ⟨nb, hnb⟩ : ∃ b, (nx && ny) = b := ⟨_, rfl⟩
  rw [hnb] at HR ⊢
  obtain ⟨wcb, hwcb⟩ : ∃ w', wc = w' := ⟨_, rfl⟩
  rw [hwcb] at m00 m01 m02 m03 m04 m10 m11 m12 m13 m14 hbw3 hl3 ⊢
  clear hnb hwcb
  cases nb
  · have HRR := hid (show R = Lib.compareBytes tx.data.toList ty.data.toList by rw [HR.out, if_neg (by decide)])
    go_wp2_with fail
    refine wp_region_held_drew (S := fun w' => w'.cell? ⟨w.heap.size, 0, none⟩ = some (.int .i64 x.kind) ∧ w'.cell? ⟨w.heap.size, 1, none⟩ = some (.bool x.num.neg) ∧ w'.cell? ⟨w.heap.size, 2, none⟩ = some (.string x.num.dig) ∧ w'.cell? ⟨w.heap.size, 3, none⟩ = some (.int .i64 x.num.exp) ∧ w'.cell? ⟨w.heap.size, 4, none⟩ = some (.string x.text) ∧ w'.cell? ⟨w.heap.size + 1, 0, none⟩ = some (.int .i64 y.kind) ∧ w'.cell? ⟨w.heap.size + 1, 1, none⟩ = some (.bool y.num.neg) ∧ w'.cell? ⟨w.heap.size + 1, 2, none⟩ = some (.string y.num.dig) ∧ w'.cell? ⟨w.heap.size + 1, 3, none⟩ = some (.int .i64 y.num.exp) ∧ w'.cell? ⟨w.heap.size + 1, 4, none⟩ = some (.string y.text)) (by kernel_rfl) ?_ (fun hHeld => ?_)
    · simp [*]
    refine wpAnyH_take (i := 0) (v := ?_) rfl (by kernel_rfl) (by kernel_rfl) (by kernel_rfl) (fun _ _ _ h => h) (Or.inl ⟨by rfl, ?_⟩) (by assumption) ?_
    rotate_left
    · (intro w' hSw; (try dsimp only at hSw); go_simp; try (with_reducible rfl))
    change wpAnyH _ _ _ _ _ _ _ (Act.put _ (some 28) _) _
    try simp only [Act.put, List.setIfInBounds_toArray, List.set_cons_zero, List.set_cons_succ]
    refine wpAnyH_take (i := 2) (v := ?_) rfl (by kernel_rfl) (by kernel_rfl) (by kernel_rfl) (fun _ _ _ h => h) (Or.inl ⟨by rfl, ?_⟩) (by assumption) ?_
    rotate_left
    · (intro w' hSw; (try dsimp only at hSw); go_simp; try (with_reducible rfl))
    change wpAnyH _ _ _ _ _ _ _ (Act.put _ (some 30) _) _
    try simp only [Act.put, List.setIfInBounds_toArray, List.set_cons_zero, List.set_cons_succ]
    refine wpAnyH_ready (rs := [1]) (by kernel_rfl) (by simp) ?_
    refine AllReadyH.cons (i := 1) rfl (fun K hK => ?_) AllReadyH.nil
    simp only [List.getElem_toArray, List.getElem_cons_succ, List.getElem_cons_zero]
    rw [if_pos (by rfl)]
    go_simp
    (go_at_call 41; refine (CTX.out _ (tp_below hT (ext_trans hbw3 (Below.drew (Below.refl _ _))))).mono ?_; rintro e' w4 ⟨rfl, hb4⟩; have hkc4 := keeps_cells hb4; go_wp2_with fail)
    have hOld := hHeld
    clear hHeld
    refine hK.out _ _ ?_ (fun hHeld => ?_)
    · (try dsimp only); simp [*]
    clear hK K hOld
    try simp only [Act.put, List.setIfInBounds_toArray, List.set_cons_zero, List.set_cons_succ]
    refine wpAnyH_ready (rs := [3]) (by kernel_rfl) (by simp) ?_
    refine AllReadyH.cons (i := 3) rfl (fun K hK => ?_) AllReadyH.nil
    simp only [List.getElem_toArray, List.getElem_cons_succ, List.getElem_cons_zero]
    rw [if_pos (by rfl)]
    go_simp
    (go_at_call 41; refine (CTY.out _ (tp_below hT (ext_trans (ext_trans hbw3 (Below.drew (Below.refl _ _))) hb4))).mono ?_; rintro e' w5 ⟨rfl, hb5⟩; have hkc5 := keeps_cells hb5; go_wp2_with fail)
    have hOld := hHeld
    clear hHeld
    refine hK.out _ _ ?_ (fun hHeld => ?_)
    · (try dsimp only); simp [*]
    clear hK K hOld
    try simp only [Act.put, List.setIfInBounds_toArray, List.set_cons_zero, List.set_cons_succ]
    refine wpAnyH_ready (rs := [4]) (by kernel_rfl) (by simp) ?_
    refine AllReadyH.cons (i := 4) rfl (fun K hK => ?_) AllReadyH.nil
    simp only [List.getElem_toArray, List.getElem_cons_succ, List.getElem_cons_zero]
    rw [if_pos (by rfl)]
    go_simp
    (go_at_call 48; refine (CSC.out _).mono ?_; rintro e' w6 ⟨rfl, rfl⟩; go_wp2_with fail)
    have hOld := hHeld
    clear hHeld
    refine hK.out _ _ ?_ (fun hHeld => ?_)
    · (try dsimp only); simp [*]
    clear hK K hOld
    try simp only [Act.put, List.setIfInBounds_toArray, List.set_cons_zero, List.set_cons_succ]
    refine wpAnyH_take (i := 5) (v := ?_) rfl (by kernel_rfl) (by kernel_rfl) (by kernel_rfl) (fun _ _ _ h => h) (Or.inl ⟨by rfl, ?_⟩) (by assumption) ?_
    rotate_left
    · (intro w' hSw; (try dsimp only at hSw); go_simp; try (with_reducible rfl))
    change wpAnyH _ _ _ _ _ _ _ (Act.put _ (some 4) _) _
    try simp only [Act.put, List.setIfInBounds_toArray, List.set_cons_zero, List.set_cons_succ]
    refine wpAnyH_done (by kernel_rfl) ?_ _
    clear hHeld
    have hbE := ext_trans (ext_trans hbw3 (Below.drew (Below.refl _ _))) (ext_trans hb4 hb5)
    go_wp2
    go_ret
    rw [HRR.out]
    exact ⟨rfl, hbE⟩
  · have HRR := hid (show R = cmpD dx dy by rw [HR.out, if_pos rfl])
    go_wp2_with fail
    refine (CVX2.out _ (tabs_below hT.1 hbw3) (mx_below hM hbw3)).mono ?_
    rintro e' t3 ⟨rfl, hb3⟩
    replace m00 := keeps_cells hb3 ⟨w.heap.size, 0, none⟩ (.int .i64 x.kind) m00
    replace m01 := keeps_cells hb3 ⟨w.heap.size, 1, none⟩ (.bool x.num.neg) m01
    replace m02 := keeps_cells hb3 ⟨w.heap.size, 2, none⟩ (.string x.num.dig) m02
    replace m03 := keeps_cells hb3 ⟨w.heap.size, 3, none⟩ (.int .i64 x.num.exp) m03
    replace m04 := keeps_cells hb3 ⟨w.heap.size, 4, none⟩ (.string x.text) m04
    replace m10 := keeps_cells hb3 ⟨w.heap.size + 1, 0, none⟩ (.int .i64 y.kind) m10
    replace m11 := keeps_cells hb3 ⟨w.heap.size + 1, 1, none⟩ (.bool y.num.neg) m11
    replace m12 := keeps_cells hb3 ⟨w.heap.size + 1, 2, none⟩ (.string y.num.dig) m12
    replace m13 := keeps_cells hb3 ⟨w.heap.size + 1, 3, none⟩ (.int .i64 y.num.exp) m13
    replace m14 := keeps_cells hb3 ⟨w.heap.size + 1, 4, none⟩ (.string y.text) m14
    have hl5 : w.heap.size + 1 < t3.heap.size := Nat.lt_of_lt_of_le hl3 hb3.size
    have hl6 : w.heap.size < t3.heap.size := by omega
    go_wp2_with fail
    refine (CVY2.out _ (tabs_below hT.1 (by repeat' (first | (with_reducible exact hbw3) | (with_reducible refine ext_trans ?_ hb3) | (with_reducible refine ext_trans ?_ (ext_alloc _ _)) | (with_reducible refine Below.setCell ?_ ?_ _) | (simp; done) | (simp; omega) | omega))) (mx_below hM (by repeat' (first | (with_reducible exact hbw3) | (with_reducible refine ext_trans ?_ hb3) | (with_reducible refine ext_trans ?_ (ext_alloc _ _)) | (with_reducible refine Below.setCell ?_ ?_ _) | (simp; done) | (simp; omega) | omega)))).mono ?_
    rintro e' t4 ⟨rfl, hb4⟩
    have d0 : t4.cell? ⟨t3.heap.size, 0, none⟩ = some (.bool dx.neg) := keeps_cells hb4 _ _ (by go_simp)
    have d1 : t4.cell? ⟨t3.heap.size, 1, none⟩ = some (.string dx.dig) := keeps_cells hb4 _ _ (by go_simp)
    have d2 : t4.cell? ⟨t3.heap.size, 2, none⟩ = some (.int .i64 dx.exp) := keeps_cells hb4 _ _ (by go_simp)
    have hq3 : t3.heap.size < t4.heap.size := by have := hb4.size; (try simp at this); omega
    go_wp2_with fail
    refine (CDC.out _).mono ?_
    rintro e' t5 ⟨rfl, hb5⟩
    go_wp2
    go_ret
    rw [HRR.out]
    exact ⟨rfl, by repeat' (first | (with_reducible exact hbw3) | (with_reducible refine ext_trans ?_ hb5) | (with_reducible refine ext_trans ?_ hb4) | (with_reducible refine ext_trans ?_ hb3) | (with_reducible refine ext_trans ?_ (ext_alloc _ _)) | (with_reducible refine Below.setCell ?_ ?_ _) | (simp; done) | (simp; omega) | omega)⟩
theorem implValCmp {cs cs' : Array Value} {x y : Val} (w : World) (hx : Rd.rd (Old w) w cs.toList x) (hy : Rd.rd (Old w) w cs'.toList y) (hT : TP w) (hM : Mx w) :
    Calls Tryz.prog 19 #[.agg cs, .agg cs'] w fun e w' => e = .returned (.int .i64 (cmpV x y)) ∧ Below w.heap.size w w' := by
  obtain ⟨h1, g1⟩ := rdVal hx
  obtain ⟨h2, g2⟩ := rdVal hy
  obtain rfl := arr_of_list h1
  obtain rfl := arr_of_list h2
  exact implValCmp0 x y w g1 g2 hT hM
end Go.Proofs.YtomcoilmpkpoeaaGreatDoor
