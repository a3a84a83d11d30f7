/-
  What is proved here: spec.ValArith and impl.ValArith return the result of an operation on two values. The conditions 'Tabs' and 'Mx' speak of the library's tables and of its MaxLen.
-/
import Derived.Test.YthfmhenphnllfaaGreatDoorAlgC
namespace Go.Proofs.YthfmhenphnllfaaGreatDoor
open Go.RowKit
set_option linter.unusedVariables false
set_option linter.unusedSimpArgs false

noncomputable def arithV (op : Int) (x y : Val) : Val × Int :=
  if ¬ (1 ≤ op ∧ op ≤ 6) then (val0, 3) else if (valNumR x).2 ≠ 0 then (val0, (valNumR x).2) else if (valNumR y).2 ≠ 0 then (val0, (valNumR y).2)
  else if (arithD op (valNumR x).1 (valNumR y).1).2 ≠ 0 then (val0, (arithD op (valNumR x).1 (valNumR y).1).2) else (⟨1, (arithD op (valNumR x).1 (valNumR y).1).1, ⟨#[]⟩⟩, 0)
def arithT (r : Val × Int) : Value := .tuple #[.agg #[.int .i64 r.1.kind, .bool r.1.num.neg, .string r.1.num.dig, .int .i64 r.1.num.exp, .string r.1.text], .int .i64 r.2]
theorem valNumR_ok (x : Val) : decOk (valNumR x).1 = true := valNumV_ok (sound_ok x)
theorem decOk_bounds {d : Dec} (h : decOk d = true) : d.dig.size ≤ 9223372036854775807 ∧ -9223372036854775808 ≤ d.exp ∧ d.exp ≤ 9223372036854775807 := by
  obtain ⟨h1, h2, _⟩ := ok_facts h
  omega
theorem rd_arithV {S : Nat → Prop} {w : World} (op : Int) (x y : Val) : Rd.rd S w [.int .i64 (arithV op x y).1.kind, .bool (arithV op x y).1.num.neg, .string (arithV op x y).1.num.dig, .int .i64 (arithV op x y).1.num.exp, .string (arithV op x y).1.text] (arithV op x y).1 := by
  have h0 : ∀ {S : Nat → Prop} {w : World}, Rd.rd S w [.int .i64 0, .bool false, .string ⟨#[]⟩, .int .i64 0, .string ⟨#[]⟩] val0 := rd_val0
  unfold arithV
  split
  · exact h0
  · split
    · exact h0
    · split
      · exact h0
      · split
        · exact h0
        · have h := decOk_bounds (arithD_ok (valNumR_ok x) op (y := (valNumR y).1))
          exact rdVal_mk (x := ⟨1, _, ⟨#[]⟩⟩) (show -9223372036854775808 ≤ (1 : Int) ∧ (1 : Int) ≤ 9223372036854775807 by decide) h.1 h.2 (Nat.zero_le _)
structure VBox (w wr : World) (x y : Val) : Prop where
  a0 : wr.cell? ⟨w.heap.size, 0, none⟩ = some (.int .i64 x.kind)
  a1 : wr.cell? ⟨w.heap.size, 1, none⟩ = some (.bool x.num.neg)
  a2 : wr.cell? ⟨w.heap.size, 2, none⟩ = some (.string x.num.dig)
  a3 : wr.cell? ⟨w.heap.size, 3, none⟩ = some (.int .i64 x.num.exp)
  a4 : wr.cell? ⟨w.heap.size, 4, none⟩ = some (.string x.text)
  b0 : wr.cell? ⟨w.heap.size + 1, 0, none⟩ = some (.int .i64 y.kind)
  b1 : wr.cell? ⟨w.heap.size + 1, 1, none⟩ = some (.bool y.num.neg)
  b2 : wr.cell? ⟨w.heap.size + 1, 2, none⟩ = some (.string y.num.dig)
  b3 : wr.cell? ⟨w.heap.size + 1, 3, none⟩ = some (.int .i64 y.num.exp)
  b4 : wr.cell? ⟨w.heap.size + 1, 4, none⟩ = some (.string y.text)
  r0 : wr.cell? ⟨w.heap.size + 1 + 1, 0, none⟩ = some (.int .i64 0)
  r1 : wr.cell? ⟨w.heap.size + 1 + 1, 1, none⟩ = some (.bool false)
  r2 : wr.cell? ⟨w.heap.size + 1 + 1, 2, none⟩ = some (.string ⟨#[]⟩)
  r3 : wr.cell? ⟨w.heap.size + 1 + 1, 3, none⟩ = some (.int .i64 0)
  r4 : wr.cell? ⟨w.heap.size + 1 + 1, 4, none⟩ = some (.string ⟨#[]⟩)
  f0 : wr.frozen? ⟨w.heap.size + 1 + 1, 0, none⟩ = false
  f1 : wr.frozen? ⟨w.heap.size + 1 + 1, 1, none⟩ = false
  f2 : wr.frozen? ⟨w.heap.size + 1 + 1, 2, none⟩ = false
  f3 : wr.frozen? ⟨w.heap.size + 1 + 1, 3, none⟩ = false
  f4 : wr.frozen? ⟨w.heap.size + 1 + 1, 4, none⟩ = false
  bw : Below w.heap.size w wr
  lt : w.heap.size + 1 + 1 < wr.heap.size
  l1 : w.heap.size + 1 < wr.heap.size
  l0 : w.heap.size < wr.heap.size
theorem VBox.call {w wr w2 : World} {x y : Val} (h : VBox w wr x y) (hb : Below wr.heap.size wr w2) : VBox w w2 x y :=
  ⟨keeps_cells hb _ _ h.a0, keeps_cells hb _ _ h.a1, keeps_cells hb _ _ h.a2, keeps_cells hb _ _ h.a3, keeps_cells hb _ _ h.a4, keeps_cells hb _ _ h.b0, keeps_cells hb _ _ h.b1, keeps_cells hb _ _ h.b2, keeps_cells hb _ _ h.b3, keeps_cells hb _ _ h.b4, keeps_cells hb _ _ h.r0, keeps_cells hb _ _ h.r1, keeps_cells hb _ _ h.r2, keeps_cells hb _ _ h.r3, keeps_cells hb _ _ h.r4, (hb.frozen (p := ⟨w.heap.size + 1 + 1, 0, none⟩) h.lt).trans h.f0, (hb.frozen (p := ⟨w.heap.size + 1 + 1, 1, none⟩) h.lt).trans h.f1, (hb.frozen (p := ⟨w.heap.size + 1 + 1, 2, none⟩) h.lt).trans h.f2, (hb.frozen (p := ⟨w.heap.size + 1 + 1, 3, none⟩) h.lt).trans h.f3, (hb.frozen (p := ⟨w.heap.size + 1 + 1, 4, none⟩) h.lt).trans h.f4, ext_trans h.bw hb, Nat.lt_of_lt_of_le h.lt hb.size, Nat.lt_of_lt_of_le h.l1 hb.size, Nat.lt_of_lt_of_le h.l0 hb.size⟩
theorem vbox_start (w : World) (x y : Val) : VBox w (((w.alloc (.cells #[.int .i64 x.kind, .bool x.num.neg, .string x.num.dig, .int .i64 x.num.exp, .string x.text] 29)).alloc (.cells #[.int .i64 y.kind, .bool y.num.neg, .string y.num.dig, .int .i64 y.num.exp, .string y.text] 29)).alloc (.cells #[.int .i64 0, .bool false, .string ⟨#[]⟩, .int .i64 0, .string ⟨#[]⟩] 29)) x y := by
  refine ⟨?_, ?_, ?_, ?_, ?_, ?_, ?_, ?_, ?_, ?_, ?_, ?_, ?_, ?_, ?_, ?_, ?_, ?_, ?_, ?_, ext_trans (ext_trans (ext_alloc _ _) (ext_alloc _ _)) (ext_alloc _ _), by simp, by first | (simp; done) | (simp; omega), by first | (simp; done) | (simp; omega)⟩
  all_goals go_simp
structure DBox (wr : World) (g : Nat) (d : Dec) : Prop where
  c0 : wr.cell? ⟨g, 0, none⟩ = some (.bool d.neg)
  c1 : wr.cell? ⟨g, 1, none⟩ = some (.string d.dig)
  c2 : wr.cell? ⟨g, 2, none⟩ = some (.int .i64 d.exp)
  lt : g < wr.heap.size
theorem DBox.call {wr w2 : World} {g : Nat} {d : Dec} (h : DBox wr g d) (hb : Below wr.heap.size wr w2) : DBox w2 g d := ⟨keeps_cells hb _ _ h.c0, keeps_cells hb _ _ h.c1, keeps_cells hb _ _ h.c2, Nat.lt_of_lt_of_le h.lt hb.size⟩
theorem dbox_new (w : World) (d : Dec) : DBox (w.alloc (.cells #[.bool d.neg, .string d.dig, .int .i64 d.exp] 27)) w.heap.size d := by
  refine ⟨?_, ?_, ?_, by simp⟩
  all_goals go_simp
structure EBox (wr : World) (g : Nat) : Prop where
  c0 : wr.cell? ⟨g, 0, none⟩ = some (.bool false)
  c1 : wr.cell? ⟨g, 1, none⟩ = some (.string ⟨#[]⟩)
  c2 : wr.cell? ⟨g, 2, none⟩ = some (.int .i64 0)
  h0 : wr.frozen? ⟨g, 0, none⟩ = false
  h1 : wr.frozen? ⟨g, 1, none⟩ = false
  h2 : wr.frozen? ⟨g, 2, none⟩ = false
  lt : g < wr.heap.size
theorem EBox.call {wr w2 : World} {g : Nat} (h : EBox wr g) (hb : Below wr.heap.size wr w2) : EBox w2 g := ⟨keeps_cells hb _ _ h.c0, keeps_cells hb _ _ h.c1, keeps_cells hb _ _ h.c2, (hb.frozen (p := ⟨g, 0, none⟩) h.lt).trans h.h0, (hb.frozen (p := ⟨g, 1, none⟩) h.lt).trans h.h1, (hb.frozen (p := ⟨g, 2, none⟩) h.lt).trans h.h2, Nat.lt_of_lt_of_le h.lt hb.size⟩
theorem ebox_new (w : World) (n : Nat) (hn : w.heap.size = n) : EBox (w.alloc (.cells #[.bool false, .string ⟨#[]⟩, .int .i64 0] 27)) n := by
  subst hn
  refine ⟨?_, ?_, ?_, ?_, ?_, ?_, by simp⟩
  all_goals go_simp
set_option maxHeartbeats 32000000 in
set_option maxRecDepth 100000 in
theorem implValArith {cs cs2 : Array Value} {x y : Val} (op : Int) (w : World) (hrx : Rd.rd (Old w) w cs.toList x) (hry : Rd.rd (Old w) w cs2.toList y) (hop : -9223372036854775808 ≤ op ∧ op ≤ 9223372036854775807) (hT : Tabs w) (hM : Mx w) :
    Calls Tryz.prog 9 #[.int .i64 op, .agg cs, .agg cs2] w fun e w' => e = .returned (arithT (arithV op x y)) ∧ Below w.heap.size w w' := by
  obtain ⟨hcs, g0, g1, g2, g3⟩ := rdVal hrx
  obtain rfl := arr_of_list hcs
  obtain ⟨hcs2, g0', g1', g2', g3'⟩ := rdVal hry
  obtain rfl := arr_of_list hcs2
  clear hcs hcs2 hrx hry
  have C1 : Hid (∀ w, Tabs w → Mx w → Calls Tryz.prog 40 #[.agg #[.int .i64 x.kind, .bool x.num.neg, .string x.num.dig, .int .i64 x.num.exp, .string x.text]] w fun e w' => e = .returned (.tuple #[.agg #[.bool (valNumR x).1.neg, .string (valNumR x).1.dig, .int .i64 (valNumR x).1.exp], .int .i64 (valNumR x).2]) ∧ Below w.heap.size w w') := hid (fun w h m => (implValNum0 (x := x) w (by exact rdVal_mk g0 g1 g2 g3) h m).mono fun _ _ h => ⟨h.1, h.2.2⟩)
  have C2 : Hid (∀ w, Tabs w → Mx w → Calls Tryz.prog 40 #[.agg #[.int .i64 y.kind, .bool y.num.neg, .string y.num.dig, .int .i64 y.num.exp, .string y.text]] w fun e w' => e = .returned (.tuple #[.agg #[.bool (valNumR y).1.neg, .string (valNumR y).1.dig, .int .i64 (valNumR y).1.exp], .int .i64 (valNumR y).2]) ∧ Below w.heap.size w w') := hid (fun w h m => (implValNum0 (x := y) w (by exact rdVal_mk g0' g1' g2' g3') h m).mono fun _ _ h => ⟨h.1, h.2.2⟩)
  obtain ⟨V, hV⟩ : ∃ v, arithV op x y = v := ⟨_, rfl⟩
  rw [hV]
  unfold arithV at hV
  by_cases hin : 1 ≤ op ∧ op ≤ 6
  · rw [if_neg (fun h => h hin)] at hV
    have CA := hid (fun (w : World) => implArith op (valNumR x).1 (valNumR y).1 w (valNumR_ok x) (valNumR_ok y) hin)
    obtain ⟨R, hR⟩ : ∃ r, arithD op (valNumR x).1 (valNumR y).1 = r := ⟨_, rfl⟩
    rw [hR] at CA hV
    obtain ⟨p, hp⟩ : ∃ r, valNumR x = r := ⟨_, rfl⟩
    obtain ⟨q, hq⟩ : ∃ r, valNumR y = r := ⟨_, rfl⟩
    rw [hp] at C1 CA hV
    rw [hq] at C2 CA hV
    unfold formV at CA
    have hb : inB 1 op 6 = true := inB_true (by omega)
    have HV := hid hV
    obtain ⟨cc, hcc⟩ : ∃ c : Int, (if p.2 = 0 then q.2 else p.2) = c := ⟨_, rfl⟩
    have HCC := hid hcc
    clear hR hp hq hV hcc g0 g1 g2 g3 g0' g1' g2' g3'
    by_cases hc : cc = 0
    · have hc1 : (cc == 0) = true := by rw [beq_iff_eq]; exact hc
      have hc2 : (cc != 0) = false := by rw [bne, hc1]; rfl
      have hpq : p.2 = 0 ∧ q.2 = 0 := by have := HCC.out; split at this <;> omega
      have HPQ := hid hpq
      clear hc hpq
      have XV := hid (vbox_start w x y)
      obtain ⟨a0, a1, a2, a3, a4, b0, b1, b2, b3, b4, r0, r1, r2, r3, r4, f0, f1, f2, f3, f4, bw, lt, l1, l0⟩ := XV.out
      go_enter Tryz.func9, Tryz.ntmps9
      go_wp2_with (go_at_call 39; refine (within_any _ _ _ _).mono ?_; rintro e wi ⟨rfl, rfl⟩)
      refine (C1.out _ (tabs_below hT bw) (mx_below hM bw)).mono ?_
      rintro e w1 ⟨rfl, hb1⟩
      clear a0 a1 a2 a3 a4 b0 b1 b2 b3 b4 r0 r1 r2 r3 r4 f0 f1 f2 f3 f4 bw lt l1 l0
      replace XV := hid (XV.out.call hb1)
      obtain ⟨a0, a1, a2, a3, a4, b0, b1, b2, b3, b4, r0, r1, r2, r3, r4, f0, f1, f2, f3, f4, bw, lt, l1, l0⟩ := XV.out
      clear hb1
      have hA := ext_alloc w1 (.cells #[.bool p.1.neg, .string p.1.dig, .int .i64 p.1.exp] 27)
      clear a0 a1 a2 a3 a4 b0 b1 b2 b3 b4 r0 r1 r2 r3 r4 f0 f1 f2 f3 f4 bw lt l1 l0
      replace XV := hid (XV.out.call hA)
      obtain ⟨a0, a1, a2, a3, a4, b0, b1, b2, b3, b4, r0, r1, r2, r3, r4, f0, f1, f2, f3, f4, bw, lt, l1, l0⟩ := XV.out
      clear hA
      have Xp := hid (dbox_new w1 p.1)
      obtain ⟨p0, p1, p2, lp⟩ := Xp.out
      go_wp2_with fail
      refine (C2.out _ (tabs_below hT bw) (mx_below hM bw)).mono ?_
      rintro e w2 ⟨rfl, hb2⟩
      clear a0 a1 a2 a3 a4 b0 b1 b2 b3 b4 r0 r1 r2 r3 r4 f0 f1 f2 f3 f4 bw lt l1 l0 p0 p1 p2 lp
      replace XV := hid (XV.out.call hb2)
      obtain ⟨a0, a1, a2, a3, a4, b0, b1, b2, b3, b4, r0, r1, r2, r3, r4, f0, f1, f2, f3, f4, bw, lt, l1, l0⟩ := XV.out
      replace Xp := hid (Xp.out.call hb2)
      obtain ⟨p0, p1, p2, lp⟩ := Xp.out
      clear hb2
      have hA := ext_alloc w2 (.cells #[.bool q.1.neg, .string q.1.dig, .int .i64 q.1.exp] 27)
      clear a0 a1 a2 a3 a4 b0 b1 b2 b3 b4 r0 r1 r2 r3 r4 f0 f1 f2 f3 f4 bw lt l1 l0 p0 p1 p2 lp
      replace XV := hid (XV.out.call hA)
      obtain ⟨a0, a1, a2, a3, a4, b0, b1, b2, b3, b4, r0, r1, r2, r3, r4, f0, f1, f2, f3, f4, bw, lt, l1, l0⟩ := XV.out
      replace Xp := hid (Xp.out.call hA)
      obtain ⟨p0, p1, p2, lp⟩ := Xp.out
      clear hA
      have Xq := hid (dbox_new w2 q.1)
      obtain ⟨q0, q1, q2, lq⟩ := Xq.out
      have o0 : (((w2.alloc (.cells #[.bool q.1.neg, .string q.1.dig, .int .i64 q.1.exp] 27)).alloc (.cells #[.int .i64 p.2, .int .i64 q.2] 3))).cell? ⟨w2.heap.size + 1, 0, none⟩ = some (.int .i64 p.2) := by go_simp
      have o1 : (((w2.alloc (.cells #[.bool q.1.neg, .string q.1.dig, .int .i64 q.1.exp] 27)).alloc (.cells #[.int .i64 p.2, .int .i64 q.2] 3))).cell? ⟨w2.heap.size + 1, 1, none⟩ = some (.int .i64 q.2) := by go_simp
      have hA := ext_alloc (w2.alloc (.cells #[.bool q.1.neg, .string q.1.dig, .int .i64 q.1.exp] 27)) (.cells #[.int .i64 p.2, .int .i64 q.2] 3)
      clear a0 a1 a2 a3 a4 b0 b1 b2 b3 b4 r0 r1 r2 r3 r4 f0 f1 f2 f3 f4 bw lt l1 l0 p0 p1 p2 lp q0 q1 q2 lq
      replace XV := hid (XV.out.call hA)
      obtain ⟨a0, a1, a2, a3, a4, b0, b1, b2, b3, b4, r0, r1, r2, r3, r4, f0, f1, f2, f3, f4, bw, lt, l1, l0⟩ := XV.out
      replace Xp := hid (Xp.out.call hA)
      obtain ⟨p0, p1, p2, lp⟩ := Xp.out
      replace Xq := hid (Xq.out.call hA)
      obtain ⟨q0, q1, q2, lq⟩ := Xq.out
      clear hA
      go_wp2_with fail
      refine (orInt p.2 q.2 (w2.heap.size + 1) 2 _ o0 o1).mono ?_
      rintro e w3 ⟨rfl, rfl⟩
      rw [HCC.out]
      clear o0 o1
      go_wp2_with fail
      refine (CA.out _).mono ?_
      rintro e w4 ⟨rfl, hb4⟩
      clear a0 a1 a2 a3 a4 b0 b1 b2 b3 b4 r0 r1 r2 r3 r4 f0 f1 f2 f3 f4 bw lt l1 l0 p0 p1 p2 lp q0 q1 q2 lq
      replace XV := hid (XV.out.call hb4)
      obtain ⟨a0, a1, a2, a3, a4, b0, b1, b2, b3, b4, r0, r1, r2, r3, r4, f0, f1, f2, f3, f4, bw, lt, l1, l0⟩ := XV.out
      replace Xp := hid (Xp.out.call hb4)
      obtain ⟨p0, p1, p2, lp⟩ := Xp.out
      replace Xq := hid (Xq.out.call hb4)
      obtain ⟨q0, q1, q2, lq⟩ := Xq.out
      clear hb4
      by_cases hr : R.2 = 0
      · have hr1 : (R.2 == 0) = true := by rw [beq_iff_eq]; exact hr
        have hr2 : (R.2 != 0) = false := by rw [bne, hr1]; rfl
        have HE := hid (show V = (⟨1, R.1, ⟨#[]⟩⟩, 0) by rw [← HV.out, if_neg (fun h => h HPQ.out.1), if_neg (fun h => h HPQ.out.2), if_neg (fun h => h hr)])
        clear hr
        go_wp2
        refine bodyPost_ret (v := .tuple #[.agg #[.int .i64 1, .bool R.1.neg, .string R.1.dig, .int .i64 R.1.exp, .string ⟨#[]⟩], .int .i64 0]) (by simp [results, Tryz.results9, go_sem, r0, r1, r2, r3, r4, f0, f1, f2, f3, f4, lt, l1, l0]) rfl ⟨by rw [HE.out]; rfl, ?_⟩
        repeat' (first | (with_reducible exact bw) | (with_reducible refine Below.setCell ?_ ?_ _) | (with_reducible refine Below.alloc ?_ ?_ _) | (simp; done) | (simp; omega) | omega)
      · have hr1 : (R.2 == 0) = false := by rw [beq_eq_false_iff_ne]; exact hr
        have hr2 : (R.2 != 0) = true := by rw [bne, hr1]; rfl
        have HE := hid (show V = (val0, R.2) by rw [← HV.out, if_neg (fun h => h HPQ.out.1), if_neg (fun h => h HPQ.out.2), if_pos hr])
        clear hr
        go_wp2
        refine bodyPost_ret (v := .tuple #[.agg #[.int .i64 0, .bool false, .string ⟨#[]⟩, .int .i64 0, .string ⟨#[]⟩], .int .i64 R.2]) (by simp [results, Tryz.results9, go_sem, r0, r1, r2, r3, r4, f0, f1, f2, f3, f4, lt, l1, l0]) rfl ⟨by rw [HE.out]; rfl, ?_⟩
        repeat' (first | (with_reducible exact bw) | (with_reducible refine Below.setCell ?_ ?_ _) | (with_reducible refine Below.alloc ?_ ?_ _) | (simp; done) | (simp; omega) | omega)
    · have hc1 : (cc == 0) = false := by rw [beq_eq_false_iff_ne]; exact hc
      have hc2 : (cc != 0) = true := by rw [bne, hc1]; rfl
      have HE := hid (show V = (val0, cc) by
        rw [← HV.out, ← HCC.out]
        by_cases h1 : p.2 = 0
        · rw [if_neg (fun h => h h1), if_pos (show q.2 ≠ 0 by have := HCC.out; rw [if_pos h1] at this; omega), if_pos h1]
        · rw [if_pos h1, if_neg h1])
      clear hc
      have XV := hid (vbox_start w x y)
      obtain ⟨a0, a1, a2, a3, a4, b0, b1, b2, b3, b4, r0, r1, r2, r3, r4, f0, f1, f2, f3, f4, bw, lt, l1, l0⟩ := XV.out
      go_enter Tryz.func9, Tryz.ntmps9
      go_wp2_with (go_at_call 39; refine (within_any _ _ _ _).mono ?_; rintro e wi ⟨rfl, rfl⟩)
      refine (C1.out _ (tabs_below hT bw) (mx_below hM bw)).mono ?_
      rintro e w1 ⟨rfl, hb1⟩
      clear a0 a1 a2 a3 a4 b0 b1 b2 b3 b4 r0 r1 r2 r3 r4 f0 f1 f2 f3 f4 bw lt l1 l0
      replace XV := hid (XV.out.call hb1)
      obtain ⟨a0, a1, a2, a3, a4, b0, b1, b2, b3, b4, r0, r1, r2, r3, r4, f0, f1, f2, f3, f4, bw, lt, l1, l0⟩ := XV.out
      clear hb1
      have hA := ext_alloc w1 (.cells #[.bool p.1.neg, .string p.1.dig, .int .i64 p.1.exp] 27)
      clear a0 a1 a2 a3 a4 b0 b1 b2 b3 b4 r0 r1 r2 r3 r4 f0 f1 f2 f3 f4 bw lt l1 l0
      replace XV := hid (XV.out.call hA)
      obtain ⟨a0, a1, a2, a3, a4, b0, b1, b2, b3, b4, r0, r1, r2, r3, r4, f0, f1, f2, f3, f4, bw, lt, l1, l0⟩ := XV.out
      clear hA
      have Xp := hid (dbox_new w1 p.1)
      obtain ⟨p0, p1, p2, lp⟩ := Xp.out
      go_wp2_with fail
      refine (C2.out _ (tabs_below hT bw) (mx_below hM bw)).mono ?_
      rintro e w2 ⟨rfl, hb2⟩
      clear a0 a1 a2 a3 a4 b0 b1 b2 b3 b4 r0 r1 r2 r3 r4 f0 f1 f2 f3 f4 bw lt l1 l0 p0 p1 p2 lp
      replace XV := hid (XV.out.call hb2)
      obtain ⟨a0, a1, a2, a3, a4, b0, b1, b2, b3, b4, r0, r1, r2, r3, r4, f0, f1, f2, f3, f4, bw, lt, l1, l0⟩ := XV.out
      replace Xp := hid (Xp.out.call hb2)
      obtain ⟨p0, p1, p2, lp⟩ := Xp.out
      clear hb2
      have hA := ext_alloc w2 (.cells #[.bool q.1.neg, .string q.1.dig, .int .i64 q.1.exp] 27)
      clear a0 a1 a2 a3 a4 b0 b1 b2 b3 b4 r0 r1 r2 r3 r4 f0 f1 f2 f3 f4 bw lt l1 l0 p0 p1 p2 lp
      replace XV := hid (XV.out.call hA)
      obtain ⟨a0, a1, a2, a3, a4, b0, b1, b2, b3, b4, r0, r1, r2, r3, r4, f0, f1, f2, f3, f4, bw, lt, l1, l0⟩ := XV.out
      replace Xp := hid (Xp.out.call hA)
      obtain ⟨p0, p1, p2, lp⟩ := Xp.out
      clear hA
      have Xq := hid (dbox_new w2 q.1)
      obtain ⟨q0, q1, q2, lq⟩ := Xq.out
      have o0 : (((w2.alloc (.cells #[.bool q.1.neg, .string q.1.dig, .int .i64 q.1.exp] 27)).alloc (.cells #[.int .i64 p.2, .int .i64 q.2] 3))).cell? ⟨w2.heap.size + 1, 0, none⟩ = some (.int .i64 p.2) := by go_simp
      have o1 : (((w2.alloc (.cells #[.bool q.1.neg, .string q.1.dig, .int .i64 q.1.exp] 27)).alloc (.cells #[.int .i64 p.2, .int .i64 q.2] 3))).cell? ⟨w2.heap.size + 1, 1, none⟩ = some (.int .i64 q.2) := by go_simp
      have hA := ext_alloc (w2.alloc (.cells #[.bool q.1.neg, .string q.1.dig, .int .i64 q.1.exp] 27)) (.cells #[.int .i64 p.2, .int .i64 q.2] 3)
      clear a0 a1 a2 a3 a4 b0 b1 b2 b3 b4 r0 r1 r2 r3 r4 f0 f1 f2 f3 f4 bw lt l1 l0 p0 p1 p2 lp q0 q1 q2 lq
      replace XV := hid (XV.out.call hA)
      obtain ⟨a0, a1, a2, a3, a4, b0, b1, b2, b3, b4, r0, r1, r2, r3, r4, f0, f1, f2, f3, f4, bw, lt, l1, l0⟩ := XV.out
      replace Xp := hid (Xp.out.call hA)
      obtain ⟨p0, p1, p2, lp⟩ := Xp.out
      replace Xq := hid (Xq.out.call hA)
      obtain ⟨q0, q1, q2, lq⟩ := Xq.out
      clear hA
      go_wp2_with fail
      refine (orInt p.2 q.2 (w2.heap.size + 1) 2 _ o0 o1).mono ?_
      rintro e w3 ⟨rfl, rfl⟩
      rw [HCC.out]
      clear o0 o1
      go_wp2
      refine bodyPost_ret (v := .tuple #[.agg #[.int .i64 0, .bool false, .string ⟨#[]⟩, .int .i64 0, .string ⟨#[]⟩], .int .i64 cc]) (by simp [results, Tryz.results9, go_sem, r0, r1, r2, r3, r4, f0, f1, f2, f3, f4, lt, l1, l0]) rfl ⟨by rw [HE.out]; rfl, ?_⟩
      repeat' (first | (with_reducible exact bw) | (with_reducible refine Below.setCell ?_ ?_ _) | (with_reducible refine Below.alloc ?_ ?_ _) | (simp; done) | (simp; omega) | omega)
  · have hb : inB 1 op 6 = false := inB_false (by omega)
    rw [if_pos hin] at hV
    have HE := hid hV.symm
    clear hV hin g0 g1 g2 g3 g0' g1' g2' g3' C1 C2
    have XV := hid (vbox_start w x y)
    obtain ⟨a0, a1, a2, a3, a4, b0, b1, b2, b3, b4, r0, r1, r2, r3, r4, f0, f1, f2, f3, f4, bw, lt, l1, l0⟩ := XV.out
    go_enter Tryz.func9, Tryz.ntmps9
    go_wp2_with (go_at_call 39; refine (within_any _ _ _ _).mono ?_; rintro e wi ⟨rfl, rfl⟩)
    refine bodyPost_ret (v := .tuple #[.agg #[.int .i64 0, .bool false, .string ⟨#[]⟩, .int .i64 0, .string ⟨#[]⟩], .int .i64 3]) (by simp [results, Tryz.results9, go_sem, r0, r1, r2, r3, r4, f0, f1, f2, f3, f4, lt, l1, l0]) rfl ⟨by rw [HE.out]; rfl, ?_⟩
    repeat' (first | (with_reducible exact bw) | (with_reducible refine Below.setCell ?_ ?_ _) | (with_reducible refine Below.alloc ?_ ?_ _) | (simp; done) | (simp; omega) | omega)
set_option maxHeartbeats 64000000 in
set_option maxRecDepth 100000 in
theorem specValArith {cs cs2 : Array Value} {x y : Val} (op : Int) (w : World) (hrx : Rd.rd (Old w) w cs.toList x) (hry : Rd.rd (Old w) w cs2.toList y) (hop : -9223372036854775808 ≤ op ∧ op ≤ 9223372036854775807) :
    Calls Tryz.prog 7 #[.int .i64 op, .agg cs, .agg cs2] w fun e w' => e = .returned (arithT (arithV op x y)) ∧ Below w.heap.size w w' := by
  obtain ⟨hcs, g0, g1, g2, g3⟩ := rdVal hrx
  obtain rfl := arr_of_list hcs
  obtain ⟨hcs2, g0', g1', g2', g3'⟩ := rdVal hry
  obtain rfl := arr_of_list hcs2
  clear hcs hcs2 hrx hry
  have C1 : Hid (∀ w, Calls Tryz.prog 29 #[.agg #[.int .i64 x.kind, .bool x.num.neg, .string x.num.dig, .int .i64 x.num.exp, .string x.text]] w fun e w' => e = .returned (.tuple #[.agg #[.bool (valNumR x).1.neg, .string (valNumR x).1.dig, .int .i64 (valNumR x).1.exp], .int .i64 (valNumR x).2]) ∧ Below w.heap.size w w') := hid (fun w => (specValNum (x := x) w (by exact rdVal_mk g0 g1 g2 g3)).mono fun _ _ h => ⟨h.1, h.2.2⟩)
  have C2 : Hid (∀ w, Calls Tryz.prog 29 #[.agg #[.int .i64 y.kind, .bool y.num.neg, .string y.num.dig, .int .i64 y.num.exp, .string y.text]] w fun e w' => e = .returned (.tuple #[.agg #[.bool (valNumR y).1.neg, .string (valNumR y).1.dig, .int .i64 (valNumR y).1.exp], .int .i64 (valNumR y).2]) ∧ Below w.heap.size w w') := hid (fun w => (specValNum (x := y) w (by exact rdVal_mk g0' g1' g2' g3')).mono fun _ _ h => ⟨h.1, h.2.2⟩)
  obtain ⟨V, hV⟩ : ∃ v, arithV op x y = v := ⟨_, rfl⟩
  rw [hV]
  unfold arithV at hV
  by_cases hin : 1 ≤ op ∧ op ≤ 6
  · rw [if_neg (fun h => h hin)] at hV
    have hok1 := valNumR_ok x
    have hok2 := valNumR_ok y
    obtain ⟨p, hp⟩ : ∃ r, valNumR x = r := ⟨_, rfl⟩
    obtain ⟨q, hq⟩ : ∃ r, valNumR y = r := ⟨_, rfl⟩
    rw [hp] at C1 hV hok1
    rw [hq] at C2 hV hok2
    have hb : inB 1 op 6 = true := inB_true (by omega)
    have HV := hid hV
    clear hp hq hV g0 g1 g2 g3 g0' g1' g2' g3'
    by_cases hc : p.2 = 0
    · have hc1 : (p.2 == 0) = true := by rw [beq_iff_eq]; exact hc
      have hc2 : (p.2 != 0) = false := by rw [bne, hc1]; rfl
      by_cases hd : q.2 = 0
      · have hd1 : (q.2 == 0) = true := by rw [beq_iff_eq]; exact hd
        have hd2 : (q.2 != 0) = false := by rw [bne, hd1]; rfl
        obtain ⟨R, hR⟩ : ∃ r, arithD op p.1 q.1 = r := ⟨_, rfl⟩
        have hVV := HV.out
        rw [if_neg (fun h => h hc), if_neg (fun h => h hd), hR] at hVV
        have HVV := hid hVV
        have hRok : decOk R.1 = true := by rw [← hR]; exact arithD_ok hok1 op
        have HRok := hid hRok
        have hRb := decOk_bounds hRok
        have hcase : op = 1 ∨ op = 2 ∨ op = 3 ∨ op = 4 ∨ op = 5 ∨ op = 6 := by omega
        clear hVV hRok hc hd hin
        have CNV : Hid (∀ w, Calls Tryz.prog 37 #[.agg #[.bool R.1.neg, .string R.1.dig, .int .i64 R.1.exp]] w fun e w' => e = .returned (.agg #[.int .i64 1, .bool R.1.neg, .string R.1.dig, .int .i64 R.1.exp, .string ⟨#[]⟩]) ∧ Below w.heap.size w w') := hid (fun w => by
          refine (specNumVal (d := R.1) w (by exact rdDec_mk (x := R.1) hRb.1 hRb.2)).mono ?_
          rintro e w' ⟨cs', rfl, hrd, hbb⟩
          have hnv : numVal R.1 = ⟨1, R.1, ⟨#[]⟩⟩ := by unfold numVal; rw [if_pos HRok.out]
          rw [hnv] at hrd
          obtain ⟨hcs, _⟩ := rdVal hrd
          obtain rfl := arr_of_list hcs
          exact ⟨rfl, hbb⟩)
        rcases hcase with rfl | rfl | rfl | rfl | rfl | rfl
        · have hlaw : addD p.1 q.1 = R := by rw [← hR]; unfold arithD; simp
          have CA := hid (fun (w : World) => specDecAdd p.1 q.1 w hok1 hok2)
          rw [hlaw] at CA
          unfold formV at CA
          clear hR hlaw hok1 hok2 hb hop
          have hb : inB 1 1 6 = true := inB_true (by omega)
          have XV := hid (vbox_start w x y)
          obtain ⟨a0, a1, a2, a3, a4, b0, b1, b2, b3, b4, r0, r1, r2, r3, r4, f0, f1, f2, f3, f4, bw, lt, l1, l0⟩ := XV.out
          go_enter Tryz.func7, Tryz.ntmps7
          go_wp2_with (go_at_call 28; refine (between_any _ _ _ _).mono ?_; rintro e wi ⟨rfl, rfl⟩)
          refine (C1.out _).mono ?_
          rintro e w1 ⟨rfl, hb1⟩
          clear a0 a1 a2 a3 a4 b0 b1 b2 b3 b4 r0 r1 r2 r3 r4 f0 f1 f2 f3 f4 bw lt l1 l0
          replace XV := hid (XV.out.call hb1)
          obtain ⟨a0, a1, a2, a3, a4, b0, b1, b2, b3, b4, r0, r1, r2, r3, r4, f0, f1, f2, f3, f4, bw, lt, l1, l0⟩ := XV.out
          clear hb1
          have hA := ext_alloc w1 (.cells #[.bool p.1.neg, .string p.1.dig, .int .i64 p.1.exp] 27)
          clear a0 a1 a2 a3 a4 b0 b1 b2 b3 b4 r0 r1 r2 r3 r4 f0 f1 f2 f3 f4 bw lt l1 l0
          replace XV := hid (XV.out.call hA)
          obtain ⟨a0, a1, a2, a3, a4, b0, b1, b2, b3, b4, r0, r1, r2, r3, r4, f0, f1, f2, f3, f4, bw, lt, l1, l0⟩ := XV.out
          clear hA
          have Xp := hid (dbox_new w1 p.1)
          obtain ⟨p0, p1, p2, lp⟩ := Xp.out
          go_wp2_with fail
          refine (C2.out _).mono ?_
          rintro e w2 ⟨rfl, hb2⟩
          clear a0 a1 a2 a3 a4 b0 b1 b2 b3 b4 r0 r1 r2 r3 r4 f0 f1 f2 f3 f4 bw lt l1 l0 p0 p1 p2 lp
          replace XV := hid (XV.out.call hb2)
          obtain ⟨a0, a1, a2, a3, a4, b0, b1, b2, b3, b4, r0, r1, r2, r3, r4, f0, f1, f2, f3, f4, bw, lt, l1, l0⟩ := XV.out
          replace Xp := hid (Xp.out.call hb2)
          obtain ⟨p0, p1, p2, lp⟩ := Xp.out
          clear hb2
          have lz := lt
          have lz1 := l1
          have lz0 := l0
          have lzp := lp
          have hA := ext_alloc w2 (.cells #[.bool q.1.neg, .string q.1.dig, .int .i64 q.1.exp] 27)
          clear a0 a1 a2 a3 a4 b0 b1 b2 b3 b4 r0 r1 r2 r3 r4 f0 f1 f2 f3 f4 bw lt l1 l0 p0 p1 p2 lp
          replace XV := hid (XV.out.call hA)
          obtain ⟨a0, a1, a2, a3, a4, b0, b1, b2, b3, b4, r0, r1, r2, r3, r4, f0, f1, f2, f3, f4, bw, lt, l1, l0⟩ := XV.out
          replace Xp := hid (Xp.out.call hA)
          obtain ⟨p0, p1, p2, lp⟩ := Xp.out
          clear hA
          have Xq := hid (dbox_new w2 q.1)
          obtain ⟨q0, q1, q2, lq⟩ := Xq.out
          have hA := ext_alloc (w2.alloc (.cells #[.bool q.1.neg, .string q.1.dig, .int .i64 q.1.exp] 27)) (.cells #[.bool false, .string ⟨#[]⟩, .int .i64 0] 27)
          clear a0 a1 a2 a3 a4 b0 b1 b2 b3 b4 r0 r1 r2 r3 r4 f0 f1 f2 f3 f4 bw lt l1 l0 p0 p1 p2 lp q0 q1 q2 lq
          replace XV := hid (XV.out.call hA)
          obtain ⟨a0, a1, a2, a3, a4, b0, b1, b2, b3, b4, r0, r1, r2, r3, r4, f0, f1, f2, f3, f4, bw, lt, l1, l0⟩ := XV.out
          replace Xp := hid (Xp.out.call hA)
          obtain ⟨p0, p1, p2, lp⟩ := Xp.out
          replace Xq := hid (Xq.out.call hA)
          obtain ⟨q0, q1, q2, lq⟩ := Xq.out
          clear hA
          have Xe := hid (ebox_new (w2.alloc (.cells #[.bool q.1.neg, .string q.1.dig, .int .i64 q.1.exp] 27)) (w2.heap.size + 1) (by simp))
          obtain ⟨e0, e1, e2, h0, h1, h2, le⟩ := Xe.out
          go_wp2_with fail
          refine (CA.out _).mono ?_
          rintro e w3 ⟨rfl, hb3⟩
          clear a0 a1 a2 a3 a4 b0 b1 b2 b3 b4 r0 r1 r2 r3 r4 f0 f1 f2 f3 f4 bw lt l1 l0 p0 p1 p2 lp q0 q1 q2 lq e0 e1 e2 h0 h1 h2 le
          replace XV := hid (XV.out.call hb3)
          obtain ⟨a0, a1, a2, a3, a4, b0, b1, b2, b3, b4, r0, r1, r2, r3, r4, f0, f1, f2, f3, f4, bw, lt, l1, l0⟩ := XV.out
          replace Xp := hid (Xp.out.call hb3)
          obtain ⟨p0, p1, p2, lp⟩ := Xp.out
          replace Xq := hid (Xq.out.call hb3)
          obtain ⟨q0, q1, q2, lq⟩ := Xq.out
          replace Xe := hid (Xe.out.call hb3)
          obtain ⟨e0, e1, e2, h0, h1, h2, le⟩ := Xe.out
          clear hb3
          by_cases hr : R.2 = 0
          · have hr1 : (R.2 == 0) = true := by rw [beq_iff_eq]; exact hr
            have hr2 : (R.2 != 0) = false := by rw [bne, hr1]; rfl
            have HE := hid (show V = (⟨1, R.1, ⟨#[]⟩⟩, 0) by rw [← HVV.out, if_neg (fun h => h hr)])
            clear hr
            go_wp2_with fail
            refine (CNV.out _).mono ?_
            rintro e w5 ⟨rfl, hb5⟩
            have tr0 : w5.cell? ⟨w.heap.size + 1 + 1, 0, none⟩ = some (.int .i64 0) := keeps_cells hb5 _ _ (by go_simp)
            have tr1 : w5.cell? ⟨w.heap.size + 1 + 1, 1, none⟩ = some (.bool false) := keeps_cells hb5 _ _ (by go_simp)
            have tr2 : w5.cell? ⟨w.heap.size + 1 + 1, 2, none⟩ = some (.string ⟨#[]⟩) := keeps_cells hb5 _ _ (by go_simp)
            have tr3 : w5.cell? ⟨w.heap.size + 1 + 1, 3, none⟩ = some (.int .i64 0) := keeps_cells hb5 _ _ (by go_simp)
            have tr4 : w5.cell? ⟨w.heap.size + 1 + 1, 4, none⟩ = some (.string ⟨#[]⟩) := keeps_cells hb5 _ _ (by go_simp)
            have tf0 : w5.frozen? ⟨w.heap.size + 1 + 1, 0, none⟩ = false := (hb5.frozen (p := ⟨w.heap.size + 1 + 1, 0, none⟩) (by simp; omega)).trans (by go_simp)
            have tf1 : w5.frozen? ⟨w.heap.size + 1 + 1, 1, none⟩ = false := (hb5.frozen (p := ⟨w.heap.size + 1 + 1, 1, none⟩) (by simp; omega)).trans (by go_simp)
            have tf2 : w5.frozen? ⟨w.heap.size + 1 + 1, 2, none⟩ = false := (hb5.frozen (p := ⟨w.heap.size + 1 + 1, 2, none⟩) (by simp; omega)).trans (by go_simp)
            have tf3 : w5.frozen? ⟨w.heap.size + 1 + 1, 3, none⟩ = false := (hb5.frozen (p := ⟨w.heap.size + 1 + 1, 3, none⟩) (by simp; omega)).trans (by go_simp)
            have tf4 : w5.frozen? ⟨w.heap.size + 1 + 1, 4, none⟩ = false := (hb5.frozen (p := ⟨w.heap.size + 1 + 1, 4, none⟩) (by simp; omega)).trans (by go_simp)
            have lt5 : w.heap.size + 1 + 1 < w5.heap.size := Nat.lt_of_lt_of_le (by simp; omega) hb5.size
            have bw5 : Below w.heap.size w w5 := ext_trans (by repeat' (first | (with_reducible exact bw) | (with_reducible refine Below.setCell ?_ ?_ _) | (simp; done) | (simp; omega) | omega)) hb5
            clear hb5
            go_wp2
            refine bodyPost_ret (v := .tuple #[.agg #[.int .i64 1, .bool R.1.neg, .string R.1.dig, .int .i64 R.1.exp, .string ⟨#[]⟩], .int .i64 0]) (by simp [results, Tryz.results7, go_sem, tr0, tr1, tr2, tr3, tr4, tf0, tf1, tf2, tf3, tf4, lt5]) rfl ⟨by rw [HE.out]; rfl, ?_⟩
            repeat' (first | (with_reducible exact bw5) | (with_reducible refine Below.setCell ?_ ?_ _) | (with_reducible refine Below.alloc ?_ ?_ _) | (simp; done) | (simp; omega) | omega)
          · have hr1 : (R.2 == 0) = false := by rw [beq_eq_false_iff_ne]; exact hr
            have hr2 : (R.2 != 0) = true := by rw [bne, hr1]; rfl
            have HE := hid (show V = (val0, R.2) by rw [← HVV.out, if_pos hr])
            clear hr
            go_wp2
            refine bodyPost_ret (v := .tuple #[.agg #[.int .i64 0, .bool false, .string ⟨#[]⟩, .int .i64 0, .string ⟨#[]⟩], .int .i64 R.2]) (by simp [results, Tryz.results7, go_sem, r0, r1, r2, r3, r4, f0, f1, f2, f3, f4, lt, l1, l0]) rfl ⟨by rw [HE.out]; rfl, ?_⟩
            repeat' (first | (with_reducible exact bw) | (with_reducible refine Below.setCell ?_ ?_ _) | (with_reducible refine Below.alloc ?_ ?_ _) | (simp; done) | (simp; omega) | omega)
        · have hlaw : subD p.1 q.1 = R := by rw [← hR]; unfold arithD; simp
          have CA := hid (fun (w : World) => specDecSub p.1 q.1 w hok1 hok2)
          rw [hlaw] at CA
          unfold formV at CA
          clear hR hlaw hok1 hok2 hb hop
          have hb : inB 1 2 6 = true := inB_true (by omega)
          have XV := hid (vbox_start w x y)
          obtain ⟨a0, a1, a2, a3, a4, b0, b1, b2, b3, b4, r0, r1, r2, r3, r4, f0, f1, f2, f3, f4, bw, lt, l1, l0⟩ := XV.out
          go_enter Tryz.func7, Tryz.ntmps7
          go_wp2_with (go_at_call 28; refine (between_any _ _ _ _).mono ?_; rintro e wi ⟨rfl, rfl⟩)
          refine (C1.out _).mono ?_
          rintro e w1 ⟨rfl, hb1⟩
          clear a0 a1 a2 a3 a4 b0 b1 b2 b3 b4 r0 r1 r2 r3 r4 f0 f1 f2 f3 f4 bw lt l1 l0
          replace XV := hid (XV.out.call hb1)
          obtain ⟨a0, a1, a2, a3, a4, b0, b1, b2, b3, b4, r0, r1, r2, r3, r4, f0, f1, f2, f3, f4, bw, lt, l1, l0⟩ := XV.out
          clear hb1
          have hA := ext_alloc w1 (.cells #[.bool p.1.neg, .string p.1.dig, .int .i64 p.1.exp] 27)
          clear a0 a1 a2 a3 a4 b0 b1 b2 b3 b4 r0 r1 r2 r3 r4 f0 f1 f2 f3 f4 bw lt l1 l0
          replace XV := hid (XV.out.call hA)
          obtain ⟨a0, a1, a2, a3, a4, b0, b1, b2, b3, b4, r0, r1, r2, r3, r4, f0, f1, f2, f3, f4, bw, lt, l1, l0⟩ := XV.out
          clear hA
          have Xp := hid (dbox_new w1 p.1)
          obtain ⟨p0, p1, p2, lp⟩ := Xp.out
          go_wp2_with fail
          refine (C2.out _).mono ?_
          rintro e w2 ⟨rfl, hb2⟩
          clear a0 a1 a2 a3 a4 b0 b1 b2 b3 b4 r0 r1 r2 r3 r4 f0 f1 f2 f3 f4 bw lt l1 l0 p0 p1 p2 lp
          replace XV := hid (XV.out.call hb2)
          obtain ⟨a0, a1, a2, a3, a4, b0, b1, b2, b3, b4, r0, r1, r2, r3, r4, f0, f1, f2, f3, f4, bw, lt, l1, l0⟩ := XV.out
          replace Xp := hid (Xp.out.call hb2)
          obtain ⟨p0, p1, p2, lp⟩ := Xp.out
          clear hb2
          have lz := lt
          have lz1 := l1
          have lz0 := l0
          have lzp := lp
          have hA := ext_alloc w2 (.cells #[.bool q.1.neg, .string q.1.dig, .int .i64 q.1.exp] 27)
          clear a0 a1 a2 a3 a4 b0 b1 b2 b3 b4 r0 r1 r2 r3 r4 f0 f1 f2 f3 f4 bw lt l1 l0 p0 p1 p2 lp
          replace XV := hid (XV.out.call hA)
          obtain ⟨a0, a1, a2, a3, a4, b0, b1, b2, b3, b4, r0, r1, r2, r3, r4, f0, f1, f2, f3, f4, bw, lt, l1, l0⟩ := XV.out
          replace Xp := hid (Xp.out.call hA)
          obtain ⟨p0, p1, p2, lp⟩ := Xp.out
          clear hA
          have Xq := hid (dbox_new w2 q.1)
          obtain ⟨q0, q1, q2, lq⟩ := Xq.out
          have hA := ext_alloc (w2.alloc (.cells #[.bool q.1.neg, .string q.1.dig, .int .i64 q.1.exp] 27)) (.cells #[.bool false, .string ⟨#[]⟩, .int .i64 0] 27)
          clear a0 a1 a2 a3 a4 b0 b1 b2 b3 b4 r0 r1 r2 r3 r4 f0 f1 f2 f3 f4 bw lt l1 l0 p0 p1 p2 lp q0 q1 q2 lq
          replace XV := hid (XV.out.call hA)
          obtain ⟨a0, a1, a2, a3, a4, b0, b1, b2, b3, b4, r0, r1, r2, r3, r4, f0, f1, f2, f3, f4, bw, lt, l1, l0⟩ := XV.out
          replace Xp := hid (Xp.out.call hA)
          obtain ⟨p0, p1, p2, lp⟩ := Xp.out
          replace Xq := hid (Xq.out.call hA)
          obtain ⟨q0, q1, q2, lq⟩ := Xq.out
          clear hA
          have Xe := hid (ebox_new (w2.alloc (.cells #[.bool q.1.neg, .string q.1.dig, .int .i64 q.1.exp] 27)) (w2.heap.size + 1) (by simp))
          obtain ⟨e0, e1, e2, h0, h1, h2, le⟩ := Xe.out
          go_wp2_with fail
          refine (CA.out _).mono ?_
          rintro e w3 ⟨rfl, hb3⟩
          clear a0 a1 a2 a3 a4 b0 b1 b2 b3 b4 r0 r1 r2 r3 r4 f0 f1 f2 f3 f4 bw lt l1 l0 p0 p1 p2 lp q0 q1 q2 lq e0 e1 e2 h0 h1 h2 le
          replace XV := hid (XV.out.call hb3)
          obtain ⟨a0, a1, a2, a3, a4, b0, b1, b2, b3, b4, r0, r1, r2, r3, r4, f0, f1, f2, f3, f4, bw, lt, l1, l0⟩ := XV.out
          replace Xp := hid (Xp.out.call hb3)
          obtain ⟨p0, p1, p2, lp⟩ := Xp.out
          replace Xq := hid (Xq.out.call hb3)
          obtain ⟨q0, q1, q2, lq⟩ := Xq.out
          replace Xe := hid (Xe.out.call hb3)
          obtain ⟨e0, e1, e2, h0, h1, h2, le⟩ := Xe.out
          clear hb3
          by_cases hr : R.2 = 0
          · have hr1 : (R.2 == 0) = true := by rw [beq_iff_eq]; exact hr
            have hr2 : (R.2 != 0) = false := by rw [bne, hr1]; rfl
            have HE := hid (show V = (⟨1, R.1, ⟨#[]⟩⟩, 0) by rw [← HVV.out, if_neg (fun h => h hr)])
            clear hr
            go_wp2_with fail
            refine (CNV.out _).mono ?_
            rintro e w5 ⟨rfl, hb5⟩
            have tr0 : w5.cell? ⟨w.heap.size + 1 + 1, 0, none⟩ = some (.int .i64 0) := keeps_cells hb5 _ _ (by go_simp)
            have tr1 : w5.cell? ⟨w.heap.size + 1 + 1, 1, none⟩ = some (.bool false) := keeps_cells hb5 _ _ (by go_simp)
            have tr2 : w5.cell? ⟨w.heap.size + 1 + 1, 2, none⟩ = some (.string ⟨#[]⟩) := keeps_cells hb5 _ _ (by go_simp)
            have tr3 : w5.cell? ⟨w.heap.size + 1 + 1, 3, none⟩ = some (.int .i64 0) := keeps_cells hb5 _ _ (by go_simp)
            have tr4 : w5.cell? ⟨w.heap.size + 1 + 1, 4, none⟩ = some (.string ⟨#[]⟩) := keeps_cells hb5 _ _ (by go_simp)
            have tf0 : w5.frozen? ⟨w.heap.size + 1 + 1, 0, none⟩ = false := (hb5.frozen (p := ⟨w.heap.size + 1 + 1, 0, none⟩) (by simp; omega)).trans (by go_simp)
            have tf1 : w5.frozen? ⟨w.heap.size + 1 + 1, 1, none⟩ = false := (hb5.frozen (p := ⟨w.heap.size + 1 + 1, 1, none⟩) (by simp; omega)).trans (by go_simp)
            have tf2 : w5.frozen? ⟨w.heap.size + 1 + 1, 2, none⟩ = false := (hb5.frozen (p := ⟨w.heap.size + 1 + 1, 2, none⟩) (by simp; omega)).trans (by go_simp)
            have tf3 : w5.frozen? ⟨w.heap.size + 1 + 1, 3, none⟩ = false := (hb5.frozen (p := ⟨w.heap.size + 1 + 1, 3, none⟩) (by simp; omega)).trans (by go_simp)
            have tf4 : w5.frozen? ⟨w.heap.size + 1 + 1, 4, none⟩ = false := (hb5.frozen (p := ⟨w.heap.size + 1 + 1, 4, none⟩) (by simp; omega)).trans (by go_simp)
            have lt5 : w.heap.size + 1 + 1 < w5.heap.size := Nat.lt_of_lt_of_le (by simp; omega) hb5.size
            have bw5 : Below w.heap.size w w5 := ext_trans (by repeat' (first | (with_reducible exact bw) | (with_reducible refine Below.setCell ?_ ?_ _) | (simp; done) | (simp; omega) | omega)) hb5
            clear hb5
            go_wp2
            refine bodyPost_ret (v := .tuple #[.agg #[.int .i64 1, .bool R.1.neg, .string R.1.dig, .int .i64 R.1.exp, .string ⟨#[]⟩], .int .i64 0]) (by simp [results, Tryz.results7, go_sem, tr0, tr1, tr2, tr3, tr4, tf0, tf1, tf2, tf3, tf4, lt5]) rfl ⟨by rw [HE.out]; rfl, ?_⟩
            repeat' (first | (with_reducible exact bw5) | (with_reducible refine Below.setCell ?_ ?_ _) | (with_reducible refine Below.alloc ?_ ?_ _) | (simp; done) | (simp; omega) | omega)
          · have hr1 : (R.2 == 0) = false := by rw [beq_eq_false_iff_ne]; exact hr
            have hr2 : (R.2 != 0) = true := by rw [bne, hr1]; rfl
            have HE := hid (show V = (val0, R.2) by rw [← HVV.out, if_pos hr])
            clear hr
            go_wp2
            refine bodyPost_ret (v := .tuple #[.agg #[.int .i64 0, .bool false, .string ⟨#[]⟩, .int .i64 0, .string ⟨#[]⟩], .int .i64 R.2]) (by simp [results, Tryz.results7, go_sem, r0, r1, r2, r3, r4, f0, f1, f2, f3, f4, lt, l1, l0]) rfl ⟨by rw [HE.out]; rfl, ?_⟩
            repeat' (first | (with_reducible exact bw) | (with_reducible refine Below.setCell ?_ ?_ _) | (with_reducible refine Below.alloc ?_ ?_ _) | (simp; done) | (simp; omega) | omega)
        · have hlaw : mulD p.1 q.1 = R := by rw [← hR]; unfold arithD; simp
          have CA := hid (fun (w : World) => specDecMul p.1 q.1 w hok1 hok2)
          rw [hlaw] at CA
          unfold formV at CA
          clear hR hlaw hok1 hok2 hb hop
          have hb : inB 1 3 6 = true := inB_true (by omega)
          have XV := hid (vbox_start w x y)
          obtain ⟨a0, a1, a2, a3, a4, b0, b1, b2, b3, b4, r0, r1, r2, r3, r4, f0, f1, f2, f3, f4, bw, lt, l1, l0⟩ := XV.out
          go_enter Tryz.func7, Tryz.ntmps7
          go_wp2_with (go_at_call 28; refine (between_any _ _ _ _).mono ?_; rintro e wi ⟨rfl, rfl⟩)
          refine (C1.out _).mono ?_
          rintro e w1 ⟨rfl, hb1⟩
          clear a0 a1 a2 a3 a4 b0 b1 b2 b3 b4 r0 r1 r2 r3 r4 f0 f1 f2 f3 f4 bw lt l1 l0
          replace XV := hid (XV.out.call hb1)
          obtain ⟨a0, a1, a2, a3, a4, b0, b1, b2, b3, b4, r0, r1, r2, r3, r4, f0, f1, f2, f3, f4, bw, lt, l1, l0⟩ := XV.out
          clear hb1
          have hA := ext_alloc w1 (.cells #[.bool p.1.neg, .string p.1.dig, .int .i64 p.1.exp] 27)
          clear a0 a1 a2 a3 a4 b0 b1 b2 b3 b4 r0 r1 r2 r3 r4 f0 f1 f2 f3 f4 bw lt l1 l0
          replace XV := hid (XV.out.call hA)
          obtain ⟨a0, a1, a2, a3, a4, b0, b1, b2, b3, b4, r0, r1, r2, r3, r4, f0, f1, f2, f3, f4, bw, lt, l1, l0⟩ := XV.out
          clear hA
          have Xp := hid (dbox_new w1 p.1)
          obtain ⟨p0, p1, p2, lp⟩ := Xp.out
          go_wp2_with fail
          refine (C2.out _).mono ?_
          rintro e w2 ⟨rfl, hb2⟩
          clear a0 a1 a2 a3 a4 b0 b1 b2 b3 b4 r0 r1 r2 r3 r4 f0 f1 f2 f3 f4 bw lt l1 l0 p0 p1 p2 lp
          replace XV := hid (XV.out.call hb2)
          obtain ⟨a0, a1, a2, a3, a4, b0, b1, b2, b3, b4, r0, r1, r2, r3, r4, f0, f1, f2, f3, f4, bw, lt, l1, l0⟩ := XV.out
          replace Xp := hid (Xp.out.call hb2)
          obtain ⟨p0, p1, p2, lp⟩ := Xp.out
          clear hb2
          have lz := lt
          have lz1 := l1
          have lz0 := l0
          have lzp := lp
          have hA := ext_alloc w2 (.cells #[.bool q.1.neg, .string q.1.dig, .int .i64 q.1.exp] 27)
          clear a0 a1 a2 a3 a4 b0 b1 b2 b3 b4 r0 r1 r2 r3 r4 f0 f1 f2 f3 f4 bw lt l1 l0 p0 p1 p2 lp
          replace XV := hid (XV.out.call hA)
          obtain ⟨a0, a1, a2, a3, a4, b0, b1, b2, b3, b4, r0, r1, r2, r3, r4, f0, f1, f2, f3, f4, bw, lt, l1, l0⟩ := XV.out
          replace Xp := hid (Xp.out.call hA)
          obtain ⟨p0, p1, p2, lp⟩ := Xp.out
          clear hA
          have Xq := hid (dbox_new w2 q.1)
          obtain ⟨q0, q1, q2, lq⟩ := Xq.out
          have hA := ext_alloc (w2.alloc (.cells #[.bool q.1.neg, .string q.1.dig, .int .i64 q.1.exp] 27)) (.cells #[.bool false, .string ⟨#[]⟩, .int .i64 0] 27)
          clear a0 a1 a2 a3 a4 b0 b1 b2 b3 b4 r0 r1 r2 r3 r4 f0 f1 f2 f3 f4 bw lt l1 l0 p0 p1 p2 lp q0 q1 q2 lq
          replace XV := hid (XV.out.call hA)
          obtain ⟨a0, a1, a2, a3, a4, b0, b1, b2, b3, b4, r0, r1, r2, r3, r4, f0, f1, f2, f3, f4, bw, lt, l1, l0⟩ := XV.out
          replace Xp := hid (Xp.out.call hA)
          obtain ⟨p0, p1, p2, lp⟩ := Xp.out
          replace Xq := hid (Xq.out.call hA)
          obtain ⟨q0, q1, q2, lq⟩ := Xq.out
          clear hA
          have Xe := hid (ebox_new (w2.alloc (.cells #[.bool q.1.neg, .string q.1.dig, .int .i64 q.1.exp] 27)) (w2.heap.size + 1) (by simp))
          obtain ⟨e0, e1, e2, h0, h1, h2, le⟩ := Xe.out
          go_wp2_with fail
          refine (CA.out _).mono ?_
          rintro e w3 ⟨rfl, hb3⟩
          clear a0 a1 a2 a3 a4 b0 b1 b2 b3 b4 r0 r1 r2 r3 r4 f0 f1 f2 f3 f4 bw lt l1 l0 p0 p1 p2 lp q0 q1 q2 lq e0 e1 e2 h0 h1 h2 le
          replace XV := hid (XV.out.call hb3)
          obtain ⟨a0, a1, a2, a3, a4, b0, b1, b2, b3, b4, r0, r1, r2, r3, r4, f0, f1, f2, f3, f4, bw, lt, l1, l0⟩ := XV.out
          replace Xp := hid (Xp.out.call hb3)
          obtain ⟨p0, p1, p2, lp⟩ := Xp.out
          replace Xq := hid (Xq.out.call hb3)
          obtain ⟨q0, q1, q2, lq⟩ := Xq.out
          replace Xe := hid (Xe.out.call hb3)
          obtain ⟨e0, e1, e2, h0, h1, h2, le⟩ := Xe.out
          clear hb3
          by_cases hr : R.2 = 0
          · have hr1 : (R.2 == 0) = true := by rw [beq_iff_eq]; exact hr
            have hr2 : (R.2 != 0) = false := by rw [bne, hr1]; rfl
            have HE := hid (show V = (⟨1, R.1, ⟨#[]⟩⟩, 0) by rw [← HVV.out, if_neg (fun h => h hr)])
            clear hr
            go_wp2_with fail
            refine (CNV.out _).mono ?_
            rintro e w5 ⟨rfl, hb5⟩
            have tr0 : w5.cell? ⟨w.heap.size + 1 + 1, 0, none⟩ = some (.int .i64 0) := keeps_cells hb5 _ _ (by go_simp)
            have tr1 : w5.cell? ⟨w.heap.size + 1 + 1, 1, none⟩ = some (.bool false) := keeps_cells hb5 _ _ (by go_simp)
            have tr2 : w5.cell? ⟨w.heap.size + 1 + 1, 2, none⟩ = some (.string ⟨#[]⟩) := keeps_cells hb5 _ _ (by go_simp)
            have tr3 : w5.cell? ⟨w.heap.size + 1 + 1, 3, none⟩ = some (.int .i64 0) := keeps_cells hb5 _ _ (by go_simp)
            have tr4 : w5.cell? ⟨w.heap.size + 1 + 1, 4, none⟩ = some (.string ⟨#[]⟩) := keeps_cells hb5 _ _ (by go_simp)
            have tf0 : w5.frozen? ⟨w.heap.size + 1 + 1, 0, none⟩ = false := (hb5.frozen (p := ⟨w.heap.size + 1 + 1, 0, none⟩) (by simp; omega)).trans (by go_simp)
            have tf1 : w5.frozen? ⟨w.heap.size + 1 + 1, 1, none⟩ = false := (hb5.frozen (p := ⟨w.heap.size + 1 + 1, 1, none⟩) (by simp; omega)).trans (by go_simp)
            have tf2 : w5.frozen? ⟨w.heap.size + 1 + 1, 2, none⟩ = false := (hb5.frozen (p := ⟨w.heap.size + 1 + 1, 2, none⟩) (by simp; omega)).trans (by go_simp)
            have tf3 : w5.frozen? ⟨w.heap.size + 1 + 1, 3, none⟩ = false := (hb5.frozen (p := ⟨w.heap.size + 1 + 1, 3, none⟩) (by simp; omega)).trans (by go_simp)
            have tf4 : w5.frozen? ⟨w.heap.size + 1 + 1, 4, none⟩ = false := (hb5.frozen (p := ⟨w.heap.size + 1 + 1, 4, none⟩) (by simp; omega)).trans (by go_simp)
            have lt5 : w.heap.size + 1 + 1 < w5.heap.size := Nat.lt_of_lt_of_le (by simp; omega) hb5.size
            have bw5 : Below w.heap.size w w5 := ext_trans (by repeat' (first | (with_reducible exact bw) | (with_reducible refine Below.setCell ?_ ?_ _) | (simp; done) | (simp; omega) | omega)) hb5
            clear hb5
            go_wp2
            refine bodyPost_ret (v := .tuple #[.agg #[.int .i64 1, .bool R.1.neg, .string R.1.dig, .int .i64 R.1.exp, .string ⟨#[]⟩], .int .i64 0]) (by simp [results, Tryz.results7, go_sem, tr0, tr1, tr2, tr3, tr4, tf0, tf1, tf2, tf3, tf4, lt5]) rfl ⟨by rw [HE.out]; rfl, ?_⟩
            repeat' (first | (with_reducible exact bw5) | (with_reducible refine Below.setCell ?_ ?_ _) | (with_reducible refine Below.alloc ?_ ?_ _) | (simp; done) | (simp; omega) | omega)
          · have hr1 : (R.2 == 0) = false := by rw [beq_eq_false_iff_ne]; exact hr
            have hr2 : (R.2 != 0) = true := by rw [bne, hr1]; rfl
            have HE := hid (show V = (val0, R.2) by rw [← HVV.out, if_pos hr])
            clear hr
            go_wp2
            refine bodyPost_ret (v := .tuple #[.agg #[.int .i64 0, .bool false, .string ⟨#[]⟩, .int .i64 0, .string ⟨#[]⟩], .int .i64 R.2]) (by simp [results, Tryz.results7, go_sem, r0, r1, r2, r3, r4, f0, f1, f2, f3, f4, lt, l1, l0]) rfl ⟨by rw [HE.out]; rfl, ?_⟩
            repeat' (first | (with_reducible exact bw) | (with_reducible refine Below.setCell ?_ ?_ _) | (with_reducible refine Below.alloc ?_ ?_ _) | (simp; done) | (simp; omega) | omega)
        · have hlaw : divD p.1 q.1 = R := by rw [← hR]; unfold arithD; simp
          have CA := hid (fun (w : World) => specDecDiv p.1 q.1 w hok1 hok2)
          rw [hlaw] at CA
          unfold formV at CA
          clear hR hlaw hok1 hok2 hb hop
          have hb : inB 1 4 6 = true := inB_true (by omega)
          have XV := hid (vbox_start w x y)
          obtain ⟨a0, a1, a2, a3, a4, b0, b1, b2, b3, b4, r0, r1, r2, r3, r4, f0, f1, f2, f3, f4, bw, lt, l1, l0⟩ := XV.out
          go_enter Tryz.func7, Tryz.ntmps7
          go_wp2_with (go_at_call 28; refine (between_any _ _ _ _).mono ?_; rintro e wi ⟨rfl, rfl⟩)
          refine (C1.out _).mono ?_
          rintro e w1 ⟨rfl, hb1⟩
          clear a0 a1 a2 a3 a4 b0 b1 b2 b3 b4 r0 r1 r2 r3 r4 f0 f1 f2 f3 f4 bw lt l1 l0
          replace XV := hid (XV.out.call hb1)
          obtain ⟨a0, a1, a2, a3, a4, b0, b1, b2, b3, b4, r0, r1, r2, r3, r4, f0, f1, f2, f3, f4, bw, lt, l1, l0⟩ := XV.out
          clear hb1
          have hA := ext_alloc w1 (.cells #[.bool p.1.neg, .string p.1.dig, .int .i64 p.1.exp] 27)
          clear a0 a1 a2 a3 a4 b0 b1 b2 b3 b4 r0 r1 r2 r3 r4 f0 f1 f2 f3 f4 bw lt l1 l0
          replace XV := hid (XV.out.call hA)
          obtain ⟨a0, a1, a2, a3, a4, b0, b1, b2, b3, b4, r0, r1, r2, r3, r4, f0, f1, f2, f3, f4, bw, lt, l1, l0⟩ := XV.out
          clear hA
          have Xp := hid (dbox_new w1 p.1)
          obtain ⟨p0, p1, p2, lp⟩ := Xp.out
          go_wp2_with fail
          refine (C2.out _).mono ?_
          rintro e w2 ⟨rfl, hb2⟩
          clear a0 a1 a2 a3 a4 b0 b1 b2 b3 b4 r0 r1 r2 r3 r4 f0 f1 f2 f3 f4 bw lt l1 l0 p0 p1 p2 lp
          replace XV := hid (XV.out.call hb2)
          obtain ⟨a0, a1, a2, a3, a4, b0, b1, b2, b3, b4, r0, r1, r2, r3, r4, f0, f1, f2, f3, f4, bw, lt, l1, l0⟩ := XV.out
          replace Xp := hid (Xp.out.call hb2)
          obtain ⟨p0, p1, p2, lp⟩ := Xp.out
          clear hb2
          have lz := lt
          have lz1 := l1
          have lz0 := l0
          have lzp := lp
          have hA := ext_alloc w2 (.cells #[.bool q.1.neg, .string q.1.dig, .int .i64 q.1.exp] 27)
          clear a0 a1 a2 a3 a4 b0 b1 b2 b3 b4 r0 r1 r2 r3 r4 f0 f1 f2 f3 f4 bw lt l1 l0 p0 p1 p2 lp
          replace XV := hid (XV.out.call hA)
          obtain ⟨a0, a1, a2, a3, a4, b0, b1, b2, b3, b4, r0, r1, r2, r3, r4, f0, f1, f2, f3, f4, bw, lt, l1, l0⟩ := XV.out
          replace Xp := hid (Xp.out.call hA)
          obtain ⟨p0, p1, p2, lp⟩ := Xp.out
          clear hA
          have Xq := hid (dbox_new w2 q.1)
          obtain ⟨q0, q1, q2, lq⟩ := Xq.out
          have hA := ext_alloc (w2.alloc (.cells #[.bool q.1.neg, .string q.1.dig, .int .i64 q.1.exp] 27)) (.cells #[.bool false, .string ⟨#[]⟩, .int .i64 0] 27)
          clear a0 a1 a2 a3 a4 b0 b1 b2 b3 b4 r0 r1 r2 r3 r4 f0 f1 f2 f3 f4 bw lt l1 l0 p0 p1 p2 lp q0 q1 q2 lq
          replace XV := hid (XV.out.call hA)
          obtain ⟨a0, a1, a2, a3, a4, b0, b1, b2, b3, b4, r0, r1, r2, r3, r4, f0, f1, f2, f3, f4, bw, lt, l1, l0⟩ := XV.out
          replace Xp := hid (Xp.out.call hA)
          obtain ⟨p0, p1, p2, lp⟩ := Xp.out
          replace Xq := hid (Xq.out.call hA)
          obtain ⟨q0, q1, q2, lq⟩ := Xq.out
          clear hA
          have Xe := hid (ebox_new (w2.alloc (.cells #[.bool q.1.neg, .string q.1.dig, .int .i64 q.1.exp] 27)) (w2.heap.size + 1) (by simp))
          obtain ⟨e0, e1, e2, h0, h1, h2, le⟩ := Xe.out
          go_wp2_with fail
          refine (CA.out _).mono ?_
          rintro e w3 ⟨rfl, hb3⟩
          clear a0 a1 a2 a3 a4 b0 b1 b2 b3 b4 r0 r1 r2 r3 r4 f0 f1 f2 f3 f4 bw lt l1 l0 p0 p1 p2 lp q0 q1 q2 lq e0 e1 e2 h0 h1 h2 le
          replace XV := hid (XV.out.call hb3)
          obtain ⟨a0, a1, a2, a3, a4, b0, b1, b2, b3, b4, r0, r1, r2, r3, r4, f0, f1, f2, f3, f4, bw, lt, l1, l0⟩ := XV.out
          replace Xp := hid (Xp.out.call hb3)
          obtain ⟨p0, p1, p2, lp⟩ := Xp.out
          replace Xq := hid (Xq.out.call hb3)
          obtain ⟨q0, q1, q2, lq⟩ := Xq.out
          replace Xe := hid (Xe.out.call hb3)
          obtain ⟨e0, e1, e2, h0, h1, h2, le⟩ := Xe.out
          clear hb3
          by_cases hr : R.2 = 0
          · have hr1 : (R.2 == 0) = true := by rw [beq_iff_eq]; exact hr
            have hr2 : (R.2 != 0) = false := by rw [bne, hr1]; rfl
            have HE := hid (show V = (⟨1, R.1, ⟨#[]⟩⟩, 0) by rw [← HVV.out, if_neg (fun h => h hr)])
            clear hr
            go_wp2_with fail
            refine (CNV.out _).mono ?_
            rintro e w5 ⟨rfl, hb5⟩
            have tr0 : w5.cell? ⟨w.heap.size + 1 + 1, 0, none⟩ = some (.int .i64 0) := keeps_cells hb5 _ _ (by go_simp)
            have tr1 : w5.cell? ⟨w.heap.size + 1 + 1, 1, none⟩ = some (.bool false) := keeps_cells hb5 _ _ (by go_simp)
            have tr2 : w5.cell? ⟨w.heap.size + 1 + 1, 2, none⟩ = some (.string ⟨#[]⟩) := keeps_cells hb5 _ _ (by go_simp)
            have tr3 : w5.cell? ⟨w.heap.size + 1 + 1, 3, none⟩ = some (.int .i64 0) := keeps_cells hb5 _ _ (by go_simp)
            have tr4 : w5.cell? ⟨w.heap.size + 1 + 1, 4, none⟩ = some (.string ⟨#[]⟩) := keeps_cells hb5 _ _ (by go_simp)
            have tf0 : w5.frozen? ⟨w.heap.size + 1 + 1, 0, none⟩ = false := (hb5.frozen (p := ⟨w.heap.size + 1 + 1, 0, none⟩) (by simp; omega)).trans (by go_simp)
            have tf1 : w5.frozen? ⟨w.heap.size + 1 + 1, 1, none⟩ = false := (hb5.frozen (p := ⟨w.heap.size + 1 + 1, 1, none⟩) (by simp; omega)).trans (by go_simp)
            have tf2 : w5.frozen? ⟨w.heap.size + 1 + 1, 2, none⟩ = false := (hb5.frozen (p := ⟨w.heap.size + 1 + 1, 2, none⟩) (by simp; omega)).trans (by go_simp)
            have tf3 : w5.frozen? ⟨w.heap.size + 1 + 1, 3, none⟩ = false := (hb5.frozen (p := ⟨w.heap.size + 1 + 1, 3, none⟩) (by simp; omega)).trans (by go_simp)
            have tf4 : w5.frozen? ⟨w.heap.size + 1 + 1, 4, none⟩ = false := (hb5.frozen (p := ⟨w.heap.size + 1 + 1, 4, none⟩) (by simp; omega)).trans (by go_simp)
            have lt5 : w.heap.size + 1 + 1 < w5.heap.size := Nat.lt_of_lt_of_le (by simp; omega) hb5.size
            have bw5 : Below w.heap.size w w5 := ext_trans (by repeat' (first | (with_reducible exact bw) | (with_reducible refine Below.setCell ?_ ?_ _) | (simp; done) | (simp; omega) | omega)) hb5
            clear hb5
            go_wp2
            refine bodyPost_ret (v := .tuple #[.agg #[.int .i64 1, .bool R.1.neg, .string R.1.dig, .int .i64 R.1.exp, .string ⟨#[]⟩], .int .i64 0]) (by simp [results, Tryz.results7, go_sem, tr0, tr1, tr2, tr3, tr4, tf0, tf1, tf2, tf3, tf4, lt5]) rfl ⟨by rw [HE.out]; rfl, ?_⟩
            repeat' (first | (with_reducible exact bw5) | (with_reducible refine Below.setCell ?_ ?_ _) | (with_reducible refine Below.alloc ?_ ?_ _) | (simp; done) | (simp; omega) | omega)
          · have hr1 : (R.2 == 0) = false := by rw [beq_eq_false_iff_ne]; exact hr
            have hr2 : (R.2 != 0) = true := by rw [bne, hr1]; rfl
            have HE := hid (show V = (val0, R.2) by rw [← HVV.out, if_pos hr])
            clear hr
            go_wp2
            refine bodyPost_ret (v := .tuple #[.agg #[.int .i64 0, .bool false, .string ⟨#[]⟩, .int .i64 0, .string ⟨#[]⟩], .int .i64 R.2]) (by simp [results, Tryz.results7, go_sem, r0, r1, r2, r3, r4, f0, f1, f2, f3, f4, lt, l1, l0]) rfl ⟨by rw [HE.out]; rfl, ?_⟩
            repeat' (first | (with_reducible exact bw) | (with_reducible refine Below.setCell ?_ ?_ _) | (with_reducible refine Below.alloc ?_ ?_ _) | (simp; done) | (simp; omega) | omega)
        · have hlaw : modD p.1 q.1 = R := by rw [← hR]; unfold arithD; simp
          have CA := hid (fun (w : World) => specDecMod p.1 q.1 w hok1 hok2)
          rw [hlaw] at CA
          unfold formV at CA
          clear hR hlaw hok1 hok2 hb hop
          have hb : inB 1 5 6 = true := inB_true (by omega)
          have XV := hid (vbox_start w x y)
          obtain ⟨a0, a1, a2, a3, a4, b0, b1, b2, b3, b4, r0, r1, r2, r3, r4, f0, f1, f2, f3, f4, bw, lt, l1, l0⟩ := XV.out
          go_enter Tryz.func7, Tryz.ntmps7
          go_wp2_with (go_at_call 28; refine (between_any _ _ _ _).mono ?_; rintro e wi ⟨rfl, rfl⟩)
          refine (C1.out _).mono ?_
          rintro e w1 ⟨rfl, hb1⟩
          clear a0 a1 a2 a3 a4 b0 b1 b2 b3 b4 r0 r1 r2 r3 r4 f0 f1 f2 f3 f4 bw lt l1 l0
          replace XV := hid (XV.out.call hb1)
          obtain ⟨a0, a1, a2, a3, a4, b0, b1, b2, b3, b4, r0, r1, r2, r3, r4, f0, f1, f2, f3, f4, bw, lt, l1, l0⟩ := XV.out
          clear hb1
          have hA := ext_alloc w1 (.cells #[.bool p.1.neg, .string p.1.dig, .int .i64 p.1.exp] 27)
          clear a0 a1 a2 a3 a4 b0 b1 b2 b3 b4 r0 r1 r2 r3 r4 f0 f1 f2 f3 f4 bw lt l1 l0
          replace XV := hid (XV.out.call hA)
          obtain ⟨a0, a1, a2, a3, a4, b0, b1, b2, b3, b4, r0, r1, r2, r3, r4, f0, f1, f2, f3, f4, bw, lt, l1, l0⟩ := XV.out
          clear hA
          have Xp := hid (dbox_new w1 p.1)
          obtain ⟨p0, p1, p2, lp⟩ := Xp.out
          go_wp2_with fail
          refine (C2.out _).mono ?_
          rintro e w2 ⟨rfl, hb2⟩
          clear a0 a1 a2 a3 a4 b0 b1 b2 b3 b4 r0 r1 r2 r3 r4 f0 f1 f2 f3 f4 bw lt l1 l0 p0 p1 p2 lp
          replace XV := hid (XV.out.call hb2)
          obtain ⟨a0, a1, a2, a3, a4, b0, b1, b2, b3, b4, r0, r1, r2, r3, r4, f0, f1, f2, f3, f4, bw, lt, l1, l0⟩ := XV.out
          replace Xp := hid (Xp.out.call hb2)
          obtain ⟨p0, p1, p2, lp⟩ := Xp.out
          clear hb2
          have lz := lt
          have lz1 := l1
          have lz0 := l0
          have lzp := lp
          have hA := ext_alloc w2 (.cells #[.bool q.1.neg, .string q.1.dig, .int .i64 q.1.exp] 27)
          clear a0 a1 a2 a3 a4 b0 b1 b2 b3 b4 r0 r1 r2 r3 r4 f0 f1 f2 f3 f4 bw lt l1 l0 p0 p1 p2 lp
          replace XV := hid (XV.out.call hA)
          obtain ⟨a0, a1, a2, a3, a4, b0, b1, b2, b3, b4, r0, r1, r2, r3, r4, f0, f1, f2, f3, f4, bw, lt, l1, l0⟩ := XV.out
          replace Xp := hid (Xp.out.call hA)
          obtain ⟨p0, p1, p2, lp⟩ := Xp.out
          clear hA
          have Xq := hid (dbox_new w2 q.1)
          obtain ⟨q0, q1, q2, lq⟩ := Xq.out
          have hA := ext_alloc (w2.alloc (.cells #[.bool q.1.neg, .string q.1.dig, .int .i64 q.1.exp] 27)) (.cells #[.bool false, .string ⟨#[]⟩, .int .i64 0] 27)
          clear a0 a1 a2 a3 a4 b0 b1 b2 b3 b4 r0 r1 r2 r3 r4 f0 f1 f2 f3 f4 bw lt l1 l0 p0 p1 p2 lp q0 q1 q2 lq
          replace XV := hid (XV.out.call hA)
          obtain ⟨a0, a1, a2, a3, a4, b0, b1, b2, b3, b4, r0, r1, r2, r3, r4, f0, f1, f2, f3, f4, bw, lt, l1, l0⟩ := XV.out
          replace Xp := hid (Xp.out.call hA)
          obtain ⟨p0, p1, p2, lp⟩ := Xp.out
          replace Xq := hid (Xq.out.call hA)
          obtain ⟨q0, q1, q2, lq⟩ := Xq.out
          clear hA
          have Xe := hid (ebox_new (w2.alloc (.cells #[.bool q.1.neg, .string q.1.dig, .int .i64 q.1.exp] 27)) (w2.heap.size + 1) (by simp))
          obtain ⟨e0, e1, e2, h0, h1, h2, le⟩ := Xe.out
          go_wp2_with fail
          refine (CA.out _).mono ?_
          rintro e w3 ⟨rfl, hb3⟩
          clear a0 a1 a2 a3 a4 b0 b1 b2 b3 b4 r0 r1 r2 r3 r4 f0 f1 f2 f3 f4 bw lt l1 l0 p0 p1 p2 lp q0 q1 q2 lq e0 e1 e2 h0 h1 h2 le
          replace XV := hid (XV.out.call hb3)
          obtain ⟨a0, a1, a2, a3, a4, b0, b1, b2, b3, b4, r0, r1, r2, r3, r4, f0, f1, f2, f3, f4, bw, lt, l1, l0⟩ := XV.out
          replace Xp := hid (Xp.out.call hb3)
          obtain ⟨p0, p1, p2, lp⟩ := Xp.out
          replace Xq := hid (Xq.out.call hb3)
          obtain ⟨q0, q1, q2, lq⟩ := Xq.out
          replace Xe := hid (Xe.out.call hb3)
          obtain ⟨e0, e1, e2, h0, h1, h2, le⟩ := Xe.out
          clear hb3
          by_cases hr : R.2 = 0
          · have hr1 : (R.2 == 0) = true := by rw [beq_iff_eq]; exact hr
            have hr2 : (R.2 != 0) = false := by rw [bne, hr1]; rfl
            have HE := hid (show V = (⟨1, R.1, ⟨#[]⟩⟩, 0) by rw [← HVV.out, if_neg (fun h => h hr)])
            clear hr
            go_wp2_with fail
            refine (CNV.out _).mono ?_
            rintro e w5 ⟨rfl, hb5⟩
            have tr0 : w5.cell? ⟨w.heap.size + 1 + 1, 0, none⟩ = some (.int .i64 0) := keeps_cells hb5 _ _ (by go_simp)
            have tr1 : w5.cell? ⟨w.heap.size + 1 + 1, 1, none⟩ = some (.bool false) := keeps_cells hb5 _ _ (by go_simp)
            have tr2 : w5.cell? ⟨w.heap.size + 1 + 1, 2, none⟩ = some (.string ⟨#[]⟩) := keeps_cells hb5 _ _ (by go_simp)
            have tr3 : w5.cell? ⟨w.heap.size + 1 + 1, 3, none⟩ = some (.int .i64 0) := keeps_cells hb5 _ _ (by go_simp)
            have tr4 : w5.cell? ⟨w.heap.size + 1 + 1, 4, none⟩ = some (.string ⟨#[]⟩) := keeps_cells hb5 _ _ (by go_simp)
            have tf0 : w5.frozen? ⟨w.heap.size + 1 + 1, 0, none⟩ = false := (hb5.frozen (p := ⟨w.heap.size + 1 + 1, 0, none⟩) (by simp; omega)).trans (by go_simp)
            have tf1 : w5.frozen? ⟨w.heap.size + 1 + 1, 1, none⟩ = false := (hb5.frozen (p := ⟨w.heap.size + 1 + 1, 1, none⟩) (by simp; omega)).trans (by go_simp)
            have tf2 : w5.frozen? ⟨w.heap.size + 1 + 1, 2, none⟩ = false := (hb5.frozen (p := ⟨w.heap.size + 1 + 1, 2, none⟩) (by simp; omega)).trans (by go_simp)
            have tf3 : w5.frozen? ⟨w.heap.size + 1 + 1, 3, none⟩ = false := (hb5.frozen (p := ⟨w.heap.size + 1 + 1, 3, none⟩) (by simp; omega)).trans (by go_simp)
            have tf4 : w5.frozen? ⟨w.heap.size + 1 + 1, 4, none⟩ = false := (hb5.frozen (p := ⟨w.heap.size + 1 + 1, 4, none⟩) (by simp; omega)).trans (by go_simp)
            have lt5 : w.heap.size + 1 + 1 < w5.heap.size := Nat.lt_of_lt_of_le (by simp; omega) hb5.size
            have bw5 : Below w.heap.size w w5 := ext_trans (by repeat' (first | (with_reducible exact bw) | (with_reducible refine Below.setCell ?_ ?_ _) | (simp; done) | (simp; omega) | omega)) hb5
            clear hb5
            go_wp2
            refine bodyPost_ret (v := .tuple #[.agg #[.int .i64 1, .bool R.1.neg, .string R.1.dig, .int .i64 R.1.exp, .string ⟨#[]⟩], .int .i64 0]) (by simp [results, Tryz.results7, go_sem, tr0, tr1, tr2, tr3, tr4, tf0, tf1, tf2, tf3, tf4, lt5]) rfl ⟨by rw [HE.out]; rfl, ?_⟩
            repeat' (first | (with_reducible exact bw5) | (with_reducible refine Below.setCell ?_ ?_ _) | (with_reducible refine Below.alloc ?_ ?_ _) | (simp; done) | (simp; omega) | omega)
          · have hr1 : (R.2 == 0) = false := by rw [beq_eq_false_iff_ne]; exact hr
            have hr2 : (R.2 != 0) = true := by rw [bne, hr1]; rfl
            have HE := hid (show V = (val0, R.2) by rw [← HVV.out, if_pos hr])
            clear hr
            go_wp2
            refine bodyPost_ret (v := .tuple #[.agg #[.int .i64 0, .bool false, .string ⟨#[]⟩, .int .i64 0, .string ⟨#[]⟩], .int .i64 R.2]) (by simp [results, Tryz.results7, go_sem, r0, r1, r2, r3, r4, f0, f1, f2, f3, f4, lt, l1, l0]) rfl ⟨by rw [HE.out]; rfl, ?_⟩
            repeat' (first | (with_reducible exact bw) | (with_reducible refine Below.setCell ?_ ?_ _) | (with_reducible refine Below.alloc ?_ ?_ _) | (simp; done) | (simp; omega) | omega)
        · have hR0 : arithD 6 p.1 q.1 = if (wholeD q.1).2 = false then (dec0, 3) else if -99 ≤ (wholeD q.1).1 ∧ (wholeD q.1).1 ≤ 99 then powD p.1 (wholeD q.1).1 else (dec0, 3) := by unfold arithD; simp
          rw [hR0] at hR
          have CW := hid (fun (w : World) => specWhole q.1 w hok2)
          have hin := wholeD_in q.1
          obtain ⟨n, hn⟩ : ∃ n, (wholeD q.1).1 = n := ⟨_, rfl⟩
          obtain ⟨ok, hok⟩ : ∃ x, (wholeD q.1).2 = x := ⟨_, rfl⟩
          rw [hn, hok] at CW hR
          rw [hn] at hin
          have CP := hid (fun (w : World) => specDecPow p.1 n w hok1 hin)
          clear hR0 hn hok hok1 hok2 hb hop
          have hb : inB 1 6 6 = true := inB_true (by omega)
          cases ok
          · rw [if_pos rfl] at hR
            have HE := hid (show V = (val0, 3) by rw [← HVV.out, ← hR]; rfl)
            clear hR
            have XV := hid (vbox_start w x y)
            obtain ⟨a0, a1, a2, a3, a4, b0, b1, b2, b3, b4, r0, r1, r2, r3, r4, f0, f1, f2, f3, f4, bw, lt, l1, l0⟩ := XV.out
            go_enter Tryz.func7, Tryz.ntmps7
            go_wp2_with (go_at_call 28; refine (between_any _ _ _ _).mono ?_; rintro e wi ⟨rfl, rfl⟩)
            refine (C1.out _).mono ?_
            rintro e w1 ⟨rfl, hb1⟩
            clear a0 a1 a2 a3 a4 b0 b1 b2 b3 b4 r0 r1 r2 r3 r4 f0 f1 f2 f3 f4 bw lt l1 l0
            replace XV := hid (XV.out.call hb1)
            obtain ⟨a0, a1, a2, a3, a4, b0, b1, b2, b3, b4, r0, r1, r2, r3, r4, f0, f1, f2, f3, f4, bw, lt, l1, l0⟩ := XV.out
            clear hb1
            have hA := ext_alloc w1 (.cells #[.bool p.1.neg, .string p.1.dig, .int .i64 p.1.exp] 27)
            clear a0 a1 a2 a3 a4 b0 b1 b2 b3 b4 r0 r1 r2 r3 r4 f0 f1 f2 f3 f4 bw lt l1 l0
            replace XV := hid (XV.out.call hA)
            obtain ⟨a0, a1, a2, a3, a4, b0, b1, b2, b3, b4, r0, r1, r2, r3, r4, f0, f1, f2, f3, f4, bw, lt, l1, l0⟩ := XV.out
            clear hA
            have Xp := hid (dbox_new w1 p.1)
            obtain ⟨p0, p1, p2, lp⟩ := Xp.out
            go_wp2_with fail
            refine (C2.out _).mono ?_
            rintro e w2 ⟨rfl, hb2⟩
            clear a0 a1 a2 a3 a4 b0 b1 b2 b3 b4 r0 r1 r2 r3 r4 f0 f1 f2 f3 f4 bw lt l1 l0 p0 p1 p2 lp
            replace XV := hid (XV.out.call hb2)
            obtain ⟨a0, a1, a2, a3, a4, b0, b1, b2, b3, b4, r0, r1, r2, r3, r4, f0, f1, f2, f3, f4, bw, lt, l1, l0⟩ := XV.out
            replace Xp := hid (Xp.out.call hb2)
            obtain ⟨p0, p1, p2, lp⟩ := Xp.out
            clear hb2
            have lz := lt
            have lz1 := l1
            have lz0 := l0
            have lzp := lp
            have hA := ext_alloc w2 (.cells #[.bool q.1.neg, .string q.1.dig, .int .i64 q.1.exp] 27)
            clear a0 a1 a2 a3 a4 b0 b1 b2 b3 b4 r0 r1 r2 r3 r4 f0 f1 f2 f3 f4 bw lt l1 l0 p0 p1 p2 lp
            replace XV := hid (XV.out.call hA)
            obtain ⟨a0, a1, a2, a3, a4, b0, b1, b2, b3, b4, r0, r1, r2, r3, r4, f0, f1, f2, f3, f4, bw, lt, l1, l0⟩ := XV.out
            replace Xp := hid (Xp.out.call hA)
            obtain ⟨p0, p1, p2, lp⟩ := Xp.out
            clear hA
            have Xq := hid (dbox_new w2 q.1)
            obtain ⟨q0, q1, q2, lq⟩ := Xq.out
            have hA := ext_alloc (w2.alloc (.cells #[.bool q.1.neg, .string q.1.dig, .int .i64 q.1.exp] 27)) (.cells #[.bool false, .string ⟨#[]⟩, .int .i64 0] 27)
            clear a0 a1 a2 a3 a4 b0 b1 b2 b3 b4 r0 r1 r2 r3 r4 f0 f1 f2 f3 f4 bw lt l1 l0 p0 p1 p2 lp q0 q1 q2 lq
            replace XV := hid (XV.out.call hA)
            obtain ⟨a0, a1, a2, a3, a4, b0, b1, b2, b3, b4, r0, r1, r2, r3, r4, f0, f1, f2, f3, f4, bw, lt, l1, l0⟩ := XV.out
            replace Xp := hid (Xp.out.call hA)
            obtain ⟨p0, p1, p2, lp⟩ := Xp.out
            replace Xq := hid (Xq.out.call hA)
            obtain ⟨q0, q1, q2, lq⟩ := Xq.out
            clear hA
            have Xe := hid (ebox_new (w2.alloc (.cells #[.bool q.1.neg, .string q.1.dig, .int .i64 q.1.exp] 27)) (w2.heap.size + 1) (by simp))
            obtain ⟨e0, e1, e2, h0, h1, h2, le⟩ := Xe.out
            go_wp2_with fail
            refine (CW.out _).mono ?_
            rintro e w3 ⟨rfl, hb3⟩
            clear a0 a1 a2 a3 a4 b0 b1 b2 b3 b4 r0 r1 r2 r3 r4 f0 f1 f2 f3 f4 bw lt l1 l0 p0 p1 p2 lp q0 q1 q2 lq e0 e1 e2 h0 h1 h2 le
            replace XV := hid (XV.out.call hb3)
            obtain ⟨a0, a1, a2, a3, a4, b0, b1, b2, b3, b4, r0, r1, r2, r3, r4, f0, f1, f2, f3, f4, bw, lt, l1, l0⟩ := XV.out
            replace Xp := hid (Xp.out.call hb3)
            obtain ⟨p0, p1, p2, lp⟩ := Xp.out
            replace Xq := hid (Xq.out.call hb3)
            obtain ⟨q0, q1, q2, lq⟩ := Xq.out
            replace Xe := hid (Xe.out.call hb3)
            obtain ⟨e0, e1, e2, h0, h1, h2, le⟩ := Xe.out
            clear hb3
            go_wp2
            refine bodyPost_ret (v := .tuple #[.agg #[.int .i64 0, .bool false, .string ⟨#[]⟩, .int .i64 0, .string ⟨#[]⟩], .int .i64 3]) (by simp [results, Tryz.results7, go_sem, r0, r1, r2, r3, r4, f0, f1, f2, f3, f4, lt, l1, l0]) rfl ⟨by rw [HE.out]; rfl, ?_⟩
            repeat' (first | (with_reducible exact bw) | (with_reducible refine Below.setCell ?_ ?_ _) | (with_reducible refine Below.alloc ?_ ?_ _) | (simp; done) | (simp; omega) | omega)
          · rw [if_neg (by decide)] at hR
            rw [hR] at CP
            unfold formV at CP
            clear hR
            have XV := hid (vbox_start w x y)
            obtain ⟨a0, a1, a2, a3, a4, b0, b1, b2, b3, b4, r0, r1, r2, r3, r4, f0, f1, f2, f3, f4, bw, lt, l1, l0⟩ := XV.out
            go_enter Tryz.func7, Tryz.ntmps7
            go_wp2_with (go_at_call 28; refine (between_any _ _ _ _).mono ?_; rintro e wi ⟨rfl, rfl⟩)
            refine (C1.out _).mono ?_
            rintro e w1 ⟨rfl, hb1⟩
            clear a0 a1 a2 a3 a4 b0 b1 b2 b3 b4 r0 r1 r2 r3 r4 f0 f1 f2 f3 f4 bw lt l1 l0
            replace XV := hid (XV.out.call hb1)
            obtain ⟨a0, a1, a2, a3, a4, b0, b1, b2, b3, b4, r0, r1, r2, r3, r4, f0, f1, f2, f3, f4, bw, lt, l1, l0⟩ := XV.out
            clear hb1
            have hA := ext_alloc w1 (.cells #[.bool p.1.neg, .string p.1.dig, .int .i64 p.1.exp] 27)
            clear a0 a1 a2 a3 a4 b0 b1 b2 b3 b4 r0 r1 r2 r3 r4 f0 f1 f2 f3 f4 bw lt l1 l0
            replace XV := hid (XV.out.call hA)
            obtain ⟨a0, a1, a2, a3, a4, b0, b1, b2, b3, b4, r0, r1, r2, r3, r4, f0, f1, f2, f3, f4, bw, lt, l1, l0⟩ := XV.out
            clear hA
            have Xp := hid (dbox_new w1 p.1)
            obtain ⟨p0, p1, p2, lp⟩ := Xp.out
            go_wp2_with fail
            refine (C2.out _).mono ?_
            rintro e w2 ⟨rfl, hb2⟩
            clear a0 a1 a2 a3 a4 b0 b1 b2 b3 b4 r0 r1 r2 r3 r4 f0 f1 f2 f3 f4 bw lt l1 l0 p0 p1 p2 lp
            replace XV := hid (XV.out.call hb2)
            obtain ⟨a0, a1, a2, a3, a4, b0, b1, b2, b3, b4, r0, r1, r2, r3, r4, f0, f1, f2, f3, f4, bw, lt, l1, l0⟩ := XV.out
            replace Xp := hid (Xp.out.call hb2)
            obtain ⟨p0, p1, p2, lp⟩ := Xp.out
            clear hb2
            have lz := lt
            have lz1 := l1
            have lz0 := l0
            have lzp := lp
            have hA := ext_alloc w2 (.cells #[.bool q.1.neg, .string q.1.dig, .int .i64 q.1.exp] 27)
            clear a0 a1 a2 a3 a4 b0 b1 b2 b3 b4 r0 r1 r2 r3 r4 f0 f1 f2 f3 f4 bw lt l1 l0 p0 p1 p2 lp
            replace XV := hid (XV.out.call hA)
            obtain ⟨a0, a1, a2, a3, a4, b0, b1, b2, b3, b4, r0, r1, r2, r3, r4, f0, f1, f2, f3, f4, bw, lt, l1, l0⟩ := XV.out
            replace Xp := hid (Xp.out.call hA)
            obtain ⟨p0, p1, p2, lp⟩ := Xp.out
            clear hA
            have Xq := hid (dbox_new w2 q.1)
            obtain ⟨q0, q1, q2, lq⟩ := Xq.out
            have hA := ext_alloc (w2.alloc (.cells #[.bool q.1.neg, .string q.1.dig, .int .i64 q.1.exp] 27)) (.cells #[.bool false, .string ⟨#[]⟩, .int .i64 0] 27)
            clear a0 a1 a2 a3 a4 b0 b1 b2 b3 b4 r0 r1 r2 r3 r4 f0 f1 f2 f3 f4 bw lt l1 l0 p0 p1 p2 lp q0 q1 q2 lq
            replace XV := hid (XV.out.call hA)
            obtain ⟨a0, a1, a2, a3, a4, b0, b1, b2, b3, b4, r0, r1, r2, r3, r4, f0, f1, f2, f3, f4, bw, lt, l1, l0⟩ := XV.out
            replace Xp := hid (Xp.out.call hA)
            obtain ⟨p0, p1, p2, lp⟩ := Xp.out
            replace Xq := hid (Xq.out.call hA)
            obtain ⟨q0, q1, q2, lq⟩ := Xq.out
            clear hA
            have Xe := hid (ebox_new (w2.alloc (.cells #[.bool q.1.neg, .string q.1.dig, .int .i64 q.1.exp] 27)) (w2.heap.size + 1) (by simp))
            obtain ⟨e0, e1, e2, h0, h1, h2, le⟩ := Xe.out
            go_wp2_with fail
            refine (CW.out _).mono ?_
            rintro e w3 ⟨rfl, hb3⟩
            clear a0 a1 a2 a3 a4 b0 b1 b2 b3 b4 r0 r1 r2 r3 r4 f0 f1 f2 f3 f4 bw lt l1 l0 p0 p1 p2 lp q0 q1 q2 lq e0 e1 e2 h0 h1 h2 le
            replace XV := hid (XV.out.call hb3)
            obtain ⟨a0, a1, a2, a3, a4, b0, b1, b2, b3, b4, r0, r1, r2, r3, r4, f0, f1, f2, f3, f4, bw, lt, l1, l0⟩ := XV.out
            replace Xp := hid (Xp.out.call hb3)
            obtain ⟨p0, p1, p2, lp⟩ := Xp.out
            replace Xq := hid (Xq.out.call hb3)
            obtain ⟨q0, q1, q2, lq⟩ := Xq.out
            replace Xe := hid (Xe.out.call hb3)
            obtain ⟨e0, e1, e2, h0, h1, h2, le⟩ := Xe.out
            clear hb3
            go_wp2_with fail
            refine (CP.out _).mono ?_
            rintro e w4 ⟨rfl, hb4⟩
            clear a0 a1 a2 a3 a4 b0 b1 b2 b3 b4 r0 r1 r2 r3 r4 f0 f1 f2 f3 f4 bw lt l1 l0 p0 p1 p2 lp q0 q1 q2 lq e0 e1 e2 h0 h1 h2 le
            replace XV := hid (XV.out.call hb4)
            obtain ⟨a0, a1, a2, a3, a4, b0, b1, b2, b3, b4, r0, r1, r2, r3, r4, f0, f1, f2, f3, f4, bw, lt, l1, l0⟩ := XV.out
            replace Xp := hid (Xp.out.call hb4)
            obtain ⟨p0, p1, p2, lp⟩ := Xp.out
            replace Xq := hid (Xq.out.call hb4)
            obtain ⟨q0, q1, q2, lq⟩ := Xq.out
            replace Xe := hid (Xe.out.call hb4)
            obtain ⟨e0, e1, e2, h0, h1, h2, le⟩ := Xe.out
            clear hb4
            by_cases hr : R.2 = 0
            · have hr1 : (R.2 == 0) = true := by rw [beq_iff_eq]; exact hr
              have hr2 : (R.2 != 0) = false := by rw [bne, hr1]; rfl
              have HE := hid (show V = (⟨1, R.1, ⟨#[]⟩⟩, 0) by rw [← HVV.out, if_neg (fun h => h hr)])
              clear hr
              go_wp2_with fail
              refine (CNV.out _).mono ?_
              rintro e w5 ⟨rfl, hb5⟩
              have tr0 : w5.cell? ⟨w.heap.size + 1 + 1, 0, none⟩ = some (.int .i64 0) := keeps_cells hb5 _ _ (by go_simp)
              have tr1 : w5.cell? ⟨w.heap.size + 1 + 1, 1, none⟩ = some (.bool false) := keeps_cells hb5 _ _ (by go_simp)
              have tr2 : w5.cell? ⟨w.heap.size + 1 + 1, 2, none⟩ = some (.string ⟨#[]⟩) := keeps_cells hb5 _ _ (by go_simp)
              have tr3 : w5.cell? ⟨w.heap.size + 1 + 1, 3, none⟩ = some (.int .i64 0) := keeps_cells hb5 _ _ (by go_simp)
              have tr4 : w5.cell? ⟨w.heap.size + 1 + 1, 4, none⟩ = some (.string ⟨#[]⟩) := keeps_cells hb5 _ _ (by go_simp)
              have tf0 : w5.frozen? ⟨w.heap.size + 1 + 1, 0, none⟩ = false := (hb5.frozen (p := ⟨w.heap.size + 1 + 1, 0, none⟩) (by simp; omega)).trans (by go_simp)
              have tf1 : w5.frozen? ⟨w.heap.size + 1 + 1, 1, none⟩ = false := (hb5.frozen (p := ⟨w.heap.size + 1 + 1, 1, none⟩) (by simp; omega)).trans (by go_simp)
              have tf2 : w5.frozen? ⟨w.heap.size + 1 + 1, 2, none⟩ = false := (hb5.frozen (p := ⟨w.heap.size + 1 + 1, 2, none⟩) (by simp; omega)).trans (by go_simp)
              have tf3 : w5.frozen? ⟨w.heap.size + 1 + 1, 3, none⟩ = false := (hb5.frozen (p := ⟨w.heap.size + 1 + 1, 3, none⟩) (by simp; omega)).trans (by go_simp)
              have tf4 : w5.frozen? ⟨w.heap.size + 1 + 1, 4, none⟩ = false := (hb5.frozen (p := ⟨w.heap.size + 1 + 1, 4, none⟩) (by simp; omega)).trans (by go_simp)
              have lt5 : w.heap.size + 1 + 1 < w5.heap.size := Nat.lt_of_lt_of_le (by simp; omega) hb5.size
              have bw5 : Below w.heap.size w w5 := ext_trans (by repeat' (first | (with_reducible exact bw) | (with_reducible refine Below.setCell ?_ ?_ _) | (simp; done) | (simp; omega) | omega)) hb5
              clear hb5
              go_wp2
              refine bodyPost_ret (v := .tuple #[.agg #[.int .i64 1, .bool R.1.neg, .string R.1.dig, .int .i64 R.1.exp, .string ⟨#[]⟩], .int .i64 0]) (by simp [results, Tryz.results7, go_sem, tr0, tr1, tr2, tr3, tr4, tf0, tf1, tf2, tf3, tf4, lt5]) rfl ⟨by rw [HE.out]; rfl, ?_⟩
              repeat' (first | (with_reducible exact bw5) | (with_reducible refine Below.setCell ?_ ?_ _) | (with_reducible refine Below.alloc ?_ ?_ _) | (simp; done) | (simp; omega) | omega)
            · have hr1 : (R.2 == 0) = false := by rw [beq_eq_false_iff_ne]; exact hr
              have hr2 : (R.2 != 0) = true := by rw [bne, hr1]; rfl
              have HE := hid (show V = (val0, R.2) by rw [← HVV.out, if_pos hr])
              clear hr
              go_wp2
              refine bodyPost_ret (v := .tuple #[.agg #[.int .i64 0, .bool false, .string ⟨#[]⟩, .int .i64 0, .string ⟨#[]⟩], .int .i64 R.2]) (by simp [results, Tryz.results7, go_sem, r0, r1, r2, r3, r4, f0, f1, f2, f3, f4, lt, l1, l0]) rfl ⟨by rw [HE.out]; rfl, ?_⟩
              repeat' (first | (with_reducible exact bw) | (with_reducible refine Below.setCell ?_ ?_ _) | (with_reducible refine Below.alloc ?_ ?_ _) | (simp; done) | (simp; omega) | omega)
      · have hd1 : (q.2 == 0) = false := by rw [beq_eq_false_iff_ne]; exact hd
        have hd2 : (q.2 != 0) = true := by rw [bne, hd1]; rfl
        have HE := hid (show V = (val0, q.2) by rw [← HV.out, if_neg (fun h => h hc), if_pos hd])
        clear hc hd
        have XV := hid (vbox_start w x y)
        obtain ⟨a0, a1, a2, a3, a4, b0, b1, b2, b3, b4, r0, r1, r2, r3, r4, f0, f1, f2, f3, f4, bw, lt, l1, l0⟩ := XV.out
        go_enter Tryz.func7, Tryz.ntmps7
        go_wp2_with (go_at_call 28; refine (between_any _ _ _ _).mono ?_; rintro e wi ⟨rfl, rfl⟩)
        refine (C1.out _).mono ?_
        rintro e w1 ⟨rfl, hb1⟩
        clear a0 a1 a2 a3 a4 b0 b1 b2 b3 b4 r0 r1 r2 r3 r4 f0 f1 f2 f3 f4 bw lt l1 l0
        replace XV := hid (XV.out.call hb1)
        obtain ⟨a0, a1, a2, a3, a4, b0, b1, b2, b3, b4, r0, r1, r2, r3, r4, f0, f1, f2, f3, f4, bw, lt, l1, l0⟩ := XV.out
        clear hb1
        have hA := ext_alloc w1 (.cells #[.bool p.1.neg, .string p.1.dig, .int .i64 p.1.exp] 27)
        clear a0 a1 a2 a3 a4 b0 b1 b2 b3 b4 r0 r1 r2 r3 r4 f0 f1 f2 f3 f4 bw lt l1 l0
        replace XV := hid (XV.out.call hA)
        obtain ⟨a0, a1, a2, a3, a4, b0, b1, b2, b3, b4, r0, r1, r2, r3, r4, f0, f1, f2, f3, f4, bw, lt, l1, l0⟩ := XV.out
        clear hA
        have Xp := hid (dbox_new w1 p.1)
        obtain ⟨p0, p1, p2, lp⟩ := Xp.out
        go_wp2_with fail
        refine (C2.out _).mono ?_
        rintro e w2 ⟨rfl, hb2⟩
        clear a0 a1 a2 a3 a4 b0 b1 b2 b3 b4 r0 r1 r2 r3 r4 f0 f1 f2 f3 f4 bw lt l1 l0 p0 p1 p2 lp
        replace XV := hid (XV.out.call hb2)
        obtain ⟨a0, a1, a2, a3, a4, b0, b1, b2, b3, b4, r0, r1, r2, r3, r4, f0, f1, f2, f3, f4, bw, lt, l1, l0⟩ := XV.out
        replace Xp := hid (Xp.out.call hb2)
        obtain ⟨p0, p1, p2, lp⟩ := Xp.out
        clear hb2
        go_wp2
        refine bodyPost_ret (v := .tuple #[.agg #[.int .i64 0, .bool false, .string ⟨#[]⟩, .int .i64 0, .string ⟨#[]⟩], .int .i64 q.2]) (by simp [results, Tryz.results7, go_sem, r0, r1, r2, r3, r4, f0, f1, f2, f3, f4, lt, l1, l0]) rfl ⟨by rw [HE.out]; rfl, ?_⟩
        repeat' (first | (with_reducible exact bw) | (with_reducible refine Below.setCell ?_ ?_ _) | (with_reducible refine Below.alloc ?_ ?_ _) | (simp; done) | (simp; omega) | omega)
    · have hc1 : (p.2 == 0) = false := by rw [beq_eq_false_iff_ne]; exact hc
      have hc2 : (p.2 != 0) = true := by rw [bne, hc1]; rfl
      have HE := hid (show V = (val0, p.2) by rw [← HV.out, if_pos hc])
      clear hc
      have XV := hid (vbox_start w x y)
      obtain ⟨a0, a1, a2, a3, a4, b0, b1, b2, b3, b4, r0, r1, r2, r3, r4, f0, f1, f2, f3, f4, bw, lt, l1, l0⟩ := XV.out
      go_enter Tryz.func7, Tryz.ntmps7
      go_wp2_with (go_at_call 28; refine (between_any _ _ _ _).mono ?_; rintro e wi ⟨rfl, rfl⟩)
      refine (C1.out _).mono ?_
      rintro e w1 ⟨rfl, hb1⟩
      clear a0 a1 a2 a3 a4 b0 b1 b2 b3 b4 r0 r1 r2 r3 r4 f0 f1 f2 f3 f4 bw lt l1 l0
      replace XV := hid (XV.out.call hb1)
      obtain ⟨a0, a1, a2, a3, a4, b0, b1, b2, b3, b4, r0, r1, r2, r3, r4, f0, f1, f2, f3, f4, bw, lt, l1, l0⟩ := XV.out
      clear hb1
      have hA := ext_alloc w1 (.cells #[.bool p.1.neg, .string p.1.dig, .int .i64 p.1.exp] 27)
      clear a0 a1 a2 a3 a4 b0 b1 b2 b3 b4 r0 r1 r2 r3 r4 f0 f1 f2 f3 f4 bw lt l1 l0
      replace XV := hid (XV.out.call hA)
      obtain ⟨a0, a1, a2, a3, a4, b0, b1, b2, b3, b4, r0, r1, r2, r3, r4, f0, f1, f2, f3, f4, bw, lt, l1, l0⟩ := XV.out
      clear hA
      have Xp := hid (dbox_new w1 p.1)
      obtain ⟨p0, p1, p2, lp⟩ := Xp.out
      go_wp2
      refine bodyPost_ret (v := .tuple #[.agg #[.int .i64 0, .bool false, .string ⟨#[]⟩, .int .i64 0, .string ⟨#[]⟩], .int .i64 p.2]) (by simp [results, Tryz.results7, go_sem, r0, r1, r2, r3, r4, f0, f1, f2, f3, f4, lt, l1, l0]) rfl ⟨by rw [HE.out]; rfl, ?_⟩
      repeat' (first | (with_reducible exact bw) | (with_reducible refine Below.setCell ?_ ?_ _) | (with_reducible refine Below.alloc ?_ ?_ _) | (simp; done) | (simp; omega) | omega)
  · have hb : inB 1 op 6 = false := inB_false (by omega)
    rw [if_pos hin] at hV
    have HE := hid hV.symm
    clear hV hin g0 g1 g2 g3 g0' g1' g2' g3' C1 C2
    have XV := hid (vbox_start w x y)
    obtain ⟨a0, a1, a2, a3, a4, b0, b1, b2, b3, b4, r0, r1, r2, r3, r4, f0, f1, f2, f3, f4, bw, lt, l1, l0⟩ := XV.out
    go_enter Tryz.func7, Tryz.ntmps7
    go_wp2_with (go_at_call 28; refine (between_any _ _ _ _).mono ?_; rintro e wi ⟨rfl, rfl⟩)
    refine bodyPost_ret (v := .tuple #[.agg #[.int .i64 0, .bool false, .string ⟨#[]⟩, .int .i64 0, .string ⟨#[]⟩], .int .i64 3]) (by simp [results, Tryz.results7, go_sem, r0, r1, r2, r3, r4, f0, f1, f2, f3, f4, lt, l1, l0]) rfl ⟨by rw [HE.out]; rfl, ?_⟩
    repeat' (first | (with_reducible exact bw) | (with_reducible refine Below.setCell ?_ ?_ _) | (with_reducible refine Below.alloc ?_ ?_ _) | (simp; done) | (simp; omega) | omega)
end Go.Proofs.YthfmhenphnllfaaGreatDoor
