/-
  What is proved here: the reference's JSON reader: strings. No condition but that the reader lies in memory.
-/
import Derived.Test.YtlfkfofeenakhaaDoorJsS2
import Derived.Test.YtlfkfofeenakhaaDoorJsL3
import Derived.Test.YtlfkfofeenakhaaDoorPartS
import Derived.Laws.AppendOwn
import Derived.Laws.Build
namespace Go.Proofs.YtlfkfofeenakhaaDoor
open Go.RowKit
set_option linter.unusedVariables false
set_option linter.unusedSimpArgs false

theorem info_u8J : (Tryd.prog.info? 5).map (fun i => (i.zero, i.size, i.bytes)) = some (some (.int .u8 0), 1, 1) := by kernel_rfl
theorem byteJ (a : List UInt8) (b : UInt8) : byteVals (a ++ [b]) = byteVals a ++ [.int .u8 (b.toNat : Int)] := by simp [byteVals]
theorem byteJJ (a b : List UInt8) : byteVals (a ++ b) = byteVals a ++ byteVals b := by simp [byteVals]
/-- what a string leaves -/
def StrS (w w' : World) (g : Nat) (s : ByteArray) (d b : Nat) (nv : Value) (R : Bool × Nat × List UInt8) (e : Ending) : Prop :=
  ((R.1 = true ∧ e = .returned (.string (mkB R.2.2)) ∧ JS w' g s R.2.1 0 0 d b nv) ∨ (R.1 = false ∧ e = .returned (.string ⟨#[]⟩) ∧ ∃ q, q ≤ 5100 ∧ JS w' g s q 2 R.2.1 d b nv)) ∧ Kp g none w w'
/-- what is left to read; nothing behind an error -/
def meaJ (w : World) (g : Nat) : Nat := match w.cell? ⟨g, 2, none⟩ with | some (.int _ z) => if z = 0 then 6000 - atJ w g else 0 | _ => 0
theorem JS.mea {w : World} {g : Nat} {s : ByteArray} {p bd d b : Nat} {nv : Value} (h : JS w g s p 0 bd d b nv) : meaJ w g = 6000 - p := by
  unfold meaJ
  rw [h.cells.2.2.1, h.atJ]
  rfl
theorem JS.mea2 {w : World} {g : Nat} {s : ByteArray} {p cd bd d b : Nat} {nv : Value} (h : JS w g s p cd bd d b nv) (hc : cd ≠ 0) : meaJ w g = 0 := by
  unfold meaJ
  rw [h.cells.2.2.1]
  dsimp only
  rw [if_neg (by omega)]
theorem grow_js {w x w2 : World} {g q cd bd d b : Nat} {s : ByteArray} {v nv : Value} {o : Obj} (hc : JS x g s q cd bd d b nv) (hg : g < w.heap.size) (hx : w.heap.size ≤ x.heap.size) (hr : ∀ b, v.ownBlock = some b → w.heap.size ≤ b) (h : (x.drew.alloc o).grownBy w2 v.ownBlock) : JS w2 g s q cd bd d b nv := by
  have hal : Below x.drew.heap.size x.drew (x.drew.alloc o) := ext_alloc _ _
  have hgx : g < x.drew.heap.size := Nat.lt_of_lt_of_le hg hx
  exact ((h.block g (Nat.lt_of_lt_of_le hgx hal.size) (fun e => by have := hr g e.symm; omega)).trans (hal.block g hgx)).trans hc
theorem grow_kp {w x w2 : World} {g : Nat} {v : Value} {o : Obj} (hk : Kp g none w x) (hx : w.heap.size ≤ x.heap.size) (hr : ∀ b, v.ownBlock = some b → w.heap.size ≤ b) (h : (x.drew.alloc o).grownBy w2 v.ownBlock) : Kp g none w w2 := by
  have hk2 := (hk.drew).alloc o
  exact ⟨h.os.trans hk2.os, h.tape.trans hk2.tape, h.output.trans hk2.output, Nat.le_trans hk2.size h.size, fun k hb hgb _ => (h.block k (Nat.lt_of_lt_of_le hb hk2.size) (fun e => by have := hr k e.symm; omega)).trans (hk2.block k hb hgb (by simp))⟩
theorem grow_js1 {w x w2 : World} {g q cd bd d b : Nat} {s : ByteArray} {v nv : Value} {o : Obj} (hc : JS x g s q cd bd d b nv) (hg : g < w.heap.size) (hx : w.heap.size ≤ x.heap.size) (hr : ∀ b, v.ownBlock = some b → w.heap.size ≤ b) (h : (x.alloc o).grownBy w2 v.ownBlock) : JS w2 g s q cd bd d b nv := by
  have hal : Below x.heap.size x (x.alloc o) := ext_alloc _ _
  have hgx : g < x.heap.size := Nat.lt_of_lt_of_le hg hx
  exact ((h.block g (Nat.lt_of_lt_of_le hgx hal.size) (fun e => by have := hr g e.symm; omega)).trans (hal.block g hgx)).trans hc
theorem grow_kp1 {w x w2 : World} {g : Nat} {v : Value} {o : Obj} (hk : Kp g none w x) (hx : w.heap.size ≤ x.heap.size) (hr : ∀ b, v.ownBlock = some b → w.heap.size ≤ b) (h : (x.alloc o).grownBy w2 v.ownBlock) : Kp g none w w2 := by
  have hk2 := hk.alloc o
  exact ⟨h.os.trans hk2.os, h.tape.trans hk2.tape, h.output.trans hk2.output, Nat.le_trans hk2.size h.size, fun k hb hgb _ => (h.block k (Nat.lt_of_lt_of_le hb hk2.size) (fun e => by have := hr k e.symm; omega)).trans (hk2.block k hb hgb (by simp))⟩
theorem own_kp {w w' : World} {g base : Nat} {e : TypeId} {size n : Nat} {v : Value} {xs : List Value} (h : w.ownsRow base e size v n xs) (k : Kp g none w w') (hg : g < base) : w'.ownsRow base e size v n xs := by
  refine ⟨h.1, ?_⟩
  rcases h.2 with ⟨rfl, hn⟩ | ⟨b, cap, cur, rfl, h1, h2, h3⟩
  · exact Or.inl ⟨rfl, hn⟩
  · exact Or.inr ⟨b, cap, cur, rfl, h1, (k.block b (Array.getElem?_eq_some_iff.1 h2).1 (by omega) (by simp)).trans h2, h3⟩
set_option maxHeartbeats 64000000 in
set_option maxRecDepth 100000 in
theorem specJStr {g : Nat} {s : ByteArray} {p d b : Nat} {nv : Value} (w : World) (h : JS w g s p 0 0 d b nv) (hp : p < s.size) (hs : s.size ≤ 5000) :
    Calls Tryd.prog 67 #[.pointer (some ⟨g, 0, none⟩)] w fun e w' => StrS w w' g s d b nv (strP s.data.toList p) e := by
  obtain ⟨i0, hi, hz0, hz1, hz2⟩ := info_parts info_u8J
  obtain ⟨L, hL⟩ : ∃ L, s.data.toList = L := ⟨_, rfl⟩
  have hsl : s.size = L.length := by rw [← hL, Lib.size_eq]
  have CP := hid (fun (q : Nat) (w : World) (h : JS w g s q 0 0 d b nv) => specJPeek w h)
  have CF := hid (fun (q e : Nat) (w : World) (h : JS w g s q 0 0 d b nv) => specJFail 2 e w h)
  have CE := hid (fun (a q : Nat) (w : World) (h : JS w g s q 0 0 d b nv) (hq : q ≤ s.size) (ha : a ≤ s.size) => specJEscape a w h hq ha hs)
  rw [hL] at CP CE ⊢
  have HGI := hid (show ∀ (q : Nat) (h : q < s.size), gB L q = (s[q]'h).toNat ∧ L.getD q 0 = s[q]'h by
    subst hL
    intro q h
    have h1 : q < s.data.toList.length := by rw [← Lib.size_eq]; exact h
    exact ⟨gB_at h1, by rw [List.getD_eq_getElem?_getD, List.getElem?_eq_getElem h1]; rfl⟩)
  obtain ⟨R, hR⟩ : ∃ R, strP L p = R := ⟨_, rfl⟩
  obtain ⟨p1, hp1⟩ : ∃ x, p + 1 = x := ⟨_, rfl⟩
  have HR := hid (show strG L (L.length + 1) p1 [] = R by rw [← hp1]; exact hR)
  rw [hR]
  have HSL := hid hsl
  have HEI := hid (fun q a (h1 : q ≤ L.length) (h2 : a ≤ L.length) => escS_in L h1 h2)
  have hw' : (p : Int) + 1 = (p1 : Int) := by omega
  have hw : IntKind.i64.wrap (p1 : Int) = (p1 : Int) := IntWalk.i64_in _ (by omega)
  have hg : g < w.heap.size := h.cells.2.2.2.2.2.2.2.2.2.2.2.2.2
  obtain ⟨c0, c1, c2, c3, c4, c5, c6, y1, y2, y3, y4, y5, y6, hl⟩ := h.cells
  obtain ⟨w2, hw2⟩ : ∃ x, (w.setCell ⟨g, 1, none⟩ (.int .i64 (p1 : Int))).alloc (.cells #[] 5) = x := ⟨_, rfl⟩
  have hk1 : Kp g none w (w.setCell ⟨g, 1, none⟩ (.int .i64 (p1 : Int))) := (Kp.refl g none w).set 1 _
  have HJ2 := hid (show JS w2 g s p1 0 0 d b nv by rw [← hw2]; exact ((ext_alloc _ _).block g (Nat.lt_of_lt_of_le hg hk1.size)).trans (h.setP p1))
  have HK2 := hid (show Kp g none w w2 by rw [← hw2]; exact hk1.alloc _)
  have HO2 := hid (show w2.ownsRow w.heap.size 5 1 (.slice (some ⟨w.heap.size, 0, none⟩) 0 0) 0 [] by
    rw [← hw2]
    have h0 := World.ownsRow_lit (base := w.heap.size) (e := 5) (size := 1) (w.setCell ⟨g, 1, none⟩ (.int .i64 (p1 : Int))) #[] 0 hk1.size (by decide) rfl
    have h1 : (w.setCell ⟨g, 1, none⟩ (.int .i64 (p1 : Int))).heap.size = w.heap.size := by simp [World.setCell]
    rw [h1] at h0
    exact h0)
  have HP1 := hid hp1
  clear hL hsl hR h hp1 c0 c2 c3 c4 c5 c6 hk1
  go_enter Tryd.func67, Tryd.ntmps67
  go_wp2
  try rw [hw2]
  clear hw2 c1 y1 y2 y3 y4 y5 y6 hl hw hw'
  go_loopw [3, 4, 5, 6] (fun v3 _ _ _ wr => Kp g none w wr ∧ w.heap.size ≤ wr.heap.size ∧ ((∃ (q f : Nat) (out : List UInt8), q ≤ s.size ∧ s.size + 1 ≤ f + q ∧ out.length ≤ 4 * q ∧ JS wr g s q 0 0 d b nv ∧ wr.ownsRow w.heap.size 5 1 v3 out.length (byteVals out) ∧ Hid (strG L f q out = R)) ∨ (∃ q bd, q ≤ 5100 ∧ JS wr g s q 2 bd d b nv ∧ Hid (R = (false, bd, []))))) (fun _ _ _ _ wr => meaJ wr g)
  case atStart => exact ⟨HK2.out, HK2.out.size, Or.inl ⟨p1, L.length + 1, [], by have := HP1.out; omega, by have := HSL.out; omega, Nat.zero_le _, HJ2.out, HO2.out, HR⟩⟩
  case round =>
    obtain ⟨hk, hwr, hrel⟩ := hrel
    have HK := hid hk
    rcases hrel with ⟨q, f, out, hq, hf, hol, hj, hown, HQ⟩ | ⟨q, bd, hq, hj, HRE⟩
    rotate_left
    · have HJ := hid hj
      obtain ⟨c0, c1, c2, c3, c4, c5, c6, y1, y2, y3, y4, y5, y6, hl⟩ := hj.cells
      clear hj hk c0 c1 c3 c4 c5 c6 hi hz0 hz1 hz2
      go_wp2
      go_ret
      rw [HRE.out]
      exact ⟨Or.inr ⟨rfl, rfl, q, hq, HJ.out⟩, HK.out⟩
    have HJ := hid hj
    have HJW := hid hj
    have HO := hid hown
    obtain ⟨f, rfl⟩ : ∃ f', f = f' + 1 := ⟨f - 1, by omega⟩
    have HST := hid (show R = if L.length ≤ q ∨ gB L q < 32 then (false, q, []) else if gB L q = 34 then (true, q + 1, out) else if gB L q = 92 then (if (escS L (q + 1) q).1 = false then (false, (escS L (q + 1) q).2.2, []) else strG L f (escS L (q + 1) q).2.2 (out ++ enc (escS L (q + 1) q).2.1)) else strG L f (q + 1) (out ++ [L.getD q 0]) by rw [← HQ.out, strG])
    have CPQ := hid (CP.out q _ hj)
    obtain ⟨va, vc, rfl⟩ := own_slice hown
    obtain ⟨c0, c1, c2, c3, c4, c5, c6, y1, y2, y3, y4, y5, y6, hl⟩ := hj.cells
    clear hj hk hown c3 c4 c5 c6
    obtain ⟨G, hG⟩ : ∃ G, gB L q = G := ⟨_, rfl⟩
    rw [hG] at CPQ HST
    have HG := hid hG
    clear hG
    go_wp2_with fail
    refine CPQ.out.mono ?_
    rintro e w1 ⟨rfl, hqt⟩
    have HJ1 := hid (HJ.out.qt hqt)
    have HK1 := hid (HK.out.trans hqt.kp (RowOn.refl _ _))
    have HO1 := hid (show w1.ownsRow w.heap.size 5 1 (.slice va out.length vc) out.length (byteVals out) by obtain ⟨m, rfl⟩ := hqt; exact HO.out)
    have hwr1 : w.heap.size ≤ w1.heap.size := by rw [hqt.heap]; exact hwr
    clear hqt c0 c1 c2 y1 y2 y3 y4 y5 y6 hl
    obtain ⟨c0, c1, c2, c3, c4, c5, c6, y1, y2, y3, y4, y5, y6, hl⟩ := HJ1.out.cells
    clear c2 c3 c4 c5 c6
    by_cases hend : s.size ≤ q
    · have e1 : (s.size : Int) ≤ (q : Int) := by omega
      have e2 : ¬ q < s.size := by omega
      have HRE := hid (show R = (false, q, []) by rw [HST.out, if_pos (Or.inl (by have := HSL.out; omega))])
      clear hi hz0 hz1 hz2 HST
      go_wp2_with fail
      go_quiet (fail)
      obtain ⟨w3, hw3⟩ : ∃ x, w1.drewN nq = x := ⟨_, rfl⟩
      rw [hw3]
      have HJ3 := hid (show JS w3 g s q 0 0 d b nv by rw [← hw3]; exact HJ1.out.qt (Qt.one w1 nq))
      have HK3 := hid (show Kp g none w w3 by rw [← hw3]; exact HK1.out.drewN nq)
      clear hw3 c0 c1
      go_wp2_with fail
      refine (CF.out q q _ HJ3.out).mono ?_
      rintro e w4 ⟨rfl, hj, hk⟩
      have HJ4 := hid hj
      have HK4 := hid (HK3.out.trans hk (RowOn.refl _ _))
      clear hj hk
      go_wp2
      go_roundw
      case rel => exact ⟨HK4.out, HK4.out.size, Or.inr ⟨q, q, by omega, HJ4.out, HRE⟩⟩
      case measure =>
        have m1 := HJ4.out.mea2 (by decide)
        have m2 := HJ.out.mea
        rw [m1, m2]
        omega
    have hlt : q < s.size := by omega
    have f1 : ¬ (s.size : Int) ≤ (q : Int) := by omega
    have f2 : ¬ s.size ≤ q := by omega
    by_cases h32 : G < 32
    · have e1 : (G : Int) < 32 := by omega
      have HRE := hid (show R = (false, q, []) by rw [HST.out, if_pos (Or.inr h32)])
      clear hi hz0 hz1 hz2 HST
      go_wp2_with fail
      go_quiet (fail)
      obtain ⟨w3, hw3⟩ : ∃ x, w1.drewN nq = x := ⟨_, rfl⟩
      rw [hw3]
      have HJ3 := hid (show JS w3 g s q 0 0 d b nv by rw [← hw3]; exact HJ1.out.qt (Qt.one w1 nq))
      have HK3 := hid (show Kp g none w w3 by rw [← hw3]; exact HK1.out.drewN nq)
      clear hw3 c0 c1
      go_wp2_with fail
      refine (CF.out q q _ HJ3.out).mono ?_
      rintro e w4 ⟨rfl, hj, hk⟩
      have HJ4 := hid hj
      have HK4 := hid (HK3.out.trans hk (RowOn.refl _ _))
      clear hj hk
      go_wp2
      go_roundw
      case rel => exact ⟨HK4.out, HK4.out.size, Or.inr ⟨q, q, by omega, HJ4.out, HRE⟩⟩
      case measure =>
        have m1 := HJ4.out.mea2 (by decide)
        have m2 := HJ.out.mea
        rw [m1, m2]
        omega
    have e32 : ¬ (G : Int) < 32 := by omega
    have HST2 := hid (show R = if G = 34 then (true, q + 1, out) else if G = 92 then (if (escS L (q + 1) q).1 = false then (false, (escS L (q + 1) q).2.2, []) else strG L f (escS L (q + 1) q).2.2 (out ++ enc (escS L (q + 1) q).2.1)) else strG L f (q + 1) (out ++ [L.getD q 0]) by rw [HST.out, if_neg (by rintro (h | h); have := HSL.out; omega; exact h32 h)])
    obtain ⟨q1, hq1⟩ : ∃ x, q + 1 = x := ⟨_, rfl⟩
    rw [hq1] at HST2
    have hw' : (q : Int) + 1 = (q1 : Int) := by omega
    have hw : IntKind.i64.wrap (q1 : Int) = (q1 : Int) := IntWalk.i64_in _ (by omega)
    have HQ1 := hid hq1
    clear HST hq1 hend
    by_cases h34 : G = 34
    · subst h34
      have HRE := hid (show R = (true, q1, out) from HST2.out)
      clear hi hz0 hz1 hz2 HST2 h32 e32
      go_wp2_with fail
      go_quiet (fail)
      have HJQ := hid ((HJ1.out.qt (Qt.one w1 nq)).setP q1)
      have HKQ := hid ((HK1.out.drewN nq).set 1 (.int .i64 (q1 : Int)))
      have hown := ownsRow_setCell_below (show (w1.drewN nq).ownsRow w.heap.size 5 1 (.slice va out.length vc) out.length (byteVals out) from HO1.out) (a := ⟨g, 1, none⟩) hg (.int .i64 (q1 : Int))
      have hcv := own_string (P := Tryd.prog) (src := 44) (dst := 9) hown Tryd.underlying44 Tryd.underlying5 Tryd.underlying9
      clear hown
      go_wp2
      go_ret
      rw [HRE.out]
      exact ⟨Or.inl ⟨rfl, rfl, HJQ.out⟩, HKQ.out⟩
    have e34 : ((G : Int) == 34) = false := by rw [beq_eq_false_iff_ne]; omega
    by_cases h92 : G = 92
    · subst h92
      have HST3 := hid (show R = if (escS L q1 q).1 = false then (false, (escS L q1 q).2.2, []) else strG L f (escS L q1 q).2.2 (out ++ enc (escS L q1 q).2.1) from HST2.out)
      have CEQ := hid (fun (w : World) (h : JS w g s q1 0 0 d b nv) => CE.out q q1 w h (by have := HQ1.out; omega) hq)
      have HES := hid (HEI.out q1 q (by have := HQ1.out; have := HSL.out; omega) (by have := HSL.out; omega))
      obtain ⟨⟨xok, xv, xr⟩, hX⟩ : ∃ X, escS L q1 q = X := ⟨_, rfl⟩
      rw [hX] at HST3 CEQ HES
      clear HST2 hX h32 e32 h34 e34
      go_wp2_with fail
      go_quiet (fail)
      obtain ⟨w3, hw3⟩ : ∃ x, (w1.drewN nq).setCell ⟨g, 1, none⟩ (.int .i64 (q1 : Int)) = x := ⟨_, rfl⟩
      have HJ3 := hid (show JS w3 g s q1 0 0 d b nv by rw [← hw3]; exact (HJ1.out.qt (Qt.one w1 nq)).setP q1)
      have HK3 := hid (show Kp g none w w3 by rw [← hw3]; exact (HK1.out.drewN nq).set 1 (.int .i64 (q1 : Int)))
      have HO3 := hid (show w3.ownsRow w.heap.size 5 1 (.slice va out.length vc) out.length (byteVals out) by rw [← hw3]; exact ownsRow_setCell_below (show (w1.drewN nq).ownsRow w.heap.size 5 1 (.slice va out.length vc) out.length (byteVals out) from HO1.out) (a := ⟨g, 1, none⟩) hg (.int .i64 (q1 : Int)))
      have hwr3 : w.heap.size ≤ w3.heap.size := HK3.out.size
      go_upto_region 15 with fail
      try rw [hw3]
      clear hw3 c0 c1 y1 y2 y3 y4 y5 y6 hl hw hw'
      go_wp2_with fail
      refine (CEQ.out _ HJ3.out).mono ?_
      rintro e w4 ⟨hes, hk4⟩
      have HK4 := hid (HK3.out.trans hk4 (RowOn.refl _ _))
      have HO4 := hid (own_kp HO3.out hk4 hg)
      have hwr4 : w.heap.size ≤ w4.heap.size := HK4.out.size
      clear hk4
      rcases hes with ⟨hok, he, hj4⟩ | ⟨hok, he, q9, hq9, hj4⟩
      · try dsimp only at hok he hj4
        subst hok
        obtain rfl : e = _ := he
        have HJ4 := hid hj4
        have hpt := HES.out.2 rfl
        try dsimp only at hpt
        have hxr := HES.out.1
        try dsimp only at hxr
        have HRN := hid (show strG L f xr (out ++ enc xv) = R from HST3.out.symm)
        have hel := enc_len xv
        have CB := hid (fun (w : World) => specBytes xv hpt.2.1 hpt.2.2.1 w)
        obtain ⟨c0, c1, c2, c3, c4, c5, c6, y1, y2, y3, y4, y5, y6, hl⟩ := hj4.cells
        have hxr2 : xr ≤ s.size := by have := HSL.out; omega
        have hxr3 : q1 < xr := hpt.1
        clear hj4 c0 c1 c3 c4 c5 c6 hpt hxr
        go_wp2_with fail
        refine (CB.out _).mono ?_
        rintro e w5 ⟨rfl, rfl⟩
        obtain ⟨EN, hEN⟩ : ∃ E, enc xv = E := ⟨_, rfl⟩
        rw [hEN] at HRN hel ⊢
        clear hEN
        go_wp2_with ((at_builtin; refine wpList_append_own _ rfl _ _ 44 rfl w.heap.size 5 i0 (.int .u8 0) 1 1 Tryd.underlying44 hi hz0 hz1 hz2 rfl (by decide) _ _ _ rfl (HO4.out.alloc _) ⟨w4.heap.size, 0, none⟩ EN.length EN.length (byteVals EN) rfl ?c0 ?c1 ?c2 ?c3 ?c4 ?c5 ?_))
        case c0 => rw [byteVals_length, Nat.mul_one]
        case c1 => exact cells_new w4 (byteVals EN).toArray _
        case c2 =>
          intro u hu
          unfold byteVals at hu
          obtain ⟨x, _, rfl⟩ := List.mem_map.1 hu
          rfl
        case c3 => unfold maxLen; omega
        case c4 => omega
        case c5 => exact Nat.le_trans hwr4 (ext_alloc w4 _).size
        intro v' w6 hown6 hgrow6 _
        have HJ6 := hid (grow_js1 HJ4.out hg hwr4 (fun b hb => (HO4.out.lt b hb).1) hgrow6)
        have HK6 := hid (grow_kp1 HK4.out hwr4 (fun b hb => (HO4.out.lt b hb).1) hgrow6)
        have HO6 := hid (show w6.ownsRow w.heap.size 5 1 v' (out ++ EN).length (byteVals (out ++ EN)) by rw [List.length_append, byteJJ]; exact hown6)
        clear hown6 hgrow6 hi hz0 hz1 hz2 c2
        go_wp2
        go_roundw
        case rel => exact ⟨HK6.out, HK6.out.size, Or.inl ⟨xr, f, out ++ EN, hxr2, by have := HQ1.out; omega, by rw [List.length_append]; have := HQ1.out; omega, HJ6.out, HO6.out, HRN⟩⟩
        case measure =>
          have m1 := HJ6.out.mea
          have m2 := HJ.out.mea
          have := HQ1.out
          rw [m1, m2]
          omega
      · dsimp only at hok hj4
        subst hok
        obtain rfl : e = _ := he
        have HJ4 := hid hj4
        have HRE := hid (show R = (false, xr, []) from HST3.out)
        obtain ⟨c0, c1, c2, c3, c4, c5, c6, y1, y2, y3, y4, y5, y6, hl⟩ := hj4.cells
        clear hj4 c0 c1 c3 c4 c5 c6 hi hz0 hz1 hz2
        go_wp2
        go_roundw
        case rel => exact ⟨HK4.out, HK4.out.size, Or.inr ⟨q9, xr, hq9, HJ4.out, HRE⟩⟩
        case measure =>
          have m1 := HJ4.out.mea2 (by decide)
          have m2 := HJ.out.mea
          rw [m1, m2]
          omega
    have e92 : ((G : Int) == 92) = false := by rw [beq_eq_false_iff_ne]; omega
    have HRN := hid (show strG L f q1 (out ++ [s[q]'hlt]) = R by rw [HST2.out, if_neg h34, if_neg h92, (HGI.out q hlt).2])
    have hqi : (q : Int) < (s.size : Int) := by omega
    have hq0 : (0 : Int) ≤ (q : Int) := by omega
    clear HST2 h34 h92 h32
    go_wp2_with fail
    go_quiet (fail)
    obtain ⟨wr2, hwr2⟩ : ∃ x, w1.drewN nq = x := ⟨_, rfl⟩
    have HJ := hid (show JS wr2 g s q 0 0 d b nv by rw [← hwr2]; exact HJ1.out.qt (Qt.one w1 nq))
    have HK := hid (show Kp g none w wr2 by rw [← hwr2]; exact HK1.out.drewN nq)
    have HO := hid (show wr2.ownsRow w.heap.size 5 1 (.slice va out.length vc) out.length (byteVals out) by rw [← hwr2]; exact HO1.out)
    have hwr : w.heap.size ≤ wr2.heap.size := HK.out.size
    go_upto_region 6 with fail
    try rw [hwr2]
    clear hwr2 c0 c1 y1 y2 y3 y4 y5 y6 hl
    obtain ⟨c0, c1, c2, c3, c4, c5, c6, y1, y2, y3, y4, y5, y6, hl⟩ := HJ.out.cells
    clear c2 c3 c4 c5 c6
    refine wp_region_held_drew (S := fun w' => w'.cell? ⟨g, 0, none⟩ = some (.string s) ∧ w'.cell? ⟨g, 1, none⟩ = some (.int .i64 (q : Int))) (by kernel_rfl) ?_ (fun hHeld => ?_)
    · exact ⟨c0, c1⟩
    refine wpAnyH_take (i := 0) (v := ?_) rfl (by kernel_rfl) (by kernel_rfl) (by kernel_rfl) (fun _ _ _ h => h) (Or.inl ⟨by rfl, ?_⟩) (by assumption) ?_
    rotate_left
    · (intro w' hSw; (try dsimp only at hSw); go_simp; try (with_reducible rfl))
    change wpAnyH _ _ _ _ _ _ _ (Act.put _ (some 26) _) _
    try simp only [Act.put, List.setIfInBounds_toArray, List.set_cons_zero, List.set_cons_succ]
    refine wpAnyH_take (i := 1) (v := ?_) rfl (by kernel_rfl) (by kernel_rfl) (by kernel_rfl) (fun _ _ _ h => h) (Or.inl ⟨by rfl, ?_⟩) (by assumption) ?_
    rotate_left
    · (intro w' hSw; (try dsimp only at hSw); go_simp; try (with_reducible rfl))
    change wpAnyH _ _ _ _ _ _ _ (Act.put _ (some 27) _) _
    try simp only [Act.put, List.setIfInBounds_toArray, List.set_cons_zero, List.set_cons_succ]
    refine wpAnyH_take (i := 2) (v := ?_) rfl (by kernel_rfl) (by kernel_rfl) (by kernel_rfl) (fun _ _ _ h => h) (Or.inl ⟨by rfl, ?_⟩) (by assumption) ?_
    rotate_left
    · (intro w' hSw; (try dsimp only at hSw); go_simp; try (with_reducible rfl))
    change wpAnyH _ _ _ _ _ _ _ (Act.put _ (some 28) _) _
    try simp only [Act.put, List.setIfInBounds_toArray, List.set_cons_zero, List.set_cons_succ]
    refine wpAnyH_take (i := 3) (v := ?_) rfl (by kernel_rfl) (by kernel_rfl) (by kernel_rfl) (fun _ _ _ h => h) (Or.inl ⟨by rfl, ?_⟩) (by assumption) ?_
    rotate_left
    · (intro w' hSw; (try dsimp only at hSw); go_simp; try (with_reducible rfl))
    change wpAnyH _ _ _ _ _ _ _ (Act.put _ (some 29) _) _
    try simp only [Act.put, List.setIfInBounds_toArray, List.set_cons_zero, List.set_cons_succ]
    refine wpAnyH_take (i := 4) (v := ?_) rfl (by kernel_rfl) (by kernel_rfl) (by kernel_rfl) (fun _ _ _ h => h) (Or.inl ⟨by rfl, ?_⟩) (by assumption) ?_
    rotate_left
    · (intro w' hSw; (try dsimp only at hSw); go_simp; try (with_reducible rfl))
    change wpAnyH _ _ _ _ _ _ _ (Act.put _ (some 30) _) _
    try simp only [Act.put, List.setIfInBounds_toArray, List.set_cons_zero, List.set_cons_succ]
    refine wpAnyH_take (i := 5) (v := ?_) rfl (by kernel_rfl) (by kernel_rfl) (by kernel_rfl) (fun _ _ _ h => h) (Or.inl ⟨by rfl, ?_⟩) (by assumption) ?_
    rotate_left
    · (intro w' hSw; (try dsimp only at hSw); go_simp; try (with_reducible rfl))
    change wpAnyH _ _ _ _ _ _ _ (Act.put _ (some 31) _) _
    try simp only [Act.put, List.setIfInBounds_toArray, List.set_cons_zero, List.set_cons_succ]
    refine wpAnyH_take (i := 6) (v := ?_) rfl (by kernel_rfl) (by kernel_rfl) (by kernel_rfl) (fun _ _ _ h => h) (Or.inl ⟨by rfl, ?_⟩) (by assumption) ?_
    rotate_left
    · (intro w' hSw; (try dsimp only at hSw); go_simp; try (with_reducible rfl))
    change wpAnyH _ _ _ _ _ _ _ (Act.put _ (some 32) _) _
    try simp only [Act.put, List.setIfInBounds_toArray, List.set_cons_zero, List.set_cons_succ]
    refine wpAnyH_take (i := 7) (v := ?_) rfl (by kernel_rfl) (by kernel_rfl) (by kernel_rfl) (fun _ _ _ h => h) (Or.inl ⟨by rfl, ?_⟩) (by assumption) ?_
    rotate_left
    · (intro w' hSw; (try dsimp only at hSw); go_simp; try (with_reducible rfl))
    change wpAnyH _ _ _ _ _ _ _ (Act.put _ (some 33) _) _
    try simp only [Act.put, List.setIfInBounds_toArray, List.set_cons_zero, List.set_cons_succ]
    refine wpAnyH_take (i := 8) (v := ?_) rfl (by kernel_rfl) (by kernel_rfl) (by kernel_rfl) (fun _ _ _ h => h) (Or.inl ⟨by rfl, ?_⟩) (by assumption) ?_
    rotate_left
    · (intro w' hSw; (try dsimp only at hSw); go_simp; try (with_reducible rfl))
    change wpAnyH _ _ _ _ _ _ _ (Act.put _ (some 34) _) _
    try simp only [Act.put, List.setIfInBounds_toArray, List.set_cons_zero, List.set_cons_succ]
    refine wpAnyH_take (i := 9) (v := ?_) rfl (by kernel_rfl) (by kernel_rfl) (by kernel_rfl) (fun _ _ _ h => h) (Or.inl ⟨by rfl, ?_⟩) (by assumption) ?_
    rotate_left
    · (intro w' hSw; (try dsimp only at hSw); go_simp; try (with_reducible rfl))
    change wpAnyH _ _ _ _ _ _ _ (Act.put _ (some 35) _) _
    try simp only [Act.put, List.setIfInBounds_toArray, List.set_cons_zero, List.set_cons_succ]
    refine wpAnyH_ready (rs := [10]) (by kernel_rfl) (by simp) ?_
    refine AllReadyH.cons (i := 10) rfl (fun K hK => ?_) AllReadyH.nil
    simp only [List.getElem_toArray, List.getElem_cons_succ, List.getElem_cons_zero]
    rw [if_pos (by rfl)]
    go_simp
    have hOld := hHeld
    clear hHeld
    refine hK.out _ _ ?_ (fun hHeld => ?_)
    · (try dsimp only); first | exact hS5 | (refine ⟨?_, ?_⟩ <;> go_simp) | exact hHeld
    clear hK K hOld
    try simp only [Act.put, List.setIfInBounds_toArray, List.set_cons_zero, List.set_cons_succ]
    refine wpAnyH_ready (rs := [11]) (by kernel_rfl) (by simp) ?_
    refine AllReadyH.cons (i := 11) rfl (fun K hK => ?_) AllReadyH.nil
    simp only [List.getElem_toArray, List.getElem_cons_succ, List.getElem_cons_zero]
    rw [if_pos (by rfl)]
    refine wp_append_own _ (.tmp 26) (.tmp 36) 44 rfl w.heap.size 5 i0 (.int .u8 0) 1 1 Tryd.underlying44 hi hz0 hz1 hz2 rfl (by decide) _ _ _ (by first | rfl | simp [Act.eval, Act.put]) (World.ownsRow.alloc (w := wr2.drew) HO.out _) ⟨wr2.heap.size, 0, none⟩ 1 1 [.int .u8 ((s[q]'hlt : UInt8).toNat : Int)] (by first | rfl | simp [Act.eval, Act.put]) rfl (cells_new wr2.drew #[.int .u8 ((s[q]'hlt : UInt8).toNat : Int)] _) (by intro u hu; simp at hu; subst hu; rfl) (by unfold maxLen; omega) (by omega) (by exact Nat.le_trans hwr (ext_alloc wr2.drew _).size) ?_
    intro v' w5 hown5 hgrow5 _
    have HJ5 := hid (grow_js HJ.out hg hwr (fun b hb => (HO.out.lt b hb).1) hgrow5)
    have HK5 := hid (grow_kp HK.out hwr (fun b hb => (HO.out.lt b hb).1) hgrow5)
    have hw5 : w.heap.size ≤ w5.heap.size := Nat.le_trans hwr (Nat.le_trans (ext_alloc wr2.drew _).size hgrow5.size)
    have HO5 := hid (show w5.ownsRow w.heap.size 5 1 v' (out ++ [s[q]'hlt]).length (byteVals (out ++ [s[q]'hlt])) by rw [List.length_append, byteJ]; exact hown5)
    have hS5 : w5.cell? ⟨g, 0, none⟩ = some (.string s) ∧ w5.cell? ⟨g, 1, none⟩ = some (.int .i64 (q : Int)) := ⟨HJ5.out.cells.1, HJ5.out.cells.2.1⟩
    clear hown5 hgrow5
    have hOld := hHeld
    clear hHeld
    refine hK.out _ _ ?_ (fun hHeld => ?_)
    · (try dsimp only); first | exact hS5 | (refine ⟨?_, ?_⟩ <;> go_simp) | exact hHeld
    clear hK K hOld
    try simp only [Act.put, List.setIfInBounds_toArray, List.set_cons_zero, List.set_cons_succ]
    refine wpAnyH_take (i := 12) (v := ?_) rfl (by kernel_rfl) (by kernel_rfl) (by kernel_rfl) (fun _ _ _ h => h) (Or.inl ⟨by rfl, ?_⟩) (by assumption) ?_
    rotate_left
    · (intro w' hSw; (try dsimp only at hSw); go_simp; try (with_reducible rfl))
    change wpAnyH _ _ _ _ _ _ _ (Act.put _ (some 3) _) _
    try simp only [Act.put, List.setIfInBounds_toArray, List.set_cons_zero, List.set_cons_succ]
    refine wpAnyH_done (by kernel_rfl) ?_ _
    clear c0 c1 y1 y2 y3 y4 y5 y6 hl
    obtain ⟨c0, c1, c2, c3, c4, c5, c6, y1, y2, y3, y4, y5, y6, hl⟩ := HJ5.out.cells
    have HJ6 := hid (HJ5.out.setP q1)
    have HK6 := hid (HK5.out.set 1 (.int .i64 (q1 : Int)))
    have HO6 := hid (ownsRow_setCell_below HO5.out (a := ⟨g, 1, none⟩) hg (.int .i64 (q1 : Int)))
    clear c0 c2 c3 c4 c5 c6 hi hz0 hz1 hz2
    go_wp2
    go_roundw
    case rel => exact ⟨HK6.out, HK6.out.size, Or.inl ⟨q1, f, out ++ [s[q]'hlt], by have := HQ1.out; omega, by have := HQ1.out; omega, by rw [List.length_append]; have := HQ1.out; show out.length + 1 ≤ _; omega, HJ6.out, HO6.out, HRN⟩⟩
    case measure =>
      have m1 := HJ6.out.mea
      have m2 := HJ1.out.mea
      have m3 := HJW.out.mea
      have := HQ1.out
      rw [m1, m3]
      omega
end Go.Proofs.YtlfkfofeenakhaaDoor
