/-
  What is proved here: NumVal on both sides. No condition.
  What is proved here: the draw of a value. No condition but that the cursor lies in memory.
  What is proved here: the reference's ArrPut: what it returns, in rows of the call's own. No condition but the size.
  What is proved here: an array in a drawer's cell: what calls, puts and appends make of it. No program in sight but the types' numbers; no condition.
-/
import Derived.Test.YtommldonooicjaaDoorNat
import Derived.Test.YtommldonooicjaaDoorVal0
import Derived.Test.YtommldonooicjaaDoorDrawAlm
import Derived.Test.YtommldonooicjaaDoorCurDec
import Derived.Test.YtommldonooicjaaDoorValOk
import Derived.Deep.CutBlock
import Derived.Test.YtommldonooicjaaDoorPutSt
namespace Go.Proofs.YtommldonooicjaaDoor
open Go.RowKit
set_option linter.unusedVariables false
set_option linter.unusedSimpArgs false

def numVal (d : Dec) : Val := if decOk d then ⟨1, d, ⟨#[]⟩⟩ else val0

set_option maxHeartbeats 1000000 in
theorem specValOk_num {d : Dec} (w : World) (hd : Rd.rd (Old w) w [.bool d.neg, .string d.dig, .int .i64 d.exp] d) :
    Calls Tryd.prog 35 #[.agg #[.int .i64 1, .bool d.neg, .string d.dig, .int .i64 d.exp, .string ⟨#[]⟩]] w fun e w' => e = .returned (.bool (decOk d)) ∧ Below w.heap.size w w' := by
  obtain ⟨_, hs, he⟩ := rdDec hd
  go_enter Tryd.func35, Tryd.ntmps35
  go_wp2_with fail
  refine (specDecOk (d := d) _ (by exact rdDec_mk hs he)).mono ?_
  rintro e w1 ⟨rfl, hb⟩
  go_wp2
  go_ret
  exact ⟨rfl, ext_trans (ext_alloc _ _) hb⟩

set_option maxHeartbeats 1000000 in
theorem specSound_num {d : Dec} (w : World) (hd : Rd.rd (Old w) w [.bool d.neg, .string d.dig, .int .i64 d.exp] d) :
    Calls Tryd.prog 61 #[.agg #[.int .i64 1, .bool d.neg, .string d.dig, .int .i64 d.exp, .string ⟨#[]⟩]] w fun e w' => ∃ cs' : Array Value, e = .returned (.agg cs') ∧ Rd.rd (Old w') w' cs'.toList (numVal d) ∧ Below w.heap.size w w' := by
  obtain ⟨_, hs, he⟩ := rdDec hd
  obtain ⟨b, hb⟩ : ∃ b, decOk d = b := ⟨_, rfl⟩
  have HB := hid hb
  clear hb
  cases b
  · go_enter Tryd.func61, Tryd.ntmps61
    go_wp2_with fail
    refine (specValOk_num (d := d) _ (by exact rdDec_mk hs he)).mono ?_
    rintro e w1 ⟨rfl, hb⟩
    rw [HB.out]
    obtain ⟨hc1, hf1⟩ := bcell hb
    have hl : w.heap.size + 1 < w1.heap.size := by have := hb.size; (try simp at this); omega
    have hl' : w.heap.size < w1.heap.size := by omega
    have hbw : Below w.heap.size w w1 := ext_trans (ext_trans (ext_alloc _ _) (ext_alloc _ _)) hb
    go_wp2
    refine bodyPost_ret (v := .agg #[.int .i64 0, .bool false, .string ⟨#[]⟩, .int .i64 0, .string ⟨#[]⟩]) (by simp [results, Tryd.results61, go_sem, hc1, hl, hl']) rfl ⟨_, rfl, ?_, ?_⟩
    · unfold numVal; rw [HB.out]; exact rd_val0
    · repeat' (first | (with_reducible exact hbw) | (with_reducible refine Below.setCell ?_ ?_ _) | (simp; done) | (simp; omega) | omega)
  · go_enter Tryd.func61, Tryd.ntmps61
    go_wp2_with fail
    refine (specValOk_num (d := d) _ (by exact rdDec_mk hs he)).mono ?_
    rintro e w1 ⟨rfl, hb⟩
    rw [HB.out]
    obtain ⟨hc1, hf1⟩ := bcell hb
    have hl : w.heap.size + 1 < w1.heap.size := by have := hb.size; (try simp at this); omega
    have hl' : w.heap.size < w1.heap.size := by omega
    have hbw : Below w.heap.size w w1 := ext_trans (ext_trans (ext_alloc _ _) (ext_alloc _ _)) hb
    go_wp2
    refine bodyPost_ret (v := .agg #[.int .i64 1, .bool d.neg, .string d.dig, .int .i64 d.exp, .string ⟨#[]⟩]) (by simp [results, Tryd.results61, go_sem, hc1, hl, hl']) rfl ⟨_, rfl, ?_, ?_⟩
    · unfold numVal; rw [HB.out]; exact rdVal_mk (x := ⟨1, d, ⟨#[]⟩⟩) (show (-9223372036854775808 : Int) ≤ 1 ∧ (1 : Int) ≤ 9223372036854775807 by decide) hs he (show (⟨#[]⟩ : ByteArray).size ≤ 9223372036854775807 by decide)
    · repeat' (first | (with_reducible exact hbw) | (with_reducible refine Below.setCell ?_ ?_ _) | (simp; done) | (simp; omega) | omega)

set_option maxHeartbeats 1000000 in
theorem specNumVal {cs : Array Value} {d : Dec} (w : World) (hrd : Rd.rd (Old w) w cs.toList d) :
    Calls Tryd.prog 58 #[.agg cs] w fun e w' => ∃ cs' : Array Value, e = .returned (.agg cs') ∧ Rd.rd (Old w') w' cs'.toList (numVal d) ∧ Below w.heap.size w w' := by
  obtain ⟨hcs, hs, he⟩ := rdDec hrd
  obtain rfl := arr_of_list hcs
  clear hcs hrd
  go_enter Tryd.func58, Tryd.ntmps58
  go_wp2_with fail
  refine (specSound_num (d := d) _ (by exact rdDec_mk hs he)).mono ?_
  rintro e w1 ⟨cs1, rfl, hr, hb⟩
  obtain ⟨hcs1, g0, g1, g2, g3⟩ := rdVal hr
  obtain rfl := arr_of_list hcs1
  obtain ⟨hc1, hf1⟩ := bcell hb
  have hl : w.heap.size + 1 < w1.heap.size := by have := hb.size; (try simp at this); omega
  have hl' : w.heap.size < w1.heap.size := by omega
  have hbw : Below w.heap.size w w1 := ext_trans (ext_trans (ext_alloc _ _) (ext_alloc _ _)) hb
  clear hcs1 hr
  go_wp2
  refine bodyPost_ret (v := .agg #[.int .i64 (numVal d).kind, .bool (numVal d).num.neg, .string (numVal d).num.dig, .int .i64 (numVal d).num.exp, .string (numVal d).text]) (by simp [results, Tryd.results58, go_sem, hc1, hl, hl']) rfl ⟨_, rfl, ?_, ?_⟩
  · exact rdVal_mk g0 g1 g2 g3
  · repeat' (first | (with_reducible exact hbw) | (with_reducible refine Below.setCell ?_ ?_ _) | (simp; done) | (simp; omega) | omega)

end Go.Proofs.YtommldonooicjaaDoor

namespace Go.Proofs.YtommldonooicjaaDoor
open Go.RowKit
set_option linter.unusedVariables false
set_option linter.unusedSimpArgs false

/-- a value of bounded sizes -/
def vS (n : Nat) (x : Val) : Prop := (-9223372036854775808 ≤ x.kind ∧ x.kind ≤ 9223372036854775807) ∧ x.num.dig.size ≤ 20000 ∧ (-9223372036854775808 ≤ x.num.exp ∧ x.num.exp ≤ 9223372036854775807) ∧ x.text.size ≤ n
theorem vS0 {n : Nat} : vS n val0 := ⟨by decide, by decide, by decide, Nat.zero_le _⟩
theorem vS_num {n : Nat} {d : Dec} (h1 : d.dig.size ≤ 100) (h2 : -9223372036854775808 ≤ d.exp ∧ d.exp ≤ 9223372036854775807) : vS n (numVal d) := by
  unfold numVal
  split
  · exact ⟨(show (-9223372036854775808 : Int) ≤ 1 ∧ (1 : Int) ≤ 9223372036854775807 by decide), by show d.dig.size ≤ 20000; omega, h2, by show (0 : Nat) ≤ _; omega⟩
  · exact vS0
theorem vS_text {n : Nat} {s : ByteArray} (h : s.size ≤ n) : vS n (textVal s) := by
  unfold textVal
  split
  · exact ⟨(show (-9223372036854775808 : Int) ≤ 2 ∧ (2 : Int) ≤ 9223372036854775807 by decide), by show (0 : Nat) ≤ _; omega, (show (-9223372036854775808 : Int) ≤ 0 ∧ (0 : Int) ≤ 9223372036854775807 by decide), h⟩
  · exact vS0
theorem vS_sound {n : Nat} {x : Val} (h : vS n x) : vS n (soundVal x) := by
  unfold soundVal
  split
  · exact h
  · exact vS0
/-- a value in a block of its own -/
def VB (w : World) (g : Nat) (x : Val) : Prop := w.heap[g]? = some (.cells #[.int .i64 x.kind, .bool x.num.neg, .string x.num.dig, .int .i64 x.num.exp, .string x.text] 31 (0, 0))
theorem VB.keep {w w' : World} {g : Nat} {x : Val} (h : VB w g x) (e : w'.heap[g]? = w.heap[g]?) : VB w' g x := e.trans h
theorem VB.lt {w : World} {g : Nat} {x : Val} (h : VB w g x) : g < w.heap.size := (Array.getElem?_eq_some_iff.1 h).1
theorem VB.grown {w w' : World} {g p : Nat} {x : Val} (h : VB w g x) (hg : w.grownBy w' (some p)) (hne : p ≠ g) : VB w' g x := h.keep (hg.block g h.lt (fun e => hne (Option.some.inj e).symm))
theorem VB.later {w w' : World} {g : Nat} {x : Val} (h : VB w g x) (hb : Below w.heap.size w w') : VB w' g x := h.keep (hb.block g h.lt)
theorem VB.far {w : World} {g q o : Nat} {x : Val} (h : VB w g x) (hne : g ≠ q) (v : Value) : VB (w.setCell ⟨q, o, none⟩ v) g x := h.keep (heap_setCell_other w ⟨q, o, none⟩ g v hne)
theorem VB.cells {w : World} {g : Nat} {x : Val} (h : VB w g x) : (w.cell? ⟨g, 0, none⟩ = some (.int .i64 x.kind) ∧ w.cell? ⟨g, 1, none⟩ = some (.bool x.num.neg) ∧ w.cell? ⟨g, 2, none⟩ = some (.string x.num.dig) ∧ w.cell? ⟨g, 3, none⟩ = some (.int .i64 x.num.exp) ∧ w.cell? ⟨g, 4, none⟩ = some (.string x.text)) ∧
    (w.frozen? ⟨g, 0, none⟩ = false ∧ w.frozen? ⟨g, 1, none⟩ = false ∧ w.frozen? ⟨g, 2, none⟩ = false ∧ w.frozen? ⟨g, 3, none⟩ = false ∧ w.frozen? ⟨g, 4, none⟩ = false) ∧ g < w.heap.size :=
  ⟨⟨cell_of_row _ _ 0 _ _ _ h, cell_of_row _ _ 1 _ _ _ h, cell_of_row _ _ 2 _ _ _ h, cell_of_row _ _ 3 _ _ _ h, cell_of_row _ _ 4 _ _ _ h⟩,
   ⟨frozen_of_row _ _ 0 _ _ h, frozen_of_row _ _ 1 _ _ h, frozen_of_row _ _ 2 _ _ h, frozen_of_row _ _ 3 _ _ h, frozen_of_row _ _ 4 _ _ h⟩, h.lt⟩
theorem set_of {w : World} {b i : Nat} {cs cs' : Array Value} {v : Value} {t : TypeId} (h : w.heap[b]? = some (.cells cs t (0, 0))) (e : cs.setIfInBounds i v = cs') : (w.setCell ⟨b, i, none⟩ v).heap[b]? = some (.cells cs' t (0, 0)) := by
  subst e
  exact heap_setCell_same w b i _ _ _ h
theorem VB.set5 {w : World} {g : Nat} {x : Val} (h : VB w g x) (y : Val) : VB (((((w.setCell ⟨g, 0, none⟩ (.int .i64 y.kind)).setCell ⟨g, 1, none⟩ (.bool y.num.neg)).setCell ⟨g, 2, none⟩ (.string y.num.dig)).setCell ⟨g, 3, none⟩ (.int .i64 y.num.exp)).setCell ⟨g, 4, none⟩ (.string y.text)) g y :=
  set_of (set_of (set_of (set_of (set_of h rfl) rfl) rfl) rfl) rfl
theorem VB.kind {w : World} {g : Nat} {x : Val} (h : VB w g x) (r : Int) : VB (w.setCell ⟨g, 0, none⟩ (.int .i64 r)) g ⟨r, x.num, x.text⟩ := set_of h rfl
theorem VB.text {w : World} {g : Nat} {x : Val} (h : VB w g x) (s : ByteArray) : VB (w.setCell ⟨g, 4, none⟩ (.string s)) g ⟨x.kind, x.num, s⟩ := set_of h rfl
theorem VB.num {w : World} {g : Nat} {x : Val} (h : VB w g x) (n : Bool) (d : ByteArray) (e : Int) : VB (((w.setCell ⟨g, 1, none⟩ (.bool n)).setCell ⟨g, 2, none⟩ (.string d)).setCell ⟨g, 3, none⟩ (.int .i64 e)) g ⟨x.kind, ⟨n, d, e⟩, x.text⟩ := set_of (set_of (set_of h rfl) rfl) rfl
theorem vS_up {x : Val} (h : vS 15000 x) : vS 20000 x := ⟨h.1, h.2.1, h.2.2.1, Nat.le_trans h.2.2.2 (by decide)⟩
theorem vS_rd {n : Nat} {S : Nat → Prop} {w : World} {x : Val} (h : vS n x) (hn : n ≤ 20000) : Rd.rd S w [.int .i64 x.kind, .bool x.num.neg, .string x.num.dig, .int .i64 x.num.exp, .string x.text] x :=
  rdVal_mk h.1 (Nat.le_trans h.2.1 (by decide)) h.2.2.1 (Nat.le_trans h.2.2.2 (Nat.le_trans hn (by decide)))
/-- a value is returned -/
def ValE (x : Val) (e : Ending) : Prop := e = .returned (.agg #[.int .i64 x.kind, .bool x.num.neg, .string x.num.dig, .int .i64 x.num.exp, .string x.text])
theorem valE_of {S : Nat → Prop} {w : World} {cs : Array Value} {x : Val} {e : Ending} (h : e = .returned (.agg cs)) (hr : Rd.rd S w cs.toList x) : ValE x e := by
  obtain ⟨hcs, _⟩ := rdVal hr
  obtain rfl := arr_of_list hcs
  exact h
set_option maxHeartbeats 32000000 in
set_option maxRecDepth 100000 in
theorem curVal {B p k : Nat} (w : World) (hc : Cur B w p k) (hk : k ≤ 500000000000) :
    Calls Tryd.prog 28 #[.pointer (some ⟨p, 0, none⟩)] w fun e w' => ∃ x : Val, vS 20000 x ∧ ValE x e ∧ ∃ k', k' ≤ k + 2000 ∧ Cur B w' p k' ∧ w.grownBy w' (some p) := by
  have hlt := hc.lt
  have hpz : p ≠ w.heap.size := by omega
  have hpv : p ≠ w.heap.size + 1 := by omega
  obtain ⟨w2, hw2⟩ : ∃ y, (w.alloc (.cells #[.int .i64 0, .bool false, .string ⟨#[]⟩, .int .i64 0, .string ⟨#[]⟩] 31)).alloc (.cells #[.int .i64 0, .bool false, .string ⟨#[]⟩, .int .i64 0, .string ⟨#[]⟩] 31) = y := ⟨_, rfl⟩
  have hz0 : VB ((w.alloc (.cells #[.int .i64 0, .bool false, .string ⟨#[]⟩, .int .i64 0, .string ⟨#[]⟩] 31)).alloc (.cells #[.int .i64 0, .bool false, .string ⟨#[]⟩, .int .i64 0, .string ⟨#[]⟩] 31)) w.heap.size val0 := VB.later (heap_alloc_new w _) (ext_alloc _ _)
  have hv0 : VB ((w.alloc (.cells #[.int .i64 0, .bool false, .string ⟨#[]⟩, .int .i64 0, .string ⟨#[]⟩] 31)).alloc (.cells #[.int .i64 0, .bool false, .string ⟨#[]⟩, .int .i64 0, .string ⟨#[]⟩] 31)) (w.heap.size + 1) val0 := by
    have := heap_alloc_new (w.alloc (.cells #[.int .i64 0, .bool false, .string ⟨#[]⟩, .int .i64 0, .string ⟨#[]⟩] 31)) (.cells #[.int .i64 0, .bool false, .string ⟨#[]⟩, .int .i64 0, .string ⟨#[]⟩] 31)
    rw [show (w.alloc (.cells #[.int .i64 0, .bool false, .string ⟨#[]⟩, .int .i64 0, .string ⟨#[]⟩] 31)).heap.size = w.heap.size + 1 by simp] at this
    exact this
  have HZ_0 := hid (show VB w2 w.heap.size val0 by rw [← hw2]; repeat' (first | (with_reducible exact hz0) | (with_reducible refine VB.far ?_ ?_ _) | omega))
  have HV_0 := hid (show VB w2 (w.heap.size + 1) val0 by rw [← hw2]; exact hv0)
  have HC_0 := hid (show Cur B w2 p k by rw [← hw2]; repeat' (first | (with_reducible exact hc) | (with_reducible refine Cur.far ?_ ?_ _) | (with_reducible refine Cur.alloc ?_ _) | omega))
  have HG_0 := hid (show w.grownBy w2 (some p) by rw [← hw2]; repeat' (first | (with_reducible exact (grown_refl w (some p))) | (with_reducible refine grown_new ?_ ?_ _) | (with_reducible refine grown_alloc ?_ _) | omega))
  clear hz0 hv0 hc
  have HQX := hid hw2
  clear hw2
  go_enter Tryd.func28, Tryd.ntmps28
  go_upto_region 2 with fail
  try rw [HQX.out]
  clear HQX
  go_wp2_with fail
  refine (curPick 7 _ HC_0.out (by omega) (by omega)).mono ?_
  rintro e w_1 ⟨m, rfl, hm7, k_1, hk_1, hc_1, hg_1⟩
  have HC_1 := hid hc_1
  have HG_1 := hid (grown_trans HG_0.out hg_1)
  have HZ_1 := hid (HZ_0.out.grown hg_1 hpz)
  have HV_1 := hid (HV_0.out.grown hg_1 hpv)
  clear hc_1 hg_1
  clear HC_0 HG_0 HZ_0 HV_0
  have hm6 : m = 0 ∨ m = 1 ∨ m = 2 ∨ m = 3 ∨ m = 4 ∨ m = 5 ∨ m = 6 := by omega
  clear hm7
  go_upto_block 0 with fail
  go_cut [7, 13, 18, 24, 31] from 5 (fun _ _ _ _ _ wx => ∃ (x : Val) (k' : Nat), vS 15000 x ∧ VB wx w.heap.size val0 ∧ VB wx (w.heap.size + 1) x ∧ k' ≤ k + 1100 ∧ Cur B wx p k' ∧ w.grownBy wx (some p))
  case first =>
    rcases hm6 with hm | hm | hm | hm | hm | hm | hm
    · have f0 : ((m : Int) == 0) = true := by simp [hm]
      have f1 : ((m : Int) == 1) = false := by simp [hm]
      have f2 : ((m : Int) == 2) = false := by simp [hm]
      have f3 : ((m : Int) == 3) = false := by simp [hm]
      have f4 : ((m : Int) == 4) = false := by simp [hm]
      have f5 : ((m : Int) == 5) = false := by simp [hm]
      clear hm
      go_wp2_with fail
      refine (curDec _ HC_1.out (by omega)).mono ?_
      rintro e w_d ⟨⟨dn, dg, de, rfl, hd1, hd2, hd3⟩, k_d, hk_d, hc_d, hg_d⟩
      have HC_d := hid hc_d
      have HG_d := hid (grown_trans HG_1.out hg_d)
      have HZ_d := hid (HZ_1.out.grown hg_d hpz)
      have HV_d := hid (HV_1.out.grown hg_d hpv)
      clear hc_d hg_d
      go_wp2_with fail
      refine (specNumVal (d := ⟨dn, dg, de⟩) _ (by exact rdDec_mk (x := ⟨dn, dg, de⟩) (by show dg.size ≤ _; omega) ⟨hd2, hd3⟩)).mono ?_
      rintro e w_m ⟨cs_m, he_m, hr_m, hb_m⟩
      obtain ⟨hcs_m, _⟩ := rdVal hr_m
      obtain rfl := arr_of_list hcs_m
      subst he_m
      obtain ⟨x, hx⟩ : ∃ x, numVal ⟨dn, dg, de⟩ = x := ⟨_, rfl⟩
      have HVS := hid (show vS 15000 x by rw [← hx]; exact vS_num hd1 ⟨hd2, hd3⟩)
      rw [hx]
      clear hr_m hx hcs_m
      have HC_m := hid (HC_d.out.later hb_m)
      have HG_m := hid (grown_trans HG_d.out (below_grown (r := some p) hb_m))
      have HZ_m := hid (HZ_d.out.later hb_m)
      have HV_m := hid (HV_d.out.later hb_m)
      clear hb_m
      obtain ⟨⟨z0, z1, z2, z3, z4⟩, ⟨y0, y1, y2, y3, y4⟩, hzl⟩ := HZ_m.out.cells
      obtain ⟨⟨v0, v1, v2, v3, v4⟩, ⟨u0, u1, u2, u3, u4⟩, hvl⟩ := HV_m.out.cells
      go_wp2
      go_meet
      case rel =>
        refine ⟨x, k_d, HVS.out, ?_, HV_m.out.set5 _, by omega, ?_, ?_⟩
        · repeat' (first | (with_reducible exact HZ_m.out) | (with_reducible refine VB.far ?_ ?_ _) | omega)
        · repeat' (first | (with_reducible exact HC_m.out) | (with_reducible refine Cur.far ?_ ?_ _) | (with_reducible refine Cur.alloc ?_ _) | omega)
        · repeat' (first | (with_reducible exact HG_m.out) | (with_reducible refine grown_new ?_ ?_ _) | (with_reducible refine grown_alloc ?_ _) | omega)
    · have f0 : ((m : Int) == 0) = false := by simp [hm]
      have f1 : ((m : Int) == 1) = true := by simp [hm]
      have f2 : ((m : Int) == 2) = false := by simp [hm]
      have f3 : ((m : Int) == 3) = false := by simp [hm]
      have f4 : ((m : Int) == 4) = false := by simp [hm]
      have f5 : ((m : Int) == 5) = false := by simp [hm]
      clear hm
      go_wp2_with fail
      refine (curDec _ HC_1.out (by omega)).mono ?_
      rintro e w_d ⟨⟨dn, dg, de, rfl, hd1, hd2, hd3⟩, k_d, hk_d, hc_d, hg_d⟩
      have HC_d := hid hc_d
      have HG_d := hid (grown_trans HG_1.out hg_d)
      have HZ_d := hid (HZ_1.out.grown hg_d hpz)
      have HV_d := hid (HV_1.out.grown hg_d hpv)
      clear hc_d hg_d
      go_wp2_with fail
      refine (specNumVal (d := ⟨dn, dg, de⟩) _ (by exact rdDec_mk (x := ⟨dn, dg, de⟩) (by show dg.size ≤ _; omega) ⟨hd2, hd3⟩)).mono ?_
      rintro e w_m ⟨cs_m, he_m, hr_m, hb_m⟩
      obtain ⟨hcs_m, _⟩ := rdVal hr_m
      obtain rfl := arr_of_list hcs_m
      subst he_m
      obtain ⟨x, hx⟩ : ∃ x, numVal ⟨dn, dg, de⟩ = x := ⟨_, rfl⟩
      have HVS := hid (show vS 15000 x by rw [← hx]; exact vS_num hd1 ⟨hd2, hd3⟩)
      rw [hx]
      clear hr_m hx hcs_m
      have HC_m := hid (HC_d.out.later hb_m)
      have HG_m := hid (grown_trans HG_d.out (below_grown (r := some p) hb_m))
      have HZ_m := hid (HZ_d.out.later hb_m)
      have HV_m := hid (HV_d.out.later hb_m)
      clear hb_m
      obtain ⟨⟨z0, z1, z2, z3, z4⟩, ⟨y0, y1, y2, y3, y4⟩, hzl⟩ := HZ_m.out.cells
      obtain ⟨⟨v0, v1, v2, v3, v4⟩, ⟨u0, u1, u2, u3, u4⟩, hvl⟩ := HV_m.out.cells
      go_wp2
      go_meet
      case rel =>
        refine ⟨x, k_d, HVS.out, ?_, HV_m.out.set5 _, by omega, ?_, ?_⟩
        · repeat' (first | (with_reducible exact HZ_m.out) | (with_reducible refine VB.far ?_ ?_ _) | omega)
        · repeat' (first | (with_reducible exact HC_m.out) | (with_reducible refine Cur.far ?_ ?_ _) | (with_reducible refine Cur.alloc ?_ _) | omega)
        · repeat' (first | (with_reducible exact HG_m.out) | (with_reducible refine grown_new ?_ ?_ _) | (with_reducible refine grown_alloc ?_ _) | omega)
    · have f0 : ((m : Int) == 0) = false := by simp [hm]
      have f1 : ((m : Int) == 1) = false := by simp [hm]
      have f2 : ((m : Int) == 2) = true := by simp [hm]
      have f3 : ((m : Int) == 3) = false := by simp [hm]
      have f4 : ((m : Int) == 4) = false := by simp [hm]
      have f5 : ((m : Int) == 5) = false := by simp [hm]
      clear hm
      go_wp2_with fail
      refine (curWord 4 _ HC_1.out (by omega) (by omega)).mono ?_
      rintro e w_d ⟨s, rfl, hs, k_d, hk_d, hc_d, hg_d⟩
      have HC_d := hid hc_d
      have HG_d := hid (grown_trans HG_1.out hg_d)
      have HZ_d := hid (HZ_1.out.grown hg_d hpz)
      have HV_d := hid (HV_1.out.grown hg_d hpv)
      clear hc_d hg_d
      go_wp2_with fail
      refine (specTextVal s _ (by omega)).mono ?_
      rintro e w_m ⟨cs_m, he_m, hr_m, hb_m⟩
      obtain ⟨hcs_m, _⟩ := rdVal hr_m
      obtain rfl := arr_of_list hcs_m
      subst he_m
      obtain ⟨x, hx⟩ : ∃ x, textVal s = x := ⟨_, rfl⟩
      have HVS := hid (show vS 15000 x by rw [← hx]; exact vS_text (by omega))
      rw [hx]
      clear hr_m hx hcs_m
      have HC_m := hid (HC_d.out.later hb_m)
      have HG_m := hid (grown_trans HG_d.out (below_grown (r := some p) hb_m))
      have HZ_m := hid (HZ_d.out.later hb_m)
      have HV_m := hid (HV_d.out.later hb_m)
      clear hb_m
      obtain ⟨⟨z0, z1, z2, z3, z4⟩, ⟨y0, y1, y2, y3, y4⟩, hzl⟩ := HZ_m.out.cells
      obtain ⟨⟨v0, v1, v2, v3, v4⟩, ⟨u0, u1, u2, u3, u4⟩, hvl⟩ := HV_m.out.cells
      go_wp2
      go_meet
      case rel =>
        refine ⟨x, k_d, HVS.out, ?_, HV_m.out.set5 _, by omega, ?_, ?_⟩
        · repeat' (first | (with_reducible exact HZ_m.out) | (with_reducible refine VB.far ?_ ?_ _) | omega)
        · repeat' (first | (with_reducible exact HC_m.out) | (with_reducible refine Cur.far ?_ ?_ _) | (with_reducible refine Cur.alloc ?_ _) | omega)
        · repeat' (first | (with_reducible exact HG_m.out) | (with_reducible refine grown_new ?_ ?_ _) | (with_reducible refine grown_alloc ?_ _) | omega)
    · have f0 : ((m : Int) == 0) = false := by simp [hm]
      have f1 : ((m : Int) == 1) = false := by simp [hm]
      have f2 : ((m : Int) == 2) = false := by simp [hm]
      have f3 : ((m : Int) == 3) = true := by simp [hm]
      have f4 : ((m : Int) == 4) = false := by simp [hm]
      have f5 : ((m : Int) == 5) = false := by simp [hm]
      clear hm
      go_wp2_with fail
      refine (curAlmost _ HC_1.out (by omega)).mono ?_
      rintro e w_d ⟨s, rfl, hs, k_d, hk_d, hc_d, hg_d⟩
      have HC_d := hid hc_d
      have HG_d := hid (grown_trans HG_1.out hg_d)
      have HZ_d := hid (HZ_1.out.grown hg_d hpz)
      have HV_d := hid (HV_1.out.grown hg_d hpv)
      clear hc_d hg_d
      have hv3 : vS 15000 (⟨3, dec0, s⟩ : Val) := ⟨(show (-9223372036854775808 : Int) ≤ 3 ∧ (3 : Int) ≤ 9223372036854775807 by decide), by show (0 : Nat) ≤ _; omega, (show (-9223372036854775808 : Int) ≤ 0 ∧ (0 : Int) ≤ 9223372036854775807 by decide), by show s.size ≤ _; omega⟩
      go_wp2_with fail
      refine (specSound (x := ⟨3, dec0, s⟩) _ (by exact vS_rd hv3 (by decide))).mono ?_
      rintro e w_m ⟨cs_m, he_m, hr_m, hb_m⟩
      obtain ⟨hcs_m, _⟩ := rdVal hr_m
      obtain rfl := arr_of_list hcs_m
      subst he_m
      obtain ⟨x, hx⟩ : ∃ x, soundVal ⟨3, dec0, s⟩ = x := ⟨_, rfl⟩
      have HVS := hid (show vS 15000 x by rw [← hx]; exact vS_sound hv3)
      rw [hx]
      clear hr_m hx hcs_m
      have HC_m := hid (HC_d.out.later hb_m)
      have HG_m := hid (grown_trans HG_d.out (below_grown (r := some p) hb_m))
      have HZ_m := hid (HZ_d.out.later hb_m)
      have HV_m := hid (HV_d.out.later hb_m)
      clear hb_m
      obtain ⟨⟨z0, z1, z2, z3, z4⟩, ⟨y0, y1, y2, y3, y4⟩, hzl⟩ := HZ_m.out.cells
      obtain ⟨⟨v0, v1, v2, v3, v4⟩, ⟨u0, u1, u2, u3, u4⟩, hvl⟩ := HV_m.out.cells
      go_wp2
      go_meet
      case rel =>
        refine ⟨x, k_d, HVS.out, ?_, HV_m.out.set5 _, by omega, ?_, ?_⟩
        · repeat' (first | (with_reducible exact HZ_m.out) | (with_reducible refine VB.far ?_ ?_ _) | omega)
        · repeat' (first | (with_reducible exact HC_m.out) | (with_reducible refine Cur.far ?_ ?_ _) | (with_reducible refine Cur.alloc ?_ _) | omega)
        · repeat' (first | (with_reducible exact HG_m.out) | (with_reducible refine grown_new ?_ ?_ _) | (with_reducible refine grown_alloc ?_ _) | omega)
    · have f0 : ((m : Int) == 0) = false := by simp [hm]
      have f1 : ((m : Int) == 1) = false := by simp [hm]
      have f2 : ((m : Int) == 2) = false := by simp [hm]
      have f3 : ((m : Int) == 3) = false := by simp [hm]
      have f4 : ((m : Int) == 4) = true := by simp [hm]
      have f5 : ((m : Int) == 5) = false := by simp [hm]
      clear hm
      go_wp2_with fail
      refine (curPick 12 _ HC_1.out (by omega) (by omega)).mono ?_
      rintro e w_d ⟨r, rfl, hr, k_d, hk_d, hc_d, hg_d⟩
      have hr1 : (r : Int) ≤ 11 := by omega
      have hwr : IntKind.i64.wrap ((r : Int) - 3) = (r : Int) - 3 := IntWalk.i64_in _ (by omega)
      clear hr
      have HC_d := hid hc_d
      have HG_d := hid (grown_trans HG_1.out hg_d)
      have HZ_d := hid (HZ_1.out.grown hg_d hpz)
      have HV_d := hid (HV_1.out.grown hg_d hpv)
      clear hc_d hg_d
      go_wp2_with fail
      refine (curDecOf ((r : Int) - 3) _ (by omega)).mono ?_
      rintro e w_o ⟨⟨dn, dg, de, rfl, hd1, hd2, hd3⟩, hb_o⟩
      have HC_o := hid (HC_d.out.later hb_o)
      have HG_o := hid (grown_trans HG_d.out (below_grown (r := some p) hb_o))
      have HZ_o := hid (HZ_d.out.later hb_o)
      have HV_o := hid (HV_d.out.later hb_o)
      clear hb_o
      go_wp2_with fail
      refine (specNumVal (d := ⟨dn, dg, de⟩) _ (by exact rdDec_mk (x := ⟨dn, dg, de⟩) (by show dg.size ≤ _; omega) ⟨hd2, hd3⟩)).mono ?_
      rintro e w_m ⟨cs_m, he_m, hr_m, hb_m⟩
      obtain ⟨hcs_m, _⟩ := rdVal hr_m
      obtain rfl := arr_of_list hcs_m
      subst he_m
      obtain ⟨x, hx⟩ : ∃ x, numVal ⟨dn, dg, de⟩ = x := ⟨_, rfl⟩
      have HVS := hid (show vS 15000 x by rw [← hx]; exact vS_num hd1 ⟨hd2, hd3⟩)
      rw [hx]
      clear hr_m hx hcs_m
      have HC_m := hid (HC_o.out.later hb_m)
      have HG_m := hid (grown_trans HG_o.out (below_grown (r := some p) hb_m))
      have HZ_m := hid (HZ_o.out.later hb_m)
      have HV_m := hid (HV_o.out.later hb_m)
      clear hb_m
      obtain ⟨⟨z0, z1, z2, z3, z4⟩, ⟨y0, y1, y2, y3, y4⟩, hzl⟩ := HZ_m.out.cells
      obtain ⟨⟨v0, v1, v2, v3, v4⟩, ⟨u0, u1, u2, u3, u4⟩, hvl⟩ := HV_m.out.cells
      go_wp2
      go_meet
      case rel =>
        refine ⟨x, k_d, HVS.out, ?_, HV_m.out.set5 _, by omega, ?_, ?_⟩
        · repeat' (first | (with_reducible exact HZ_m.out) | (with_reducible refine VB.far ?_ ?_ _) | omega)
        · repeat' (first | (with_reducible exact HC_m.out) | (with_reducible refine Cur.far ?_ ?_ _) | (with_reducible refine Cur.alloc ?_ _) | omega)
        · repeat' (first | (with_reducible exact HG_m.out) | (with_reducible refine grown_new ?_ ?_ _) | (with_reducible refine grown_alloc ?_ _) | omega)
    · have f0 : ((m : Int) == 0) = false := by simp [hm]
      have f1 : ((m : Int) == 1) = false := by simp [hm]
      have f2 : ((m : Int) == 2) = false := by simp [hm]
      have f3 : ((m : Int) == 3) = false := by simp [hm]
      have f4 : ((m : Int) == 4) = false := by simp [hm]
      have f5 : ((m : Int) == 5) = true := by simp [hm]
      clear hm
      go_wp2_with fail
      refine (curAlmost _ HC_1.out (by omega)).mono ?_
      rintro e w_d ⟨s, rfl, hs, k_d, hk_d, hc_d, hg_d⟩
      have HC_d := hid hc_d
      have HG_d := hid (grown_trans HG_1.out hg_d)
      have HZ_d := hid (HZ_1.out.grown hg_d hpz)
      have HV_d := hid (HV_1.out.grown hg_d hpv)
      clear hc_d hg_d
      go_wp2_with fail
      refine (specTextVal s _ (by omega)).mono ?_
      rintro e w_m ⟨cs_m, he_m, hr_m, hb_m⟩
      obtain ⟨hcs_m, _⟩ := rdVal hr_m
      obtain rfl := arr_of_list hcs_m
      subst he_m
      obtain ⟨x, hx⟩ : ∃ x, textVal s = x := ⟨_, rfl⟩
      have HVS := hid (show vS 15000 x by rw [← hx]; exact vS_text (by omega))
      rw [hx]
      clear hr_m hx hcs_m
      have HC_m := hid (HC_d.out.later hb_m)
      have HG_m := hid (grown_trans HG_d.out (below_grown (r := some p) hb_m))
      have HZ_m := hid (HZ_d.out.later hb_m)
      have HV_m := hid (HV_d.out.later hb_m)
      clear hb_m
      obtain ⟨⟨z0, z1, z2, z3, z4⟩, ⟨y0, y1, y2, y3, y4⟩, hzl⟩ := HZ_m.out.cells
      obtain ⟨⟨v0, v1, v2, v3, v4⟩, ⟨u0, u1, u2, u3, u4⟩, hvl⟩ := HV_m.out.cells
      go_wp2
      go_meet
      case rel =>
        refine ⟨x, k_d, HVS.out, ?_, HV_m.out.set5 _, by omega, ?_, ?_⟩
        · repeat' (first | (with_reducible exact HZ_m.out) | (with_reducible refine VB.far ?_ ?_ _) | omega)
        · repeat' (first | (with_reducible exact HC_m.out) | (with_reducible refine Cur.far ?_ ?_ _) | (with_reducible refine Cur.alloc ?_ _) | omega)
        · repeat' (first | (with_reducible exact HG_m.out) | (with_reducible refine grown_new ?_ ?_ _) | (with_reducible refine grown_alloc ?_ _) | omega)
    · have f0 : ((m : Int) == 0) = false := by simp [hm]
      have f1 : ((m : Int) == 1) = false := by simp [hm]
      have f2 : ((m : Int) == 2) = false := by simp [hm]
      have f3 : ((m : Int) == 3) = false := by simp [hm]
      have f4 : ((m : Int) == 4) = false := by simp [hm]
      have f5 : ((m : Int) == 5) = false := by simp [hm]
      clear hm
      go_wp2
      go_meet
      case rel => exact ⟨val0, k_1, vS0, HZ_1.out, HV_1.out, by omega, HC_1.out, HG_1.out⟩
  case rest =>
  obtain ⟨x, k_2, HVS, HZ_2, HV_2, hk_2, HC_2, HG_2⟩ := hcut
  replace HVS := hid HVS
  replace HZ_2 := hid HZ_2
  replace HV_2 := hid HV_2
  replace HC_2 := hid HC_2
  replace HG_2 := hid HG_2
  clear HC_1 HG_1 HZ_1 HV_1 hm6
  go_wp2_with fail
  refine (curOnce 18 _ HC_2.out (by omega) (by omega) (by omega)).mono ?_
  rintro e w_3 ⟨b, rfl, k_3, hk_3, hc_3, hg_3⟩
  have HC_3 := hid hc_3
  have HG_3 := hid (grown_trans HG_2.out hg_3)
  have HZ_3 := hid (HZ_2.out.grown hg_3 hpz)
  have HV_3 := hid (HV_2.out.grown hg_3 hpv)
  clear hc_3 hg_3
  clear HC_2 HG_2 HZ_2 HV_2
  cases b with
  | false =>
    obtain ⟨⟨z0, z1, z2, z3, z4⟩, ⟨y0, y1, y2, y3, y4⟩, hzl⟩ := HZ_3.out.cells
    obtain ⟨⟨v0, v1, v2, v3, v4⟩, ⟨u0, u1, u2, u3, u4⟩, hvl⟩ := HV_3.out.cells
    go_wp2
    refine bodyPost_ret (v := .agg #[.int .i64 x.kind, .bool x.num.neg, .string x.num.dig, .int .i64 x.num.exp, .string x.text]) (by simp [results, Tryd.results28, go_sem, z0, z1, z2, z3, z4, y0, y1, y2, y3, y4, hzl, v0, v1, v2, v3, v4, u0, u1, u2, u3, u4, hvl]) rfl ⟨x, vS_up HVS.out, rfl, k_3, by omega, ?_, ?_⟩
    · repeat' (first | (with_reducible exact HC_3.out) | (with_reducible refine Cur.far ?_ ?_ _) | (with_reducible refine Cur.alloc ?_ _) | omega)
    · repeat' (first | (with_reducible exact HG_3.out) | (with_reducible refine grown_new ?_ ?_ _) | (with_reducible refine grown_alloc ?_ _) | omega)
  | true =>
    go_wp2_with fail
    refine (curPick 4 _ HC_3.out (by omega) (by omega)).mono ?_
    rintro e w_4 ⟨q, rfl, hq4, k_4, hk_4, hc_4, hg_4⟩
    have HC_4 := hid hc_4
    have HG_4 := hid (grown_trans HG_3.out hg_4)
    have HZ_4 := hid (HZ_3.out.grown hg_4 hpz)
    have HV_4 := hid (HV_3.out.grown hg_4 hpv)
    clear hc_4 hg_4
    clear HC_3 HG_3 HZ_3 HV_3
    have hq3 : q = 0 ∨ q = 1 ∨ q = 2 ∨ q = 3 := by omega
    clear hq4
    rcases hq3 with hm | hm | hm | hm
    · have f0 : ((q : Int) == 0) = true := by simp [hm]
      have f1 : ((q : Int) == 1) = false := by simp [hm]
      have f2 : ((q : Int) == 2) = false := by simp [hm]
      clear hm
      go_wp2_with fail
      refine (curRaw _ HC_4.out (by omega)).mono ?_
      rintro e w_5 ⟨r, rfl, hr, k_5, hk_5, hc_5, hg_5⟩
      have HC_5 := hid hc_5
      have HG_5 := hid (grown_trans HG_4.out hg_5)
      have HZ_5 := hid (HZ_4.out.grown hg_5 hpz)
      have HV_5 := hid (HV_4.out.grown hg_5 hpv)
      clear hc_5 hg_5
      obtain ⟨⟨z0, z1, z2, z3, z4⟩, ⟨y0, y1, y2, y3, y4⟩, hzl⟩ := HZ_5.out.cells
      obtain ⟨⟨v0, v1, v2, v3, v4⟩, ⟨u0, u1, u2, u3, u4⟩, hvl⟩ := HV_5.out.cells
      obtain ⟨w_e, hw_e⟩ : ∃ y, w_5.setCell ⟨w.heap.size + 1, 0, none⟩ (.int .i64 r) = y := ⟨_, rfl⟩
      have HV_e := hid (show VB w_e (w.heap.size + 1) ⟨r, x.num, x.text⟩ by rw [← hw_e]; exact HV_5.out.kind r)
      have HZ_e := hid (show VB w_e w.heap.size val0 by rw [← hw_e]; repeat' (first | (with_reducible exact HZ_5.out) | (with_reducible refine VB.far ?_ ?_ _) | omega))
      have HC_e := hid (show Cur B w_e p k_5 by rw [← hw_e]; repeat' (first | (with_reducible exact HC_5.out) | (with_reducible refine Cur.far ?_ ?_ _) | (with_reducible refine Cur.alloc ?_ _) | omega))
      have HG_e := hid (show w.grownBy w_e (some p) by rw [← hw_e]; repeat' (first | (with_reducible exact HG_5.out) | (with_reducible refine grown_new ?_ ?_ _) | (with_reducible refine grown_alloc ?_ _) | omega))
      obtain ⟨xe, hxe⟩ : ∃ y, (⟨r, x.num, x.text⟩ : Val) = y := ⟨_, rfl⟩
      rw [hxe] at HV_e
      have HVE := hid (show vS 20000 xe by rw [← hxe]; exact ⟨hr, (vS_up HVS.out).2⟩)
      clear hxe
      go_upto_region 23 with fail
      try rw [hw_e]
      clear hw_e z0 z1 z2 z3 z4 y0 y1 y2 y3 y4 hzl v0 v1 v2 v3 v4 u0 u1 u2 u3 u4 hvl
      have k_e := k_5
      obtain ⟨⟨z0, z1, z2, z3, z4⟩, ⟨y0, y1, y2, y3, y4⟩, hzl⟩ := HZ_e.out.cells
      obtain ⟨⟨v0, v1, v2, v3, v4⟩, ⟨u0, u1, u2, u3, u4⟩, hvl⟩ := HV_e.out.cells
      go_wp2
      refine bodyPost_ret (v := .agg #[.int .i64 xe.kind, .bool xe.num.neg, .string xe.num.dig, .int .i64 xe.num.exp, .string xe.text]) (by simp [results, Tryd.results28, go_sem, z0, z1, z2, z3, z4, y0, y1, y2, y3, y4, hzl, v0, v1, v2, v3, v4, u0, u1, u2, u3, u4, hvl]) rfl ⟨xe, HVE.out, rfl, k_5, by omega, ?_, ?_⟩
      · repeat' (first | (with_reducible exact HC_e.out) | (with_reducible refine Cur.far ?_ ?_ _) | (with_reducible refine Cur.alloc ?_ _) | omega)
      · repeat' (first | (with_reducible exact HG_e.out) | (with_reducible refine grown_new ?_ ?_ _) | (with_reducible refine grown_alloc ?_ _) | omega)
    · have f0 : ((q : Int) == 0) = false := by simp [hm]
      have f1 : ((q : Int) == 1) = true := by simp [hm]
      have f2 : ((q : Int) == 2) = false := by simp [hm]
      clear hm
      have hsz := HVS.out.2.2.2
      have hsum : ¬ 9223372036854775807 < x.text.size + 1 := by omega
      obtain ⟨⟨z0, z1, z2, z3, z4⟩, ⟨y0, y1, y2, y3, y4⟩, hzl⟩ := HZ_4.out.cells
      obtain ⟨⟨v0, v1, v2, v3, v4⟩, ⟨u0, u1, u2, u3, u4⟩, hvl⟩ := HV_4.out.cells
      obtain ⟨w_e, hw_e⟩ : ∃ y, w_4.setCell ⟨w.heap.size + 1, 4, none⟩ (.string (x.text ++ ⟨#[255]⟩)) = y := ⟨_, rfl⟩
      have HV_e := hid (show VB w_e (w.heap.size + 1) ⟨x.kind, x.num, x.text ++ ⟨#[255]⟩⟩ by rw [← hw_e]; exact HV_4.out.text _)
      have HZ_e := hid (show VB w_e w.heap.size val0 by rw [← hw_e]; repeat' (first | (with_reducible exact HZ_4.out) | (with_reducible refine VB.far ?_ ?_ _) | omega))
      have HC_e := hid (show Cur B w_e p k_4 by rw [← hw_e]; repeat' (first | (with_reducible exact HC_4.out) | (with_reducible refine Cur.far ?_ ?_ _) | (with_reducible refine Cur.alloc ?_ _) | omega))
      have HG_e := hid (show w.grownBy w_e (some p) by rw [← hw_e]; repeat' (first | (with_reducible exact HG_4.out) | (with_reducible refine grown_new ?_ ?_ _) | (with_reducible refine grown_alloc ?_ _) | omega))
      obtain ⟨xe, hxe⟩ : ∃ y, (⟨x.kind, x.num, x.text ++ ⟨#[255]⟩⟩ : Val) = y := ⟨_, rfl⟩
      rw [hxe] at HV_e
      have HVE := hid (show vS 20000 xe by rw [← hxe]; exact ⟨HVS.out.1, HVS.out.2.1, HVS.out.2.2.1, by show (x.text ++ ⟨#[255]⟩).size ≤ 20000; rw [ByteArray.size_append, show (⟨#[255]⟩ : ByteArray).size = 1 from rfl]; omega⟩)
      clear hxe
      go_upto_region 23 with fail
      try rw [hw_e]
      clear hw_e z0 z1 z2 z3 z4 y0 y1 y2 y3 y4 hzl v0 v1 v2 v3 v4 u0 u1 u2 u3 u4 hvl
      have k_e := k_4
      obtain ⟨⟨z0, z1, z2, z3, z4⟩, ⟨y0, y1, y2, y3, y4⟩, hzl⟩ := HZ_e.out.cells
      obtain ⟨⟨v0, v1, v2, v3, v4⟩, ⟨u0, u1, u2, u3, u4⟩, hvl⟩ := HV_e.out.cells
      go_wp2
      refine bodyPost_ret (v := .agg #[.int .i64 xe.kind, .bool xe.num.neg, .string xe.num.dig, .int .i64 xe.num.exp, .string xe.text]) (by simp [results, Tryd.results28, go_sem, z0, z1, z2, z3, z4, y0, y1, y2, y3, y4, hzl, v0, v1, v2, v3, v4, u0, u1, u2, u3, u4, hvl]) rfl ⟨xe, HVE.out, rfl, k_4, by omega, ?_, ?_⟩
      · repeat' (first | (with_reducible exact HC_e.out) | (with_reducible refine Cur.far ?_ ?_ _) | (with_reducible refine Cur.alloc ?_ _) | omega)
      · repeat' (first | (with_reducible exact HG_e.out) | (with_reducible refine grown_new ?_ ?_ _) | (with_reducible refine grown_alloc ?_ _) | omega)
    · have f0 : ((q : Int) == 0) = false := by simp [hm]
      have f1 : ((q : Int) == 1) = false := by simp [hm]
      have f2 : ((q : Int) == 2) = true := by simp [hm]
      clear hm
      obtain ⟨⟨z0, z1, z2, z3, z4⟩, ⟨y0, y1, y2, y3, y4⟩, hzl⟩ := HZ_4.out.cells
      obtain ⟨⟨v0, v1, v2, v3, v4⟩, ⟨u0, u1, u2, u3, u4⟩, hvl⟩ := HV_4.out.cells
      obtain ⟨w_e, hw_e⟩ : ∃ y, ((w_4.setCell ⟨w.heap.size + 1, 1, none⟩ (.bool false)).setCell ⟨w.heap.size + 1, 2, none⟩ (.string ⟨#[49, 48]⟩)).setCell ⟨w.heap.size + 1, 3, none⟩ (.int .i64 0) = y := ⟨_, rfl⟩
      have HV_e := hid (show VB w_e (w.heap.size + 1) ⟨x.kind, ⟨false, ⟨#[49, 48]⟩, 0⟩, x.text⟩ by rw [← hw_e]; exact HV_4.out.num false ⟨#[49, 48]⟩ 0)
      have HZ_e := hid (show VB w_e w.heap.size val0 by rw [← hw_e]; repeat' (first | (with_reducible exact HZ_4.out) | (with_reducible refine VB.far ?_ ?_ _) | omega))
      have HC_e := hid (show Cur B w_e p k_4 by rw [← hw_e]; repeat' (first | (with_reducible exact HC_4.out) | (with_reducible refine Cur.far ?_ ?_ _) | (with_reducible refine Cur.alloc ?_ _) | omega))
      have HG_e := hid (show w.grownBy w_e (some p) by rw [← hw_e]; repeat' (first | (with_reducible exact HG_4.out) | (with_reducible refine grown_new ?_ ?_ _) | (with_reducible refine grown_alloc ?_ _) | omega))
      obtain ⟨xe, hxe⟩ : ∃ y, (⟨x.kind, ⟨false, ⟨#[49, 48]⟩, 0⟩, x.text⟩ : Val) = y := ⟨_, rfl⟩
      rw [hxe] at HV_e
      have HVE := hid (show vS 20000 xe by rw [← hxe]; exact ⟨HVS.out.1, (show (2 : Nat) ≤ 20000 by decide), (show (-9223372036854775808 : Int) ≤ 0 ∧ (0 : Int) ≤ 9223372036854775807 by decide), (vS_up HVS.out).2.2.2⟩)
      clear hxe
      go_upto_region 23 with fail
      try rw [hw_e]
      clear hw_e z0 z1 z2 z3 z4 y0 y1 y2 y3 y4 hzl v0 v1 v2 v3 v4 u0 u1 u2 u3 u4 hvl
      have k_e := k_4
      obtain ⟨⟨z0, z1, z2, z3, z4⟩, ⟨y0, y1, y2, y3, y4⟩, hzl⟩ := HZ_e.out.cells
      obtain ⟨⟨v0, v1, v2, v3, v4⟩, ⟨u0, u1, u2, u3, u4⟩, hvl⟩ := HV_e.out.cells
      go_wp2
      refine bodyPost_ret (v := .agg #[.int .i64 xe.kind, .bool xe.num.neg, .string xe.num.dig, .int .i64 xe.num.exp, .string xe.text]) (by simp [results, Tryd.results28, go_sem, z0, z1, z2, z3, z4, y0, y1, y2, y3, y4, hzl, v0, v1, v2, v3, v4, u0, u1, u2, u3, u4, hvl]) rfl ⟨xe, HVE.out, rfl, k_4, by omega, ?_, ?_⟩
      · repeat' (first | (with_reducible exact HC_e.out) | (with_reducible refine Cur.far ?_ ?_ _) | (with_reducible refine Cur.alloc ?_ _) | omega)
      · repeat' (first | (with_reducible exact HG_e.out) | (with_reducible refine grown_new ?_ ?_ _) | (with_reducible refine grown_alloc ?_ _) | omega)
    · have f0 : ((q : Int) == 0) = false := by simp [hm]
      have f1 : ((q : Int) == 1) = false := by simp [hm]
      have f2 : ((q : Int) == 2) = false := by simp [hm]
      clear hm
      go_wp2_with fail
      refine (curPick 4 _ HC_4.out (by omega) (by omega)).mono ?_
      rintro e w_5 ⟨r, rfl, hr, k_5, hk_5, hc_5, hg_5⟩
      have hr3 : r ≤ 3 := by omega
      clear hr
      have HC_5 := hid hc_5
      have HG_5 := hid (grown_trans HG_4.out hg_5)
      have HZ_5 := hid (HZ_4.out.grown hg_5 hpz)
      have HV_5 := hid (HV_4.out.grown hg_5 hpv)
      clear hc_5 hg_5
      obtain ⟨⟨z0, z1, z2, z3, z4⟩, ⟨y0, y1, y2, y3, y4⟩, hzl⟩ := HZ_5.out.cells
      obtain ⟨⟨v0, v1, v2, v3, v4⟩, ⟨u0, u1, u2, u3, u4⟩, hvl⟩ := HV_5.out.cells
      obtain ⟨w_e, hw_e⟩ : ∃ y, w_5.setCell ⟨w.heap.size + 1, 0, none⟩ (.int .i64 (r : Int)) = y := ⟨_, rfl⟩
      have HV_e := hid (show VB w_e (w.heap.size + 1) ⟨(r : Int), x.num, x.text⟩ by rw [← hw_e]; exact HV_5.out.kind (r : Int))
      have HZ_e := hid (show VB w_e w.heap.size val0 by rw [← hw_e]; repeat' (first | (with_reducible exact HZ_5.out) | (with_reducible refine VB.far ?_ ?_ _) | omega))
      have HC_e := hid (show Cur B w_e p k_5 by rw [← hw_e]; repeat' (first | (with_reducible exact HC_5.out) | (with_reducible refine Cur.far ?_ ?_ _) | (with_reducible refine Cur.alloc ?_ _) | omega))
      have HG_e := hid (show w.grownBy w_e (some p) by rw [← hw_e]; repeat' (first | (with_reducible exact HG_5.out) | (with_reducible refine grown_new ?_ ?_ _) | (with_reducible refine grown_alloc ?_ _) | omega))
      obtain ⟨xe, hxe⟩ : ∃ y, (⟨(r : Int), x.num, x.text⟩ : Val) = y := ⟨_, rfl⟩
      rw [hxe] at HV_e
      have HVE := hid (show vS 20000 xe by rw [← hxe]; exact ⟨⟨by show (-9223372036854775808 : Int) ≤ (r : Int); omega, by show (r : Int) ≤ 9223372036854775807; omega⟩, (vS_up HVS.out).2⟩)
      clear hxe
      go_upto_region 23 with fail
      try rw [hw_e]
      clear hw_e z0 z1 z2 z3 z4 y0 y1 y2 y3 y4 hzl v0 v1 v2 v3 v4 u0 u1 u2 u3 u4 hvl
      have k_e := k_5
      obtain ⟨⟨z0, z1, z2, z3, z4⟩, ⟨y0, y1, y2, y3, y4⟩, hzl⟩ := HZ_e.out.cells
      obtain ⟨⟨v0, v1, v2, v3, v4⟩, ⟨u0, u1, u2, u3, u4⟩, hvl⟩ := HV_e.out.cells
      go_wp2
      refine bodyPost_ret (v := .agg #[.int .i64 xe.kind, .bool xe.num.neg, .string xe.num.dig, .int .i64 xe.num.exp, .string xe.text]) (by simp [results, Tryd.results28, go_sem, z0, z1, z2, z3, z4, y0, y1, y2, y3, y4, hzl, v0, v1, v2, v3, v4, u0, u1, u2, u3, u4, hvl]) rfl ⟨xe, HVE.out, rfl, k_5, by omega, ?_, ?_⟩
      · repeat' (first | (with_reducible exact HC_e.out) | (with_reducible refine Cur.far ?_ ?_ _) | (with_reducible refine Cur.alloc ?_ _) | omega)
      · repeat' (first | (with_reducible exact HG_e.out) | (with_reducible refine grown_new ?_ ?_ _) | (with_reducible refine grown_alloc ?_ _) | omega)
end Go.Proofs.YtommldonooicjaaDoor

namespace Go.Proofs.YtommldonooicjaaDoor
open Go.RowKit
set_option linter.unusedVariables false
set_option linter.unusedSimpArgs false

/-- an array of two rows of a maker's own -/
def OwnA (B : Nat) (w : World) (x : Arr) (cs : Array Value) : Prop :=
  ∃ (u v : Value), cs = #[u, v] ∧ w.ownsRow B 9 1 u x.keys.length (strCellsL x.keys) ∧ w.ownsRow B 31 5 v x.vals.length (valsCells x.vals) ∧ ∀ q, u.ownBlock = some q → v.ownBlock = some q → False
theorem ownA_own {w : World} {A B C : Nat} {u v : Value} {x : Arr} (h1 : w.ownsRow B 9 1 u x.keys.length (strCellsL x.keys)) (h2 : w.ownsRow C 31 5 v x.vals.length (valsCells x.vals)) (hB : A ≤ B) (hC : A ≤ C) (hne : ∀ q, u.ownBlock = some q → v.ownBlock = some q → False) : OwnA A w x #[u, v] :=
  ⟨u, v, rfl, ownsRow_mono h1 hB, ownsRow_mono h2 hC, hne⟩
set_option maxHeartbeats 8000000 in
set_option maxRecDepth 100000 in
theorem specPutO {cs ys : Array Value} {x : Arr} {y : Val} (s : ByteArray) (W : World) (h : Rd.rd (Old W) W cs.toList x) (hy : Rd.rd (Old W) W ys.toList y) (hn : x.keys.length ≤ 1048576) (hsz : Hid (s.size ≤ 9223372036854775807)) :
    Calls Tryd.prog 9 #[.agg cs, .string s, .agg ys] W fun e w' => ∃ cs' : Array Value, e = .returned (.tuple #[.agg cs', .bool (putOk x s y)]) ∧ Rd.rd (New W.heap.size w') w' cs'.toList (arrPut x s y) ∧ OwnA W.heap.size w' (arrPut x s y) cs' ∧ Below W.heap.size W w' := by
  have H0 := h
  obtain ⟨a0, c0, a1, c1, hcs, f0, f1⟩ := rdArr h
  obtain rfl := arr_of_list hcs
  obtain ⟨hds, k0, k1, k2, k3⟩ := rdVal hy
  obtain rfl := arr_of_list hds
  have HVK := hid (fillK_ok (vals_ok f1) x.keys.length)
  have HSK := hid (strs_ok f0)
  have HYK : Hid (vOk y) := hid ⟨k0, k1, k2, k3⟩
  have HY := hy
  have F0 := f0
  have hle := arrAt_le x s
  clear hcs hds f0 f1 h hy
  obtain ⟨ii, hi, hz0, hz1, hz2⟩ := info_parts infoS
  obtain ⟨jj, ki, kz0, kz1, kz2⟩ := info_parts infoV
  go_enter Tryd.func9, Tryd.ntmps9
  have bP : Below W.heap.size W W := Below.refl _ _
  have zP : W.heap.size ≤ W.heap.size := Nat.le_refl _
  have LA : Live (Old W) W W := Live.refl fun b hb => hb
  go_wp2_with fail
  obtain ⟨a_A, hw_a_A⟩ : ∃ v, W.alloc (.cells #[.slice a0 x.keys.length c0, .slice a1 x.vals.length c1] 27) = v := ⟨_, rfl⟩
  have x_a_A : Below W.heap.size W a_A := by rw [← hw_a_A]; exact ext_alloc _ _
  have s_a_A : a_A.heap.size = W.heap.size + 1 := by rw [← hw_a_A]; simp
  have c_A_0 : a_A.cell? ⟨W.heap.size, 0, none⟩ = some (.slice a0 x.keys.length c0) := by rw [← hw_a_A]; simp
  have c_A_1 : a_A.cell? ⟨W.heap.size, 1, none⟩ = some (.slice a1 x.vals.length c1) := by rw [← hw_a_A]; simp
  have l_A : W.heap.size < a_A.heap.size := by omega
  replace bP : Below W.heap.size W a_A := bw_call bP zP x_a_A
  replace LA : Live (Old W) W a_A := LA.call x_a_A
  have y_a_A : W.heap.size ≤ a_A.heap.size := x_a_A.size
  replace zP : W.heap.size ≤ a_A.heap.size := bP.size
  rw [hw_a_A]
  clear hw_a_A x_a_A
  obtain ⟨a_V, hw_a_V⟩ : ∃ v, a_A.alloc (.cells #[.int .i64 y.kind, .bool y.num.neg, .string y.num.dig, .int .i64 y.num.exp, .string y.text] 31) = v := ⟨_, rfl⟩
  have x_a_V : Below a_A.heap.size a_A a_V := by rw [← hw_a_V]; exact ext_alloc _ _
  have s_a_V : a_V.heap.size = a_A.heap.size + 1 := by rw [← hw_a_V]; simp
  have c_V_0 : a_V.cell? ⟨a_A.heap.size, 0, none⟩ = some (.int .i64 y.kind) := by rw [← hw_a_V]; simp
  have c_V_1 : a_V.cell? ⟨a_A.heap.size, 1, none⟩ = some (.bool y.num.neg) := by rw [← hw_a_V]; simp
  have c_V_2 : a_V.cell? ⟨a_A.heap.size, 2, none⟩ = some (.string y.num.dig) := by rw [← hw_a_V]; simp
  have c_V_3 : a_V.cell? ⟨a_A.heap.size, 3, none⟩ = some (.int .i64 y.num.exp) := by rw [← hw_a_V]; simp
  have c_V_4 : a_V.cell? ⟨a_A.heap.size, 4, none⟩ = some (.string y.text) := by rw [← hw_a_V]; simp
  have l_V : a_A.heap.size < a_V.heap.size := by omega
  replace bP : Below W.heap.size W a_V := bw_call bP zP x_a_V
  replace c_A_0 : a_V.cell? ⟨W.heap.size, 0, none⟩ = some (.slice a0 x.keys.length c0) := (x_a_V.cell (p := ⟨W.heap.size, 0, none⟩) l_A).trans c_A_0
  replace c_A_1 : a_V.cell? ⟨W.heap.size, 1, none⟩ = some (.slice a1 x.vals.length c1) := (x_a_V.cell (p := ⟨W.heap.size, 1, none⟩) l_A).trans c_A_1
  replace l_A : W.heap.size < a_V.heap.size := Nat.lt_of_lt_of_le l_A x_a_V.size
  replace LA : Live (Old W) W a_V := LA.call x_a_V
  have y_a_V : a_A.heap.size ≤ a_V.heap.size := x_a_V.size
  replace zP : W.heap.size ≤ a_V.heap.size := bP.size
  rw [s_a_A] at c_V_0 c_V_1 c_V_2 c_V_3 c_V_4 l_V
  rw [hw_a_V]
  clear hw_a_V x_a_V
  obtain ⟨a_R, hw_a_R⟩ : ∃ v, a_V.alloc (.cells #[.slice none 0 0, .slice none 0 0] 27) = v := ⟨_, rfl⟩
  have x_a_R : Below a_V.heap.size a_V a_R := by rw [← hw_a_R]; exact ext_alloc _ _
  have s_a_R : a_R.heap.size = a_V.heap.size + 1 := by rw [← hw_a_R]; simp
  have c_R_0 : a_R.cell? ⟨a_V.heap.size, 0, none⟩ = some (.slice none 0 0) := by rw [← hw_a_R]; simp
  have c_R_1 : a_R.cell? ⟨a_V.heap.size, 1, none⟩ = some (.slice none 0 0) := by rw [← hw_a_R]; simp
  have z_R_0 : a_R.frozen? ⟨a_V.heap.size, 0, none⟩ = false := by rw [← hw_a_R]; simp
  have z_R_1 : a_R.frozen? ⟨a_V.heap.size, 1, none⟩ = false := by rw [← hw_a_R]; simp
  have l_R : a_V.heap.size < a_R.heap.size := by omega
  replace bP : Below W.heap.size W a_R := bw_call bP zP x_a_R
  replace c_A_0 : a_R.cell? ⟨W.heap.size, 0, none⟩ = some (.slice a0 x.keys.length c0) := (x_a_R.cell (p := ⟨W.heap.size, 0, none⟩) l_A).trans c_A_0
  replace c_A_1 : a_R.cell? ⟨W.heap.size, 1, none⟩ = some (.slice a1 x.vals.length c1) := (x_a_R.cell (p := ⟨W.heap.size, 1, none⟩) l_A).trans c_A_1
  replace c_V_0 : a_R.cell? ⟨W.heap.size + 1, 0, none⟩ = some (.int .i64 y.kind) := (x_a_R.cell (p := ⟨W.heap.size + 1, 0, none⟩) l_V).trans c_V_0
  replace c_V_1 : a_R.cell? ⟨W.heap.size + 1, 1, none⟩ = some (.bool y.num.neg) := (x_a_R.cell (p := ⟨W.heap.size + 1, 1, none⟩) l_V).trans c_V_1
  replace c_V_2 : a_R.cell? ⟨W.heap.size + 1, 2, none⟩ = some (.string y.num.dig) := (x_a_R.cell (p := ⟨W.heap.size + 1, 2, none⟩) l_V).trans c_V_2
  replace c_V_3 : a_R.cell? ⟨W.heap.size + 1, 3, none⟩ = some (.int .i64 y.num.exp) := (x_a_R.cell (p := ⟨W.heap.size + 1, 3, none⟩) l_V).trans c_V_3
  replace c_V_4 : a_R.cell? ⟨W.heap.size + 1, 4, none⟩ = some (.string y.text) := (x_a_R.cell (p := ⟨W.heap.size + 1, 4, none⟩) l_V).trans c_V_4
  replace l_A : W.heap.size < a_R.heap.size := Nat.lt_of_lt_of_le l_A x_a_R.size
  replace l_V : W.heap.size + 1 < a_R.heap.size := Nat.lt_of_lt_of_le l_V x_a_R.size
  replace LA : Live (Old W) W a_R := LA.call x_a_R
  have y_a_R : a_V.heap.size ≤ a_R.heap.size := x_a_R.size
  replace zP : W.heap.size ≤ a_R.heap.size := bP.size
  rw [s_a_V, s_a_A] at c_R_0 c_R_1 z_R_0 z_R_1 l_R
  rw [hw_a_R]
  clear hw_a_R x_a_R
  clear s_a_A s_a_V s_a_R
  refine (specCopy_own _ (by exact LA.rd H0) hn).mono ?_
  rintro e w1 ⟨g, ck, v, rfl, hb, C, hC, hou, hgC, hov⟩
  have hR : W.heap.size + 1 + 1 < a_R.heap.size := l_R
  replace z_R_0 : w1.frozen? ⟨W.heap.size + 1 + 1, 0, none⟩ = false := (hb.frozen (p := ⟨W.heap.size + 1 + 1, 0, none⟩) l_R).trans z_R_0
  replace z_R_1 : w1.frozen? ⟨W.heap.size + 1 + 1, 1, none⟩ = false := (hb.frozen (p := ⟨W.heap.size + 1 + 1, 1, none⟩) l_R).trans z_R_1
  replace bP : Below W.heap.size W w1 := bw_call bP zP hb
  replace c_A_0 : w1.cell? ⟨W.heap.size, 0, none⟩ = some (.slice a0 x.keys.length c0) := (hb.cell (p := ⟨W.heap.size, 0, none⟩) l_A).trans c_A_0
  replace c_A_1 : w1.cell? ⟨W.heap.size, 1, none⟩ = some (.slice a1 x.vals.length c1) := (hb.cell (p := ⟨W.heap.size, 1, none⟩) l_A).trans c_A_1
  replace c_V_0 : w1.cell? ⟨W.heap.size + 1, 0, none⟩ = some (.int .i64 y.kind) := (hb.cell (p := ⟨W.heap.size + 1, 0, none⟩) l_V).trans c_V_0
  replace c_V_1 : w1.cell? ⟨W.heap.size + 1, 1, none⟩ = some (.bool y.num.neg) := (hb.cell (p := ⟨W.heap.size + 1, 1, none⟩) l_V).trans c_V_1
  replace c_V_2 : w1.cell? ⟨W.heap.size + 1, 2, none⟩ = some (.string y.num.dig) := (hb.cell (p := ⟨W.heap.size + 1, 2, none⟩) l_V).trans c_V_2
  replace c_V_3 : w1.cell? ⟨W.heap.size + 1, 3, none⟩ = some (.int .i64 y.num.exp) := (hb.cell (p := ⟨W.heap.size + 1, 3, none⟩) l_V).trans c_V_3
  replace c_V_4 : w1.cell? ⟨W.heap.size + 1, 4, none⟩ = some (.string y.text) := (hb.cell (p := ⟨W.heap.size + 1, 4, none⟩) l_V).trans c_V_4
  replace c_R_0 : w1.cell? ⟨W.heap.size + 1 + 1, 0, none⟩ = some (.slice none 0 0) := (hb.cell (p := ⟨W.heap.size + 1 + 1, 0, none⟩) l_R).trans c_R_0
  replace c_R_1 : w1.cell? ⟨W.heap.size + 1 + 1, 1, none⟩ = some (.slice none 0 0) := (hb.cell (p := ⟨W.heap.size + 1 + 1, 1, none⟩) l_R).trans c_R_1
  replace l_A : W.heap.size < w1.heap.size := Nat.lt_of_lt_of_le l_A hb.size
  replace l_V : W.heap.size + 1 < w1.heap.size := Nat.lt_of_lt_of_le l_V hb.size
  replace l_R : W.heap.size + 1 + 1 < w1.heap.size := Nat.lt_of_lt_of_le l_R hb.size
  replace LA : Live (Old W) W w1 := LA.call hb
  have y_w1 : a_R.heap.size ≤ w1.heap.size := hb.size
  replace zP : W.heap.size ≤ w1.heap.size := bP.size
  clear hb
  obtain ⟨av, cv, rfl⟩ := own_sl hov
  have hg1 := hou.lt g rfl
  have HOU := hid hou
  have HOV := hid hov
  clear hou hov
  go_wp2_with fail
  obtain ⟨a_N, hw_a_N⟩ : ∃ v, w1.alloc (.cells #[.slice (some ⟨g, 0, none⟩) x.keys.length ck, .slice av x.keys.length cv] 27) = v := ⟨_, rfl⟩
  have x_a_N : Below w1.heap.size w1 a_N := by rw [← hw_a_N]; exact ext_alloc _ _
  have z_a_N : w1.heap.size < a_N.heap.size := by rw [← hw_a_N]; simp
  have c_N_0 : a_N.cell? ⟨w1.heap.size, 0, none⟩ = some (.slice (some ⟨g, 0, none⟩) x.keys.length ck) := by rw [← hw_a_N]; simp
  have c_N_1 : a_N.cell? ⟨w1.heap.size, 1, none⟩ = some (.slice av x.keys.length cv) := by rw [← hw_a_N]; simp
  have z_N_1 : a_N.frozen? ⟨w1.heap.size, 1, none⟩ = false := by rw [← hw_a_N]; simp
  have z_N_0 : a_N.frozen? ⟨w1.heap.size, 0, none⟩ = false := by rw [← hw_a_N]; simp
  replace z_R_0 : a_N.frozen? ⟨W.heap.size + 1 + 1, 0, none⟩ = false := (x_a_N.frozen (p := ⟨W.heap.size + 1 + 1, 0, none⟩) l_R).trans z_R_0
  replace z_R_1 : a_N.frozen? ⟨W.heap.size + 1 + 1, 1, none⟩ = false := (x_a_N.frozen (p := ⟨W.heap.size + 1 + 1, 1, none⟩) l_R).trans z_R_1
  replace bP : Below W.heap.size W a_N := bw_call bP zP x_a_N
  replace c_A_0 : a_N.cell? ⟨W.heap.size, 0, none⟩ = some (.slice a0 x.keys.length c0) := (x_a_N.cell (p := ⟨W.heap.size, 0, none⟩) l_A).trans c_A_0
  replace c_A_1 : a_N.cell? ⟨W.heap.size, 1, none⟩ = some (.slice a1 x.vals.length c1) := (x_a_N.cell (p := ⟨W.heap.size, 1, none⟩) l_A).trans c_A_1
  replace c_V_0 : a_N.cell? ⟨W.heap.size + 1, 0, none⟩ = some (.int .i64 y.kind) := (x_a_N.cell (p := ⟨W.heap.size + 1, 0, none⟩) l_V).trans c_V_0
  replace c_V_1 : a_N.cell? ⟨W.heap.size + 1, 1, none⟩ = some (.bool y.num.neg) := (x_a_N.cell (p := ⟨W.heap.size + 1, 1, none⟩) l_V).trans c_V_1
  replace c_V_2 : a_N.cell? ⟨W.heap.size + 1, 2, none⟩ = some (.string y.num.dig) := (x_a_N.cell (p := ⟨W.heap.size + 1, 2, none⟩) l_V).trans c_V_2
  replace c_V_3 : a_N.cell? ⟨W.heap.size + 1, 3, none⟩ = some (.int .i64 y.num.exp) := (x_a_N.cell (p := ⟨W.heap.size + 1, 3, none⟩) l_V).trans c_V_3
  replace c_V_4 : a_N.cell? ⟨W.heap.size + 1, 4, none⟩ = some (.string y.text) := (x_a_N.cell (p := ⟨W.heap.size + 1, 4, none⟩) l_V).trans c_V_4
  replace c_R_0 : a_N.cell? ⟨W.heap.size + 1 + 1, 0, none⟩ = some (.slice none 0 0) := (x_a_N.cell (p := ⟨W.heap.size + 1 + 1, 0, none⟩) l_R).trans c_R_0
  replace c_R_1 : a_N.cell? ⟨W.heap.size + 1 + 1, 1, none⟩ = some (.slice none 0 0) := (x_a_N.cell (p := ⟨W.heap.size + 1 + 1, 1, none⟩) l_R).trans c_R_1
  replace l_A : W.heap.size < a_N.heap.size := Nat.lt_of_lt_of_le l_A x_a_N.size
  replace l_V : W.heap.size + 1 < a_N.heap.size := Nat.lt_of_lt_of_le l_V x_a_N.size
  replace l_R : W.heap.size + 1 + 1 < a_N.heap.size := Nat.lt_of_lt_of_le l_R x_a_N.size
  replace LA : Live (Old W) W a_N := LA.call x_a_N
  have y_a_N : w1.heap.size ≤ a_N.heap.size := x_a_N.size
  replace zP : W.heap.size ≤ a_N.heap.size := bP.size
  have l_N : w1.heap.size < a_N.heap.size := z_a_N
  rw [hw_a_N]
  have y_N := x_a_N; clear hw_a_N x_a_N
  have HOU9 := hid (own_later HOU.out y_N)
  have HOV9 := hid (own_later HOV.out y_N)
  refine (specArrAt s _ (by exact LA.rd H0)).mono ?_
  rintro e w2 ⟨rfl, hb⟩
  replace HOU9 := hid (own_later HOU9.out hb)
  replace HOV9 := hid (own_later HOV9.out hb)
  replace z_R_0 : w2.frozen? ⟨W.heap.size + 1 + 1, 0, none⟩ = false := (hb.frozen (p := ⟨W.heap.size + 1 + 1, 0, none⟩) l_R).trans z_R_0
  replace z_R_1 : w2.frozen? ⟨W.heap.size + 1 + 1, 1, none⟩ = false := (hb.frozen (p := ⟨W.heap.size + 1 + 1, 1, none⟩) l_R).trans z_R_1
  replace z_N_0 : w2.frozen? ⟨w1.heap.size, 0, none⟩ = false := (hb.frozen (p := ⟨w1.heap.size, 0, none⟩) l_N).trans z_N_0
  replace z_N_1 : w2.frozen? ⟨w1.heap.size, 1, none⟩ = false := (hb.frozen (p := ⟨w1.heap.size, 1, none⟩) l_N).trans z_N_1
  replace bP : Below W.heap.size W w2 := bw_call bP zP hb
  replace c_A_0 : w2.cell? ⟨W.heap.size, 0, none⟩ = some (.slice a0 x.keys.length c0) := (hb.cell (p := ⟨W.heap.size, 0, none⟩) l_A).trans c_A_0
  replace c_A_1 : w2.cell? ⟨W.heap.size, 1, none⟩ = some (.slice a1 x.vals.length c1) := (hb.cell (p := ⟨W.heap.size, 1, none⟩) l_A).trans c_A_1
  replace c_V_0 : w2.cell? ⟨W.heap.size + 1, 0, none⟩ = some (.int .i64 y.kind) := (hb.cell (p := ⟨W.heap.size + 1, 0, none⟩) l_V).trans c_V_0
  replace c_V_1 : w2.cell? ⟨W.heap.size + 1, 1, none⟩ = some (.bool y.num.neg) := (hb.cell (p := ⟨W.heap.size + 1, 1, none⟩) l_V).trans c_V_1
  replace c_V_2 : w2.cell? ⟨W.heap.size + 1, 2, none⟩ = some (.string y.num.dig) := (hb.cell (p := ⟨W.heap.size + 1, 2, none⟩) l_V).trans c_V_2
  replace c_V_3 : w2.cell? ⟨W.heap.size + 1, 3, none⟩ = some (.int .i64 y.num.exp) := (hb.cell (p := ⟨W.heap.size + 1, 3, none⟩) l_V).trans c_V_3
  replace c_V_4 : w2.cell? ⟨W.heap.size + 1, 4, none⟩ = some (.string y.text) := (hb.cell (p := ⟨W.heap.size + 1, 4, none⟩) l_V).trans c_V_4
  replace c_R_0 : w2.cell? ⟨W.heap.size + 1 + 1, 0, none⟩ = some (.slice none 0 0) := (hb.cell (p := ⟨W.heap.size + 1 + 1, 0, none⟩) l_R).trans c_R_0
  replace c_R_1 : w2.cell? ⟨W.heap.size + 1 + 1, 1, none⟩ = some (.slice none 0 0) := (hb.cell (p := ⟨W.heap.size + 1 + 1, 1, none⟩) l_R).trans c_R_1
  replace c_N_0 : w2.cell? ⟨w1.heap.size, 0, none⟩ = some (.slice (some ⟨g, 0, none⟩) x.keys.length ck) := (hb.cell (p := ⟨w1.heap.size, 0, none⟩) l_N).trans c_N_0
  replace c_N_1 : w2.cell? ⟨w1.heap.size, 1, none⟩ = some (.slice av x.keys.length cv) := (hb.cell (p := ⟨w1.heap.size, 1, none⟩) l_N).trans c_N_1
  replace l_A : W.heap.size < w2.heap.size := Nat.lt_of_lt_of_le l_A hb.size
  replace l_V : W.heap.size + 1 < w2.heap.size := Nat.lt_of_lt_of_le l_V hb.size
  replace l_R : W.heap.size + 1 + 1 < w2.heap.size := Nat.lt_of_lt_of_le l_R hb.size
  replace l_N : w1.heap.size < w2.heap.size := Nat.lt_of_lt_of_le l_N hb.size
  replace LA : Live (Old W) W w2 := LA.call hb
  have y_w2 : a_N.heap.size ≤ w2.heap.size := hb.size
  replace zP : W.heap.size ≤ w2.heap.size := bP.size
  clear hb
  obtain ⟨k, hk⟩ : ∃ k, arrAt x s = k := ⟨_, rfl⟩
  have HK := hid hk
  rw [hk] at hle ⊢
  clear hk
  go_wp2_with fail
  refine (specTextOk s _).mono ?_
  rintro e w3 ⟨rfl, hb⟩
  replace HOU9 := hid (own_later HOU9.out hb)
  replace HOV9 := hid (own_later HOV9.out hb)
  replace z_R_0 : w3.frozen? ⟨W.heap.size + 1 + 1, 0, none⟩ = false := (hb.frozen (p := ⟨W.heap.size + 1 + 1, 0, none⟩) l_R).trans z_R_0
  replace z_R_1 : w3.frozen? ⟨W.heap.size + 1 + 1, 1, none⟩ = false := (hb.frozen (p := ⟨W.heap.size + 1 + 1, 1, none⟩) l_R).trans z_R_1
  replace z_N_0 : w3.frozen? ⟨w1.heap.size, 0, none⟩ = false := (hb.frozen (p := ⟨w1.heap.size, 0, none⟩) l_N).trans z_N_0
  replace z_N_1 : w3.frozen? ⟨w1.heap.size, 1, none⟩ = false := (hb.frozen (p := ⟨w1.heap.size, 1, none⟩) l_N).trans z_N_1
  replace bP : Below W.heap.size W w3 := bw_call bP zP hb
  replace c_A_0 : w3.cell? ⟨W.heap.size, 0, none⟩ = some (.slice a0 x.keys.length c0) := (hb.cell (p := ⟨W.heap.size, 0, none⟩) l_A).trans c_A_0
  replace c_A_1 : w3.cell? ⟨W.heap.size, 1, none⟩ = some (.slice a1 x.vals.length c1) := (hb.cell (p := ⟨W.heap.size, 1, none⟩) l_A).trans c_A_1
  replace c_V_0 : w3.cell? ⟨W.heap.size + 1, 0, none⟩ = some (.int .i64 y.kind) := (hb.cell (p := ⟨W.heap.size + 1, 0, none⟩) l_V).trans c_V_0
  replace c_V_1 : w3.cell? ⟨W.heap.size + 1, 1, none⟩ = some (.bool y.num.neg) := (hb.cell (p := ⟨W.heap.size + 1, 1, none⟩) l_V).trans c_V_1
  replace c_V_2 : w3.cell? ⟨W.heap.size + 1, 2, none⟩ = some (.string y.num.dig) := (hb.cell (p := ⟨W.heap.size + 1, 2, none⟩) l_V).trans c_V_2
  replace c_V_3 : w3.cell? ⟨W.heap.size + 1, 3, none⟩ = some (.int .i64 y.num.exp) := (hb.cell (p := ⟨W.heap.size + 1, 3, none⟩) l_V).trans c_V_3
  replace c_V_4 : w3.cell? ⟨W.heap.size + 1, 4, none⟩ = some (.string y.text) := (hb.cell (p := ⟨W.heap.size + 1, 4, none⟩) l_V).trans c_V_4
  replace c_R_0 : w3.cell? ⟨W.heap.size + 1 + 1, 0, none⟩ = some (.slice none 0 0) := (hb.cell (p := ⟨W.heap.size + 1 + 1, 0, none⟩) l_R).trans c_R_0
  replace c_R_1 : w3.cell? ⟨W.heap.size + 1 + 1, 1, none⟩ = some (.slice none 0 0) := (hb.cell (p := ⟨W.heap.size + 1 + 1, 1, none⟩) l_R).trans c_R_1
  replace c_N_0 : w3.cell? ⟨w1.heap.size, 0, none⟩ = some (.slice (some ⟨g, 0, none⟩) x.keys.length ck) := (hb.cell (p := ⟨w1.heap.size, 0, none⟩) l_N).trans c_N_0
  replace c_N_1 : w3.cell? ⟨w1.heap.size, 1, none⟩ = some (.slice av x.keys.length cv) := (hb.cell (p := ⟨w1.heap.size, 1, none⟩) l_N).trans c_N_1
  replace l_A : W.heap.size < w3.heap.size := Nat.lt_of_lt_of_le l_A hb.size
  replace l_V : W.heap.size + 1 < w3.heap.size := Nat.lt_of_lt_of_le l_V hb.size
  replace l_R : W.heap.size + 1 + 1 < w3.heap.size := Nat.lt_of_lt_of_le l_R hb.size
  replace l_N : w1.heap.size < w3.heap.size := Nat.lt_of_lt_of_le l_N hb.size
  replace LA : Live (Old W) W w3 := LA.call hb
  have y_w3 : w2.heap.size ≤ w3.heap.size := hb.size
  replace zP : W.heap.size ≤ w3.heap.size := bP.size
  clear hb
  rcases hts : okText s with _ | _
  · have HP : Hid (putOk x s y = false) := hid (by unfold putOk; rw [hts]; rfl)
    clear hts
    have HR := hid (show arrPut x s y = arrFill x by unfold arrPut; rw [HP.out]; rfl)
    have HV6 : Hid (World.ownsRow _ _ _ _ _ (fillK x.vals x.keys.length).length _) := hid (by rw [fillK_len]; exact HOV9.out)
    go_wp2
    refine bodyPost_ret (v := .tuple #[.agg #[.slice (some ⟨g, 0, none⟩) x.keys.length ck, .slice av x.keys.length cv], .bool false]) (by simp [results, Tryd.results9, go_sem, c_R_0, c_R_1, z_R_0, z_R_1, l_R]) rfl ⟨_, by rw [HP.out], ?_, ?_, ?_⟩
    · rw [HR.out]
      exact rdArr_own (B := a_R.heap.size) (C := C) (e1 := 9) (e2 := 31) (by exact ownsRow_setCell_below (ownsRow_setCell_below HOU9.out (show W.heap.size + 1 + 1 < _ by omega) _) (show W.heap.size + 1 + 1 < _ by omega) _) (by exact ownsRow_setCell_below (ownsRow_setCell_below HV6.out (show W.heap.size + 1 + 1 < _ by omega) _) (show W.heap.size + 1 + 1 < _ by omega) _) (by omega) (by omega) (HSK.out) (HVK.out)
    · rw [HR.out]
      exact ownA_own (B := a_R.heap.size) (C := C) (by exact ownsRow_setCell_below (ownsRow_setCell_below HOU9.out (show W.heap.size + 1 + 1 < _ by omega) _) (show W.heap.size + 1 + 1 < _ by omega) _) (by exact ownsRow_setCell_below (ownsRow_setCell_below HV6.out (show W.heap.size + 1 + 1 < _ by omega) _) (show W.heap.size + 1 + 1 < _ by omega) _) (by omega) (by omega) (fun q h1 h2 => by have := (HOV9.out.lt q h2).1; simp [Value.ownBlock] at h1; omega)
    · repeat' (first | (with_reducible exact bP) | (with_reducible refine Below.setCell ?_ ?_ _) | (with_reducible refine Below.alloc ?_ ?_ _) | (simp; done) | (simp; omega) | omega)
  go_wp2_with fail
  refine (specValOk _ (by exact LA.rd HY)).mono ?_
  rintro e w4 ⟨rfl, hb⟩
  replace HOU9 := hid (own_later HOU9.out hb)
  replace HOV9 := hid (own_later HOV9.out hb)
  replace z_R_0 : w4.frozen? ⟨W.heap.size + 1 + 1, 0, none⟩ = false := (hb.frozen (p := ⟨W.heap.size + 1 + 1, 0, none⟩) l_R).trans z_R_0
  replace z_R_1 : w4.frozen? ⟨W.heap.size + 1 + 1, 1, none⟩ = false := (hb.frozen (p := ⟨W.heap.size + 1 + 1, 1, none⟩) l_R).trans z_R_1
  replace z_N_0 : w4.frozen? ⟨w1.heap.size, 0, none⟩ = false := (hb.frozen (p := ⟨w1.heap.size, 0, none⟩) l_N).trans z_N_0
  replace z_N_1 : w4.frozen? ⟨w1.heap.size, 1, none⟩ = false := (hb.frozen (p := ⟨w1.heap.size, 1, none⟩) l_N).trans z_N_1
  replace bP : Below W.heap.size W w4 := bw_call bP zP hb
  replace c_A_0 : w4.cell? ⟨W.heap.size, 0, none⟩ = some (.slice a0 x.keys.length c0) := (hb.cell (p := ⟨W.heap.size, 0, none⟩) l_A).trans c_A_0
  replace c_A_1 : w4.cell? ⟨W.heap.size, 1, none⟩ = some (.slice a1 x.vals.length c1) := (hb.cell (p := ⟨W.heap.size, 1, none⟩) l_A).trans c_A_1
  replace c_V_0 : w4.cell? ⟨W.heap.size + 1, 0, none⟩ = some (.int .i64 y.kind) := (hb.cell (p := ⟨W.heap.size + 1, 0, none⟩) l_V).trans c_V_0
  replace c_V_1 : w4.cell? ⟨W.heap.size + 1, 1, none⟩ = some (.bool y.num.neg) := (hb.cell (p := ⟨W.heap.size + 1, 1, none⟩) l_V).trans c_V_1
  replace c_V_2 : w4.cell? ⟨W.heap.size + 1, 2, none⟩ = some (.string y.num.dig) := (hb.cell (p := ⟨W.heap.size + 1, 2, none⟩) l_V).trans c_V_2
  replace c_V_3 : w4.cell? ⟨W.heap.size + 1, 3, none⟩ = some (.int .i64 y.num.exp) := (hb.cell (p := ⟨W.heap.size + 1, 3, none⟩) l_V).trans c_V_3
  replace c_V_4 : w4.cell? ⟨W.heap.size + 1, 4, none⟩ = some (.string y.text) := (hb.cell (p := ⟨W.heap.size + 1, 4, none⟩) l_V).trans c_V_4
  replace c_R_0 : w4.cell? ⟨W.heap.size + 1 + 1, 0, none⟩ = some (.slice none 0 0) := (hb.cell (p := ⟨W.heap.size + 1 + 1, 0, none⟩) l_R).trans c_R_0
  replace c_R_1 : w4.cell? ⟨W.heap.size + 1 + 1, 1, none⟩ = some (.slice none 0 0) := (hb.cell (p := ⟨W.heap.size + 1 + 1, 1, none⟩) l_R).trans c_R_1
  replace c_N_0 : w4.cell? ⟨w1.heap.size, 0, none⟩ = some (.slice (some ⟨g, 0, none⟩) x.keys.length ck) := (hb.cell (p := ⟨w1.heap.size, 0, none⟩) l_N).trans c_N_0
  replace c_N_1 : w4.cell? ⟨w1.heap.size, 1, none⟩ = some (.slice av x.keys.length cv) := (hb.cell (p := ⟨w1.heap.size, 1, none⟩) l_N).trans c_N_1
  replace l_A : W.heap.size < w4.heap.size := Nat.lt_of_lt_of_le l_A hb.size
  replace l_V : W.heap.size + 1 < w4.heap.size := Nat.lt_of_lt_of_le l_V hb.size
  replace l_R : W.heap.size + 1 + 1 < w4.heap.size := Nat.lt_of_lt_of_le l_R hb.size
  replace l_N : w1.heap.size < w4.heap.size := Nat.lt_of_lt_of_le l_N hb.size
  replace LA : Live (Old W) W w4 := LA.call hb
  have y_w4 : w3.heap.size ≤ w4.heap.size := hb.size
  replace zP : W.heap.size ≤ w4.heap.size := bP.size
  clear hb
  rcases hvs : valOk y with _ | _
  · have HP : Hid (putOk x s y = false) := hid (by unfold putOk; rw [hvs, Bool.and_false]; rfl)
    clear hts hvs
    have HR := hid (show arrPut x s y = arrFill x by unfold arrPut; rw [HP.out]; rfl)
    have HV6 : Hid (World.ownsRow _ _ _ _ _ (fillK x.vals x.keys.length).length _) := hid (by rw [fillK_len]; exact HOV9.out)
    go_wp2
    refine bodyPost_ret (v := .tuple #[.agg #[.slice (some ⟨g, 0, none⟩) x.keys.length ck, .slice av x.keys.length cv], .bool false]) (by simp [results, Tryd.results9, go_sem, c_R_0, c_R_1, z_R_0, z_R_1, l_R]) rfl ⟨_, by rw [HP.out], ?_, ?_, ?_⟩
    · rw [HR.out]
      exact rdArr_own (B := a_R.heap.size) (C := C) (e1 := 9) (e2 := 31) (by exact ownsRow_setCell_below (ownsRow_setCell_below HOU9.out (show W.heap.size + 1 + 1 < _ by omega) _) (show W.heap.size + 1 + 1 < _ by omega) _) (by exact ownsRow_setCell_below (ownsRow_setCell_below HV6.out (show W.heap.size + 1 + 1 < _ by omega) _) (show W.heap.size + 1 + 1 < _ by omega) _) (by omega) (by omega) (HSK.out) (HVK.out)
    · rw [HR.out]
      exact ownA_own (B := a_R.heap.size) (C := C) (by exact ownsRow_setCell_below (ownsRow_setCell_below HOU9.out (show W.heap.size + 1 + 1 < _ by omega) _) (show W.heap.size + 1 + 1 < _ by omega) _) (by exact ownsRow_setCell_below (ownsRow_setCell_below HV6.out (show W.heap.size + 1 + 1 < _ by omega) _) (show W.heap.size + 1 + 1 < _ by omega) _) (by omega) (by omega) (fun q h1 h2 => by have := (HOV9.out.lt q h2).1; simp [Value.ownBlock] at h1; omega)
    · repeat' (first | (with_reducible exact bP) | (with_reducible refine Below.setCell ?_ ?_ _) | (with_reducible refine Below.alloc ?_ ?_ _) | (simp; done) | (simp; omega) | omega)
  by_cases hat : k < 0
  · by_cases hlen : 200 ≤ x.keys.length
    · have hlen' : (200 : Int) ≤ (x.keys.length : Int) := by omega
      have HP : Hid (putOk x s y = false) := hid (by unfold putOk; rw [hts, hvs, HK.out, decide_eq_true hat, decide_eq_true hlen]; rfl)
      clear hts hvs
      have HR := hid (show arrPut x s y = arrFill x by unfold arrPut; rw [HP.out]; rfl)
      have HV6 : Hid (World.ownsRow _ _ _ _ _ (fillK x.vals x.keys.length).length _) := hid (by rw [fillK_len]; exact HOV9.out)
      go_wp2
      refine bodyPost_ret (v := .tuple #[.agg #[.slice (some ⟨g, 0, none⟩) x.keys.length ck, .slice av x.keys.length cv], .bool false]) (by simp [results, Tryd.results9, go_sem, c_R_0, c_R_1, z_R_0, z_R_1, l_R]) rfl ⟨_, by rw [HP.out], ?_, ?_, ?_⟩
      · rw [HR.out]
        exact rdArr_own (B := a_R.heap.size) (C := C) (e1 := 9) (e2 := 31) (by exact ownsRow_setCell_below (ownsRow_setCell_below HOU9.out (show W.heap.size + 1 + 1 < _ by omega) _) (show W.heap.size + 1 + 1 < _ by omega) _) (by exact ownsRow_setCell_below (ownsRow_setCell_below HV6.out (show W.heap.size + 1 + 1 < _ by omega) _) (show W.heap.size + 1 + 1 < _ by omega) _) (by omega) (by omega) (HSK.out) (HVK.out)
      · rw [HR.out]
        exact ownA_own (B := a_R.heap.size) (C := C) (by exact ownsRow_setCell_below (ownsRow_setCell_below HOU9.out (show W.heap.size + 1 + 1 < _ by omega) _) (show W.heap.size + 1 + 1 < _ by omega) _) (by exact ownsRow_setCell_below (ownsRow_setCell_below HV6.out (show W.heap.size + 1 + 1 < _ by omega) _) (show W.heap.size + 1 + 1 < _ by omega) _) (by omega) (by omega) (fun q h1 h2 => by have := (HOV9.out.lt q h2).1; simp [Value.ownBlock] at h1; omega)
      · repeat' (first | (with_reducible exact bP) | (with_reducible refine Below.setCell ?_ ?_ _) | (with_reducible refine Below.alloc ?_ ?_ _) | (simp; done) | (simp; omega) | omega)
    · have hlen' : ¬ (200 : Int) ≤ (x.keys.length : Int) := by omega
      have HP : Hid (putOk x s y = true) := hid (by unfold putOk; rw [hts, hvs, HK.out, decide_eq_true hat, decide_eq_false hlen]; rfl)
      have HR := hid (show arrPut x s y = ⟨x.keys ++ [s], fillK x.vals x.keys.length ++ [y]⟩ by unfold arrPut arrSet; rw [HP.out, HK.out, if_pos rfl, if_pos hat])
      clear hts hvs
      have hss : s.size ≤ 9223372036854775807 := hsz.out
      have ST0 : PutSt w4 a_R.heap.size w1.heap.size w4 x.keys.length x.keys.length (.slice (some ⟨g, 0, none⟩) x.keys.length ck) (.slice av x.keys.length cv) (strCellsL x.keys) (valsCells (fillK x.vals x.keys.length)) := ⟨Below.refl _ _, HOU9.out, ownsRow_mono HOV9.out hC, fun q h1 h2 => by have := (HOV9.out.lt q h2).1; simp [Value.ownBlock] at h1; omega, fun e => by simp [Value.ownBlock] at e; omega, fun e => by have := (HOV.out.lt _ e).2; omega, by omega, by omega, by omega⟩
      have ST1 := ST0.alloc (.cells #[.string s] 9)
      have BA := ST0.blk #[.string s] 9
      go_wp2_with ((at_builtin; refine wpList_append_lies _ rfl (.tmp 37) (.tmp 39) 24 rfl a_R.heap.size 9 ii (.string ⟨#[]⟩) 1 16 Tryd.underlying24 hi hz0 hz1 hz2 rfl (by decide) (.slice (some ⟨g, 0, none⟩) x.keys.length ck) x.keys.length (strCellsL x.keys) rfl ST1.hu ⟨w4.heap.size, 0, none⟩ 1 1 [.string s] rfl rfl (World.news_of_block (cs := #[.string s]) (t := 9) (fr := (0, 0)) BA.hp) (by intro u hu; simp at hu; subst hu; rfl) (by decide) (by unfold maxLen; omega) (by omega) ST1.hB _ rfl ?_))
      intro g2 p2 q2 how hgw haw hlw
      have ST2 := ST1.apU (by simp) how hgw haw
      have hbx := (ST1.box_u hgw).trans (heap_alloc_old w4 (.cells #[.string s] 9) ST0.h9)
      have d_N_0 := (World.cell?_of_block (a := ⟨w1.heap.size, 0, none⟩) hbx).trans c_N_0
      have d_N_1 := (World.cell?_of_block (a := ⟨w1.heap.size, 1, none⟩) hbx).trans c_N_1
      have e_N_0 := (World.frozen?_of_block (a := ⟨w1.heap.size, 0, none⟩) hbx).trans z_N_0
      have e_N_1 := (World.frozen?_of_block (a := ⟨w1.heap.size, 1, none⟩) hbx).trans z_N_1
      have m_N : w1.heap.size < q2.heap.size := ST2.h9
      have d_V_0 := (ST2.bel.cell (p := ⟨W.heap.size + 1, 0, none⟩) (show W.heap.size + 1 < _ by omega)).trans c_V_0
      have d_V_1 := (ST2.bel.cell (p := ⟨W.heap.size + 1, 1, none⟩) (show W.heap.size + 1 < _ by omega)).trans c_V_1
      have d_V_2 := (ST2.bel.cell (p := ⟨W.heap.size + 1, 2, none⟩) (show W.heap.size + 1 < _ by omega)).trans c_V_2
      have d_V_3 := (ST2.bel.cell (p := ⟨W.heap.size + 1, 3, none⟩) (show W.heap.size + 1 < _ by omega)).trans c_V_3
      have d_V_4 := (ST2.bel.cell (p := ⟨W.heap.size + 1, 4, none⟩) (show W.heap.size + 1 < _ by omega)).trans c_V_4
      have m_V : W.heap.size + 1 < q2.heap.size := Nat.lt_of_lt_of_le l_V ST2.bel.size
      have d_R_0 := (ST2.bel.cell (p := ⟨W.heap.size + 1 + 1, 0, none⟩) hR).trans c_R_0
      have d_R_1 := (ST2.bel.cell (p := ⟨W.heap.size + 1 + 1, 1, none⟩) hR).trans c_R_1
      have e_R_0 := (ST2.bel.frozen (p := ⟨W.heap.size + 1 + 1, 0, none⟩) hR).trans z_R_0
      have e_R_1 := (ST2.bel.frozen (p := ⟨W.heap.size + 1 + 1, 1, none⟩) hR).trans z_R_1
      have m_R : W.heap.size + 1 + 1 < q2.heap.size := Nat.lt_of_lt_of_le l_R ST2.bel.size
      have ST3 := (ST2.set9 (o := 0) (.slice (some ⟨g2, 0, none⟩) (x.keys.length + 1) p2)).alloc (.cells #[.int .i64 y.kind, .bool y.num.neg, .string y.num.dig, .int .i64 y.num.exp, .string y.text] 31)
      have BB := (ST2.set9 (o := 0) (.slice (some ⟨g2, 0, none⟩) (x.keys.length + 1) p2)).blk #[.int .i64 y.kind, .bool y.num.neg, .string y.num.dig, .int .i64 y.num.exp, .string y.text] 31
      rw [show (q2.setCell ⟨w1.heap.size, 0, none⟩ (.slice (some ⟨g2, 0, none⟩) (x.keys.length + 1) p2)).heap.size = q2.heap.size by simp [World.setCell]] at BB
      clear how hgw haw hlw hbx ST0 ST1 BA
      clear c_V_0 c_V_1 c_V_2 c_V_3 c_V_4 c_R_0 c_R_1 z_R_0 z_R_1 c_N_0 c_N_1 z_N_0 z_N_1
      go_wp2_with ((at_builtin; refine wpList_append_lies _ rfl (.tmp 43) (.tmp 45) 25 rfl a_R.heap.size 31 jj (.agg #[.int .i64 0, .bool false, .string ⟨#[]⟩, .int .i64 0, .string ⟨#[]⟩]) 5 56 Tryd.underlying25 ki kz0 kz1 kz2 rfl (by decide) (.slice av x.keys.length cv) x.keys.length (valsCells (fillK x.vals x.keys.length)) rfl ST3.hv ⟨q2.heap.size, 0, none⟩ 1 1 [.int .i64 y.kind, .bool y.num.neg, .string y.num.dig, .int .i64 y.num.exp, .string y.text] rfl rfl (World.news_of_block (cs := #[.int .i64 y.kind, .bool y.num.neg, .string y.num.dig, .int .i64 y.num.exp, .string y.text]) (t := 31) (fr := (0, 0)) BB.hp) (one_valCells y) (by decide) (by unfold maxLen; omega) (by omega) ST3.hB _ rfl ?_))
      intro g4 p4 q4 how hgw haw hlw
      have ST4 := ST3.apV (by simp [World.setCell]) how hgw haw
      have hbx := (ST3.box_v hgw).trans (heap_alloc_old _ (.cells #[.int .i64 y.kind, .bool y.num.neg, .string y.num.dig, .int .i64 y.num.exp, .string y.text] 31) (ST2.set9 (o := 0) (.slice (some ⟨g2, 0, none⟩) (x.keys.length + 1) p2)).h9)
      have f_N_0 := (World.cell?_of_block (a := ⟨w1.heap.size, 0, none⟩) hbx).trans (World.cell?_setCell_same _ _ _ d_N_0)
      have f_N_1 := (World.cell?_of_block (a := ⟨w1.heap.size, 1, none⟩) hbx).trans ((World.cell?_setCell_other _ _ _ _ (by simp)).trans d_N_1)
      have h_N_0 := (World.frozen?_of_block (a := ⟨w1.heap.size, 0, none⟩) hbx).trans ((World.frozen?_setCell _ _ _ _).trans e_N_0)
      have h_N_1 := (World.frozen?_of_block (a := ⟨w1.heap.size, 1, none⟩) hbx).trans ((World.frozen?_setCell _ _ _ _).trans e_N_1)
      have i_N : w1.heap.size < q4.heap.size := ST4.h9
      have f_R_0 := (ST4.bel.cell (p := ⟨W.heap.size + 1 + 1, 0, none⟩) hR).trans ((ST2.bel.cell (p := ⟨W.heap.size + 1 + 1, 0, none⟩) hR).symm.trans d_R_0)
      have f_R_1 := (ST4.bel.cell (p := ⟨W.heap.size + 1 + 1, 1, none⟩) hR).trans ((ST2.bel.cell (p := ⟨W.heap.size + 1 + 1, 1, none⟩) hR).symm.trans d_R_1)
      have h_R_0 := (ST4.bel.frozen (p := ⟨W.heap.size + 1 + 1, 0, none⟩) hR).trans ((ST2.bel.frozen (p := ⟨W.heap.size + 1 + 1, 0, none⟩) hR).symm.trans e_R_0)
      have h_R_1 := (ST4.bel.frozen (p := ⟨W.heap.size + 1 + 1, 1, none⟩) hR).trans ((ST2.bel.frozen (p := ⟨W.heap.size + 1 + 1, 1, none⟩) hR).symm.trans e_R_1)
      have i_R : W.heap.size + 1 + 1 < q4.heap.size := Nat.lt_of_lt_of_le l_R ST4.bel.size
      have ST5 := ST4.set9 (o := 1) (.slice (some ⟨g4, 0, none⟩) (x.keys.length + 1) p4)
      have HU6 : Hid (World.ownsRow _ _ _ _ _ (x.keys ++ [s]).length (strCellsL (x.keys ++ [s]))) := hid (by rw [List.length_append, strCells_append]; exact ST5.hu)
      have HV6 : Hid (World.ownsRow _ _ _ _ _ (fillK x.vals x.keys.length ++ [y]).length (valsCells (fillK x.vals x.keys.length ++ [y]))) := hid (by rw [List.length_append, fillK_len, valsCells_append, (show valsCells [y] = valCells y by simp [valsCells])]; exact ST5.hv)
      have bF : Below W.heap.size W (q4.setCell ⟨w1.heap.size, 1, none⟩ (.slice (some ⟨g4, 0, none⟩) (x.keys.length + 1) p4)) := ⟨ST5.bel.os.trans bP.os, ST5.bel.tape.trans bP.tape, ST5.bel.output.trans bP.output, Nat.le_trans bP.size ST5.bel.size, fun c hc => (ST5.bel.block c (by omega)).trans (bP.block c hc)⟩
      have HNE := hid ST5.ne
      clear how hgw haw hlw hbx ST2 ST3 ST4 ST5 BB
      clear d_V_0 d_V_1 d_V_2 d_V_3 d_V_4 d_R_0 d_R_1 e_R_0 e_R_1 d_N_0 d_N_1 e_N_0 e_N_1
      go_wp2
      refine bodyPost_ret (v := .tuple #[.agg #[.slice (some ⟨g2, 0, none⟩) (x.keys.length + 1) p2, .slice (some ⟨g4, 0, none⟩) (x.keys.length + 1) p4], .bool true]) (by simp [results, Tryd.results9, go_sem, f_R_0, f_R_1, h_R_0, h_R_1, i_R]) rfl ⟨_, by rw [HP.out], ?_, ?_, ?_⟩
      · rw [HR.out]
        exact rdArr_own (B := a_R.heap.size) (C := a_R.heap.size) (e1 := 9) (e2 := 31) (by exact ownsRow_setCell_below (ownsRow_setCell_below HU6.out (show W.heap.size + 1 + 1 < _ by omega) _) (show W.heap.size + 1 + 1 < _ by omega) _) (by exact ownsRow_setCell_below (ownsRow_setCell_below HV6.out (show W.heap.size + 1 + 1 < _ by omega) _) (show W.heap.size + 1 + 1 < _ by omega) _) (by omega) (by omega) (by intro t ht; rcases List.mem_append.1 ht with h | h; exact HSK.out t h; (simp only [List.mem_singleton] at h; subst h; exact hss)) (by intro t ht; rcases List.mem_append.1 ht with h | h; exact HVK.out t h; (simp only [List.mem_singleton] at h; subst h; exact HYK.out))
      · rw [HR.out]
        exact ownA_own (B := a_R.heap.size) (C := a_R.heap.size) (by exact ownsRow_setCell_below (ownsRow_setCell_below HU6.out (show W.heap.size + 1 + 1 < _ by omega) _) (show W.heap.size + 1 + 1 < _ by omega) _) (by exact ownsRow_setCell_below (ownsRow_setCell_below HV6.out (show W.heap.size + 1 + 1 < _ by omega) _) (show W.heap.size + 1 + 1 < _ by omega) _) (by omega) (by omega) (HNE.out)
      · repeat' (first | (with_reducible exact bF) | (with_reducible refine Below.setCell ?_ ?_ _) | (with_reducible refine Below.alloc ?_ ?_ _) | (simp; done) | (simp; omega) | omega)
  · have HP : Hid (putOk x s y = true) := hid (by unfold putOk; rw [hts, hvs, HK.out, decide_eq_false hat]; rfl)
    obtain ⟨j, rfl⟩ := Int.eq_ofNat_of_zero_le (show 0 ≤ k by omega)
    have hjn : j < x.keys.length := by omega
    have HR := hid (show arrPut x s y = ⟨x.keys, (fillK x.vals x.keys.length).set j y⟩ by unfold arrPut arrSet; rw [HP.out, HK.out, if_pos rfl, if_neg hat]; rfl)
    clear hts hvs
    have hov := HOV9.out
    obtain ⟨gv, cv', hv, hgv1, hgv2⟩ := hov.form (by omega)
    simp only [Value.slice.injEq, true_and] at hv
    obtain ⟨rfl, rfl⟩ := hv
    have hjz : (j : Int) < (x.keys.length : Int) := by omega
    obtain ⟨e0, m0⟩ : ∃ v, w4.cell? ⟨gv, j * 5, none⟩ = some v := by rw [hov.cellAt _ (by omega)]; exact ⟨_, List.getElem?_eq_getElem (by rw [valsCells_len, fillK_len]; omega)⟩
    have n0 := hov.frozenAt (j * 5)
    obtain ⟨e1, m1⟩ : ∃ v, w4.cell? ⟨gv, j * 5 + 1, none⟩ = some v := by rw [hov.cellAt _ (by omega)]; exact ⟨_, List.getElem?_eq_getElem (by rw [valsCells_len, fillK_len]; omega)⟩
    have n1 := hov.frozenAt (j * 5 + 1)
    obtain ⟨e2, m2⟩ : ∃ v, w4.cell? ⟨gv, j * 5 + 2, none⟩ = some v := by rw [hov.cellAt _ (by omega)]; exact ⟨_, List.getElem?_eq_getElem (by rw [valsCells_len, fillK_len]; omega)⟩
    have n2 := hov.frozenAt (j * 5 + 2)
    obtain ⟨e3, m3⟩ : ∃ v, w4.cell? ⟨gv, j * 5 + 3, none⟩ = some v := by rw [hov.cellAt _ (by omega)]; exact ⟨_, List.getElem?_eq_getElem (by rw [valsCells_len, fillK_len]; omega)⟩
    have n3 := hov.frozenAt (j * 5 + 3)
    obtain ⟨e4, m4⟩ : ∃ v, w4.cell? ⟨gv, j * 5 + 4, none⟩ = some v := by rw [hov.cellAt _ (by omega)]; exact ⟨_, List.getElem?_eq_getElem (by rw [valsCells_len, fillK_len]; omega)⟩
    have n4 := hov.frozenAt (j * 5 + 4)
    have gl : gv < w4.heap.size := (hov.lt gv rfl).2
    have HS6 : Hid (World.ownsRow _ _ _ _ _ ((fillK x.vals x.keys.length).set j y).length _) := hid (by rw [List.length_set, fillK_len]; exact own_set5 hov j y (by rw [fillK_len]; exact hjn))
    have hgN : gv ≠ w1.heap.size := by have := (HOV.out.lt gv rfl).2; omega
    have hgR : gv ≠ W.heap.size + 1 + 1 := by omega
    have hgu : (.slice (some ⟨g, 0, none⟩) x.keys.length ck : Value).ownBlock ≠ some gv := fun e => by simp [Value.ownBlock] at e; omega
    clear hov
    go_wp2
    refine bodyPost_ret (v := .tuple #[.agg #[.slice (some ⟨g, 0, none⟩) x.keys.length ck, .slice (some ⟨gv, 0, none⟩) x.keys.length cv], .bool true]) (by simp [results, Tryd.results9, go_sem, c_R_0, c_R_1, z_R_0, z_R_1, l_R]) rfl ⟨_, by rw [HP.out], ?_, ?_, ?_⟩
    · rw [HR.out]
      exact rdArr_own (B := a_R.heap.size) (C := C) (e1 := 9) (e2 := 31) (by exact ownsRow_setCell_below (ownsRow_setCell_below (ownsRow_setCell_other (ownsRow_setCell_other (ownsRow_setCell_other (ownsRow_setCell_other (ownsRow_setCell_other HOU9.out hgu _) hgu _) hgu _) hgu _) hgu _) (show W.heap.size + 1 + 1 < _ by omega) _) (show W.heap.size + 1 + 1 < _ by omega) _) (by exact ownsRow_setCell_below (ownsRow_setCell_below HS6.out (show W.heap.size + 1 + 1 < _ by omega) _) (show W.heap.size + 1 + 1 < _ by omega) _) (by omega) (by omega) (HSK.out) (by intro t ht; rcases List.mem_or_eq_of_mem_set ht with h | h; exact HVK.out t h; (subst h; exact HYK.out))
    · rw [HR.out]
      exact ownA_own (B := a_R.heap.size) (C := C) (by exact ownsRow_setCell_below (ownsRow_setCell_below (ownsRow_setCell_other (ownsRow_setCell_other (ownsRow_setCell_other (ownsRow_setCell_other (ownsRow_setCell_other HOU9.out hgu _) hgu _) hgu _) hgu _) hgu _) (show W.heap.size + 1 + 1 < _ by omega) _) (show W.heap.size + 1 + 1 < _ by omega) _) (by exact ownsRow_setCell_below (ownsRow_setCell_below HS6.out (show W.heap.size + 1 + 1 < _ by omega) _) (show W.heap.size + 1 + 1 < _ by omega) _) (by omega) (by omega) (fun q h1 h2 => hgu (by rw [h1]; simp [Value.ownBlock] at h2; rw [h2]))
    · repeat' (first | (with_reducible exact bP) | (with_reducible refine Below.setCell ?_ ?_ _) | (with_reducible refine Below.alloc ?_ ?_ _) | (simp; done) | (simp; omega) | omega)
end Go.Proofs.YtommldonooicjaaDoor

namespace Go.Proofs.YtommldonooicjaaDoor
open Go.RowKit
set_option linter.unusedVariables false
set_option linter.unusedSimpArgs false

/-- an array of bounded texts -/
def AllOk (x : Arr) : Prop := (∀ s ∈ x.keys, s.size ≤ 20000) ∧ (∀ y ∈ x.vals, vS 20000 y)
theorem vS_ok {x : Val} (h : vS 20000 x) : vOk x := ⟨h.1, Nat.le_trans h.2.1 (by decide), h.2.2.1, Nat.le_trans h.2.2.2 (by decide)⟩
theorem AllOk.strs {x : Arr} (h : AllOk x) : ∀ s ∈ x.keys, s.size ≤ 9223372036854775807 := fun s hs => Nat.le_trans (h.1 s hs) (by decide)
theorem AllOk.vals {x : Arr} (h : AllOk x) : ∀ y ∈ x.vals, vOk y := fun y hy => vS_ok (h.2 y hy)
theorem fill_all {vs : List Val} (h : ∀ x ∈ vs, vS 20000 x) (k : Nat) : ∀ x ∈ fillK vs k, vS 20000 x := by
  intro x hx
  obtain ⟨i, _, rfl⟩ := List.mem_map.1 hx
  unfold fillAt
  split
  · exact h _ (List.getElem_mem _)
  · exact vS0
theorem put_all {x : Arr} {s : ByteArray} {y : Val} (h : AllOk x) (hs : s.size ≤ 20000) (hy : vS 20000 y) : AllOk (arrPut x s y) := by
  have hf := fill_all h.2 x.keys.length
  unfold arrPut arrSet
  split
  · split
    · refine ⟨fun t ht => ?_, fun z hz => ?_⟩
      · rcases List.mem_append.1 ht with h' | h'
        · exact h.1 t h'
        · rw [List.mem_singleton.1 h']; exact hs
      · rcases List.mem_append.1 hz with h' | h'
        · exact hf z h'
        · rw [List.mem_singleton.1 h']; exact hy
    · refine ⟨h.1, fun z hz => ?_⟩
      rcases List.mem_or_eq_of_mem_set hz with h' | h'
      · exact hf z h'
      · rw [h']; exact hy
  · exact ⟨h.1, hf⟩
theorem put_len (x : Arr) (s : ByteArray) (y : Val) : (arrPut x s y).keys.length ≤ x.keys.length + 1 ∧ (arrPut x s y).vals.length ≤ x.keys.length + 1 := by
  unfold arrPut arrSet arrFill
  split
  · split
    · simp [fillK_len]
    · simp [fillK_len]
  · simp [fillK_len]
/-- an array in the second cell block of a drawer, its result's block, its cursor -/
structure AS (w wx : World) (B p k : Nat) (x : Arr) (u v : Value) : Prop where
  z : wx.heap[w.heap.size]? = some (.cells #[.slice none 0 0, .slice none 0 0] 27 (0, 0))
  a : wx.heap[w.heap.size + 1]? = some (.cells #[u, v] 27 (0, 0))
  hu : wx.ownsRow (w.heap.size + 1) 9 1 u x.keys.length (strCellsL x.keys)
  hv : wx.ownsRow (w.heap.size + 1) 31 5 v x.vals.length (valsCells x.vals)
  ne : ∀ q, u.ownBlock = some q → v.ownBlock = some q → False
  nu : u.ownBlock ≠ some (w.heap.size + 1)
  nv : v.ownBlock ≠ some (w.heap.size + 1)
  ok : AllOk x
  cur : Cur B wx p k
  gr : w.grownBy wx (some p)
  hp : p < w.heap.size
theorem own_grown {w w' : World} {B p : Nat} {e : TypeId} {size n : Nat} {v : Value} {xs : List Value} (h : w.ownsRow B e size v n xs) (hg : w.grownBy w' (some p)) (hp : p < B) : w'.ownsRow B e size v n xs := by
  refine ⟨h.1, ?_⟩
  rcases h.2 with hn | ⟨b, cap, cur, rfl, h1, h2, h3⟩
  · exact Or.inl hn
  · exact Or.inr ⟨b, cap, cur, rfl, h1, (hg.block b (Array.getElem?_eq_some_iff.1 h2).1 (fun e => by have := Option.some.inj e; omega)).trans h2, h3⟩
theorem AS.lt {w wx : World} {B p k : Nat} {x : Arr} {u v : Value} (h : AS w wx B p k x u v) : w.heap.size + 1 < wx.heap.size := (Array.getElem?_eq_some_iff.1 h.a).1
theorem AS.call {w wx wy : World} {B p k k' : Nat} {x : Arr} {u v : Value} (h : AS w wx B p k x u v) (hg : wx.grownBy wy (some p)) (hc : Cur B wy p k') : AS w wy B p k' x u v := by
  have h1 := h.lt
  have h2 := h.hp
  exact ⟨(hg.block _ (by omega) (fun e => by have := Option.some.inj e; omega)).trans h.z, (hg.block _ h1 (fun e => by have := Option.some.inj e; omega)).trans h.a, own_grown h.hu hg (by omega), own_grown h.hv hg (by omega), h.ne, h.nu, h.nv, h.ok, hc, grown_trans h.gr hg, h.hp⟩
theorem AS.later {w wx wy : World} {B p k : Nat} {x : Arr} {u v : Value} (h : AS w wx B p k x u v) (hb : Below wx.heap.size wx wy) : AS w wy B p k x u v :=
  h.call (below_grown hb) (h.cur.later hb)
theorem AS.drew {w wx : World} {B p k : Nat} {x : Arr} {u v : Value} (h : AS w wx B p k x u v) : AS w wx.drew B p k x u v := h.later ⟨rfl, rfl, rfl, Nat.le_refl _, fun _ _ => rfl⟩
theorem AS.alloc {w wx : World} {B p k : Nat} {x : Arr} {u v : Value} (h : AS w wx B p k x u v) (o : Obj) : AS w (wx.alloc o) B p k x u v := h.later (ext_alloc _ _)
theorem AS.cells {w wx : World} {B p k : Nat} {x : Arr} {u v : Value} (h : AS w wx B p k x u v) : (wx.cell? ⟨w.heap.size + 1, 0, none⟩ = some u ∧ wx.cell? ⟨w.heap.size + 1, 1, none⟩ = some v ∧ wx.frozen? ⟨w.heap.size + 1, 0, none⟩ = false ∧ wx.frozen? ⟨w.heap.size + 1, 1, none⟩ = false ∧ w.heap.size + 1 < wx.heap.size) ∧
    (wx.cell? ⟨w.heap.size, 0, none⟩ = some (.slice none 0 0) ∧ wx.cell? ⟨w.heap.size, 1, none⟩ = some (.slice none 0 0) ∧ wx.frozen? ⟨w.heap.size, 0, none⟩ = false ∧ wx.frozen? ⟨w.heap.size, 1, none⟩ = false ∧ w.heap.size < wx.heap.size) :=
  ⟨⟨cell_of_row _ _ 0 _ _ _ h.a, cell_of_row _ _ 1 _ _ _ h.a, frozen_of_row _ _ 0 _ _ h.a, frozen_of_row _ _ 1 _ _ h.a, h.lt⟩,
   ⟨cell_of_row _ _ 0 _ _ _ h.z, cell_of_row _ _ 1 _ _ _ h.z, frozen_of_row _ _ 0 _ _ h.z, frozen_of_row _ _ 1 _ _ h.z, Nat.lt_of_succ_lt h.lt⟩⟩
theorem AS.rd {w wx : World} {B p k : Nat} {x : Arr} {u v : Value} (h : AS w wx B p k x u v) : Rd.rd (New (w.heap.size + 1) wx) wx #[u, v].toList x :=
  rdArr_own (e1 := 9) (e2 := 31) h.hu h.hv (Nat.le_refl _) (Nat.le_refl _) h.ok.strs h.ok.vals
theorem AS.old {w wx : World} {B p k : Nat} {x : Arr} {u v : Value} (h : AS w wx B p k x u v) : Rd.rd (Old wx) wx #[u, v].toList x := Rd.mono (fun b hb => hb.2) h.rd
/-- a world that has changed from the array's block on -/
theorem AS.new {w wx wy : World} {B p k : Nat} {x x' : Arr} {u v u' v' : Value} (h : AS w wx B p k x u v) (hb : Below (w.heap.size + 1) wx wy) (ha : wy.heap[w.heap.size + 1]? = some (.cells #[u', v'] 27 (0, 0)))
    (hu : wy.ownsRow (w.heap.size + 1) 9 1 u' x'.keys.length (strCellsL x'.keys)) (hv : wy.ownsRow (w.heap.size + 1) 31 5 v' x'.vals.length (valsCells x'.vals))
    (ne : ∀ q, u'.ownBlock = some q → v'.ownBlock = some q → False) (nu : u'.ownBlock ≠ some (w.heap.size + 1)) (nv : v'.ownBlock ≠ some (w.heap.size + 1)) (ok : AllOk x') : AS w wy B p k x' u' v' := by
  have hp := h.hp
  have hl := h.cur.lt.1
  exact ⟨(hb.block _ (Nat.lt_succ_self _)).trans h.z, ha, hu, hv, ne, nu, nv, ok, h.cur.keep (hb.block p (by omega)) (hb.mono (by omega)),
    ⟨hb.os.trans h.gr.os, hb.tape.trans h.gr.tape, hb.output.trans h.gr.output, Nat.le_trans h.gr.size hb.size, fun i hi hne => (hb.block i (by omega)).trans (h.gr.block i hi hne)⟩, hp⟩
/-- an array that a put has made is stored -/
theorem AS.put {w wx wy : World} {B p k : Nat} {x x' : Arr} {u v u' v' : Value} (h : AS w wx B p k x u v) (hb : Below wx.heap.size wx wy) (ho : OwnA wx.heap.size wy x' #[u', v']) (ok : AllOk x') :
    AS w ((wy.setCell ⟨w.heap.size + 1, 0, none⟩ u').setCell ⟨w.heap.size + 1, 1, none⟩ v') B p k x' u' v' := by
  have h1 := h.lt
  obtain ⟨u2, v2, he, h2, h3, h4⟩ := ho
  obtain ⟨rfl, rfl⟩ : u' = u2 ∧ v' = v2 := by simpa using he
  have n1 : u'.ownBlock ≠ some (w.heap.size + 1) := fun e => by have := (h2.lt _ e).1; omega
  have n2 : v'.ownBlock ≠ some (w.heap.size + 1) := fun e => by have := (h3.lt _ e).1; omega
  have hb' : Below (w.heap.size + 1) wx wy := hb.mono (by omega)
  refine h.new (Below.setCell (Below.setCell hb' (p := ⟨w.heap.size + 1, 0, none⟩) (Nat.le_refl _) u') (p := ⟨w.heap.size + 1, 1, none⟩) (Nat.le_refl _) v') (set_of (set_of ((hb.block _ h1).trans h.a) rfl) rfl) ?_ ?_ h4 n1 n2 ok
  · exact ownsRow_setCell_other (ownsRow_setCell_other (ownsRow_mono h2 (by omega)) n1 _) n1 _
  · exact ownsRow_setCell_other (ownsRow_setCell_other (ownsRow_mono h3 (by omega)) n2 _) n2 _
theorem AS.pst {w wx : World} {B p k : Nat} {x : Arr} {u v : Value} (h : AS w wx B p k x u v) : PutSt wx (w.heap.size + 1) (w.heap.size + 1) wx x.keys.length x.vals.length u v (strCellsL x.keys) (valsCells x.vals) :=
  ⟨Below.refl _ _, h.hu, h.hv, h.ne, h.nu, h.nv, Nat.le_of_lt h.lt, h.lt, Nat.le_refl _⟩
theorem AS.of_pst {w wx wy : World} {B p k : Nat} {x x' : Arr} {u v u' v' : Value} (h : AS w wx B p k x u v) (hs : PutSt wx (w.heap.size + 1) (w.heap.size + 1) wy x'.keys.length x'.vals.length u' v' (strCellsL x'.keys) (valsCells x'.vals))
    (ha : wy.heap[w.heap.size + 1]? = some (.cells #[u', v'] 27 (0, 0))) (ok : AllOk x') : AS w wy B p k x' u' v' :=
  h.new hs.bel ha hs.hu hs.hv hs.ne hs.nu hs.nv ok
end Go.Proofs.YtommldonooicjaaDoor
