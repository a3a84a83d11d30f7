/-
  What is proved here: ArrAt and ArrGet on both sides: what they return. No condition.
-/
import Derived.Test.YtojonbdkijnbnaaDv
import Derived.Test.YtojonbdkijnbnaaNameAt
import Derived.Test.YtojonbdkijnbnaaWithin
import Derived.Test.YtojonbdkijnbnaaVal0
namespace Go.Proofs.Ytojonbdkijnbnaa
open Go.RowKit
set_option linter.unusedVariables false
set_option linter.unusedSimpArgs false

def arrAt (a : Arr) (key : ByteArray) : Int := nameAt a.keys key - 1
def arrGet (a : Arr) (key : ByteArray) : Val := if h : 0 ≤ arrAt a key ∧ (arrAt a key).toNat < a.vals.length then a.vals[(arrAt a key).toNat]'h.2 else val0
theorem arrAt_le (a : Arr) (key : ByteArray) : -1 ≤ arrAt a key ∧ arrAt a key < a.keys.length := by
  have := nameAt_le a.keys key
  unfold arrAt
  omega
set_option maxHeartbeats 1000000 in
theorem specArrAt {cs : Array Value} {x : Arr} (s : ByteArray) (w : World) (h : Rd.rd (Old w) w cs.toList x) :
    Calls Try.prog 13 #[.agg cs, .string s] w fun e w' => e = .returned (.int .i64 (arrAt x s)) ∧ Below w.heap.size w w' := by
  obtain ⟨a, c, a1, c1, hcs, h0, hv⟩ := rdArr h
  obtain rfl := arr_of_list hcs
  obtain ⟨a', cap, ha, h1, h2, hc⟩ := rdStrs h0
  simp only [Value.slice.injEq, true_and] at ha
  obtain ⟨rfl, rfl⟩ := ha
  clear h h0 hcs hv
  go_enter Try.func13, Try.ntmps13
  go_wp2
  go_loop [5] (fun i => ∃ k : Nat, k ≤ x.keys.length ∧ i = .int .i64 k ∧ ∀ i (hi : i < k) (hi' : i < x.keys.length), x.keys[i] ≠ s) (fun i => x.keys.length - (intOf i).toNat)
  case atStart => exact ⟨0, Nat.zero_le _, rfl, fun i hi => absurd hi (by omega)⟩
  case round =>
    obtain ⟨k, hk, rfl, hr⟩ := hrel
    have HR := hid hr
    clear hr
    by_cases hlt : k < x.keys.length
    · obtain ⟨b, off, rfl, hB, hcell⟩ := hc (by omega)
      obtain ⟨hce, hsz⟩ := hcell k hlt
      have hB' : b < w.heap.size := hB
      clear hcell hc
      by_cases he : x.keys[k] = s
      · have hb : (x.keys[k].toList == s.toList) = true := by rw [he]; simp
        have HE := hid he
        clear he
        go_wp2
        go_ret
        exact ⟨end_int (by unfold arrAt; have := nameAt_hit hlt (fun i hi => HR.out i hi (by omega)) HE.out; omega), ext_alloc _ _⟩
      · have hb : (x.keys[k].toList == s.toList) = false := ba_ne he
        have HE := hid he
        clear he
        go_wp2
        go_round
        case rel => exact ⟨k + 1, by omega, by go_num, fun i hi hi' => by
          by_cases hik : i = k
          · subst hik; exact HE.out
          · exact HR.out i (by omega) hi'⟩
        case measure => simp [intOf]; omega
    · have : k = x.keys.length := by omega
      subst this
      clear hc
      go_wp2
      go_ret
      exact ⟨end_int (by unfold arrAt; have := nameAt_miss (fun i hi => HR.out i hi hi); omega), ext_alloc _ _⟩

theorem implArrAt {cs : Array Value} {x : Arr} (s : ByteArray) (w : World) (h : Rd.rd (Old w) w cs.toList x) :
    Calls Try.prog 15 #[.agg cs, .string s] w fun e w' => e = .returned (.int .i64 (arrAt x s)) ∧ Below w.heap.size w w' := by
  obtain ⟨a, c, a1, c1, hcs, h0, hv⟩ := rdArr h
  obtain rfl := arr_of_list hcs
  clear h hcs hv
  go_enter Try.func15, Try.ntmps15
  go_wp2_with fail
  refine (sIndexStr s _ (by exact Rd.later (ext_alloc w _) h0)).mono ?_
  rintro e w1 ⟨rfl, rfl⟩
  go_wp2
  go_ret
  exact ⟨end_int rfl, ext_alloc _ _⟩

/-- the element of a slice of values at a place -/
theorem rdVals_at {S : Nat → Prop} {w : World} {a : Option Addr} {n cap : Nat} {xs : List Val} (h : Rd.rd S w [.slice a n cap] xs) {k : Nat} (hk : k < xs.length) :
    n = xs.length ∧ ∃ b off, a = some ⟨b, off, none⟩ ∧ S b ∧ w.cell? ⟨b, off + k * 5, none⟩ = some (.int .i64 xs[k].kind) ∧ w.cell? ⟨b, off + k * 5 + 1, none⟩ = some (.bool xs[k].num.neg) ∧
      w.cell? ⟨b, off + k * 5 + 2, none⟩ = some (.string xs[k].num.dig) ∧ w.cell? ⟨b, off + k * 5 + 3, none⟩ = some (.int .i64 xs[k].num.exp) ∧ w.cell? ⟨b, off + k * 5 + 4, none⟩ = some (.string xs[k].text) ∧
      Rd.rd S w [.int .i64 xs[k].kind, .bool xs[k].num.neg, .string xs[k].num.dig, .int .i64 xs[k].num.exp, .string xs[k].text] xs[k] := by
  obtain ⟨a', cap', hv, h1, h2, hc⟩ := h
  simp only [List.cons.injEq, Value.slice.injEq, and_true] at hv
  obtain ⟨rfl, rfl, rfl⟩ := hv
  obtain ⟨b, off, rfl, hB, hrow⟩ := hc (by omega)
  obtain ⟨cs, hcell, hx⟩ := hrow k hk
  obtain ⟨hcs, _⟩ := rdVal hx
  subst hcs
  exact ⟨rfl, b, off, rfl, hB, hcell 0 (by decide), hcell 1 (by decide), hcell 2 (by decide), hcell 3 (by decide), hcell 4 (by decide), hx⟩

set_option maxHeartbeats 1000000 in
theorem specArrGet {cs : Array Value} {x : Arr} (s : ByteArray) (w : World) (h : Rd.rd (Old w) w cs.toList x) :
    Calls Try.prog 17 #[.agg cs, .string s] w fun e w' => ∃ cs' : Array Value, e = .returned (.agg cs') ∧ Rd.rd (Old w') w' cs'.toList (arrGet x s) ∧ Below w.heap.size w w' := by
  obtain ⟨a, c, a1, c1, hcs, h0, hv⟩ := rdArr h
  obtain rfl := arr_of_list hcs
  have hle := arrAt_le x s
  by_cases hin : 0 ≤ arrAt x s ∧ (arrAt x s).toNat < x.vals.length
  · obtain ⟨k, hk⟩ := Int.eq_ofNat_of_zero_le hin.1
    have hkl : k < x.vals.length := by omega
    have hres : arrGet x s = x.vals[k] := by unfold arrGet; rw [dif_pos hin]; congr 1; omega
    obtain ⟨_, b, off, rfl, hB, t0, t1, t2, t3, t4, hx⟩ := rdVals_at hv hkl
    have hB' : b < w.heap.size := hB
    have HR := hid hres
    have HX := hid hx
    have HK := hid hk
    clear hres hin hx hcs h0 hv hk
    go_enter Try.func17, Try.ntmps17
    go_wp2_with fail
    refine (specArrAt s _ (by exact Rd.later (ext_trans (ext_alloc _ _) (ext_alloc _ _)) h)).mono ?_
    rintro e w1 ⟨rfl, hb⟩
    rw [HK.out]
    obtain ⟨hc1, hf1⟩ := bcell hb
    have hl : w.heap.size + 1 < w1.heap.size := by have := hb.size; (try simp at this); omega
    have hl' : w.heap.size < w1.heap.size := by omega
    have hbw : Below w.heap.size w w1 := ext_trans (ext_trans (ext_alloc _ _) (ext_alloc _ _)) hb
    have hBW := bcell hbw
    have q0 := (hBW.1 b (off + k * 5) hB').trans t0
    have q1 := (hBW.1 b (off + k * 5 + 1) hB').trans t1
    have q2 := (hBW.1 b (off + k * 5 + 2) hB').trans t2
    have q3 := (hBW.1 b (off + k * 5 + 3) hB').trans t3
    have q4 := (hBW.1 b (off + k * 5 + 4) hB').trans t4
    have hkz : (k : Int) < x.vals.length := by omega
    clear hBW h hle t0 t1 t2 t3 t4
    go_wp2
    refine bodyPost_ret (v := .agg #[.int .i64 x.vals[k].kind, .bool x.vals[k].num.neg, .string x.vals[k].num.dig, .int .i64 x.vals[k].num.exp, .string x.vals[k].text]) (by simp [results, Try.results17, go_sem, hc1, hl, hl']) rfl ⟨_, rfl, ?_, ?_⟩
    · rw [HR.out]
      exact rdVal_mk (rdVal HX.out).2.1 (rdVal HX.out).2.2.1 (rdVal HX.out).2.2.2.1 (rdVal HX.out).2.2.2.2
    · repeat' (first | (with_reducible exact hbw) | (with_reducible refine Below.setCell ?_ ?_ _) | (simp; done) | (simp; omega) | omega)
  · have hres : arrGet x s = val0 := by unfold arrGet; rw [dif_neg hin]
    have HR := hid hres
    have hout : arrAt x s < 0 ∨ (x.vals.length : Int) ≤ arrAt x s := by omega
    clear hres hin hcs h0 hv
    rcases hout with hout | hout
    · go_enter Try.func17, Try.ntmps17
      go_wp2_with fail
      refine (specArrAt s _ (by exact Rd.later (ext_trans (ext_alloc _ _) (ext_alloc _ _)) h)).mono ?_
      rintro e w1 ⟨rfl, hb⟩
      obtain ⟨hc1, hf1⟩ := bcell hb
      have hl : w.heap.size + 1 < w1.heap.size := by have := hb.size; (try simp at this); omega
      have hl' : w.heap.size < w1.heap.size := by omega
      have hbw : Below w.heap.size w w1 := ext_trans (ext_trans (ext_alloc _ _) (ext_alloc _ _)) hb
      clear h
      go_wp2
      refine bodyPost_ret (v := .agg #[.int .i64 0, .bool false, .string ⟨#[]⟩, .int .i64 0, .string ⟨#[]⟩]) (by simp [results, Try.results17, go_sem, hc1, hl, hl']) rfl ⟨_, rfl, ?_, ?_⟩
      · rw [HR.out]; exact rd_val0
      · repeat' (first | (with_reducible exact hbw) | (with_reducible refine Below.setCell ?_ ?_ _) | (simp; done) | (simp; omega) | omega)
    · have hnn : 0 ≤ arrAt x s := by omega
      go_enter Try.func17, Try.ntmps17
      go_wp2_with fail
      refine (specArrAt s _ (by exact Rd.later (ext_trans (ext_alloc _ _) (ext_alloc _ _)) h)).mono ?_
      rintro e w1 ⟨rfl, hb⟩
      obtain ⟨hc1, hf1⟩ := bcell hb
      have hl : w.heap.size + 1 < w1.heap.size := by have := hb.size; (try simp at this); omega
      have hl' : w.heap.size < w1.heap.size := by omega
      have hbw : Below w.heap.size w w1 := ext_trans (ext_trans (ext_alloc _ _) (ext_alloc _ _)) hb
      clear h
      go_wp2
      refine bodyPost_ret (v := .agg #[.int .i64 0, .bool false, .string ⟨#[]⟩, .int .i64 0, .string ⟨#[]⟩]) (by simp [results, Try.results17, go_sem, hc1, hl, hl']) rfl ⟨_, rfl, ?_, ?_⟩
      · rw [HR.out]; exact rd_val0
      · repeat' (first | (with_reducible exact hbw) | (with_reducible refine Below.setCell ?_ ?_ _) | (simp; done) | (simp; omega) | omega)

set_option maxHeartbeats 1000000 in
theorem implArrGet {cs : Array Value} {x : Arr} (s : ByteArray) (w : World) (h : Rd.rd (Old w) w cs.toList x) :
    Calls Try.prog 18 #[.agg cs, .string s] w fun e w' => ∃ cs' : Array Value, e = .returned (.agg cs') ∧ Rd.rd (Old w') w' cs'.toList (arrGet x s) ∧ Below w.heap.size w w' := by
  obtain ⟨a, c, a1, c1, hcs, h0, hv⟩ := rdArr h
  obtain rfl := arr_of_list hcs
  have hle := arrAt_le x s
  have hlen : x.vals.length ≤ 9223372036854775807 := by
    obtain ⟨_, cap, hh, h1, h2, _⟩ := hv
    omega
  have hnm : nameAt x.keys s - 1 = arrAt x s := rfl
  by_cases hin : 0 ≤ arrAt x s ∧ (arrAt x s).toNat < x.vals.length
  · obtain ⟨k, hk⟩ := Int.eq_ofNat_of_zero_le hin.1
    have hkl : k < x.vals.length := by omega
    have hres : arrGet x s = x.vals[k] := by unfold arrGet; rw [dif_pos hin]; congr 1; omega
    obtain ⟨_, b, off, rfl, hB, t0, t1, t2, t3, t4, hx⟩ := rdVals_at hv hkl
    have hB' : b < w.heap.size := hB
    have HR := hid hres
    have HX := hid hx
    have HK := hid hk
    have HN := hid hnm
    have hkz : (k : Int) < x.vals.length := by omega
    have hd : inB 0 (k : Int) (x.vals.length - 1) = true := inB_true (by omega)
    clear hres hin hx hcs h hv hk hnm hle
    go_enter Try.func18, Try.ntmps18
    go_wp2_with fail
    refine (sIndexStr s _ (by exact Rd.later (ext_trans (ext_alloc _ _) (ext_alloc _ _)) h0)).mono ?_
    rintro e w1 ⟨rfl, rfl⟩
    rw [HN.out, HK.out]
    go_wp2_with fail
    refine (within_any _ _ _ _).mono ?_
    rintro e w1 ⟨rfl, rfl⟩
    go_wp2
    refine bodyPost_ret (v := .agg #[.int .i64 x.vals[k].kind, .bool x.vals[k].num.neg, .string x.vals[k].num.dig, .int .i64 x.vals[k].num.exp, .string x.vals[k].text]) (by simp [results, Try.results18, go_sem]) rfl ⟨_, rfl, ?_, ?_⟩
    · rw [HR.out]
      exact rdVal_mk (rdVal HX.out).2.1 (rdVal HX.out).2.2.1 (rdVal HX.out).2.2.2.1 (rdVal HX.out).2.2.2.2
    · repeat' (first | (with_reducible exact Below.refl _ _) | (with_reducible refine ext_trans ?_ (ext_alloc _ _)) | (with_reducible refine Below.setCell ?_ ?_ _) | (simp; done) | (simp; omega) | omega)
  · have hres : arrGet x s = val0 := by unfold arrGet; rw [dif_neg hin]
    have HR := hid hres
    have HN := hid hnm
    have hd : inB 0 (arrAt x s) (x.vals.length - 1) = false := inB_false (by omega)
    clear hres hin hcs h hv hnm hle
    go_enter Try.func18, Try.ntmps18
    go_wp2_with fail
    refine (sIndexStr s _ (by exact Rd.later (ext_trans (ext_alloc _ _) (ext_alloc _ _)) h0)).mono ?_
    rintro e w1 ⟨rfl, rfl⟩
    rw [HN.out]
    go_wp2_with fail
    refine (within_any _ _ _ _).mono ?_
    rintro e w1 ⟨rfl, rfl⟩
    go_wp2
    refine bodyPost_ret (v := .agg #[.int .i64 0, .bool false, .string ⟨#[]⟩, .int .i64 0, .string ⟨#[]⟩]) (by simp [results, Try.results18, go_sem]) rfl ⟨_, rfl, ?_, ?_⟩
    · rw [HR.out]; exact rd_val0
    · repeat' (first | (with_reducible exact Below.refl _ _) | (with_reducible refine ext_trans ?_ (ext_alloc _ _)) | (with_reducible refine Below.setCell ?_ ?_ _) | (simp; done) | (simp; omega) | omega)

set_option maxHeartbeats 4000000 in
theorem fnExactArrAt_walk (W : World) {cs0 : Array Value} {x0 : Arr} {v1 : Value} {x1 : ByteArray} (h0 : Rd.rd (Old W) W cs0.toList x0) (h1 : Rd.rd (Old W) W [v1] x1) :
    Calls Try.prog 4 #[.agg cs0, v1] W fun e w' => e = .returned (.bool true) ∧ Below W.heap.size W w' := by
  obtain ⟨p0a0, p0c0, p0a1, p0c1, hcs0, p0f0, p0f1⟩ := rdArr h0
  obtain rfl := arr_of_list hcs0
  clear hcs0
  obtain ⟨e1, b1⟩ := h1
  obtain rfl : v1 = .string x1 := by simpa using e1
  clear e1
  by_cases hs1 : x1.size ≤ 1048576
  rotate_left
  · go_enter Try.func4, Try.ntmps4
    go_wp2
    go_ret
    exact ⟨rfl, (by repeat' (first | (with_reducible exact Below.refl _ _) | (with_reducible refine ext_trans ?_ (ext_alloc _ _)) | (with_reducible refine Below.drew ?_) | (with_reducible refine Below.setCell ?_ ?_ _) | (simp; done) | (simp; omega) | omega))⟩
  by_cases hz0 : (Sz.sz x0 : Int) ≤ 1048576
  rotate_left
  · go_enter Try.func4, Try.ntmps4
    go_wp2_with fail
    refine (szArr_any _ _ (by exact Rd.later (by repeat' (first | (with_reducible exact Below.refl _ _) | (with_reducible refine ext_trans ?_ (ext_alloc _ _)) | (with_reducible refine Below.drew ?_) | (with_reducible refine Below.setCell ?_ ?_ _) | (simp; done) | (simp; omega) | omega)) h0) (by omega) (by omega)).mono ?_
    rintro e w0 ⟨rfl, hb0⟩
    rw [szOut_bad (by omega)]
    obtain ⟨hc0, hf0⟩ := bcell hb0
    have hl0_0 : W.heap.size < w0.heap.size := by have := hb0.size; (try simp at this); omega
    go_wp2
    go_ret
    exact ⟨rfl, (by repeat' (first | (with_reducible exact Below.refl _ _) | (with_reducible refine ext_trans ?_ hb0) | (with_reducible refine ext_trans ?_ (ext_alloc _ _)) | (with_reducible refine Below.drew ?_) | (with_reducible refine Below.setCell ?_ ?_ _) | (simp; done) | (simp; omega) | omega))⟩
  go_enter Try.func4, Try.ntmps4
  go_wp2_with fail
  refine (szArr_any _ _ (by exact Rd.later (by repeat' (first | (with_reducible exact Below.refl _ _) | (with_reducible refine ext_trans ?_ (ext_alloc _ _)) | (with_reducible refine Below.drew ?_) | (with_reducible refine Below.setCell ?_ ?_ _) | (simp; done) | (simp; omega) | omega)) h0) (by omega) (by omega)).mono ?_
  rintro e w0 ⟨rfl, hb0⟩
  rw [szOut_val (by omega)]
  obtain ⟨hc0, hf0⟩ := bcell hb0
  have hl0_0 : W.heap.size < w0.heap.size := by have := hb0.size; (try simp at this); omega
  have hzz0 : Sz.sz x0 ≤ 1048576 := by omega
  go_wp2_with fail
  refine (toArr_any _ (by exact Rd.later (by repeat' (first | (with_reducible exact Below.refl _ _) | (with_reducible refine ext_trans ?_ hb0) | (with_reducible refine ext_trans ?_ (ext_alloc _ _)) | (with_reducible refine Below.drew ?_) | (with_reducible refine Below.setCell ?_ ?_ _) | (simp; done) | (simp; omega) | omega)) h0) hzz0).mono ?_
  rintro e w1 ⟨q1, rfl, hr1, hb1⟩
  replace hr1 := Rd.old hr1
  obtain ⟨q1a0, q1c0, q1a1, q1c1, hcs1, q1f0, q1f1⟩ := rdArr hr1
  obtain rfl := arr_of_list hcs1
  clear hcs1 q1f0 q1f1
  obtain ⟨hc1, hf1⟩ := bcell hb1
  have hl1_0 : W.heap.size < w1.heap.size := by have := hb1.size; (try simp at this); omega
  go_wp2_with fail
  refine (specArrAt x1 _ (by exact Rd.later (by repeat' (first | (with_reducible exact Below.refl _ _) | (with_reducible refine ext_trans ?_ hb1) | (with_reducible refine ext_trans ?_ hb0) | (with_reducible refine ext_trans ?_ (ext_alloc _ _)) | (with_reducible refine Below.drew ?_) | (with_reducible refine Below.setCell ?_ ?_ _) | (simp; done) | (simp; omega) | omega)) hr1)).mono ?_
  rintro e w2 ⟨rfl, hb2⟩
  obtain ⟨hc2, hf2⟩ := bcell hb2
  have hl2_0 : W.heap.size < w2.heap.size := by have := hb2.size; (try simp at this); omega
  go_wp2_with fail
  refine (toArr_any _ (by exact Rd.later (by repeat' (first | (with_reducible exact Below.refl _ _) | (with_reducible refine ext_trans ?_ hb2) | (with_reducible refine ext_trans ?_ hb1) | (with_reducible refine ext_trans ?_ hb0) | (with_reducible refine ext_trans ?_ (ext_alloc _ _)) | (with_reducible refine Below.drew ?_) | (with_reducible refine Below.setCell ?_ ?_ _) | (simp; done) | (simp; omega) | omega)) h0) hzz0).mono ?_
  rintro e w3 ⟨q3, rfl, hr3, hb3⟩
  replace hr3 := Rd.old hr3
  obtain ⟨q3a0, q3c0, q3a1, q3c1, hcs3, q3f0, q3f1⟩ := rdArr hr3
  obtain rfl := arr_of_list hcs3
  clear hcs3 q3f0 q3f1
  obtain ⟨hc3, hf3⟩ := bcell hb3
  have hl3_0 : W.heap.size < w3.heap.size := by have := hb3.size; (try simp at this); omega
  go_wp2_with fail
  refine (implArrAt x1 _ (by exact Rd.later (by repeat' (first | (with_reducible exact Below.refl _ _) | (with_reducible refine ext_trans ?_ hb3) | (with_reducible refine ext_trans ?_ hb2) | (with_reducible refine ext_trans ?_ hb1) | (with_reducible refine ext_trans ?_ hb0) | (with_reducible refine ext_trans ?_ (ext_alloc _ _)) | (with_reducible refine Below.drew ?_) | (with_reducible refine Below.setCell ?_ ?_ _) | (simp; done) | (simp; omega) | omega)) hr3)).mono ?_
  rintro e w4 ⟨rfl, hb4⟩
  obtain ⟨hc4, hf4⟩ := bcell hb4
  have hl4_0 : W.heap.size < w4.heap.size := by have := hb4.size; (try simp at this); omega
  have hl4_1 : w3.heap.size < w4.heap.size := by have := hb4.size; (try simp at this); omega
  go_wp2_with fail
  have d_x0_0 : w4.cell? ⟨w3.heap.size, 0, none⟩ = some (.slice q3a0 x0.keys.length q3c0) := keeps_cells ((by repeat' (first | (with_reducible exact Below.refl _ _) | (with_reducible refine ext_trans ?_ hb4) | (with_reducible refine ext_trans ?_ hb3) | (with_reducible refine ext_trans ?_ hb2) | (with_reducible refine ext_trans ?_ hb1) | (with_reducible refine ext_trans ?_ hb0) | (with_reducible refine ext_trans ?_ (ext_alloc _ _)) | (with_reducible refine Below.drew ?_) | (with_reducible refine Below.setCell ?_ ?_ _) | (simp; done) | (simp; omega) | omega)) : Below (w3.alloc (.cells #[.slice q3a0 x0.keys.length q3c0, .slice q3a1 x0.vals.length q3c1] 40)).heap.size (w3.alloc (.cells #[.slice q3a0 x0.keys.length q3c0, .slice q3a1 x0.vals.length q3c1] 40)) w4) _ _ (by simp)
  have d_x0_1 : w4.cell? ⟨w3.heap.size, 1, none⟩ = some (.slice q3a1 x0.vals.length q3c1) := keeps_cells ((by repeat' (first | (with_reducible exact Below.refl _ _) | (with_reducible refine ext_trans ?_ hb4) | (with_reducible refine ext_trans ?_ hb3) | (with_reducible refine ext_trans ?_ hb2) | (with_reducible refine ext_trans ?_ hb1) | (with_reducible refine ext_trans ?_ hb0) | (with_reducible refine ext_trans ?_ (ext_alloc _ _)) | (with_reducible refine Below.drew ?_) | (with_reducible refine Below.setCell ?_ ?_ _) | (simp; done) | (simp; omega) | omega)) : Below (w3.alloc (.cells #[.slice q3a0 x0.keys.length q3c0, .slice q3a1 x0.vals.length q3c1] 40)).heap.size (w3.alloc (.cells #[.slice q3a0 x0.keys.length q3c0, .slice q3a1 x0.vals.length q3c1] 40)) w4) _ _ (by simp)
  have d_aA_0 : w4.cell? ⟨W.heap.size, 0, none⟩ = some (.slice p0a0 x0.keys.length p0c0) := keeps_cells ((by repeat' (first | (with_reducible exact Below.refl _ _) | (with_reducible refine ext_trans ?_ hb4) | (with_reducible refine ext_trans ?_ hb3) | (with_reducible refine ext_trans ?_ hb2) | (with_reducible refine ext_trans ?_ hb1) | (with_reducible refine ext_trans ?_ hb0) | (with_reducible refine ext_trans ?_ (ext_alloc _ _)) | (with_reducible refine Below.drew ?_) | (with_reducible refine Below.setCell ?_ ?_ _) | (simp; done) | (simp; omega) | omega)) : Below (W.alloc (.cells #[.slice p0a0 x0.keys.length p0c0, .slice p0a1 x0.vals.length p0c1] 35)).heap.size (W.alloc (.cells #[.slice p0a0 x0.keys.length p0c0, .slice p0a1 x0.vals.length p0c1] 35)) w4) _ _ (by simp)
  have d_aA_1 : w4.cell? ⟨W.heap.size, 1, none⟩ = some (.slice p0a1 x0.vals.length p0c1) := keeps_cells ((by repeat' (first | (with_reducible exact Below.refl _ _) | (with_reducible refine ext_trans ?_ hb4) | (with_reducible refine ext_trans ?_ hb3) | (with_reducible refine ext_trans ?_ hb2) | (with_reducible refine ext_trans ?_ hb1) | (with_reducible refine ext_trans ?_ hb0) | (with_reducible refine ext_trans ?_ (ext_alloc _ _)) | (with_reducible refine Below.drew ?_) | (with_reducible refine Below.setCell ?_ ?_ _) | (simp; done) | (simp; omega) | omega)) : Below (W.alloc (.cells #[.slice p0a0 x0.keys.length p0c0, .slice p0a1 x0.vals.length p0c1] 35)).heap.size (W.alloc (.cells #[.slice p0a0 x0.keys.length p0c0, .slice p0a1 x0.vals.length p0c1] 35)) w4) _ _ (by simp)
  go_region_held3 (fun w' => w'.cell? ⟨w3.heap.size, 0, none⟩ = some (.slice q3a0 x0.keys.length q3c0) ∧ w'.cell? ⟨w3.heap.size, 1, none⟩ = some (.slice q3a1 x0.vals.length q3c1) ∧ w'.cell? ⟨W.heap.size, 0, none⟩ = some (.slice p0a0 x0.keys.length p0c0) ∧ w'.cell? ⟨W.heap.size, 1, none⟩ = some (.slice p0a1 x0.vals.length p0c1)) (simp [*])
    (first | (go_at_call 14; refine (toArr_any _ (by exact Rd.later (by repeat' (first | (with_reducible exact Below.refl _ _) | (with_reducible refine ext_trans ?_ hb4) | (with_reducible refine ext_trans ?_ hb3) | (with_reducible refine ext_trans ?_ hb2) | (with_reducible refine ext_trans ?_ hb1) | (with_reducible refine ext_trans ?_ hb0) | (with_reducible refine ext_trans ?_ (ext_alloc _ _)) | (with_reducible refine Below.drew ?_) | (with_reducible refine Below.setCell ?_ ?_ _) | (simp; done) | (simp; omega) | omega)) h0) hzz0).mono ?_; rintro e w5 ⟨q5, rfl, hr5, hb5⟩; replace hr5 := Rd.old hr5; have hkc5 := keeps_cells hb5) | (go_at_call 16; refine (eqArr_same _ (by exact Rd.later (by repeat' (first | (with_reducible exact Below.refl _ _) | (with_reducible refine ext_trans ?_ hb5) | (with_reducible refine ext_trans ?_ hb4) | (with_reducible refine ext_trans ?_ hb3) | (with_reducible refine ext_trans ?_ hb2) | (with_reducible refine ext_trans ?_ hb1) | (with_reducible refine ext_trans ?_ hb0) | (with_reducible refine ext_trans ?_ (ext_alloc _ _)) | (with_reducible refine Below.drew ?_) | (with_reducible refine Below.setCell ?_ ?_ _) | (simp; done) | (simp; omega) | omega)) hr3) (by exact Rd.later (by repeat' (first | (with_reducible exact Below.refl _ _) | (with_reducible refine ext_trans ?_ hb5) | (with_reducible refine ext_trans ?_ hb4) | (with_reducible refine ext_trans ?_ hb3) | (with_reducible refine ext_trans ?_ hb2) | (with_reducible refine ext_trans ?_ hb1) | (with_reducible refine ext_trans ?_ hb0) | (with_reducible refine ext_trans ?_ (ext_alloc _ _)) | (with_reducible refine Below.drew ?_) | (with_reducible refine Below.setCell ?_ ?_ _) | (simp; done) | (simp; omega) | omega)) hr5)).mono ?_; rintro e w6 ⟨rfl, hb6⟩; have hkc6 := keeps_cells hb6))
  go_wp2
  go_ret
  exact ⟨rfl, (by repeat' (first | (with_reducible exact Below.refl _ _) | (with_reducible refine ext_trans ?_ hb6) | (with_reducible refine ext_trans ?_ hb5) | (with_reducible refine ext_trans ?_ hb4) | (with_reducible refine ext_trans ?_ hb3) | (with_reducible refine ext_trans ?_ hb2) | (with_reducible refine ext_trans ?_ hb1) | (with_reducible refine ext_trans ?_ hb0) | (with_reducible refine ext_trans ?_ (ext_alloc _ _)) | (with_reducible refine Below.drew ?_) | (with_reducible refine Below.setCell ?_ ?_ _) | (simp; done) | (simp; omega) | omega))⟩

set_option maxHeartbeats 4000000 in
theorem fnExactArrGet_walk (W : World) {cs0 : Array Value} {x0 : Arr} {v1 : Value} {x1 : ByteArray} (h0 : Rd.rd (Old W) W cs0.toList x0) (h1 : Rd.rd (Old W) W [v1] x1) :
    Calls Try.prog 5 #[.agg cs0, v1] W fun e w' => e = .returned (.bool true) ∧ Below W.heap.size W w' := by
  obtain ⟨p0a0, p0c0, p0a1, p0c1, hcs0, p0f0, p0f1⟩ := rdArr h0
  obtain rfl := arr_of_list hcs0
  clear hcs0
  obtain ⟨e1, b1⟩ := h1
  obtain rfl : v1 = .string x1 := by simpa using e1
  clear e1
  by_cases hs1 : x1.size ≤ 1048576
  rotate_left
  · go_enter Try.func5, Try.ntmps5
    go_wp2
    go_ret
    exact ⟨rfl, (by repeat' (first | (with_reducible exact Below.refl _ _) | (with_reducible refine ext_trans ?_ (ext_alloc _ _)) | (with_reducible refine Below.drew ?_) | (with_reducible refine Below.setCell ?_ ?_ _) | (simp; done) | (simp; omega) | omega))⟩
  by_cases hz0 : (Sz.sz x0 : Int) ≤ 1048576
  rotate_left
  · go_enter Try.func5, Try.ntmps5
    go_wp2_with fail
    refine (szArr_any _ _ (by exact Rd.later (by repeat' (first | (with_reducible exact Below.refl _ _) | (with_reducible refine ext_trans ?_ (ext_alloc _ _)) | (with_reducible refine Below.drew ?_) | (with_reducible refine Below.setCell ?_ ?_ _) | (simp; done) | (simp; omega) | omega)) h0) (by omega) (by omega)).mono ?_
    rintro e w0 ⟨rfl, hb0⟩
    rw [szOut_bad (by omega)]
    obtain ⟨hc0, hf0⟩ := bcell hb0
    have hl0_0 : W.heap.size < w0.heap.size := by have := hb0.size; (try simp at this); omega
    go_wp2
    go_ret
    exact ⟨rfl, (by repeat' (first | (with_reducible exact Below.refl _ _) | (with_reducible refine ext_trans ?_ hb0) | (with_reducible refine ext_trans ?_ (ext_alloc _ _)) | (with_reducible refine Below.drew ?_) | (with_reducible refine Below.setCell ?_ ?_ _) | (simp; done) | (simp; omega) | omega))⟩
  go_enter Try.func5, Try.ntmps5
  go_wp2_with fail
  refine (szArr_any _ _ (by exact Rd.later (by repeat' (first | (with_reducible exact Below.refl _ _) | (with_reducible refine ext_trans ?_ (ext_alloc _ _)) | (with_reducible refine Below.drew ?_) | (with_reducible refine Below.setCell ?_ ?_ _) | (simp; done) | (simp; omega) | omega)) h0) (by omega) (by omega)).mono ?_
  rintro e w0 ⟨rfl, hb0⟩
  rw [szOut_val (by omega)]
  obtain ⟨hc0, hf0⟩ := bcell hb0
  have hl0_0 : W.heap.size < w0.heap.size := by have := hb0.size; (try simp at this); omega
  have hzz0 : Sz.sz x0 ≤ 1048576 := by omega
  go_wp2_with fail
  refine (toArr_any _ (by exact Rd.later (by repeat' (first | (with_reducible exact Below.refl _ _) | (with_reducible refine ext_trans ?_ hb0) | (with_reducible refine ext_trans ?_ (ext_alloc _ _)) | (with_reducible refine Below.drew ?_) | (with_reducible refine Below.setCell ?_ ?_ _) | (simp; done) | (simp; omega) | omega)) h0) hzz0).mono ?_
  rintro e w1 ⟨q1, rfl, hr1, hb1⟩
  replace hr1 := Rd.old hr1
  obtain ⟨q1a0, q1c0, q1a1, q1c1, hcs1, q1f0, q1f1⟩ := rdArr hr1
  obtain rfl := arr_of_list hcs1
  clear hcs1 q1f0 q1f1
  obtain ⟨hc1, hf1⟩ := bcell hb1
  have hl1_0 : W.heap.size < w1.heap.size := by have := hb1.size; (try simp at this); omega
  go_wp2_with fail
  refine (specArrGet x1 _ (by exact Rd.later (by repeat' (first | (with_reducible exact Below.refl _ _) | (with_reducible refine ext_trans ?_ hb1) | (with_reducible refine ext_trans ?_ hb0) | (with_reducible refine ext_trans ?_ (ext_alloc _ _)) | (with_reducible refine Below.drew ?_) | (with_reducible refine Below.setCell ?_ ?_ _) | (simp; done) | (simp; omega) | omega)) hr1)).mono ?_
  rintro e w2 ⟨r2_0, rfl, hr2_0, hb2⟩
  obtain ⟨hcs2_0, u2_0f0, u2_0f2, u2_0f3, u2_0f4⟩ := rdVal hr2_0
  obtain rfl := arr_of_list hcs2_0
  clear hcs2_0 u2_0f0 u2_0f2 u2_0f3 u2_0f4
  obtain ⟨hc2, hf2⟩ := bcell hb2
  have hl2_0 : W.heap.size < w2.heap.size := by have := hb2.size; (try simp at this); omega
  go_wp2_with fail
  refine (toArr_any _ (by exact Rd.later (by repeat' (first | (with_reducible exact Below.refl _ _) | (with_reducible refine ext_trans ?_ hb2) | (with_reducible refine ext_trans ?_ hb1) | (with_reducible refine ext_trans ?_ hb0) | (with_reducible refine ext_trans ?_ (ext_alloc _ _)) | (with_reducible refine Below.drew ?_) | (with_reducible refine Below.setCell ?_ ?_ _) | (simp; done) | (simp; omega) | omega)) h0) hzz0).mono ?_
  rintro e w3 ⟨q3, rfl, hr3, hb3⟩
  replace hr3 := Rd.old hr3
  obtain ⟨q3a0, q3c0, q3a1, q3c1, hcs3, q3f0, q3f1⟩ := rdArr hr3
  obtain rfl := arr_of_list hcs3
  clear hcs3 q3f0 q3f1
  obtain ⟨hc3, hf3⟩ := bcell hb3
  have hl3_0 : W.heap.size < w3.heap.size := by have := hb3.size; (try simp at this); omega
  have hl3_1 : w2.heap.size < w3.heap.size := by have := hb3.size; (try simp at this); omega
  go_wp2_with fail
  refine (implArrGet x1 _ (by exact Rd.later (by repeat' (first | (with_reducible exact Below.refl _ _) | (with_reducible refine ext_trans ?_ hb3) | (with_reducible refine ext_trans ?_ hb2) | (with_reducible refine ext_trans ?_ hb1) | (with_reducible refine ext_trans ?_ hb0) | (with_reducible refine ext_trans ?_ (ext_alloc _ _)) | (with_reducible refine Below.drew ?_) | (with_reducible refine Below.setCell ?_ ?_ _) | (simp; done) | (simp; omega) | omega)) hr3)).mono ?_
  rintro e w4 ⟨r4_0, rfl, hr4_0, hb4⟩
  obtain ⟨hcs4_0, u4_0f0, u4_0f2, u4_0f3, u4_0f4⟩ := rdVal hr4_0
  obtain rfl := arr_of_list hcs4_0
  clear hcs4_0 u4_0f0 u4_0f2 u4_0f3 u4_0f4
  obtain ⟨hc4, hf4⟩ := bcell hb4
  have hl4_0 : W.heap.size < w4.heap.size := by have := hb4.size; (try simp at this); omega
  have hl4_1 : w2.heap.size < w4.heap.size := by have := hb4.size; (try simp at this); omega
  have hl4_2 : w3.heap.size < w4.heap.size := by have := hb4.size; (try simp at this); omega
  go_wp2_with fail
  refine (eqVal_same _ (by exact Rd.later (by repeat' (first | (with_reducible exact Below.refl _ _) | (with_reducible refine ext_trans ?_ hb4) | (with_reducible refine ext_trans ?_ hb3) | (with_reducible refine ext_trans ?_ hb2) | (with_reducible refine ext_trans ?_ hb1) | (with_reducible refine ext_trans ?_ hb0) | (with_reducible refine ext_trans ?_ (ext_alloc _ _)) | (with_reducible refine Below.drew ?_) | (with_reducible refine Below.setCell ?_ ?_ _) | (simp; done) | (simp; omega) | omega)) hr4_0) (by exact Rd.later (by repeat' (first | (with_reducible exact Below.refl _ _) | (with_reducible refine ext_trans ?_ hb4) | (with_reducible refine ext_trans ?_ hb3) | (with_reducible refine ext_trans ?_ hb2) | (with_reducible refine ext_trans ?_ hb1) | (with_reducible refine ext_trans ?_ hb0) | (with_reducible refine ext_trans ?_ (ext_alloc _ _)) | (with_reducible refine Below.drew ?_) | (with_reducible refine Below.setCell ?_ ?_ _) | (simp; done) | (simp; omega) | omega)) hr2_0)).mono ?_
  rintro e w5 ⟨rfl, hb5⟩
  obtain ⟨hc5, hf5⟩ := bcell hb5
  have hl5_0 : W.heap.size < w5.heap.size := by have := hb5.size; (try simp at this); omega
  have hl5_1 : w2.heap.size < w5.heap.size := by have := hb5.size; (try simp at this); omega
  have hl5_2 : w3.heap.size < w5.heap.size := by have := hb5.size; (try simp at this); omega
  have hl5_3 : w4.heap.size < w5.heap.size := by have := hb5.size; (try simp at this); omega
  go_wp2_with fail
  have d_x0_0 : w5.cell? ⟨w3.heap.size, 0, none⟩ = some (.slice q3a0 x0.keys.length q3c0) := keeps_cells ((by repeat' (first | (with_reducible exact Below.refl _ _) | (with_reducible refine ext_trans ?_ hb5) | (with_reducible refine ext_trans ?_ hb4) | (with_reducible refine ext_trans ?_ hb3) | (with_reducible refine ext_trans ?_ hb2) | (with_reducible refine ext_trans ?_ hb1) | (with_reducible refine ext_trans ?_ hb0) | (with_reducible refine ext_trans ?_ (ext_alloc _ _)) | (with_reducible refine Below.drew ?_) | (with_reducible refine Below.setCell ?_ ?_ _) | (simp; done) | (simp; omega) | omega)) : Below (w3.alloc (.cells #[.slice q3a0 x0.keys.length q3c0, .slice q3a1 x0.vals.length q3c1] 40)).heap.size (w3.alloc (.cells #[.slice q3a0 x0.keys.length q3c0, .slice q3a1 x0.vals.length q3c1] 40)) w5) _ _ (by simp)
  have d_x0_1 : w5.cell? ⟨w3.heap.size, 1, none⟩ = some (.slice q3a1 x0.vals.length q3c1) := keeps_cells ((by repeat' (first | (with_reducible exact Below.refl _ _) | (with_reducible refine ext_trans ?_ hb5) | (with_reducible refine ext_trans ?_ hb4) | (with_reducible refine ext_trans ?_ hb3) | (with_reducible refine ext_trans ?_ hb2) | (with_reducible refine ext_trans ?_ hb1) | (with_reducible refine ext_trans ?_ hb0) | (with_reducible refine ext_trans ?_ (ext_alloc _ _)) | (with_reducible refine Below.drew ?_) | (with_reducible refine Below.setCell ?_ ?_ _) | (simp; done) | (simp; omega) | omega)) : Below (w3.alloc (.cells #[.slice q3a0 x0.keys.length q3c0, .slice q3a1 x0.vals.length q3c1] 40)).heap.size (w3.alloc (.cells #[.slice q3a0 x0.keys.length q3c0, .slice q3a1 x0.vals.length q3c1] 40)) w5) _ _ (by simp)
  have d_aA_0 : w5.cell? ⟨W.heap.size, 0, none⟩ = some (.slice p0a0 x0.keys.length p0c0) := keeps_cells ((by repeat' (first | (with_reducible exact Below.refl _ _) | (with_reducible refine ext_trans ?_ hb5) | (with_reducible refine ext_trans ?_ hb4) | (with_reducible refine ext_trans ?_ hb3) | (with_reducible refine ext_trans ?_ hb2) | (with_reducible refine ext_trans ?_ hb1) | (with_reducible refine ext_trans ?_ hb0) | (with_reducible refine ext_trans ?_ (ext_alloc _ _)) | (with_reducible refine Below.drew ?_) | (with_reducible refine Below.setCell ?_ ?_ _) | (simp; done) | (simp; omega) | omega)) : Below (W.alloc (.cells #[.slice p0a0 x0.keys.length p0c0, .slice p0a1 x0.vals.length p0c1] 35)).heap.size (W.alloc (.cells #[.slice p0a0 x0.keys.length p0c0, .slice p0a1 x0.vals.length p0c1] 35)) w5) _ _ (by simp)
  have d_aA_1 : w5.cell? ⟨W.heap.size, 1, none⟩ = some (.slice p0a1 x0.vals.length p0c1) := keeps_cells ((by repeat' (first | (with_reducible exact Below.refl _ _) | (with_reducible refine ext_trans ?_ hb5) | (with_reducible refine ext_trans ?_ hb4) | (with_reducible refine ext_trans ?_ hb3) | (with_reducible refine ext_trans ?_ hb2) | (with_reducible refine ext_trans ?_ hb1) | (with_reducible refine ext_trans ?_ hb0) | (with_reducible refine ext_trans ?_ (ext_alloc _ _)) | (with_reducible refine Below.drew ?_) | (with_reducible refine Below.setCell ?_ ?_ _) | (simp; done) | (simp; omega) | omega)) : Below (W.alloc (.cells #[.slice p0a0 x0.keys.length p0c0, .slice p0a1 x0.vals.length p0c1] 35)).heap.size (W.alloc (.cells #[.slice p0a0 x0.keys.length p0c0, .slice p0a1 x0.vals.length p0c1] 35)) w5) _ _ (by simp)
  go_region_held3 (fun w' => w'.cell? ⟨w3.heap.size, 0, none⟩ = some (.slice q3a0 x0.keys.length q3c0) ∧ w'.cell? ⟨w3.heap.size, 1, none⟩ = some (.slice q3a1 x0.vals.length q3c1) ∧ w'.cell? ⟨W.heap.size, 0, none⟩ = some (.slice p0a0 x0.keys.length p0c0) ∧ w'.cell? ⟨W.heap.size, 1, none⟩ = some (.slice p0a1 x0.vals.length p0c1)) (simp [*])
    (first | (go_at_call 14; refine (toArr_any _ (by exact Rd.later (by repeat' (first | (with_reducible exact Below.refl _ _) | (with_reducible refine ext_trans ?_ hb5) | (with_reducible refine ext_trans ?_ hb4) | (with_reducible refine ext_trans ?_ hb3) | (with_reducible refine ext_trans ?_ hb2) | (with_reducible refine ext_trans ?_ hb1) | (with_reducible refine ext_trans ?_ hb0) | (with_reducible refine ext_trans ?_ (ext_alloc _ _)) | (with_reducible refine Below.drew ?_) | (with_reducible refine Below.setCell ?_ ?_ _) | (simp; done) | (simp; omega) | omega)) h0) hzz0).mono ?_; rintro e w6 ⟨q6, rfl, hr6, hb6⟩; replace hr6 := Rd.old hr6; have hkc6 := keeps_cells hb6) | (go_at_call 16; refine (eqArr_same _ (by exact Rd.later (by repeat' (first | (with_reducible exact Below.refl _ _) | (with_reducible refine ext_trans ?_ hb6) | (with_reducible refine ext_trans ?_ hb5) | (with_reducible refine ext_trans ?_ hb4) | (with_reducible refine ext_trans ?_ hb3) | (with_reducible refine ext_trans ?_ hb2) | (with_reducible refine ext_trans ?_ hb1) | (with_reducible refine ext_trans ?_ hb0) | (with_reducible refine ext_trans ?_ (ext_alloc _ _)) | (with_reducible refine Below.drew ?_) | (with_reducible refine Below.setCell ?_ ?_ _) | (simp; done) | (simp; omega) | omega)) hr3) (by exact Rd.later (by repeat' (first | (with_reducible exact Below.refl _ _) | (with_reducible refine ext_trans ?_ hb6) | (with_reducible refine ext_trans ?_ hb5) | (with_reducible refine ext_trans ?_ hb4) | (with_reducible refine ext_trans ?_ hb3) | (with_reducible refine ext_trans ?_ hb2) | (with_reducible refine ext_trans ?_ hb1) | (with_reducible refine ext_trans ?_ hb0) | (with_reducible refine ext_trans ?_ (ext_alloc _ _)) | (with_reducible refine Below.drew ?_) | (with_reducible refine Below.setCell ?_ ?_ _) | (simp; done) | (simp; omega) | omega)) hr6)).mono ?_; rintro e w7 ⟨rfl, hb7⟩; have hkc7 := keeps_cells hb7))
  go_wp2
  go_ret
  exact ⟨rfl, (by repeat' (first | (with_reducible exact Below.refl _ _) | (with_reducible refine ext_trans ?_ hb7) | (with_reducible refine ext_trans ?_ hb6) | (with_reducible refine ext_trans ?_ hb5) | (with_reducible refine ext_trans ?_ hb4) | (with_reducible refine ext_trans ?_ hb3) | (with_reducible refine ext_trans ?_ hb2) | (with_reducible refine ext_trans ?_ hb1) | (with_reducible refine ext_trans ?_ hb0) | (with_reducible refine ext_trans ?_ (ext_alloc _ _)) | (with_reducible refine Below.drew ?_) | (with_reducible refine Below.setCell ?_ ?_ _) | (simp; done) | (simp; omega) | omega))⟩
end Go.Proofs.Ytojonbdkijnbnaa
