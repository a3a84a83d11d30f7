/-
  What is proved here: NumVal on both sides. No condition.
-/
import Derived.Test.YtojonbdkijnbnaaNat
import Derived.Test.YtojonbdkijnbnaaVal0
namespace Go.Proofs.Ytojonbdkijnbnaa
open Go.RowKit
set_option linter.unusedVariables false
set_option linter.unusedSimpArgs false

def numVal (d : Dec) : Val := if decOk d then ⟨1, d, ⟨#[]⟩⟩ else val0

set_option maxHeartbeats 1000000 in
theorem specValOk_num {d : Dec} (w : World) (hd : Rd.rd (Old w) w [.bool d.neg, .string d.dig, .int .i64 d.exp] d) :
    Calls Try.prog 42 #[.agg #[.int .i64 1, .bool d.neg, .string d.dig, .int .i64 d.exp, .string ⟨#[]⟩]] w fun e w' => e = .returned (.bool (decOk d)) ∧ Below w.heap.size w w' := by
  obtain ⟨_, hs, he⟩ := rdDec hd
  go_enter Try.func42, Try.ntmps42
  go_wp2_with fail
  refine (specDecOk (d := d) _ (by exact rdDec_mk hs he)).mono ?_
  rintro e w1 ⟨rfl, hb⟩
  go_wp2
  go_ret
  exact ⟨rfl, ext_trans (ext_alloc _ _) hb⟩

set_option maxHeartbeats 1000000 in
theorem specSound_num {d : Dec} (w : World) (hd : Rd.rd (Old w) w [.bool d.neg, .string d.dig, .int .i64 d.exp] d) :
    Calls Try.prog 23 #[.agg #[.int .i64 1, .bool d.neg, .string d.dig, .int .i64 d.exp, .string ⟨#[]⟩]] w fun e w' => ∃ cs' : Array Value, e = .returned (.agg cs') ∧ Rd.rd (Old w') w' cs'.toList (numVal d) ∧ Below w.heap.size w w' := by
  obtain ⟨_, hs, he⟩ := rdDec hd
  obtain ⟨b, hb⟩ : ∃ b, decOk d = b := ⟨_, rfl⟩
  have HB := hid hb
  clear hb
  cases b
  · go_enter Try.func23, Try.ntmps23
    go_wp2_with fail
    refine (specValOk_num (d := d) _ (by exact rdDec_mk hs he)).mono ?_
    rintro e w1 ⟨rfl, hb⟩
    rw [HB.out]
    obtain ⟨hc1, hf1⟩ := bcell hb
    have hl : w.heap.size + 1 < w1.heap.size := by have := hb.size; (try simp at this); omega
    have hl' : w.heap.size < w1.heap.size := by omega
    have hbw : Below w.heap.size w w1 := ext_trans (ext_trans (ext_alloc _ _) (ext_alloc _ _)) hb
    go_wp2
    refine bodyPost_ret (v := .agg #[.int .i64 0, .bool false, .string ⟨#[]⟩, .int .i64 0, .string ⟨#[]⟩]) (by simp [results, Try.results23, go_sem, hc1, hl, hl']) rfl ⟨_, rfl, ?_, ?_⟩
    · unfold numVal; rw [HB.out]; exact rd_val0
    · repeat' (first | (with_reducible exact hbw) | (with_reducible refine Below.setCell ?_ ?_ _) | (simp; done) | (simp; omega) | omega)
  · go_enter Try.func23, Try.ntmps23
    go_wp2_with fail
    refine (specValOk_num (d := d) _ (by exact rdDec_mk hs he)).mono ?_
    rintro e w1 ⟨rfl, hb⟩
    rw [HB.out]
    obtain ⟨hc1, hf1⟩ := bcell hb
    have hl : w.heap.size + 1 < w1.heap.size := by have := hb.size; (try simp at this); omega
    have hl' : w.heap.size < w1.heap.size := by omega
    have hbw : Below w.heap.size w w1 := ext_trans (ext_trans (ext_alloc _ _) (ext_alloc _ _)) hb
    go_wp2
    refine bodyPost_ret (v := .agg #[.int .i64 1, .bool d.neg, .string d.dig, .int .i64 d.exp, .string ⟨#[]⟩]) (by simp [results, Try.results23, go_sem, hc1, hl, hl']) rfl ⟨_, rfl, ?_, ?_⟩
    · unfold numVal; rw [HB.out]; exact rdVal_mk (x := ⟨1, d, ⟨#[]⟩⟩) (show (-9223372036854775808 : Int) ≤ 1 ∧ (1 : Int) ≤ 9223372036854775807 by decide) hs he (show (⟨#[]⟩ : ByteArray).size ≤ 9223372036854775807 by decide)
    · repeat' (first | (with_reducible exact hbw) | (with_reducible refine Below.setCell ?_ ?_ _) | (simp; done) | (simp; omega) | omega)

set_option maxHeartbeats 1000000 in
theorem specNumVal {cs : Array Value} {d : Dec} (w : World) (hrd : Rd.rd (Old w) w cs.toList d) :
    Calls Try.prog 8 #[.agg cs] w fun e w' => ∃ cs' : Array Value, e = .returned (.agg cs') ∧ Rd.rd (Old w') w' cs'.toList (numVal d) ∧ Below w.heap.size w w' := by
  obtain ⟨hcs, hs, he⟩ := rdDec hrd
  obtain rfl := arr_of_list hcs
  clear hcs hrd
  go_enter Try.func8, Try.ntmps8
  go_wp2_with fail
  refine (specSound_num (d := d) _ (by exact rdDec_mk hs he)).mono ?_
  rintro e w1 ⟨cs1, rfl, hr, hb⟩
  obtain ⟨hcs1, g0, g1, g2, g3⟩ := rdVal hr
  obtain rfl := arr_of_list hcs1
  obtain ⟨hc1, hf1⟩ := bcell hb
  have hl : w.heap.size + 1 < w1.heap.size := by have := hb.size; (try simp at this); omega
  have hl' : w.heap.size < w1.heap.size := by omega
  have hbw : Below w.heap.size w w1 := ext_trans (ext_trans (ext_alloc _ _) (ext_alloc _ _)) hb
  clear hcs1 hr
  go_wp2
  refine bodyPost_ret (v := .agg #[.int .i64 (numVal d).kind, .bool (numVal d).num.neg, .string (numVal d).num.dig, .int .i64 (numVal d).num.exp, .string (numVal d).text]) (by simp [results, Try.results8, go_sem, hc1, hl, hl']) rfl ⟨_, rfl, ?_, ?_⟩
  · exact rdVal_mk g0 g1 g2 g3
  · repeat' (first | (with_reducible exact hbw) | (with_reducible refine Below.setCell ?_ ?_ _) | (simp; done) | (simp; omega) | omega)

set_option maxHeartbeats 1000000 in
theorem implNumVal {cs : Array Value} {d : Dec} (w : World) (hrd : Rd.rd (Old w) w cs.toList d) :
    Calls Try.prog 10 #[.agg cs] w fun e w' => ∃ cs' : Array Value, e = .returned (.agg cs') ∧ Rd.rd (Old w') w' cs'.toList (numVal d) ∧ Below w.heap.size w w' := by
  obtain ⟨hcs, hs, he⟩ := rdDec hrd
  obtain rfl := arr_of_list hcs
  clear hcs hrd
  obtain ⟨b, hb⟩ : ∃ b, decOk d = b := ⟨_, rfl⟩
  have HB := hid hb
  clear hb
  cases b
  · go_enter Try.func10, Try.ntmps10
    go_wp2_with fail
    refine (implIsDec (d := d) _ (by exact rdDec_mk hs he)).mono ?_
    rintro e w1 ⟨rfl, hb⟩
    rw [HB.out]
    obtain ⟨hc1, hf1⟩ := bcell hb
    have hl : w.heap.size + 1 < w1.heap.size := by have := hb.size; (try simp at this); omega
    have hl' : w.heap.size < w1.heap.size := by omega
    have hbw : Below w.heap.size w w1 := ext_trans (ext_trans (ext_alloc _ _) (ext_alloc _ _)) hb
    go_wp2
    refine bodyPost_ret (v := .agg #[.int .i64 0, .bool false, .string ⟨#[]⟩, .int .i64 0, .string ⟨#[]⟩]) (by simp [results, Try.results10, go_sem, hc1, hl, hl']) rfl ⟨_, rfl, ?_, ?_⟩
    · unfold numVal; rw [HB.out]; exact rd_val0
    · repeat' (first | (with_reducible exact hbw) | (with_reducible refine Below.setCell ?_ ?_ _) | (simp; done) | (simp; omega) | omega)
  · go_enter Try.func10, Try.ntmps10
    go_wp2_with fail
    refine (implIsDec (d := d) _ (by exact rdDec_mk hs he)).mono ?_
    rintro e w1 ⟨rfl, hb⟩
    rw [HB.out]
    obtain ⟨hc1, hf1⟩ := bcell hb
    have hl : w.heap.size + 1 < w1.heap.size := by have := hb.size; (try simp at this); omega
    have hl' : w.heap.size < w1.heap.size := by omega
    have hbw : Below w.heap.size w w1 := ext_trans (ext_trans (ext_alloc _ _) (ext_alloc _ _)) hb
    go_wp2
    refine bodyPost_ret (v := .agg #[.int .i64 1, .bool d.neg, .string d.dig, .int .i64 d.exp, .string ⟨#[]⟩]) (by simp [results, Try.results10, go_sem, hc1, hl, hl']) rfl ⟨_, rfl, ?_, ?_⟩
    · unfold numVal; rw [HB.out]; exact rdVal_mk (x := ⟨1, d, ⟨#[]⟩⟩) (show (-9223372036854775808 : Int) ≤ 1 ∧ (1 : Int) ≤ 9223372036854775807 by decide) hs he (show (⟨#[]⟩ : ByteArray).size ≤ 9223372036854775807 by decide)
    · repeat' (first | (with_reducible exact hbw) | (with_reducible refine Below.setCell ?_ ?_ _) | (simp; done) | (simp; omega) | omega)

set_option maxHeartbeats 4000000 in
theorem fnExactNumVal_walk (W : World) {cs0 : Array Value} {x0 : Dec} (h0 : Rd.rd (Old W) W cs0.toList x0) :
    Calls Try.prog 3 #[.agg cs0] W fun e w' => e = .returned (.bool true) ∧ Below W.heap.size W w' := by
  obtain ⟨hcs0, p0f1, p0f2⟩ := rdDec h0
  obtain rfl := arr_of_list hcs0
  clear hcs0
  by_cases hz0 : (Sz.sz x0 : Int) ≤ 1048576
  rotate_left
  · go_enter Try.func3, Try.ntmps3
    go_wp2_with fail
    refine (szDec_any _ _ (by exact Rd.later (by repeat' (first | (with_reducible exact Below.refl _ _) | (with_reducible refine ext_trans ?_ (ext_alloc _ _)) | (with_reducible refine Below.drew ?_) | (with_reducible refine Below.setCell ?_ ?_ _) | (simp; done) | (simp; omega) | omega)) h0) (by omega) (by omega)).mono ?_
    rintro e w0 ⟨rfl, hb0⟩
    rw [szOut_bad (by omega)]
    obtain ⟨hc0, hf0⟩ := bcell hb0
    have hl0_0 : W.heap.size < w0.heap.size := by have := hb0.size; (try simp at this); omega
    go_wp2
    go_ret
    exact ⟨rfl, (by repeat' (first | (with_reducible exact Below.refl _ _) | (with_reducible refine ext_trans ?_ hb0) | (with_reducible refine ext_trans ?_ (ext_alloc _ _)) | (with_reducible refine Below.drew ?_) | (with_reducible refine Below.setCell ?_ ?_ _) | (simp; done) | (simp; omega) | omega))⟩
  go_enter Try.func3, Try.ntmps3
  go_wp2_with fail
  refine (szDec_any _ _ (by exact Rd.later (by repeat' (first | (with_reducible exact Below.refl _ _) | (with_reducible refine ext_trans ?_ (ext_alloc _ _)) | (with_reducible refine Below.drew ?_) | (with_reducible refine Below.setCell ?_ ?_ _) | (simp; done) | (simp; omega) | omega)) h0) (by omega) (by omega)).mono ?_
  rintro e w0 ⟨rfl, hb0⟩
  rw [szOut_val (by omega)]
  obtain ⟨hc0, hf0⟩ := bcell hb0
  have hl0_0 : W.heap.size < w0.heap.size := by have := hb0.size; (try simp at this); omega
  have hzz0 : Sz.sz x0 ≤ 1048576 := by omega
  go_wp2_with fail
  refine (toDec_any _ (by exact Rd.later (by repeat' (first | (with_reducible exact Below.refl _ _) | (with_reducible refine ext_trans ?_ hb0) | (with_reducible refine ext_trans ?_ (ext_alloc _ _)) | (with_reducible refine Below.drew ?_) | (with_reducible refine Below.setCell ?_ ?_ _) | (simp; done) | (simp; omega) | omega)) h0) hzz0).mono ?_
  rintro e w1 ⟨q1, rfl, hr1, hb1⟩
  replace hr1 := Rd.old hr1
  obtain ⟨hcs1, q1f1, q1f2⟩ := rdDec hr1
  obtain rfl := arr_of_list hcs1
  clear hcs1 q1f1 q1f2
  obtain ⟨hc1, hf1⟩ := bcell hb1
  have hl1_0 : W.heap.size < w1.heap.size := by have := hb1.size; (try simp at this); omega
  go_wp2_with fail
  refine (specNumVal  _ (by exact Rd.later (by repeat' (first | (with_reducible exact Below.refl _ _) | (with_reducible refine ext_trans ?_ hb1) | (with_reducible refine ext_trans ?_ hb0) | (with_reducible refine ext_trans ?_ (ext_alloc _ _)) | (with_reducible refine Below.drew ?_) | (with_reducible refine Below.setCell ?_ ?_ _) | (simp; done) | (simp; omega) | omega)) hr1)).mono ?_
  rintro e w2 ⟨r2_0, rfl, hr2_0, hb2⟩
  obtain ⟨hcs2_0, u2_0f0, u2_0f2, u2_0f3, u2_0f4⟩ := rdVal hr2_0
  obtain rfl := arr_of_list hcs2_0
  clear hcs2_0 u2_0f0 u2_0f2 u2_0f3 u2_0f4
  obtain ⟨hc2, hf2⟩ := bcell hb2
  have hl2_0 : W.heap.size < w2.heap.size := by have := hb2.size; (try simp at this); omega
  go_wp2_with fail
  refine (toDec_any _ (by exact Rd.later (by repeat' (first | (with_reducible exact Below.refl _ _) | (with_reducible refine ext_trans ?_ hb2) | (with_reducible refine ext_trans ?_ hb1) | (with_reducible refine ext_trans ?_ hb0) | (with_reducible refine ext_trans ?_ (ext_alloc _ _)) | (with_reducible refine Below.drew ?_) | (with_reducible refine Below.setCell ?_ ?_ _) | (simp; done) | (simp; omega) | omega)) h0) hzz0).mono ?_
  rintro e w3 ⟨q3, rfl, hr3, hb3⟩
  replace hr3 := Rd.old hr3
  obtain ⟨hcs3, q3f1, q3f2⟩ := rdDec hr3
  obtain rfl := arr_of_list hcs3
  clear hcs3 q3f1 q3f2
  obtain ⟨hc3, hf3⟩ := bcell hb3
  have hl3_0 : W.heap.size < w3.heap.size := by have := hb3.size; (try simp at this); omega
  have hl3_1 : w2.heap.size < w3.heap.size := by have := hb3.size; (try simp at this); omega
  go_wp2_with fail
  refine (implNumVal  _ (by exact Rd.later (by repeat' (first | (with_reducible exact Below.refl _ _) | (with_reducible refine ext_trans ?_ hb3) | (with_reducible refine ext_trans ?_ hb2) | (with_reducible refine ext_trans ?_ hb1) | (with_reducible refine ext_trans ?_ hb0) | (with_reducible refine ext_trans ?_ (ext_alloc _ _)) | (with_reducible refine Below.drew ?_) | (with_reducible refine Below.setCell ?_ ?_ _) | (simp; done) | (simp; omega) | omega)) hr3)).mono ?_
  rintro e w4 ⟨r4_0, rfl, hr4_0, hb4⟩
  obtain ⟨hcs4_0, u4_0f0, u4_0f2, u4_0f3, u4_0f4⟩ := rdVal hr4_0
  obtain rfl := arr_of_list hcs4_0
  clear hcs4_0 u4_0f0 u4_0f2 u4_0f3 u4_0f4
  obtain ⟨hc4, hf4⟩ := bcell hb4
  have hl4_0 : W.heap.size < w4.heap.size := by have := hb4.size; (try simp at this); omega
  have hl4_1 : w2.heap.size < w4.heap.size := by have := hb4.size; (try simp at this); omega
  go_wp2_with fail
  refine (eqVal_same _ (by exact Rd.later (by repeat' (first | (with_reducible exact Below.refl _ _) | (with_reducible refine ext_trans ?_ hb4) | (with_reducible refine ext_trans ?_ hb3) | (with_reducible refine ext_trans ?_ hb2) | (with_reducible refine ext_trans ?_ hb1) | (with_reducible refine ext_trans ?_ hb0) | (with_reducible refine ext_trans ?_ (ext_alloc _ _)) | (with_reducible refine Below.drew ?_) | (with_reducible refine Below.setCell ?_ ?_ _) | (simp; done) | (simp; omega) | omega)) hr4_0) (by exact Rd.later (by repeat' (first | (with_reducible exact Below.refl _ _) | (with_reducible refine ext_trans ?_ hb4) | (with_reducible refine ext_trans ?_ hb3) | (with_reducible refine ext_trans ?_ hb2) | (with_reducible refine ext_trans ?_ hb1) | (with_reducible refine ext_trans ?_ hb0) | (with_reducible refine ext_trans ?_ (ext_alloc _ _)) | (with_reducible refine Below.drew ?_) | (with_reducible refine Below.setCell ?_ ?_ _) | (simp; done) | (simp; omega) | omega)) hr2_0)).mono ?_
  rintro e w5 ⟨rfl, hb5⟩
  obtain ⟨hc5, hf5⟩ := bcell hb5
  have hl5_0 : W.heap.size < w5.heap.size := by have := hb5.size; (try simp at this); omega
  have hl5_1 : w2.heap.size < w5.heap.size := by have := hb5.size; (try simp at this); omega
  have hl5_2 : w4.heap.size < w5.heap.size := by have := hb5.size; (try simp at this); omega
  go_wp2
  go_ret
  exact ⟨rfl, (by repeat' (first | (with_reducible exact Below.refl _ _) | (with_reducible refine ext_trans ?_ hb5) | (with_reducible refine ext_trans ?_ hb4) | (with_reducible refine ext_trans ?_ hb3) | (with_reducible refine ext_trans ?_ hb2) | (with_reducible refine ext_trans ?_ hb1) | (with_reducible refine ext_trans ?_ hb0) | (with_reducible refine ext_trans ?_ (ext_alloc _ _)) | (with_reducible refine Below.drew ?_) | (with_reducible refine Below.setCell ?_ ?_ _) | (simp; done) | (simp; omega) | omega))⟩
end Go.Proofs.Ytojonbdkijnbnaa
