/-
  What is proved here: ArrAt and ArrGet on both sides: what they return. No condition.
-/
import Derived.Test.YtommldonooicjaaDoorDv
import Derived.Test.YtommldonooicjaaDoorNameAt
import Derived.Test.YtommldonooicjaaDoorWithin
import Derived.Test.YtommldonooicjaaDoorVal0
namespace Go.Proofs.YtommldonooicjaaDoor
open Go.RowKit
set_option linter.unusedVariables false
set_option linter.unusedSimpArgs false

def arrAt (a : Arr) (key : ByteArray) : Int := nameAt a.keys key - 1
def arrGet (a : Arr) (key : ByteArray) : Val := if h : 0 ≤ arrAt a key ∧ (arrAt a key).toNat < a.vals.length then a.vals[(arrAt a key).toNat]'h.2 else val0
theorem arrAt_le (a : Arr) (key : ByteArray) : -1 ≤ arrAt a key ∧ arrAt a key < a.keys.length := by
  have := nameAt_le a.keys key
  unfold arrAt
  omega
set_option maxHeartbeats 1000000 in
theorem specArrAt {cs : Array Value} {x : Arr} (s : ByteArray) (w : World) (h : Rd.rd (Old w) w cs.toList x) :
    Calls Tryd.prog 17 #[.agg cs, .string s] w fun e w' => e = .returned (.int .i64 (arrAt x s)) ∧ Below w.heap.size w w' := by
  obtain ⟨a, c, a1, c1, hcs, h0, hv⟩ := rdArr h
  obtain rfl := arr_of_list hcs
  obtain ⟨a', cap, ha, h1, h2, hc⟩ := rdStrs h0
  simp only [Value.slice.injEq, true_and] at ha
  obtain ⟨rfl, rfl⟩ := ha
  clear h h0 hcs hv
  go_enter Tryd.func17, Tryd.ntmps17
  go_wp2
  go_loop [5] (fun i => ∃ k : Nat, k ≤ x.keys.length ∧ i = .int .i64 k ∧ ∀ i (hi : i < k) (hi' : i < x.keys.length), x.keys[i] ≠ s) (fun i => x.keys.length - (intOf i).toNat)
  case atStart => exact ⟨0, Nat.zero_le _, rfl, fun i hi => absurd hi (by omega)⟩
  case round =>
    obtain ⟨k, hk, rfl, hr⟩ := hrel
    have HR := hid hr
    clear hr
    by_cases hlt : k < x.keys.length
    · obtain ⟨b, off, rfl, hB, hcell⟩ := hc (by omega)
      obtain ⟨hce, hsz⟩ := hcell k hlt
      have hB' : b < w.heap.size := hB
      clear hcell hc
      by_cases he : x.keys[k] = s
      · have hb : (x.keys[k].toList == s.toList) = true := by rw [he]; simp
        have HE := hid he
        clear he
        go_wp2
        go_ret
        exact ⟨end_int (by unfold arrAt; have := nameAt_hit hlt (fun i hi => HR.out i hi (by omega)) HE.out; omega), ext_alloc _ _⟩
      · have hb : (x.keys[k].toList == s.toList) = false := ba_ne he
        have HE := hid he
        clear he
        go_wp2
        go_round
        case rel => exact ⟨k + 1, by omega, by go_num, fun i hi hi' => by
          by_cases hik : i = k
          · subst hik; exact HE.out
          · exact HR.out i (by omega) hi'⟩
        case measure => simp [intOf]; omega
    · have : k = x.keys.length := by omega
      subst this
      clear hc
      go_wp2
      go_ret
      exact ⟨end_int (by unfold arrAt; have := nameAt_miss (fun i hi => HR.out i hi hi); omega), ext_alloc _ _⟩

theorem implArrAt {cs : Array Value} {x : Arr} (s : ByteArray) (w : World) (h : Rd.rd (Old w) w cs.toList x) :
    Calls Tryd.prog 13 #[.agg cs, .string s] w fun e w' => e = .returned (.int .i64 (arrAt x s)) ∧ Below w.heap.size w w' := by
  obtain ⟨a, c, a1, c1, hcs, h0, hv⟩ := rdArr h
  obtain rfl := arr_of_list hcs
  clear h hcs hv
  go_enter Tryd.func13, Tryd.ntmps13
  go_wp2_with fail
  refine (sIndexStr s _ (by exact Rd.later (ext_alloc w _) h0)).mono ?_
  rintro e w1 ⟨rfl, rfl⟩
  go_wp2
  go_ret
  exact ⟨end_int rfl, ext_alloc _ _⟩

/-- the element of a slice of values at a place -/
theorem rdVals_at {S : Nat → Prop} {w : World} {a : Option Addr} {n cap : Nat} {xs : List Val} (h : Rd.rd S w [.slice a n cap] xs) {k : Nat} (hk : k < xs.length) :
    n = xs.length ∧ ∃ b off, a = some ⟨b, off, none⟩ ∧ S b ∧ w.cell? ⟨b, off + k * 5, none⟩ = some (.int .i64 xs[k].kind) ∧ w.cell? ⟨b, off + k * 5 + 1, none⟩ = some (.bool xs[k].num.neg) ∧
      w.cell? ⟨b, off + k * 5 + 2, none⟩ = some (.string xs[k].num.dig) ∧ w.cell? ⟨b, off + k * 5 + 3, none⟩ = some (.int .i64 xs[k].num.exp) ∧ w.cell? ⟨b, off + k * 5 + 4, none⟩ = some (.string xs[k].text) ∧
      Rd.rd S w [.int .i64 xs[k].kind, .bool xs[k].num.neg, .string xs[k].num.dig, .int .i64 xs[k].num.exp, .string xs[k].text] xs[k] := by
  obtain ⟨a', cap', hv, h1, h2, hc⟩ := h
  simp only [List.cons.injEq, Value.slice.injEq, and_true] at hv
  obtain ⟨rfl, rfl, rfl⟩ := hv
  obtain ⟨b, off, rfl, hB, hrow⟩ := hc (by omega)
  obtain ⟨cs, hcell, hx⟩ := hrow k hk
  obtain ⟨hcs, _⟩ := rdVal hx
  subst hcs
  exact ⟨rfl, b, off, rfl, hB, hcell 0 (by decide), hcell 1 (by decide), hcell 2 (by decide), hcell 3 (by decide), hcell 4 (by decide), hx⟩

set_option maxHeartbeats 1000000 in
theorem specArrGet {cs : Array Value} {x : Arr} (s : ByteArray) (w : World) (h : Rd.rd (Old w) w cs.toList x) :
    Calls Tryd.prog 16 #[.agg cs, .string s] w fun e w' => ∃ cs' : Array Value, e = .returned (.agg cs') ∧ Rd.rd (Old w') w' cs'.toList (arrGet x s) ∧ Below w.heap.size w w' := by
  obtain ⟨a, c, a1, c1, hcs, h0, hv⟩ := rdArr h
  obtain rfl := arr_of_list hcs
  have hle := arrAt_le x s
  by_cases hin : 0 ≤ arrAt x s ∧ (arrAt x s).toNat < x.vals.length
  · obtain ⟨k, hk⟩ := Int.eq_ofNat_of_zero_le hin.1
    have hkl : k < x.vals.length := by omega
    have hres : arrGet x s = x.vals[k] := by unfold arrGet; rw [dif_pos hin]; congr 1; omega
    obtain ⟨_, b, off, rfl, hB, t0, t1, t2, t3, t4, hx⟩ := rdVals_at hv hkl
    have hB' : b < w.heap.size := hB
    have HR := hid hres
    have HX := hid hx
    have HK := hid hk
    clear hres hin hx hcs h0 hv hk
    go_enter Tryd.func16, Tryd.ntmps16
    go_wp2_with fail
    refine (specArrAt s _ (by exact Rd.later (ext_trans (ext_alloc _ _) (ext_alloc _ _)) h)).mono ?_
    rintro e w1 ⟨rfl, hb⟩
    rw [HK.out]
    obtain ⟨hc1, hf1⟩ := bcell hb
    have hl : w.heap.size + 1 < w1.heap.size := by have := hb.size; (try simp at this); omega
    have hl' : w.heap.size < w1.heap.size := by omega
    have hbw : Below w.heap.size w w1 := ext_trans (ext_trans (ext_alloc _ _) (ext_alloc _ _)) hb
    have hBW := bcell hbw
    have q0 := (hBW.1 b (off + k * 5) hB').trans t0
    have q1 := (hBW.1 b (off + k * 5 + 1) hB').trans t1
    have q2 := (hBW.1 b (off + k * 5 + 2) hB').trans t2
    have q3 := (hBW.1 b (off + k * 5 + 3) hB').trans t3
    have q4 := (hBW.1 b (off + k * 5 + 4) hB').trans t4
    have hkz : (k : Int) < x.vals.length := by omega
    clear hBW h hle t0 t1 t2 t3 t4
    go_wp2
    refine bodyPost_ret (v := .agg #[.int .i64 x.vals[k].kind, .bool x.vals[k].num.neg, .string x.vals[k].num.dig, .int .i64 x.vals[k].num.exp, .string x.vals[k].text]) (by simp [results, Tryd.results16, go_sem, hc1, hl, hl']) rfl ⟨_, rfl, ?_, ?_⟩
    · rw [HR.out]
      exact rdVal_mk (rdVal HX.out).2.1 (rdVal HX.out).2.2.1 (rdVal HX.out).2.2.2.1 (rdVal HX.out).2.2.2.2
    · repeat' (first | (with_reducible exact hbw) | (with_reducible refine Below.setCell ?_ ?_ _) | (simp; done) | (simp; omega) | omega)
  · have hres : arrGet x s = val0 := by unfold arrGet; rw [dif_neg hin]
    have HR := hid hres
    have hout : arrAt x s < 0 ∨ (x.vals.length : Int) ≤ arrAt x s := by omega
    clear hres hin hcs h0 hv
    rcases hout with hout | hout
    · go_enter Tryd.func16, Tryd.ntmps16
      go_wp2_with fail
      refine (specArrAt s _ (by exact Rd.later (ext_trans (ext_alloc _ _) (ext_alloc _ _)) h)).mono ?_
      rintro e w1 ⟨rfl, hb⟩
      obtain ⟨hc1, hf1⟩ := bcell hb
      have hl : w.heap.size + 1 < w1.heap.size := by have := hb.size; (try simp at this); omega
      have hl' : w.heap.size < w1.heap.size := by omega
      have hbw : Below w.heap.size w w1 := ext_trans (ext_trans (ext_alloc _ _) (ext_alloc _ _)) hb
      clear h
      go_wp2
      refine bodyPost_ret (v := .agg #[.int .i64 0, .bool false, .string ⟨#[]⟩, .int .i64 0, .string ⟨#[]⟩]) (by simp [results, Tryd.results16, go_sem, hc1, hl, hl']) rfl ⟨_, rfl, ?_, ?_⟩
      · rw [HR.out]; exact rd_val0
      · repeat' (first | (with_reducible exact hbw) | (with_reducible refine Below.setCell ?_ ?_ _) | (simp; done) | (simp; omega) | omega)
    · have hnn : 0 ≤ arrAt x s := by omega
      go_enter Tryd.func16, Tryd.ntmps16
      go_wp2_with fail
      refine (specArrAt s _ (by exact Rd.later (ext_trans (ext_alloc _ _) (ext_alloc _ _)) h)).mono ?_
      rintro e w1 ⟨rfl, hb⟩
      obtain ⟨hc1, hf1⟩ := bcell hb
      have hl : w.heap.size + 1 < w1.heap.size := by have := hb.size; (try simp at this); omega
      have hl' : w.heap.size < w1.heap.size := by omega
      have hbw : Below w.heap.size w w1 := ext_trans (ext_trans (ext_alloc _ _) (ext_alloc _ _)) hb
      clear h
      go_wp2
      refine bodyPost_ret (v := .agg #[.int .i64 0, .bool false, .string ⟨#[]⟩, .int .i64 0, .string ⟨#[]⟩]) (by simp [results, Tryd.results16, go_sem, hc1, hl, hl']) rfl ⟨_, rfl, ?_, ?_⟩
      · rw [HR.out]; exact rd_val0
      · repeat' (first | (with_reducible exact hbw) | (with_reducible refine Below.setCell ?_ ?_ _) | (simp; done) | (simp; omega) | omega)

set_option maxHeartbeats 1000000 in
theorem implArrGet {cs : Array Value} {x : Arr} (s : ByteArray) (w : World) (h : Rd.rd (Old w) w cs.toList x) :
    Calls Tryd.prog 12 #[.agg cs, .string s] w fun e w' => ∃ cs' : Array Value, e = .returned (.agg cs') ∧ Rd.rd (Old w') w' cs'.toList (arrGet x s) ∧ Below w.heap.size w w' := by
  obtain ⟨a, c, a1, c1, hcs, h0, hv⟩ := rdArr h
  obtain rfl := arr_of_list hcs
  have hle := arrAt_le x s
  have hlen : x.vals.length ≤ 9223372036854775807 := by
    obtain ⟨_, cap, hh, h1, h2, _⟩ := hv
    omega
  have hnm : nameAt x.keys s - 1 = arrAt x s := rfl
  by_cases hin : 0 ≤ arrAt x s ∧ (arrAt x s).toNat < x.vals.length
  · obtain ⟨k, hk⟩ := Int.eq_ofNat_of_zero_le hin.1
    have hkl : k < x.vals.length := by omega
    have hres : arrGet x s = x.vals[k] := by unfold arrGet; rw [dif_pos hin]; congr 1; omega
    obtain ⟨_, b, off, rfl, hB, t0, t1, t2, t3, t4, hx⟩ := rdVals_at hv hkl
    have hB' : b < w.heap.size := hB
    have HR := hid hres
    have HX := hid hx
    have HK := hid hk
    have HN := hid hnm
    have hkz : (k : Int) < x.vals.length := by omega
    have hd : inB 0 (k : Int) (x.vals.length - 1) = true := inB_true (by omega)
    clear hres hin hx hcs h hv hk hnm hle
    go_enter Tryd.func12, Tryd.ntmps12
    go_wp2_with fail
    refine (sIndexStr s _ (by exact Rd.later (ext_trans (ext_alloc _ _) (ext_alloc _ _)) h0)).mono ?_
    rintro e w1 ⟨rfl, rfl⟩
    rw [HN.out, HK.out]
    go_wp2_with fail
    refine (within_any _ _ _ _).mono ?_
    rintro e w1 ⟨rfl, rfl⟩
    go_wp2
    refine bodyPost_ret (v := .agg #[.int .i64 x.vals[k].kind, .bool x.vals[k].num.neg, .string x.vals[k].num.dig, .int .i64 x.vals[k].num.exp, .string x.vals[k].text]) (by simp [results, Tryd.results12, go_sem]) rfl ⟨_, rfl, ?_, ?_⟩
    · rw [HR.out]
      exact rdVal_mk (rdVal HX.out).2.1 (rdVal HX.out).2.2.1 (rdVal HX.out).2.2.2.1 (rdVal HX.out).2.2.2.2
    · repeat' (first | (with_reducible exact Below.refl _ _) | (with_reducible refine ext_trans ?_ (ext_alloc _ _)) | (with_reducible refine Below.setCell ?_ ?_ _) | (simp; done) | (simp; omega) | omega)
  · have hres : arrGet x s = val0 := by unfold arrGet; rw [dif_neg hin]
    have HR := hid hres
    have HN := hid hnm
    have hd : inB 0 (arrAt x s) (x.vals.length - 1) = false := inB_false (by omega)
    clear hres hin hcs h hv hnm hle
    go_enter Tryd.func12, Tryd.ntmps12
    go_wp2_with fail
    refine (sIndexStr s _ (by exact Rd.later (ext_trans (ext_alloc _ _) (ext_alloc _ _)) h0)).mono ?_
    rintro e w1 ⟨rfl, rfl⟩
    rw [HN.out]
    go_wp2_with fail
    refine (within_any _ _ _ _).mono ?_
    rintro e w1 ⟨rfl, rfl⟩
    go_wp2
    refine bodyPost_ret (v := .agg #[.int .i64 0, .bool false, .string ⟨#[]⟩, .int .i64 0, .string ⟨#[]⟩]) (by simp [results, Tryd.results12, go_sem]) rfl ⟨_, rfl, ?_, ?_⟩
    · rw [HR.out]; exact rd_val0
    · repeat' (first | (with_reducible exact Below.refl _ _) | (with_reducible refine ext_trans ?_ (ext_alloc _ _)) | (with_reducible refine Below.setCell ?_ ?_ _) | (simp; done) | (simp; omega) | omega)
end Go.Proofs.YtommldonooicjaaDoor
