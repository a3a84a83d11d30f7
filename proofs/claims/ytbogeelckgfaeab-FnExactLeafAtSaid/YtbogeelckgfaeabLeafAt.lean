/-
  What is proved here: LeafAt on both sides: the first leaf with a path. No condition.
-/
import Derived.Test.YtbogeelckgfaeabDv
namespace Go.Proofs.Ytbogeelckgfaeab
open Go.RowKit
set_option linter.unusedVariables false
set_option linter.unusedSimpArgs false

/-- where the first element with this property stands; -1 of none -/
def firstAt {α : Type} (p : α → Bool) (xs : List α) : Int := match xs.findIdx? p with | some i => (i : Int) | none => -1
theorem firstAt_hit {α : Type} {p : α → Bool} {xs : List α} {k : Nat} (hk : k < xs.length) (h : ∀ i (hi : i < k), p (xs[i]'(by omega)) = false) (he : p xs[k] = true) : firstAt p xs = (k : Int) := by
  have : xs.findIdx? p = some k := by
    rw [List.findIdx?_eq_some_iff_getElem]
    exact ⟨hk, he, fun j hj => by simp [h j hj]⟩
  simp only [firstAt, this]
theorem firstAt_miss {α : Type} {p : α → Bool} {xs : List α} (h : ∀ i (hi : i < xs.length), p xs[i] = false) : firstAt p xs = -1 := by
  have : xs.findIdx? p = none := by
    rw [List.findIdx?_eq_none_iff]
    intro x hx
    obtain ⟨i, hi, rfl⟩ := List.mem_iff_getElem.1 hx
    exact h i hi
  simp only [firstAt, this]
def hasPath (s : ByteArray) (l : Leaf) : Bool := decide (l.path = s)

/-- the element of a slice of leaves at a place -/
theorem rdLeafs_at {S : Nat → Prop} {w : World} {a : Option Addr} {n cap : Nat} {xs : List Leaf} (h : Rd.rd S w [.slice a n cap] xs) {k : Nat} (hk : k < xs.length) :
    ∃ b off, a = some ⟨b, off, none⟩ ∧ S b ∧ w.cell? ⟨b, off + k * 3, none⟩ = some (.string xs[k].path) ∧ w.cell? ⟨b, off + k * 3 + 1, none⟩ = some (.int .i64 xs[k].kind) ∧ w.cell? ⟨b, off + k * 3 + 2, none⟩ = some (.string xs[k].text) := by
  obtain ⟨a', cap', hv, h1, h2, hc⟩ := h
  simp only [List.cons.injEq, Value.slice.injEq, and_true] at hv
  obtain ⟨rfl, rfl, rfl⟩ := hv
  obtain ⟨b, off, rfl, hB, hrow⟩ := hc (by omega)
  obtain ⟨cs, hcell, hx⟩ := hrow k hk
  obtain ⟨hcs, _⟩ := rdLeaf hx
  subst hcs
  exact ⟨b, off, rfl, hB, hcell 0 (by decide), hcell 1 (by decide), hcell 2 (by decide)⟩

set_option maxHeartbeats 1000000 in
theorem specLeafAt {v : Value} {xs : List Leaf} (s : ByteArray) (w : World) (h : Rd.rd (Old w) w [v] xs) :
    Calls Try.prog 5 #[v, .string s] w fun e w' => e = .returned (.int .i64 (firstAt (hasPath s) xs)) ∧ Below w.heap.size w w' := by
  obtain ⟨a, cap, hv⟩ := rdSlc h
  obtain rfl : v = .slice a xs.length cap := by simpa using hv
  have hlen : xs.length ≤ 9223372036854775807 := by obtain ⟨_, c, _, h1, h2, _⟩ := h; omega
  have H := hid h
  clear h hv
  go_enter Try.func5, Try.ntmps5
  go_wp2
  go_loop [5] (fun i => ∃ k : Nat, k ≤ xs.length ∧ i = .int .i64 k ∧ ∀ i (hi : i < k) (hi' : i < xs.length), hasPath s xs[i] = false) (fun i => xs.length - (intOf i).toNat)
  case atStart => exact ⟨0, Nat.zero_le _, rfl, fun i hi => absurd hi (by omega)⟩
  case round =>
    obtain ⟨k, hk, rfl, hr⟩ := hrel
    have HR := hid hr
    clear hr
    by_cases hlt : k < xs.length
    · obtain ⟨b, off, rfl, hB, t0, t1, t2⟩ := rdLeafs_at H.out hlt
      by_cases he : xs[k].path = s
      · have hb : (xs[k].path.toList == s.toList) = true := by rw [he]; simp
        have HE := hid he
        clear he
        go_wp2
        go_ret
        exact ⟨end_int (firstAt_hit hlt (fun i hi => HR.out i hi (by omega)) (decide_eq_true HE.out)).symm, Below.refl _ _⟩
      · have hb : (xs[k].path.toList == s.toList) = false := ba_ne he
        have HE := hid he
        clear he
        go_wp2
        go_round
        case rel => exact ⟨k + 1, by omega, by go_num, fun i hi hi' => by
          by_cases hik : i = k
          · subst hik; exact decide_eq_false HE.out
          · exact HR.out i (by omega) hi'⟩
        case measure => simp [intOf]; omega
    · have : k = xs.length := by omega
      subst this
      go_wp2
      go_ret
      exact ⟨end_int (firstAt_miss (fun i hi => HR.out i hi hi)).symm, Below.refl _ _⟩

set_option maxHeartbeats 1000000 in
theorem leafAt1 (p : Nat) (l : Leaf) (s : ByteArray) (w : World) (hp : p < w.heap.size) (hc : w.cell? ⟨p, 0, none⟩ = some (.string s)) :
    Calls Try.prog 12 #[.agg #[.string l.path, .int .i64 l.kind, .string l.text], .pointer (some ⟨p, 0, none⟩)] w fun e w' => e = .returned (.bool (hasPath s l)) ∧ Below w.heap.size w w' := by
  by_cases he : l.path = s
  · have hb : (l.path.toList == s.toList) = true := by rw [he]; simp
    have HE := hid (show hasPath s l = true from decide_eq_true he)
    clear he
    go_enter Try.func12, Try.ntmps12
    go_wp2
    go_ret
    exact ⟨end_bool HE.out.symm, ext_alloc _ _⟩
  · have hb : (l.path.toList == s.toList) = false := ba_ne he
    have HE := hid (show hasPath s l = false from decide_eq_false he)
    clear he
    go_enter Try.func12, Try.ntmps12
    go_wp2
    go_ret
    exact ⟨end_bool HE.out.symm, ext_alloc _ _⟩

set_option maxHeartbeats 1000000 in
theorem leafIndexFunc {v : Value} {xs : List Leaf} (s : ByteArray) (p : Nat) (w : World) (h : Rd.rd (Old w) w [v] xs) (hp : p < w.heap.size) (hc : w.cell? ⟨p, 0, none⟩ = some (.string s)) :
    Calls Try.prog 11 #[v, .func (.func 12) #[] #[.pointer (some ⟨p, 0, none⟩)]] w fun e w' => e = .returned (.int .i64 (firstAt (hasPath s) xs)) ∧ Below w.heap.size w w' := by
  obtain ⟨a, cap, hv⟩ := rdSlc h
  obtain rfl : v = .slice a xs.length cap := by simpa using hv
  have hlen : xs.length ≤ 9223372036854775807 := by obtain ⟨_, c, _, h1, h2, _⟩ := h; omega
  have H := hid h
  have HC := hid hc
  clear h hv hc
  go_enter Try.func11, Try.ntmps11
  go_wp2
  go_loopw [8] (fun i wr => ∃ k : Nat, k ≤ xs.length ∧ i = .int .i64 k ∧ (∀ i (hi : i < k) (hi' : i < xs.length), hasPath s xs[i] = false) ∧ Below w.heap.size w wr) (fun i _ => xs.length - (intOf i).toNat)
  case atStart => exact ⟨0, Nat.zero_le _, rfl, fun i hi => absurd hi (by omega), Below.refl _ _⟩
  case round =>
    obtain ⟨k, hk, rfl, hr, hb⟩ := hrel
    have HR := hid hr
    clear hr
    by_cases hlt : k < xs.length
    · obtain ⟨b, off, rfl, hB, q0, q1, q2⟩ := rdLeafs_at H.out hlt
      have t0 := (hb.cell (p := ⟨b, off + k * 3, none⟩) hB).trans q0
      have t1 := (hb.cell (p := ⟨b, off + k * 3 + 1, none⟩) hB).trans q1
      have t2 := (hb.cell (p := ⟨b, off + k * 3 + 2, none⟩) hB).trans q2
      have HC' := hid ((hb.cell (p := ⟨p, 0, none⟩) hp).trans HC.out)
      have hp' : p < wr.heap.size := Nat.lt_of_lt_of_le hp hb.size
      clear q0 q1 q2
      obtain ⟨hh, hhe⟩ : ∃ b, hasPath s xs[k] = b := ⟨_, rfl⟩
      have HH := hid hhe
      clear hhe
      go_wp2_with fail
      refine (leafAt1 p xs[k] s _ hp' HC'.out).mono ?_
      rintro e w1 ⟨rfl, hb1⟩
      rw [HH.out]
      have hB1 := ext_trans hb hb1
      cases hh
      · go_wp2
        go_roundw
        case rel => exact ⟨k + 1, by omega, by go_num, fun i hi hi' => by
          by_cases hik : i = k
          · subst hik; exact HH.out
          · exact HR.out i (by omega) hi', hB1⟩
        case measure => simp [intOf]; omega
      · go_wp2
        go_ret
        exact ⟨end_int (firstAt_hit hlt (fun i hi => HR.out i hi (by omega)) HH.out).symm, hB1⟩
    · have : k = xs.length := by omega
      subst this
      go_wp2
      go_ret
      exact ⟨end_int (firstAt_miss (fun i hi => HR.out i hi hi)).symm, hb⟩

set_option maxHeartbeats 1000000 in
theorem implLeafAt {v : Value} {xs : List Leaf} (s : ByteArray) (w : World) (h : Rd.rd (Old w) w [v] xs) :
    Calls Try.prog 7 #[v, .string s] w fun e w' => e = .returned (.int .i64 (firstAt (hasPath s) xs)) ∧ Below w.heap.size w w' := by
  have hmf : ∀ (fn : Fn) (first cap : Array Value) (w : World), (Instr.makeFunc fn first cap).run Try.prog w = .ok (.func fn first cap) w := fun _ _ _ _ => rfl
  go_enter Try.func7, Try.ntmps7
  go_wp2_with fail
  refine (leafIndexFunc s _ _ (by exact Rd.later (ext_alloc w _) h) (by simp) (by simp [go_sem])).mono ?_
  rintro e w1 ⟨rfl, hb⟩
  go_wp2
  go_ret
  exact ⟨rfl, ext_trans (ext_alloc _ _) hb⟩

set_option maxHeartbeats 4000000 in
theorem fnExactLeafAt_walk (W : World) {v0 : Value} {x0 : List Leaf} {v1 : Value} {x1 : ByteArray} (h0 : Rd.rd (Old W) W [v0] x0) (h1 : Rd.rd (Old W) W [v1] x1) :
    Calls Try.prog 3 #[v0, v1] W fun e w' => e = .returned (.bool true) ∧ Below W.heap.size W w' := by
  obtain ⟨pa0, pc0, e0⟩ := rdSlc h0
  obtain rfl : v0 = .slice pa0 x0.length pc0 := by simpa using e0
  clear e0
  obtain ⟨e1, b1⟩ := h1
  obtain rfl : v1 = .string x1 := by simpa using e1
  clear e1
  by_cases hs1 : x1.size ≤ 1048576
  rotate_left
  · go_enter Try.func3, Try.ntmps3
    go_wp2
    go_ret
    exact ⟨rfl, (by repeat' (first | (with_reducible exact Below.refl _ _) | (with_reducible refine ext_trans ?_ (ext_alloc _ _)) | (with_reducible refine Below.drew ?_) | (with_reducible refine Below.setCell ?_ ?_ _) | (simp; done) | (simp; omega) | omega))⟩
  by_cases hz0 : (Sz.sz x0 : Int) ≤ 1048576
  rotate_left
  · go_enter Try.func3, Try.ntmps3
    go_wp2_with fail
    refine (szLeafS_any _ _ (by exact Rd.later (by repeat' (first | (with_reducible exact Below.refl _ _) | (with_reducible refine ext_trans ?_ (ext_alloc _ _)) | (with_reducible refine Below.drew ?_) | (with_reducible refine Below.setCell ?_ ?_ _) | (simp; done) | (simp; omega) | omega)) h0) (by omega) (by omega)).mono ?_
    rintro e w0 ⟨rfl, hb0⟩
    rw [szOut_bad (by omega)]
    obtain ⟨hc0, hf0⟩ := bcell hb0
    go_wp2
    go_ret
    exact ⟨rfl, (by repeat' (first | (with_reducible exact Below.refl _ _) | (with_reducible refine ext_trans ?_ hb0) | (with_reducible refine ext_trans ?_ (ext_alloc _ _)) | (with_reducible refine Below.drew ?_) | (with_reducible refine Below.setCell ?_ ?_ _) | (simp; done) | (simp; omega) | omega))⟩
  go_enter Try.func3, Try.ntmps3
  go_wp2_with fail
  refine (szLeafS_any _ _ (by exact Rd.later (by repeat' (first | (with_reducible exact Below.refl _ _) | (with_reducible refine ext_trans ?_ (ext_alloc _ _)) | (with_reducible refine Below.drew ?_) | (with_reducible refine Below.setCell ?_ ?_ _) | (simp; done) | (simp; omega) | omega)) h0) (by omega) (by omega)).mono ?_
  rintro e w0 ⟨rfl, hb0⟩
  rw [szOut_val (by omega)]
  obtain ⟨hc0, hf0⟩ := bcell hb0
  have hzz0 : Sz.sz x0 ≤ 1048576 := by omega
  go_wp2_with fail
  refine (toLeafS_any _ (by exact Rd.later (by repeat' (first | (with_reducible exact Below.refl _ _) | (with_reducible refine ext_trans ?_ hb0) | (with_reducible refine ext_trans ?_ (ext_alloc _ _)) | (with_reducible refine Below.drew ?_) | (with_reducible refine Below.setCell ?_ ?_ _) | (simp; done) | (simp; omega) | omega)) h0) hzz0).mono ?_
  rintro e w1 ⟨q1, rfl, hr1, hb1⟩
  replace hr1 := Rd.old hr1
  obtain ⟨q1a, q1c, eq1⟩ := rdSlc hr1
  obtain rfl : q1 = .slice q1a x0.length q1c := by simpa using eq1
  clear eq1
  obtain ⟨hc1, hf1⟩ := bcell hb1
  go_wp2_with fail
  refine (specLeafAt x1 _ (by exact Rd.later (by repeat' (first | (with_reducible exact Below.refl _ _) | (with_reducible refine ext_trans ?_ hb1) | (with_reducible refine ext_trans ?_ hb0) | (with_reducible refine ext_trans ?_ (ext_alloc _ _)) | (with_reducible refine Below.drew ?_) | (with_reducible refine Below.setCell ?_ ?_ _) | (simp; done) | (simp; omega) | omega)) hr1)).mono ?_
  rintro e w2 ⟨rfl, hb2⟩
  obtain ⟨hc2, hf2⟩ := bcell hb2
  go_wp2_with fail
  refine (toLeafS_any _ (by exact Rd.later (by repeat' (first | (with_reducible exact Below.refl _ _) | (with_reducible refine ext_trans ?_ hb2) | (with_reducible refine ext_trans ?_ hb1) | (with_reducible refine ext_trans ?_ hb0) | (with_reducible refine ext_trans ?_ (ext_alloc _ _)) | (with_reducible refine Below.drew ?_) | (with_reducible refine Below.setCell ?_ ?_ _) | (simp; done) | (simp; omega) | omega)) h0) hzz0).mono ?_
  rintro e w3 ⟨q3, rfl, hr3, hb3⟩
  replace hr3 := Rd.old hr3
  obtain ⟨q3a, q3c, eq3⟩ := rdSlc hr3
  obtain rfl : q3 = .slice q3a x0.length q3c := by simpa using eq3
  clear eq3
  obtain ⟨hc3, hf3⟩ := bcell hb3
  go_wp2_with fail
  refine (implLeafAt x1 _ (by exact Rd.later (by repeat' (first | (with_reducible exact Below.refl _ _) | (with_reducible refine ext_trans ?_ hb3) | (with_reducible refine ext_trans ?_ hb2) | (with_reducible refine ext_trans ?_ hb1) | (with_reducible refine ext_trans ?_ hb0) | (with_reducible refine ext_trans ?_ (ext_alloc _ _)) | (with_reducible refine Below.drew ?_) | (with_reducible refine Below.setCell ?_ ?_ _) | (simp; done) | (simp; omega) | omega)) hr3)).mono ?_
  rintro e w4 ⟨rfl, hb4⟩
  obtain ⟨hc4, hf4⟩ := bcell hb4
  go_wp2_with fail
  refine (toLeafS_any _ (by exact Rd.later (by repeat' (first | (with_reducible exact Below.refl _ _) | (with_reducible refine ext_trans ?_ hb4) | (with_reducible refine ext_trans ?_ hb3) | (with_reducible refine ext_trans ?_ hb2) | (with_reducible refine ext_trans ?_ hb1) | (with_reducible refine ext_trans ?_ hb0) | (with_reducible refine ext_trans ?_ (ext_alloc _ _)) | (with_reducible refine Below.drew ?_) | (with_reducible refine Below.setCell ?_ ?_ _) | (simp; done) | (simp; omega) | omega)) h0) hzz0).mono ?_
  rintro e w5 ⟨q5, rfl, hr5, hb5⟩
  replace hr5 := Rd.old hr5
  obtain ⟨q5a, q5c, eq5⟩ := rdSlc hr5
  obtain rfl : q5 = .slice q5a x0.length q5c := by simpa using eq5
  clear eq5
  obtain ⟨hc5, hf5⟩ := bcell hb5
  go_wp2_with fail
  refine (eqLeafS_same _ (by exact Rd.later (by repeat' (first | (with_reducible exact Below.refl _ _) | (with_reducible refine ext_trans ?_ hb5) | (with_reducible refine ext_trans ?_ hb4) | (with_reducible refine ext_trans ?_ hb3) | (with_reducible refine ext_trans ?_ hb2) | (with_reducible refine ext_trans ?_ hb1) | (with_reducible refine ext_trans ?_ hb0) | (with_reducible refine ext_trans ?_ (ext_alloc _ _)) | (with_reducible refine Below.drew ?_) | (with_reducible refine Below.setCell ?_ ?_ _) | (simp; done) | (simp; omega) | omega)) hr3) (by exact Rd.later (by repeat' (first | (with_reducible exact Below.refl _ _) | (with_reducible refine ext_trans ?_ hb5) | (with_reducible refine ext_trans ?_ hb4) | (with_reducible refine ext_trans ?_ hb3) | (with_reducible refine ext_trans ?_ hb2) | (with_reducible refine ext_trans ?_ hb1) | (with_reducible refine ext_trans ?_ hb0) | (with_reducible refine ext_trans ?_ (ext_alloc _ _)) | (with_reducible refine Below.drew ?_) | (with_reducible refine Below.setCell ?_ ?_ _) | (simp; done) | (simp; omega) | omega)) hr5)).mono ?_
  rintro e w6 ⟨rfl, hb6⟩
  obtain ⟨hc6, hf6⟩ := bcell hb6
  go_wp2
  go_ret
  exact ⟨rfl, (by repeat' (first | (with_reducible exact Below.refl _ _) | (with_reducible refine ext_trans ?_ hb6) | (with_reducible refine ext_trans ?_ hb5) | (with_reducible refine ext_trans ?_ hb4) | (with_reducible refine ext_trans ?_ hb3) | (with_reducible refine ext_trans ?_ hb2) | (with_reducible refine ext_trans ?_ hb1) | (with_reducible refine ext_trans ?_ hb0) | (with_reducible refine ext_trans ?_ (ext_alloc _ _)) | (with_reducible refine Below.drew ?_) | (with_reducible refine Below.setCell ?_ ?_ _) | (simp; done) | (simp; omega) | omega))⟩
end Go.Proofs.Ytbogeelckgfaeab
