/-
  What is proved here: the reference's ArrDrop: what it returns. No condition but the size.
-/
import Derived.Test.YtenfpfjpcpmhiaaDropI
namespace Go.Proofs.Ytenfpfjpcpmhiaa
open Go.RowKit
set_option linter.unusedVariables false
set_option linter.unusedSimpArgs false

/-- the first k elements but one -/
def skipK {α : Type} (l : List α) (at_ : Int) (k : Nat) : List α := if 0 ≤ at_ ∧ at_.toNat < k then dropAt (l.take k) at_.toNat else l.take k
theorem skipK_zero {α : Type} (l : List α) (a : Int) : skipK l a 0 = [] := by unfold skipK; rw [if_neg (by omega)]; rfl
theorem skipK_at {α : Type} (l : List α) {a : Int} {k : Nat} (h : a = k) : skipK l a (k + 1) = skipK l a k := by
  subst h
  unfold skipK
  rw [if_pos ⟨by omega, by simp⟩, if_neg (by simp)]
  unfold dropAt
  simp [List.take_take]
theorem skipK_next {α : Type} (l : List α) {a : Int} {k : Nat} (h : a ≠ k) (hk : k < l.length) : skipK l a (k + 1) = skipK l a k ++ [l[k]] := by
  unfold skipK
  by_cases h0 : 0 ≤ a ∧ a.toNat < k
  · rw [if_pos h0, if_pos ⟨h0.1, by omega⟩]
    unfold dropAt
    rw [List.take_take, List.take_take, Nat.min_eq_left (by omega), Nat.min_eq_left (by omega), List.append_assoc]
    congr 1
    rw [List.take_succ_eq_append_getElem hk, List.drop_append_of_le_length (by rw [List.length_take]; omega)]
  · rw [if_neg h0, if_neg (by omega), List.take_succ_eq_append_getElem hk]
theorem skipK_all {α : Type} (l : List α) {a : Int} (h : a < l.length) : skipK l a l.length = if a < 0 then l else dropAt l a.toNat := by
  unfold skipK
  rw [List.take_length]
  by_cases h0 : a < 0
  · rw [if_pos h0, if_neg (by omega)]
  · rw [if_neg h0, if_pos ⟨by omega, by omega⟩]
theorem skipK_len {α β : Type} (l : List α) (m : List β) (h : l.length = m.length) (a : Int) (k : Nat) : (skipK l a k).length = (skipK m a k).length := by
  unfold skipK dropAt
  split <;> simp [h]
theorem skipK_le {α : Type} (l : List α) (a : Int) (k : Nat) : (skipK l a k).length ≤ k := by
  unfold skipK dropAt
  split
  · rw [List.length_append, List.length_take, List.length_drop, List.length_take]; omega
  · rw [List.length_take]; omega
theorem strCells_append (xs ys : List ByteArray) : strCellsL (xs ++ ys) = strCellsL xs ++ strCellsL ys := by simp [strCellsL]
/-- one element of a slice of strings -/
theorem rdStrs_at {S : Nat → Prop} {w : World} {a : Option Addr} {n cap : Nat} {xs : List ByteArray} (h : Rd.rd S w [.slice a n cap] xs) {k : Nat} (hk : k < xs.length) :
    ∃ b off, a = some ⟨b, off, none⟩ ∧ S b ∧ w.cell? ⟨b, off + k, none⟩ = some (.string xs[k]) := by
  obtain ⟨b, off, rfl, hB, hc⟩ := strs_cells h (by omega)
  refine ⟨b, off, rfl, hB, ?_⟩
  have := hc k (.string xs[k]) (by simp [strCellsL, List.getElem?_eq_getElem hk])
  rwa [Addr.add_lit] at this

set_option maxHeartbeats 8000000 in
set_option maxRecDepth 100000 in
theorem specDrop {cs : Array Value} {x : Arr} (s : ByteArray) (w : World) (h : Rd.rd (Old w) w cs.toList x) (hn : x.keys.length ≤ 1048576) :
    Calls Try.prog 5 #[.agg cs, .string s] w fun e w' => ∃ cs' : Array Value, e = .returned (.agg cs') ∧ Rd.rd (New w.heap.size w') w' cs'.toList (arrDrop x s) ∧ Below w.heap.size w w' := by
  have H0 := hid h
  obtain ⟨a0, c0, a1, c1, hcs, f0, f1⟩ := rdArr h
  obtain rfl := arr_of_list hcs
  obtain ⟨ii, hi, hz0, hz1, hz2⟩ := info_parts infoS
  obtain ⟨jj, ki, kz0, kz1, kz2⟩ := info_parts infoV
  have HVK := hid (fillK_ok (vals_ok f1) x.keys.length)
  have HSK := hid (strs_ok f0)
  have hle := arrAt_le x s
  clear hcs h f0 f1
  go_enter Try.func5, Try.ntmps5
  go_wp2_with fail
  refine (specCopy _ (by exact Rd.later (ext_trans (ext_alloc _ _) (ext_alloc _ _)) H0.out) hn).mono ?_
  rintro e w1 ⟨cs1, rfl, hr1, hb1⟩
  simp at hr1 hb1
  obtain ⟨ua, uc, va, vc, hcs1, g0, g1⟩ := rdArr hr1
  obtain rfl := arr_of_list hcs1
  have hB1 : Below w.heap.size w w1 := ext_trans (ext_trans (ext_alloc _ _) (ext_alloc _ _)) (by simpa using hb1)
  have hbc := (⟨fun b o h => hb1.cell (p := ⟨b, o, none⟩) h, fun b o h => hb1.frozen (p := ⟨b, o, none⟩) h⟩ : (∀ b o, b < w.heap.size + 1 + 1 → w1.cell? ⟨b, o, none⟩ = _) ∧ (∀ b o, b < w.heap.size + 1 + 1 → w1.frozen? ⟨b, o, none⟩ = _))
  have s10 : w1.cell? ⟨w.heap.size, 0, none⟩ = some (.slice a0 x.keys.length c0) := (hbc.1 w.heap.size 0 (by omega)).trans (by simp)
  have s11 : w1.cell? ⟨w.heap.size, 1, none⟩ = some (.slice a1 x.vals.length c1) := (hbc.1 w.heap.size 1 (by omega)).trans (by simp)
  have s20 : w1.cell? ⟨w.heap.size + 1, 0, none⟩ = some (.slice none 0 0) := (hbc.1 (w.heap.size + 1) 0 (by omega)).trans (by simp)
  have s21 : w1.cell? ⟨w.heap.size + 1, 1, none⟩ = some (.slice none 0 0) := (hbc.1 (w.heap.size + 1) 1 (by omega)).trans (by simp)
  have z20 : w1.frozen? ⟨w.heap.size + 1, 0, none⟩ = false := (hbc.2 (w.heap.size + 1) 0 (by omega)).trans (by simp)
  have z21 : w1.frozen? ⟨w.heap.size + 1, 1, none⟩ = false := (hbc.2 (w.heap.size + 1) 1 (by omega)).trans (by simp)
  have hl1 : w.heap.size + 1 < w1.heap.size := by have := hb1.size; simp at this; omega
  have hl1' : w.heap.size < w1.heap.size := by omega
  have ekl : (arrFill x).keys.length = x.keys.length := rfl
  have evl : (arrFill x).vals.length = x.keys.length := fillK_len _ _
  rw [evl] at g1
  have G0 := hid (show Rd.rd (New (w.heap.size + 1 + 1) w1) w1 [.slice ua x.keys.length uc] x.keys from g0)
  have G1 := hid (show Rd.rd (New (w.heap.size + 1 + 1) w1) w1 [.slice va x.keys.length vc] (fillK x.vals x.keys.length) from g1)
  rw [evl, ekl]
  clear hbc hb1 hr1 hcs1 g0 g1 evl ekl
  go_wp2_with fail
  refine (specArrAt s _ (by exact Rd.later (ext_trans hB1 (ext_alloc _ _)) H0.out)).mono ?_
  rintro e w2 ⟨rfl, hb2⟩
  have hbc := bcell hb2
  simp at hbc
  have hlw : w1.heap.size + 1 ≤ w2.heap.size := by have := hb2.size; simp at this; omega
  have hB2 : Below w.heap.size w w2 := ext_trans (ext_trans hB1 (ext_alloc _ _)) hb2
  have hB12 : Below w1.heap.size w1 w2 := ext_trans (ext_alloc _ _) hb2
  have t10 : w2.cell? ⟨w.heap.size, 0, none⟩ = some (.slice a0 x.keys.length c0) := (hB12.cell (p := ⟨w.heap.size, 0, none⟩) hl1').trans s10
  have t20 : w2.cell? ⟨w.heap.size + 1, 0, none⟩ = some (.slice none 0 0) := (hB12.cell (p := ⟨w.heap.size + 1, 0, none⟩) hl1).trans s20
  have t21 : w2.cell? ⟨w.heap.size + 1, 1, none⟩ = some (.slice none 0 0) := (hB12.cell (p := ⟨w.heap.size + 1, 1, none⟩) hl1).trans s21
  have y20 : w2.frozen? ⟨w.heap.size + 1, 0, none⟩ = false := (hB12.frozen (p := ⟨w.heap.size + 1, 0, none⟩) hl1).trans z20
  have y21 : w2.frozen? ⟨w.heap.size + 1, 1, none⟩ = false := (hB12.frozen (p := ⟨w.heap.size + 1, 1, none⟩) hl1).trans z21
  have t30 : w2.cell? ⟨w1.heap.size, 0, none⟩ = some (.slice ua x.keys.length uc) := (hbc.1 w1.heap.size 0 (by omega)).trans (by simp)
  have t31 : w2.cell? ⟨w1.heap.size, 1, none⟩ = some (.slice va x.keys.length vc) := (hbc.1 w1.heap.size 1 (by omega)).trans (by simp)
  have G0' := hid (Rd.later' hB12 G0.out)
  have G1' := hid (Rd.later' hB12 G1.out)
  obtain ⟨a, ha⟩ : ∃ a, arrAt x s = a := ⟨_, rfl⟩
  have HA := hid ha
  rw [ha] at hle ⊢
  obtain ⟨nk, hnk⟩ : ∃ nk, x.keys.length = nk := ⟨_, rfl⟩
  have HNK := hid hnk
  rw [hnk] at t10 t30 t31 G0' G1' hn hle HVK ⊢
  clear hbc hb2 hB1 hB12 s10 s11 s20 s21 z20 z21 G0 G1 H0 ha hnk
  go_wp2
  go_loopw [8] (fun iv wr => ∃ (k : Nat) (u v : Value), k ≤ nk ∧ iv = .int .i64 (k : Int) ∧ wr.cell? ⟨w2.heap.size, 0, none⟩ = some u ∧ wr.cell? ⟨w2.heap.size, 1, none⟩ = some v ∧ wr.frozen? ⟨w2.heap.size, 0, none⟩ = false ∧ wr.frozen? ⟨w2.heap.size, 1, none⟩ = false ∧
      Hid (wr.ownsRow (w2.heap.size + 1) 9 1 u (skipK x.keys a k).length (strCellsL (skipK x.keys a k))) ∧ Hid (wr.ownsRow (w2.heap.size + 1) 42 5 v (skipK (fillK x.vals nk) a k).length (valsCells (skipK (fillK x.vals nk) a k))) ∧ (v.ownBlock = none ∨ v.ownBlock ≠ u.ownBlock) ∧ Below w2.heap.size w2 wr ∧ w2.heap.size < wr.heap.size) (fun iv _ => nk - (intOf iv).toNat)
  case atStart => exact ⟨0, .slice none 0 0, .slice none 0 0, Nat.zero_le _, rfl, by simp, by simp, by simp, by simp, hid (by rw [skipK_zero]; exact ⟨rfl, Or.inl ⟨rfl, rfl⟩⟩), hid (by rw [skipK_zero]; exact ⟨rfl, Or.inl ⟨rfl, rfl⟩⟩), Or.inl rfl, by repeat' (first | (with_reducible exact Below.refl _ _) | (with_reducible refine Below.setCell ?_ ?_ _) | (with_reducible refine Below.alloc ?_ ?_ _) | (simp; done) | (simp; omega) | omega), by simp⟩
  case round =>
    obtain ⟨k, u, v, hk, rfl, q0, q1, zq0, zq1, HU, HV, hne, hb, hlr⟩ := hrel
    have hbc := bcell hb
    have p30 := (hbc.1 w1.heap.size 0 (by omega)).trans t30
    have p31 := (hbc.1 w1.heap.size 1 (by omega)).trans t31
    by_cases hlt : k < nk
    · have hkl : (k : Int) < (nk : Int) := by omega
      by_cases hka : a = k
      · have hb1 : ((k : Int) != a) = false := by rw [hka]; simp
        have hb2 : ((k : Int) == a) = true := by rw [hka]; simp
        have HK1 := hid (skipK_at x.keys hka)
        have HK2 := hid (skipK_at (fillK x.vals nk) hka)
        have hka' := hid hka
        clear hka hi hz0 hz1 hz2 ki kz0 kz1 kz2 hbc
        go_wp2
        go_roundw
        case rel => exact ⟨k + 1, u, v, by omega, by go_num, q0, q1, zq0, zq1, hid (by rw [HK1.out]; exact HU.out), hid (by rw [HK2.out]; exact HV.out), hne, hb, hlr⟩
        case measure => simp [intOf]; omega
      · have hb1 : ((k : Int) != a) = true := by simp; omega
        have hb2 : ((k : Int) == a) = false := by simp; omega
        have hkk : k < x.keys.length := by rw [HNK.out]; exact hlt
        have hkv : k < (fillK x.vals nk).length := by rw [fillK_len]; exact hlt
        have HK1 := hid (skipK_next x.keys hka hkk)
        have HK2 := hid (skipK_next (fillK x.vals nk) hka hkv)
        have hle1 := skipK_le x.keys a k
        have hle2 := skipK_le (fillK x.vals nk) a k
        obtain ⟨b, off, rfl, hB, m0⟩ := rdStrs_at G0'.out hkk
        have hBl : b < w2.heap.size := hB.2
        obtain ⟨b', off', rfl, hB', n0, n1, n2, n3, n4, _⟩ := (rdVals_at G1'.out hkv).2
        have hBl' : b' < w2.heap.size := hB'.2
        obtain ⟨kk, hkk'⟩ : ∃ kk, x.keys[k] = kk := ⟨_, rfl⟩
        rw [hkk'] at HK1 m0
        obtain ⟨vv, hvv⟩ : ∃ vv, (fillK x.vals nk)[k] = vv := ⟨_, rfl⟩
        rw [hvv] at HK2 n0 n1 n2 n3 n4
        have m0' := (hbc.1 b (off + k) hBl).trans m0
        have m00 := hid m0
        have n00 := hid n0
        have n10 := hid n1
        have n20 := hid n2
        have n30 := hid n3
        have n40 := hid n4
        have hbr : b < wr.heap.size := by omega
        have e0 := hid ((hbc.1 b' (off' + k * 5) hBl').trans n0)
        have e1 := hid ((hbc.1 b' (off' + k * 5 + 1) hBl').trans n1)
        have e2 := hid ((hbc.1 b' (off' + k * 5 + 2) hBl').trans n2)
        have e3 := hid ((hbc.1 b' (off' + k * 5 + 3) hBl').trans n3)
        have e4 := hid ((hbc.1 b' (off' + k * 5 + 4) hBl').trans n4)
        obtain ⟨lk, hlk⟩ : ∃ lk, (skipK x.keys a k).length = lk := ⟨_, rfl⟩
        obtain ⟨lv, hlv⟩ : ∃ lv, (skipK (fillK x.vals nk) a k).length = lv := ⟨_, rfl⟩
        have HLK := hid hlk
        have HLV := hid hlv
        rw [hlk] at HU hle1
        rw [hlv] at HV hle2
        clear n0 n1 n2 n3 n4 m0 hbc hB hB' hka hkk' hvv hlk hlv
        go_wp2_with fail
        refine wp_region_held_drew (S := fun w' => Below w2.heap.size w2 w') (by kernel_rfl) ?_ (fun hHeld => ?_)
        · exact Below.drew hb
        refine wpAnyH_take (i := 0) (v := ?_) rfl (by kernel_rfl) (by kernel_rfl) (by kernel_rfl) (fun _ _ _ h => h) (Or.inl ⟨by rfl, ?_⟩) (by assumption) ?_
        rotate_left
        · (intro w' hSw; (try dsimp only at hSw); go_simp; try (with_reducible rfl))
        change wpAnyH _ _ _ _ _ _ _ (Act.put _ (some 25) _) _
        try simp only [Act.put, List.setIfInBounds_toArray, List.set_cons_zero, List.set_cons_succ]
        refine wpAnyH_take (i := 2) (v := ?_) rfl (by kernel_rfl) (by kernel_rfl) (by kernel_rfl) (fun _ _ _ h => h) (Or.inl ⟨by rfl, ?_⟩) (by assumption) ?_
        rotate_left
        · (intro w' hSw; (try dsimp only at hSw); go_simp; try (with_reducible rfl))
        change wpAnyH _ _ _ _ _ _ _ (Act.put _ (some 27) _) _
        try simp only [Act.put, List.setIfInBounds_toArray, List.set_cons_zero, List.set_cons_succ]
        refine wpAnyH_take (i := 3) (v := ?_) rfl (by kernel_rfl) (by kernel_rfl) (by kernel_rfl) (fun _ _ _ h => h) (Or.inl ⟨by rfl, ?_⟩) (by assumption) ?_
        rotate_left
        · (intro w' hSw; (try dsimp only at hSw); (have g0 := (hSw.cell (p := ⟨w1.heap.size, 0, none⟩) (by show w1.heap.size < _; omega)).trans t30; go_simp; try (with_reducible rfl)))
        change wpAnyH _ _ _ _ _ _ _ (Act.put _ (some 28) _) _
        try simp only [Act.put, List.setIfInBounds_toArray, List.set_cons_zero, List.set_cons_succ]
        refine wpAnyH_take (i := 4) (v := ?_) rfl (by kernel_rfl) (by kernel_rfl) (by kernel_rfl) (fun _ _ _ h => h) (Or.inl ⟨by rfl, ?_⟩) (by assumption) ?_
        rotate_left
        · (intro w' hSw; (try dsimp only at hSw); go_simp; try (with_reducible rfl))
        change wpAnyH _ _ _ _ _ _ _ (Act.put _ (some 29) _) _
        try simp only [Act.put, List.setIfInBounds_toArray, List.set_cons_zero, List.set_cons_succ]
        refine wpAnyH_take (i := 5) (v := ?_) rfl (by kernel_rfl) (by kernel_rfl) (by kernel_rfl) (fun _ _ _ h => h) (Or.inl ⟨by rfl, ?_⟩) (by assumption) ?_
        rotate_left
        · (intro w' hSw; (try dsimp only at hSw); go_simp; try (with_reducible rfl))
        change wpAnyH _ _ _ _ _ _ _ (Act.put _ (some 30) _) _
        try simp only [Act.put, List.setIfInBounds_toArray, List.set_cons_zero, List.set_cons_succ]
        refine wpAnyH_take (i := 6) (v := ?_) rfl (by kernel_rfl) (by kernel_rfl) (by kernel_rfl) (fun _ _ _ h => h) (Or.inl ⟨by rfl, ?_⟩) (by assumption) ?_
        rotate_left
        · (intro w' hSw; (try dsimp only at hSw); (have g0 := (hSw.cell (p := ⟨b, off + k, none⟩) hBl).trans m00.out; go_simp; try (with_reducible rfl)))
        change wpAnyH _ _ _ _ _ _ _ (Act.put _ (some 31) _) _
        try simp only [Act.put, List.setIfInBounds_toArray, List.set_cons_zero, List.set_cons_succ]
        refine wpAnyH_ready (rs := [1, 7]) (by kernel_rfl) (by simp) ?_
        refine AllReadyH.cons (i := 1) rfl (fun K hK => ?_) ?_
        · simp only [List.getElem_toArray, List.getElem_cons_succ, List.getElem_cons_zero]
          rw [if_pos (by rfl)]
          go_simp
          refine hK.out _ _ ?_ (fun hHeld => ?_)
          · first | trivial | ((try dsimp only); exact hHeld)
          clear hK K
          try simp only [Act.put, List.setIfInBounds_toArray, List.set_cons_zero, List.set_cons_succ]
          refine wpAnyH_ready (rs := [7]) (by kernel_rfl) (by simp) ?_
          refine AllReadyH.cons (i := 7) rfl (fun K hK => ?_) AllReadyH.nil
          simp only [List.getElem_toArray, List.getElem_cons_succ, List.getElem_cons_zero]
          rw [if_pos (by rfl)]
          go_simp
          refine hK.out _ _ ?_ (fun hHeld => ?_)
          · first | trivial | ((try dsimp only); exact ext_trans hHeld (ext_alloc _ _))
          clear hK K
          try simp only [Act.put, List.setIfInBounds_toArray, List.set_cons_zero, List.set_cons_succ]
          refine wpAnyH_ready (rs := [8]) (by kernel_rfl) (by simp) ?_
          refine AllReadyH.cons (i := 8) rfl (fun K hK => ?_) AllReadyH.nil
          simp only [List.getElem_toArray, List.getElem_cons_succ, List.getElem_cons_zero]
          rw [if_pos (by rfl)]
          refine wp_append_lies _ (.tmp 26) (.tmp 32) 22 rfl (w2.heap.size + 1) 9 ii (.string ⟨#[]⟩) 1 16 Try.underlying22 hi hz0 hz1 hz2 rfl (by decide) u lk (strCellsL (skipK x.keys a k)) (by first | rfl | simp [Act.eval, Act.put]) (HU.out.drew.alloc _) ⟨wr.heap.size, 0, none⟩ 1 1 [.string kk] (by first | rfl | simp [Act.eval, Act.put]) rfl (World.news_of_block (cs := #[.string kk]) (t := 9) (fr := (0, 0)) (heap_alloc_new wr.drew _)) (by intro u hu; simp at hu; subst hu; rfl) (by decide) (by unfold maxLen; omega) (by omega) (by simp; omega) _ rfl ?_
          intro g2 cap2 w3 hown3 hgrow3 hat3 hlt3
          have hg2 : w2.heap.size + 1 ≤ g2 := (hown3.lt g2 rfl).1
          have hB3 : Below (w2.heap.size + 1) wr w3 := Below.grown (by repeat' (first | (with_reducible exact Below.refl _ _) | (with_reducible refine Below.drew ?_) | (with_reducible refine Below.setCell ?_ ?_ _) | (with_reducible refine Below.alloc ?_ ?_ _) | (simp; done) | (simp; omega) | omega)) hgrow3 (by first | (simp; done) | (simp; omega)) (fun q hq => (HU.out.lt q hq).1)
          have hS3 : Below w2.heap.size w2 w3 := ⟨hB3.os.trans hb.os, hB3.tape.trans hb.tape, hB3.output.trans hb.output, Nat.le_trans hb.size hB3.size, fun c hc => (hB3.block c (by omega)).trans (hb.block c hc)⟩
          have r0 : w3.cell? ⟨w2.heap.size, 0, none⟩ = some u := (hB3.cell (p := ⟨w2.heap.size, 0, none⟩) (by show w2.heap.size < _; omega)).trans q0
          have r1 : w3.cell? ⟨w2.heap.size, 1, none⟩ = some v := (hB3.cell (p := ⟨w2.heap.size, 1, none⟩) (by show w2.heap.size < _; omega)).trans q1
          have zr0 : w3.frozen? ⟨w2.heap.size, 0, none⟩ = false := (hB3.frozen (p := ⟨w2.heap.size, 0, none⟩) (by show w2.heap.size < _; omega)).trans zq0
          have zr1 : w3.frozen? ⟨w2.heap.size, 1, none⟩ = false := (hB3.frozen (p := ⟨w2.heap.size, 1, none⟩) (by show w2.heap.size < _; omega)).trans zq1
          have hl3 : w2.heap.size < w3.heap.size := by have := hB3.size; omega
          have hV3 := hid ((HV.out.drew.alloc (.cells #[.string kk] 9)).kept hgrow3 hne)
          have hne3 : v.ownBlock = none ∨ v.ownBlock ≠ some g2 := by
            rcases hat3 with h | h
            · rw [← h]; exact hne
            · cases hv : v.ownBlock with
              | none => exact .inl rfl
              | some q => right; have := (HV.out.lt q hv).2; simp at h; simp only [ne_eq, Option.some.injEq]; omega
          have HO3 := hid hown3
          clear hown3 hgrow3 hat3
          refine hK.out _ _ ?_ (fun hHeld => ?_)
          · first | trivial | ((try dsimp only); exact hS3)
          clear hK K
          try simp only [Act.put, List.setIfInBounds_toArray, List.set_cons_zero, List.set_cons_succ]
          refine wpAnyH_take (i := 9) (v := ?_) rfl (by kernel_rfl) (by kernel_rfl) (by kernel_rfl) (fun _ _ _ h => h) (Or.inl ⟨by rfl, ?_⟩) (by assumption) ?_
          rotate_left
          · (intro w' hSw; (try dsimp only at hSw); go_simp; try (with_reducible rfl))
          change wpAnyH _ _ _ _ _ _ _ (Act.put _ (some 34) _) _
          try simp only [Act.put, List.setIfInBounds_toArray, List.set_cons_zero, List.set_cons_succ]
          refine wpAnyH_ready (rs := [10]) (by kernel_rfl) (by simp) ?_
          refine AllReadyH.cons (i := 10) rfl (fun K hK => ?_) AllReadyH.nil
          simp only [List.getElem_toArray, List.getElem_cons_succ, List.getElem_cons_zero]
          rw [if_pos (by rfl)]
          go_simp
          refine hK.out _ _ ?_ (fun hHeld => ?_)
          · first | trivial | ((try dsimp only); exact Below.setCell hHeld (Nat.le_refl _) _)
          clear hK K
          try simp only [Act.put, List.setIfInBounds_toArray, List.set_cons_zero, List.set_cons_succ]
          refine wpAnyH_done (by kernel_rfl) ?_ _
          have hH4 := hHeld
          go_wp2_with fail
          refine wp_region_held_drew (S := fun w' => Below w2.heap.size w2 w') (by kernel_rfl) ?_ (fun hHeld => ?_)
          · exact Below.drew hH4
          refine wpAnyH_take (i := 0) (v := ?_) rfl (by kernel_rfl) (by kernel_rfl) (by kernel_rfl) (fun _ _ _ h => h) (Or.inl ⟨by rfl, ?_⟩) (by assumption) ?_
          rotate_left
          · (intro w' hSw; (try dsimp only at hSw); go_simp; try (with_reducible rfl))
          change wpAnyH _ _ _ _ _ _ _ (Act.put _ (some 35) _) _
          try simp only [Act.put, List.setIfInBounds_toArray, List.set_cons_zero, List.set_cons_succ]
          refine wpAnyH_take (i := 2) (v := ?_) rfl (by kernel_rfl) (by kernel_rfl) (by kernel_rfl) (fun _ _ _ h => h) (Or.inl ⟨by rfl, ?_⟩) (by assumption) ?_
          rotate_left
          · (intro w' hSw; (try dsimp only at hSw); go_simp; try (with_reducible rfl))
          change wpAnyH _ _ _ _ _ _ _ (Act.put _ (some 37) _) _
          try simp only [Act.put, List.setIfInBounds_toArray, List.set_cons_zero, List.set_cons_succ]
          refine wpAnyH_take (i := 3) (v := ?_) rfl (by kernel_rfl) (by kernel_rfl) (by kernel_rfl) (fun _ _ _ h => h) (Or.inl ⟨by rfl, ?_⟩) (by assumption) ?_
          rotate_left
          · (intro w' hSw; (try dsimp only at hSw); (have g0 := (hSw.cell (p := ⟨w1.heap.size, 1, none⟩) (by show w1.heap.size < _; omega)).trans t31; go_simp; try (with_reducible rfl)))
          change wpAnyH _ _ _ _ _ _ _ (Act.put _ (some 38) _) _
          try simp only [Act.put, List.setIfInBounds_toArray, List.set_cons_zero, List.set_cons_succ]
          refine wpAnyH_take (i := 4) (v := ?_) rfl (by kernel_rfl) (by kernel_rfl) (by kernel_rfl) (fun _ _ _ h => h) (Or.inl ⟨by rfl, ?_⟩) (by assumption) ?_
          rotate_left
          · (intro w' hSw; (try dsimp only at hSw); go_simp; try (with_reducible rfl))
          change wpAnyH _ _ _ _ _ _ _ (Act.put _ (some 39) _) _
          try simp only [Act.put, List.setIfInBounds_toArray, List.set_cons_zero, List.set_cons_succ]
          refine wpAnyH_take (i := 5) (v := ?_) rfl (by kernel_rfl) (by kernel_rfl) (by kernel_rfl) (fun _ _ _ h => h) (Or.inl ⟨by rfl, ?_⟩) (by assumption) ?_
          rotate_left
          · (intro w' hSw; (try dsimp only at hSw); go_simp; try (with_reducible rfl))
          change wpAnyH _ _ _ _ _ _ _ (Act.put _ (some 40) _) _
          try simp only [Act.put, List.setIfInBounds_toArray, List.set_cons_zero, List.set_cons_succ]
          refine wpAnyH_take (i := 6) (v := ?_) rfl (by kernel_rfl) (by kernel_rfl) (by kernel_rfl) (fun _ _ _ h => h) (Or.inl ⟨by rfl, ?_⟩) (by assumption) ?_
          rotate_left
          · (intro w' hSw; (try dsimp only at hSw); (have g0 := (hSw.cell (p := ⟨b', off' + k * 5, none⟩) hBl').trans n00.out; have g1 := (hSw.cell (p := ⟨b', off' + k * 5 + 1, none⟩) hBl').trans n10.out; have g2 := (hSw.cell (p := ⟨b', off' + k * 5 + 2, none⟩) hBl').trans n20.out; have g3 := (hSw.cell (p := ⟨b', off' + k * 5 + 3, none⟩) hBl').trans n30.out; have g4 := (hSw.cell (p := ⟨b', off' + k * 5 + 4, none⟩) hBl').trans n40.out; go_simp; try (with_reducible rfl)))
          change wpAnyH _ _ _ _ _ _ _ (Act.put _ (some 41) _) _
          try simp only [Act.put, List.setIfInBounds_toArray, List.set_cons_zero, List.set_cons_succ]
          refine wpAnyH_ready (rs := [1, 7]) (by kernel_rfl) (by simp) ?_
          refine AllReadyH.cons (i := 1) rfl (fun K hK => ?_) ?_
          · simp only [List.getElem_toArray, List.getElem_cons_succ, List.getElem_cons_zero]
            rw [if_pos (by rfl)]
            go_simp
            refine hK.out _ _ ?_ (fun hHeld => ?_)
            · first | trivial | ((try dsimp only); exact hHeld)
            clear hK K
            try simp only [Act.put, List.setIfInBounds_toArray, List.set_cons_zero, List.set_cons_succ]
            refine wpAnyH_ready (rs := [7]) (by kernel_rfl) (by simp) ?_
            refine AllReadyH.cons (i := 7) rfl (fun K hK => ?_) AllReadyH.nil
            simp only [List.getElem_toArray, List.getElem_cons_succ, List.getElem_cons_zero]
            rw [if_pos (by rfl)]
            go_simp
            refine hK.out _ _ ?_ (fun hHeld => ?_)
            · first | trivial | ((try dsimp only); exact ext_trans hHeld (ext_alloc _ _))
            clear hK K
            try simp only [Act.put, List.setIfInBounds_toArray, List.set_cons_zero, List.set_cons_succ]
            refine wpAnyH_ready (rs := [8]) (by kernel_rfl) (by simp) ?_
            refine AllReadyH.cons (i := 8) rfl (fun K hK => ?_) AllReadyH.nil
            simp only [List.getElem_toArray, List.getElem_cons_succ, List.getElem_cons_zero]
            rw [if_pos (by rfl)]
            refine wp_append_lies _ (.tmp 36) (.tmp 42) 27 rfl (w2.heap.size + 1) 42 jj (.agg #[.int .i64 0, .bool false, .string ⟨#[]⟩, .int .i64 0, .string ⟨#[]⟩]) 5 56 Try.underlying27 ki kz0 kz1 kz2 rfl (by decide) v lv (valsCells (skipK (fillK x.vals nk) a k)) (by first | rfl | simp [Act.eval, Act.put]) ((ownsRow_setCell_below (a := ⟨w2.heap.size, 0, none⟩) hV3.out (by show w2.heap.size < _; omega) (.slice (some ⟨g2, 0, none⟩) (lk + 1) cap2)).drew.alloc _) ⟨(w3.setCell ⟨w2.heap.size, 0, none⟩ (.slice (some ⟨g2, 0, none⟩) (lk + 1) cap2)).heap.size, 0, none⟩ 1 1 [.int .i64 vv.kind, .bool vv.num.neg, .string vv.num.dig, .int .i64 vv.num.exp, .string vv.text] (by first | rfl | simp [Act.eval, Act.put]) rfl (World.news_of_block (cs := #[.int .i64 vv.kind, .bool vv.num.neg, .string vv.num.dig, .int .i64 vv.num.exp, .string vv.text]) (t := 42) (fr := (0, 0)) (heap_alloc_new (w3.setCell ⟨w2.heap.size, 0, none⟩ (.slice (some ⟨g2, 0, none⟩) (lk + 1) cap2)).drew _)) (one_valCells vv) (by decide) (by unfold maxLen; omega) (by omega) (by simp; omega) _ rfl ?_
            intro g4 cap4 w5 hown5 hgrow5 hat5 hlt5
            have hg4 : w2.heap.size + 1 ≤ g4 := (hown5.lt g4 rfl).1
            have hB5 : Below (w2.heap.size + 1) (w3.setCell ⟨w2.heap.size, 0, none⟩ (.slice (some ⟨g2, 0, none⟩) (lk + 1) cap2)) w5 := Below.grown (by repeat' (first | (with_reducible exact Below.refl _ _) | (with_reducible refine Below.drew ?_) | (with_reducible refine Below.setCell ?_ ?_ _) | (with_reducible refine Below.alloc ?_ ?_ _) | (simp; done) | (simp; omega) | omega)) hgrow5 (by first | (simp; done) | (simp; omega)) (fun q hq => (HV.out.lt q hq).1)
            have hS5 : Below w2.heap.size w2 w5 := ⟨hB5.os.trans hH4.os, hB5.tape.trans hH4.tape, hB5.output.trans hH4.output, Nat.le_trans hH4.size hB5.size, fun c hc => (hB5.block c (by omega)).trans (hH4.block c hc)⟩
            have v0 : w5.cell? ⟨w2.heap.size, 0, none⟩ = some (.slice (some ⟨g2, 0, none⟩) (lk + 1) cap2) := (hB5.cell (p := ⟨w2.heap.size, 0, none⟩) (by show w2.heap.size < _; omega)).trans (World.cell?_setCell_same _ _ _ r0)
            have v1 : w5.cell? ⟨w2.heap.size, 1, none⟩ = some v := (hB5.cell (p := ⟨w2.heap.size, 1, none⟩) (by show w2.heap.size < _; omega)).trans ((World.cell?_setCell_other _ _ _ _ (by simp)).trans r1)
            have zv0 : w5.frozen? ⟨w2.heap.size, 0, none⟩ = false := (hB5.frozen (p := ⟨w2.heap.size, 0, none⟩) (by show w2.heap.size < _; omega)).trans (by rw [World.frozen?_setCell]; exact zr0)
            have zv1 : w5.frozen? ⟨w2.heap.size, 1, none⟩ = false := (hB5.frozen (p := ⟨w2.heap.size, 1, none⟩) (by show w2.heap.size < _; omega)).trans (by rw [World.frozen?_setCell]; exact zr1)
            have hl5 : w2.heap.size < w5.heap.size := by have := hB5.size; simp [World.setCell] at this; omega
            have hne3' : (Value.slice (some ⟨g2, 0, none⟩) (lk + 1) cap2).ownBlock = none ∨ (Value.slice (some ⟨g2, 0, none⟩) (lk + 1) cap2).ownBlock ≠ v.ownBlock := by
              right
              rcases hne3 with h | h
              · rw [h]; simp [Value.ownBlock]
              · exact fun e => h e.symm
            have hU5 := hid (((ownsRow_setCell_below (a := ⟨w2.heap.size, 0, none⟩) HO3.out (by show w2.heap.size < _; omega) (.slice (some ⟨g2, 0, none⟩) (lk + 1) cap2)).drew.alloc (.cells #[.int .i64 vv.kind, .bool vv.num.neg, .string vv.num.dig, .int .i64 vv.num.exp, .string vv.text] 42)).kept hgrow5 hne3')
            have hne5 : (Value.slice (some ⟨g4, 0, none⟩) (lv + 1) cap4).ownBlock = none ∨ (Value.slice (some ⟨g4, 0, none⟩) (lv + 1) cap4).ownBlock ≠ (Value.slice (some ⟨g2, 0, none⟩) (lk + 1) cap2).ownBlock := by
              right
              have h2 := (HO3.out.lt g2 rfl).2
              simp only [Value.ownBlock, ne_eq, Option.some.injEq]
              rcases hat5 with h | h
              · rcases hne3 with h' | h'
                · rw [h'] at h; simp at h
                · rw [h] at h'; simpa using h'
              · simp [World.setCell] at h; omega
            have HO5 := hid hown5
            clear hown5 hgrow5 hat5
            refine hK.out _ _ ?_ (fun hHeld => ?_)
            · first | trivial | ((try dsimp only); exact hS5)
            clear hK K
            try simp only [Act.put, List.setIfInBounds_toArray, List.set_cons_zero, List.set_cons_succ]
            refine wpAnyH_take (i := 9) (v := ?_) rfl (by kernel_rfl) (by kernel_rfl) (by kernel_rfl) (fun _ _ _ h => h) (Or.inl ⟨by rfl, ?_⟩) (by assumption) ?_
            rotate_left
            · (intro w' hSw; (try dsimp only at hSw); go_simp; try (with_reducible rfl))
            change wpAnyH _ _ _ _ _ _ _ (Act.put _ (some 44) _) _
            try simp only [Act.put, List.setIfInBounds_toArray, List.set_cons_zero, List.set_cons_succ]
            refine wpAnyH_ready (rs := [10]) (by kernel_rfl) (by simp) ?_
            refine AllReadyH.cons (i := 10) rfl (fun K hK => ?_) AllReadyH.nil
            simp only [List.getElem_toArray, List.getElem_cons_succ, List.getElem_cons_zero]
            rw [if_pos (by rfl)]
            go_simp
            refine hK.out _ _ ?_ (fun hHeld => ?_)
            · first | trivial | ((try dsimp only); exact Below.setCell hHeld (Nat.le_refl _) _)
            clear hK K
            try simp only [Act.put, List.setIfInBounds_toArray, List.set_cons_zero, List.set_cons_succ]
            refine wpAnyH_done (by kernel_rfl) ?_ _
            go_wp2
            go_roundw
            case rel =>
              refine ⟨k + 1, .slice (some ⟨g2, 0, none⟩) (lk + 1) cap2, .slice (some ⟨g4, 0, none⟩) (lv + 1) cap4, by omega, by go_num, (World.cell?_setCell_other _ _ _ _ (by simp)).trans v0, World.cell?_setCell_same _ _ _ v1, by rw [World.frozen?_setCell]; exact zv0, by rw [World.frozen?_setCell]; exact zv1, hid ?_, hid ?_, hne5, Below.setCell hS5 (Nat.le_refl _) _, by simpa [World.setCell] using hl5⟩
              · rw [HK1.out, strCells_append, List.length_append, HLK.out]
                exact ownsRow_setCell_below hU5.out (by show w2.heap.size < _; omega) _
              · rw [HK2.out, valsCells_append, List.length_append, HLV.out]
                have eV : valsCells [vv] = valCells vv := by simp [valsCells]
                rw [eV]
                exact ownsRow_setCell_below HO5.out (by show w2.heap.size < _; omega) _
            case measure => simp [intOf]; omega
          refine AllReadyH.cons (i := 7) rfl (fun K hK => ?_) ?_
          · simp only [List.getElem_toArray, List.getElem_cons_succ, List.getElem_cons_zero]
            rw [if_pos (by rfl)]
            go_simp
            refine hK.out _ _ ?_ (fun hHeld => ?_)
            · first | trivial | ((try dsimp only); exact ext_trans hHeld (ext_alloc _ _))
            clear hK K
            try simp only [Act.put, List.setIfInBounds_toArray, List.set_cons_zero, List.set_cons_succ]
            refine wpAnyH_ready (rs := [1]) (by kernel_rfl) (by simp) ?_
            refine AllReadyH.cons (i := 1) rfl (fun K hK => ?_) AllReadyH.nil
            simp only [List.getElem_toArray, List.getElem_cons_succ, List.getElem_cons_zero]
            rw [if_pos (by rfl)]
            go_simp
            refine hK.out _ _ ?_ (fun hHeld => ?_)
            · first | trivial | ((try dsimp only); exact hHeld)
            clear hK K
            try simp only [Act.put, List.setIfInBounds_toArray, List.set_cons_zero, List.set_cons_succ]
            refine wpAnyH_ready (rs := [8]) (by kernel_rfl) (by simp) ?_
            refine AllReadyH.cons (i := 8) rfl (fun K hK => ?_) AllReadyH.nil
            simp only [List.getElem_toArray, List.getElem_cons_succ, List.getElem_cons_zero]
            rw [if_pos (by rfl)]
            refine wp_append_lies _ (.tmp 36) (.tmp 42) 27 rfl (w2.heap.size + 1) 42 jj (.agg #[.int .i64 0, .bool false, .string ⟨#[]⟩, .int .i64 0, .string ⟨#[]⟩]) 5 56 Try.underlying27 ki kz0 kz1 kz2 rfl (by decide) v lv (valsCells (skipK (fillK x.vals nk) a k)) (by first | rfl | simp [Act.eval, Act.put]) ((ownsRow_setCell_below (a := ⟨w2.heap.size, 0, none⟩) hV3.out (by show w2.heap.size < _; omega) (.slice (some ⟨g2, 0, none⟩) (lk + 1) cap2)).drew.alloc _) ⟨(w3.setCell ⟨w2.heap.size, 0, none⟩ (.slice (some ⟨g2, 0, none⟩) (lk + 1) cap2)).heap.size, 0, none⟩ 1 1 [.int .i64 vv.kind, .bool vv.num.neg, .string vv.num.dig, .int .i64 vv.num.exp, .string vv.text] (by first | rfl | simp [Act.eval, Act.put]) rfl (World.news_of_block (cs := #[.int .i64 vv.kind, .bool vv.num.neg, .string vv.num.dig, .int .i64 vv.num.exp, .string vv.text]) (t := 42) (fr := (0, 0)) (heap_alloc_new (w3.setCell ⟨w2.heap.size, 0, none⟩ (.slice (some ⟨g2, 0, none⟩) (lk + 1) cap2)).drew _)) (one_valCells vv) (by decide) (by unfold maxLen; omega) (by omega) (by simp; omega) _ rfl ?_
            intro g4 cap4 w5 hown5 hgrow5 hat5 hlt5
            have hg4 : w2.heap.size + 1 ≤ g4 := (hown5.lt g4 rfl).1
            have hB5 : Below (w2.heap.size + 1) (w3.setCell ⟨w2.heap.size, 0, none⟩ (.slice (some ⟨g2, 0, none⟩) (lk + 1) cap2)) w5 := Below.grown (by repeat' (first | (with_reducible exact Below.refl _ _) | (with_reducible refine Below.drew ?_) | (with_reducible refine Below.setCell ?_ ?_ _) | (with_reducible refine Below.alloc ?_ ?_ _) | (simp; done) | (simp; omega) | omega)) hgrow5 (by first | (simp; done) | (simp; omega)) (fun q hq => (HV.out.lt q hq).1)
            have hS5 : Below w2.heap.size w2 w5 := ⟨hB5.os.trans hH4.os, hB5.tape.trans hH4.tape, hB5.output.trans hH4.output, Nat.le_trans hH4.size hB5.size, fun c hc => (hB5.block c (by omega)).trans (hH4.block c hc)⟩
            have v0 : w5.cell? ⟨w2.heap.size, 0, none⟩ = some (.slice (some ⟨g2, 0, none⟩) (lk + 1) cap2) := (hB5.cell (p := ⟨w2.heap.size, 0, none⟩) (by show w2.heap.size < _; omega)).trans (World.cell?_setCell_same _ _ _ r0)
            have v1 : w5.cell? ⟨w2.heap.size, 1, none⟩ = some v := (hB5.cell (p := ⟨w2.heap.size, 1, none⟩) (by show w2.heap.size < _; omega)).trans ((World.cell?_setCell_other _ _ _ _ (by simp)).trans r1)
            have zv0 : w5.frozen? ⟨w2.heap.size, 0, none⟩ = false := (hB5.frozen (p := ⟨w2.heap.size, 0, none⟩) (by show w2.heap.size < _; omega)).trans (by rw [World.frozen?_setCell]; exact zr0)
            have zv1 : w5.frozen? ⟨w2.heap.size, 1, none⟩ = false := (hB5.frozen (p := ⟨w2.heap.size, 1, none⟩) (by show w2.heap.size < _; omega)).trans (by rw [World.frozen?_setCell]; exact zr1)
            have hl5 : w2.heap.size < w5.heap.size := by have := hB5.size; simp [World.setCell] at this; omega
            have hne3' : (Value.slice (some ⟨g2, 0, none⟩) (lk + 1) cap2).ownBlock = none ∨ (Value.slice (some ⟨g2, 0, none⟩) (lk + 1) cap2).ownBlock ≠ v.ownBlock := by
              right
              rcases hne3 with h | h
              · rw [h]; simp [Value.ownBlock]
              · exact fun e => h e.symm
            have hU5 := hid (((ownsRow_setCell_below (a := ⟨w2.heap.size, 0, none⟩) HO3.out (by show w2.heap.size < _; omega) (.slice (some ⟨g2, 0, none⟩) (lk + 1) cap2)).drew.alloc (.cells #[.int .i64 vv.kind, .bool vv.num.neg, .string vv.num.dig, .int .i64 vv.num.exp, .string vv.text] 42)).kept hgrow5 hne3')
            have hne5 : (Value.slice (some ⟨g4, 0, none⟩) (lv + 1) cap4).ownBlock = none ∨ (Value.slice (some ⟨g4, 0, none⟩) (lv + 1) cap4).ownBlock ≠ (Value.slice (some ⟨g2, 0, none⟩) (lk + 1) cap2).ownBlock := by
              right
              have h2 := (HO3.out.lt g2 rfl).2
              simp only [Value.ownBlock, ne_eq, Option.some.injEq]
              rcases hat5 with h | h
              · rcases hne3 with h' | h'
                · rw [h'] at h; simp at h
                · rw [h] at h'; simpa using h'
              · simp [World.setCell] at h; omega
            have HO5 := hid hown5
            clear hown5 hgrow5 hat5
            refine hK.out _ _ ?_ (fun hHeld => ?_)
            · first | trivial | ((try dsimp only); exact hS5)
            clear hK K
            try simp only [Act.put, List.setIfInBounds_toArray, List.set_cons_zero, List.set_cons_succ]
            refine wpAnyH_take (i := 9) (v := ?_) rfl (by kernel_rfl) (by kernel_rfl) (by kernel_rfl) (fun _ _ _ h => h) (Or.inl ⟨by rfl, ?_⟩) (by assumption) ?_
            rotate_left
            · (intro w' hSw; (try dsimp only at hSw); go_simp; try (with_reducible rfl))
            change wpAnyH _ _ _ _ _ _ _ (Act.put _ (some 44) _) _
            try simp only [Act.put, List.setIfInBounds_toArray, List.set_cons_zero, List.set_cons_succ]
            refine wpAnyH_ready (rs := [10]) (by kernel_rfl) (by simp) ?_
            refine AllReadyH.cons (i := 10) rfl (fun K hK => ?_) AllReadyH.nil
            simp only [List.getElem_toArray, List.getElem_cons_succ, List.getElem_cons_zero]
            rw [if_pos (by rfl)]
            go_simp
            refine hK.out _ _ ?_ (fun hHeld => ?_)
            · first | trivial | ((try dsimp only); exact Below.setCell hHeld (Nat.le_refl _) _)
            clear hK K
            try simp only [Act.put, List.setIfInBounds_toArray, List.set_cons_zero, List.set_cons_succ]
            refine wpAnyH_done (by kernel_rfl) ?_ _
            go_wp2
            go_roundw
            case rel =>
              refine ⟨k + 1, .slice (some ⟨g2, 0, none⟩) (lk + 1) cap2, .slice (some ⟨g4, 0, none⟩) (lv + 1) cap4, by omega, by go_num, (World.cell?_setCell_other _ _ _ _ (by simp)).trans v0, World.cell?_setCell_same _ _ _ v1, by rw [World.frozen?_setCell]; exact zv0, by rw [World.frozen?_setCell]; exact zv1, hid ?_, hid ?_, hne5, Below.setCell hS5 (Nat.le_refl _) _, by simpa [World.setCell] using hl5⟩
              · rw [HK1.out, strCells_append, List.length_append, HLK.out]
                exact ownsRow_setCell_below hU5.out (by show w2.heap.size < _; omega) _
              · rw [HK2.out, valsCells_append, List.length_append, HLV.out]
                have eV : valsCells [vv] = valCells vv := by simp [valsCells]
                rw [eV]
                exact ownsRow_setCell_below HO5.out (by show w2.heap.size < _; omega) _
            case measure => simp [intOf]; omega
          exact AllReadyH.nil
        refine AllReadyH.cons (i := 7) rfl (fun K hK => ?_) ?_
        · simp only [List.getElem_toArray, List.getElem_cons_succ, List.getElem_cons_zero]
          rw [if_pos (by rfl)]
          go_simp
          refine hK.out _ _ ?_ (fun hHeld => ?_)
          · first | trivial | ((try dsimp only); exact ext_trans hHeld (ext_alloc _ _))
          clear hK K
          try simp only [Act.put, List.setIfInBounds_toArray, List.set_cons_zero, List.set_cons_succ]
          refine wpAnyH_ready (rs := [1]) (by kernel_rfl) (by simp) ?_
          refine AllReadyH.cons (i := 1) rfl (fun K hK => ?_) AllReadyH.nil
          simp only [List.getElem_toArray, List.getElem_cons_succ, List.getElem_cons_zero]
          rw [if_pos (by rfl)]
          go_simp
          refine hK.out _ _ ?_ (fun hHeld => ?_)
          · first | trivial | ((try dsimp only); exact hHeld)
          clear hK K
          try simp only [Act.put, List.setIfInBounds_toArray, List.set_cons_zero, List.set_cons_succ]
          refine wpAnyH_ready (rs := [8]) (by kernel_rfl) (by simp) ?_
          refine AllReadyH.cons (i := 8) rfl (fun K hK => ?_) AllReadyH.nil
          simp only [List.getElem_toArray, List.getElem_cons_succ, List.getElem_cons_zero]
          rw [if_pos (by rfl)]
          refine wp_append_lies _ (.tmp 26) (.tmp 32) 22 rfl (w2.heap.size + 1) 9 ii (.string ⟨#[]⟩) 1 16 Try.underlying22 hi hz0 hz1 hz2 rfl (by decide) u lk (strCellsL (skipK x.keys a k)) (by first | rfl | simp [Act.eval, Act.put]) (HU.out.drew.alloc _) ⟨wr.heap.size, 0, none⟩ 1 1 [.string kk] (by first | rfl | simp [Act.eval, Act.put]) rfl (World.news_of_block (cs := #[.string kk]) (t := 9) (fr := (0, 0)) (heap_alloc_new wr.drew _)) (by intro u hu; simp at hu; subst hu; rfl) (by decide) (by unfold maxLen; omega) (by omega) (by simp; omega) _ rfl ?_
          intro g2 cap2 w3 hown3 hgrow3 hat3 hlt3
          have hg2 : w2.heap.size + 1 ≤ g2 := (hown3.lt g2 rfl).1
          have hB3 : Below (w2.heap.size + 1) wr w3 := Below.grown (by repeat' (first | (with_reducible exact Below.refl _ _) | (with_reducible refine Below.drew ?_) | (with_reducible refine Below.setCell ?_ ?_ _) | (with_reducible refine Below.alloc ?_ ?_ _) | (simp; done) | (simp; omega) | omega)) hgrow3 (by first | (simp; done) | (simp; omega)) (fun q hq => (HU.out.lt q hq).1)
          have hS3 : Below w2.heap.size w2 w3 := ⟨hB3.os.trans hb.os, hB3.tape.trans hb.tape, hB3.output.trans hb.output, Nat.le_trans hb.size hB3.size, fun c hc => (hB3.block c (by omega)).trans (hb.block c hc)⟩
          have r0 : w3.cell? ⟨w2.heap.size, 0, none⟩ = some u := (hB3.cell (p := ⟨w2.heap.size, 0, none⟩) (by show w2.heap.size < _; omega)).trans q0
          have r1 : w3.cell? ⟨w2.heap.size, 1, none⟩ = some v := (hB3.cell (p := ⟨w2.heap.size, 1, none⟩) (by show w2.heap.size < _; omega)).trans q1
          have zr0 : w3.frozen? ⟨w2.heap.size, 0, none⟩ = false := (hB3.frozen (p := ⟨w2.heap.size, 0, none⟩) (by show w2.heap.size < _; omega)).trans zq0
          have zr1 : w3.frozen? ⟨w2.heap.size, 1, none⟩ = false := (hB3.frozen (p := ⟨w2.heap.size, 1, none⟩) (by show w2.heap.size < _; omega)).trans zq1
          have hl3 : w2.heap.size < w3.heap.size := by have := hB3.size; omega
          have hV3 := hid ((HV.out.drew.alloc (.cells #[.string kk] 9)).kept hgrow3 hne)
          have hne3 : v.ownBlock = none ∨ v.ownBlock ≠ some g2 := by
            rcases hat3 with h | h
            · rw [← h]; exact hne
            · cases hv : v.ownBlock with
              | none => exact .inl rfl
              | some q => right; have := (HV.out.lt q hv).2; simp at h; simp only [ne_eq, Option.some.injEq]; omega
          have HO3 := hid hown3
          clear hown3 hgrow3 hat3
          refine hK.out _ _ ?_ (fun hHeld => ?_)
          · first | trivial | ((try dsimp only); exact hS3)
          clear hK K
          try simp only [Act.put, List.setIfInBounds_toArray, List.set_cons_zero, List.set_cons_succ]
          refine wpAnyH_take (i := 9) (v := ?_) rfl (by kernel_rfl) (by kernel_rfl) (by kernel_rfl) (fun _ _ _ h => h) (Or.inl ⟨by rfl, ?_⟩) (by assumption) ?_
          rotate_left
          · (intro w' hSw; (try dsimp only at hSw); go_simp; try (with_reducible rfl))
          change wpAnyH _ _ _ _ _ _ _ (Act.put _ (some 34) _) _
          try simp only [Act.put, List.setIfInBounds_toArray, List.set_cons_zero, List.set_cons_succ]
          refine wpAnyH_ready (rs := [10]) (by kernel_rfl) (by simp) ?_
          refine AllReadyH.cons (i := 10) rfl (fun K hK => ?_) AllReadyH.nil
          simp only [List.getElem_toArray, List.getElem_cons_succ, List.getElem_cons_zero]
          rw [if_pos (by rfl)]
          go_simp
          refine hK.out _ _ ?_ (fun hHeld => ?_)
          · first | trivial | ((try dsimp only); exact Below.setCell hHeld (Nat.le_refl _) _)
          clear hK K
          try simp only [Act.put, List.setIfInBounds_toArray, List.set_cons_zero, List.set_cons_succ]
          refine wpAnyH_done (by kernel_rfl) ?_ _
          have hH4 := hHeld
          go_wp2_with fail
          refine wp_region_held_drew (S := fun w' => Below w2.heap.size w2 w') (by kernel_rfl) ?_ (fun hHeld => ?_)
          · exact Below.drew hH4
          refine wpAnyH_take (i := 0) (v := ?_) rfl (by kernel_rfl) (by kernel_rfl) (by kernel_rfl) (fun _ _ _ h => h) (Or.inl ⟨by rfl, ?_⟩) (by assumption) ?_
          rotate_left
          · (intro w' hSw; (try dsimp only at hSw); go_simp; try (with_reducible rfl))
          change wpAnyH _ _ _ _ _ _ _ (Act.put _ (some 35) _) _
          try simp only [Act.put, List.setIfInBounds_toArray, List.set_cons_zero, List.set_cons_succ]
          refine wpAnyH_take (i := 2) (v := ?_) rfl (by kernel_rfl) (by kernel_rfl) (by kernel_rfl) (fun _ _ _ h => h) (Or.inl ⟨by rfl, ?_⟩) (by assumption) ?_
          rotate_left
          · (intro w' hSw; (try dsimp only at hSw); go_simp; try (with_reducible rfl))
          change wpAnyH _ _ _ _ _ _ _ (Act.put _ (some 37) _) _
          try simp only [Act.put, List.setIfInBounds_toArray, List.set_cons_zero, List.set_cons_succ]
          refine wpAnyH_take (i := 3) (v := ?_) rfl (by kernel_rfl) (by kernel_rfl) (by kernel_rfl) (fun _ _ _ h => h) (Or.inl ⟨by rfl, ?_⟩) (by assumption) ?_
          rotate_left
          · (intro w' hSw; (try dsimp only at hSw); (have g0 := (hSw.cell (p := ⟨w1.heap.size, 1, none⟩) (by show w1.heap.size < _; omega)).trans t31; go_simp; try (with_reducible rfl)))
          change wpAnyH _ _ _ _ _ _ _ (Act.put _ (some 38) _) _
          try simp only [Act.put, List.setIfInBounds_toArray, List.set_cons_zero, List.set_cons_succ]
          refine wpAnyH_take (i := 4) (v := ?_) rfl (by kernel_rfl) (by kernel_rfl) (by kernel_rfl) (fun _ _ _ h => h) (Or.inl ⟨by rfl, ?_⟩) (by assumption) ?_
          rotate_left
          · (intro w' hSw; (try dsimp only at hSw); go_simp; try (with_reducible rfl))
          change wpAnyH _ _ _ _ _ _ _ (Act.put _ (some 39) _) _
          try simp only [Act.put, List.setIfInBounds_toArray, List.set_cons_zero, List.set_cons_succ]
          refine wpAnyH_take (i := 5) (v := ?_) rfl (by kernel_rfl) (by kernel_rfl) (by kernel_rfl) (fun _ _ _ h => h) (Or.inl ⟨by rfl, ?_⟩) (by assumption) ?_
          rotate_left
          · (intro w' hSw; (try dsimp only at hSw); go_simp; try (with_reducible rfl))
          change wpAnyH _ _ _ _ _ _ _ (Act.put _ (some 40) _) _
          try simp only [Act.put, List.setIfInBounds_toArray, List.set_cons_zero, List.set_cons_succ]
          refine wpAnyH_take (i := 6) (v := ?_) rfl (by kernel_rfl) (by kernel_rfl) (by kernel_rfl) (fun _ _ _ h => h) (Or.inl ⟨by rfl, ?_⟩) (by assumption) ?_
          rotate_left
          · (intro w' hSw; (try dsimp only at hSw); (have g0 := (hSw.cell (p := ⟨b', off' + k * 5, none⟩) hBl').trans n00.out; have g1 := (hSw.cell (p := ⟨b', off' + k * 5 + 1, none⟩) hBl').trans n10.out; have g2 := (hSw.cell (p := ⟨b', off' + k * 5 + 2, none⟩) hBl').trans n20.out; have g3 := (hSw.cell (p := ⟨b', off' + k * 5 + 3, none⟩) hBl').trans n30.out; have g4 := (hSw.cell (p := ⟨b', off' + k * 5 + 4, none⟩) hBl').trans n40.out; go_simp; try (with_reducible rfl)))
          change wpAnyH _ _ _ _ _ _ _ (Act.put _ (some 41) _) _
          try simp only [Act.put, List.setIfInBounds_toArray, List.set_cons_zero, List.set_cons_succ]
          refine wpAnyH_ready (rs := [1, 7]) (by kernel_rfl) (by simp) ?_
          refine AllReadyH.cons (i := 1) rfl (fun K hK => ?_) ?_
          · simp only [List.getElem_toArray, List.getElem_cons_succ, List.getElem_cons_zero]
            rw [if_pos (by rfl)]
            go_simp
            refine hK.out _ _ ?_ (fun hHeld => ?_)
            · first | trivial | ((try dsimp only); exact hHeld)
            clear hK K
            try simp only [Act.put, List.setIfInBounds_toArray, List.set_cons_zero, List.set_cons_succ]
            refine wpAnyH_ready (rs := [7]) (by kernel_rfl) (by simp) ?_
            refine AllReadyH.cons (i := 7) rfl (fun K hK => ?_) AllReadyH.nil
            simp only [List.getElem_toArray, List.getElem_cons_succ, List.getElem_cons_zero]
            rw [if_pos (by rfl)]
            go_simp
            refine hK.out _ _ ?_ (fun hHeld => ?_)
            · first | trivial | ((try dsimp only); exact ext_trans hHeld (ext_alloc _ _))
            clear hK K
            try simp only [Act.put, List.setIfInBounds_toArray, List.set_cons_zero, List.set_cons_succ]
            refine wpAnyH_ready (rs := [8]) (by kernel_rfl) (by simp) ?_
            refine AllReadyH.cons (i := 8) rfl (fun K hK => ?_) AllReadyH.nil
            simp only [List.getElem_toArray, List.getElem_cons_succ, List.getElem_cons_zero]
            rw [if_pos (by rfl)]
            refine wp_append_lies _ (.tmp 36) (.tmp 42) 27 rfl (w2.heap.size + 1) 42 jj (.agg #[.int .i64 0, .bool false, .string ⟨#[]⟩, .int .i64 0, .string ⟨#[]⟩]) 5 56 Try.underlying27 ki kz0 kz1 kz2 rfl (by decide) v lv (valsCells (skipK (fillK x.vals nk) a k)) (by first | rfl | simp [Act.eval, Act.put]) ((ownsRow_setCell_below (a := ⟨w2.heap.size, 0, none⟩) hV3.out (by show w2.heap.size < _; omega) (.slice (some ⟨g2, 0, none⟩) (lk + 1) cap2)).drew.alloc _) ⟨(w3.setCell ⟨w2.heap.size, 0, none⟩ (.slice (some ⟨g2, 0, none⟩) (lk + 1) cap2)).heap.size, 0, none⟩ 1 1 [.int .i64 vv.kind, .bool vv.num.neg, .string vv.num.dig, .int .i64 vv.num.exp, .string vv.text] (by first | rfl | simp [Act.eval, Act.put]) rfl (World.news_of_block (cs := #[.int .i64 vv.kind, .bool vv.num.neg, .string vv.num.dig, .int .i64 vv.num.exp, .string vv.text]) (t := 42) (fr := (0, 0)) (heap_alloc_new (w3.setCell ⟨w2.heap.size, 0, none⟩ (.slice (some ⟨g2, 0, none⟩) (lk + 1) cap2)).drew _)) (one_valCells vv) (by decide) (by unfold maxLen; omega) (by omega) (by simp; omega) _ rfl ?_
            intro g4 cap4 w5 hown5 hgrow5 hat5 hlt5
            have hg4 : w2.heap.size + 1 ≤ g4 := (hown5.lt g4 rfl).1
            have hB5 : Below (w2.heap.size + 1) (w3.setCell ⟨w2.heap.size, 0, none⟩ (.slice (some ⟨g2, 0, none⟩) (lk + 1) cap2)) w5 := Below.grown (by repeat' (first | (with_reducible exact Below.refl _ _) | (with_reducible refine Below.drew ?_) | (with_reducible refine Below.setCell ?_ ?_ _) | (with_reducible refine Below.alloc ?_ ?_ _) | (simp; done) | (simp; omega) | omega)) hgrow5 (by first | (simp; done) | (simp; omega)) (fun q hq => (HV.out.lt q hq).1)
            have hS5 : Below w2.heap.size w2 w5 := ⟨hB5.os.trans hH4.os, hB5.tape.trans hH4.tape, hB5.output.trans hH4.output, Nat.le_trans hH4.size hB5.size, fun c hc => (hB5.block c (by omega)).trans (hH4.block c hc)⟩
            have v0 : w5.cell? ⟨w2.heap.size, 0, none⟩ = some (.slice (some ⟨g2, 0, none⟩) (lk + 1) cap2) := (hB5.cell (p := ⟨w2.heap.size, 0, none⟩) (by show w2.heap.size < _; omega)).trans (World.cell?_setCell_same _ _ _ r0)
            have v1 : w5.cell? ⟨w2.heap.size, 1, none⟩ = some v := (hB5.cell (p := ⟨w2.heap.size, 1, none⟩) (by show w2.heap.size < _; omega)).trans ((World.cell?_setCell_other _ _ _ _ (by simp)).trans r1)
            have zv0 : w5.frozen? ⟨w2.heap.size, 0, none⟩ = false := (hB5.frozen (p := ⟨w2.heap.size, 0, none⟩) (by show w2.heap.size < _; omega)).trans (by rw [World.frozen?_setCell]; exact zr0)
            have zv1 : w5.frozen? ⟨w2.heap.size, 1, none⟩ = false := (hB5.frozen (p := ⟨w2.heap.size, 1, none⟩) (by show w2.heap.size < _; omega)).trans (by rw [World.frozen?_setCell]; exact zr1)
            have hl5 : w2.heap.size < w5.heap.size := by have := hB5.size; simp [World.setCell] at this; omega
            have hne3' : (Value.slice (some ⟨g2, 0, none⟩) (lk + 1) cap2).ownBlock = none ∨ (Value.slice (some ⟨g2, 0, none⟩) (lk + 1) cap2).ownBlock ≠ v.ownBlock := by
              right
              rcases hne3 with h | h
              · rw [h]; simp [Value.ownBlock]
              · exact fun e => h e.symm
            have hU5 := hid (((ownsRow_setCell_below (a := ⟨w2.heap.size, 0, none⟩) HO3.out (by show w2.heap.size < _; omega) (.slice (some ⟨g2, 0, none⟩) (lk + 1) cap2)).drew.alloc (.cells #[.int .i64 vv.kind, .bool vv.num.neg, .string vv.num.dig, .int .i64 vv.num.exp, .string vv.text] 42)).kept hgrow5 hne3')
            have hne5 : (Value.slice (some ⟨g4, 0, none⟩) (lv + 1) cap4).ownBlock = none ∨ (Value.slice (some ⟨g4, 0, none⟩) (lv + 1) cap4).ownBlock ≠ (Value.slice (some ⟨g2, 0, none⟩) (lk + 1) cap2).ownBlock := by
              right
              have h2 := (HO3.out.lt g2 rfl).2
              simp only [Value.ownBlock, ne_eq, Option.some.injEq]
              rcases hat5 with h | h
              · rcases hne3 with h' | h'
                · rw [h'] at h; simp at h
                · rw [h] at h'; simpa using h'
              · simp [World.setCell] at h; omega
            have HO5 := hid hown5
            clear hown5 hgrow5 hat5
            refine hK.out _ _ ?_ (fun hHeld => ?_)
            · first | trivial | ((try dsimp only); exact hS5)
            clear hK K
            try simp only [Act.put, List.setIfInBounds_toArray, List.set_cons_zero, List.set_cons_succ]
            refine wpAnyH_take (i := 9) (v := ?_) rfl (by kernel_rfl) (by kernel_rfl) (by kernel_rfl) (fun _ _ _ h => h) (Or.inl ⟨by rfl, ?_⟩) (by assumption) ?_
            rotate_left
            · (intro w' hSw; (try dsimp only at hSw); go_simp; try (with_reducible rfl))
            change wpAnyH _ _ _ _ _ _ _ (Act.put _ (some 44) _) _
            try simp only [Act.put, List.setIfInBounds_toArray, List.set_cons_zero, List.set_cons_succ]
            refine wpAnyH_ready (rs := [10]) (by kernel_rfl) (by simp) ?_
            refine AllReadyH.cons (i := 10) rfl (fun K hK => ?_) AllReadyH.nil
            simp only [List.getElem_toArray, List.getElem_cons_succ, List.getElem_cons_zero]
            rw [if_pos (by rfl)]
            go_simp
            refine hK.out _ _ ?_ (fun hHeld => ?_)
            · first | trivial | ((try dsimp only); exact Below.setCell hHeld (Nat.le_refl _) _)
            clear hK K
            try simp only [Act.put, List.setIfInBounds_toArray, List.set_cons_zero, List.set_cons_succ]
            refine wpAnyH_done (by kernel_rfl) ?_ _
            go_wp2
            go_roundw
            case rel =>
              refine ⟨k + 1, .slice (some ⟨g2, 0, none⟩) (lk + 1) cap2, .slice (some ⟨g4, 0, none⟩) (lv + 1) cap4, by omega, by go_num, (World.cell?_setCell_other _ _ _ _ (by simp)).trans v0, World.cell?_setCell_same _ _ _ v1, by rw [World.frozen?_setCell]; exact zv0, by rw [World.frozen?_setCell]; exact zv1, hid ?_, hid ?_, hne5, Below.setCell hS5 (Nat.le_refl _) _, by simpa [World.setCell] using hl5⟩
              · rw [HK1.out, strCells_append, List.length_append, HLK.out]
                exact ownsRow_setCell_below hU5.out (by show w2.heap.size < _; omega) _
              · rw [HK2.out, valsCells_append, List.length_append, HLV.out]
                have eV : valsCells [vv] = valCells vv := by simp [valsCells]
                rw [eV]
                exact ownsRow_setCell_below HO5.out (by show w2.heap.size < _; omega) _
            case measure => simp [intOf]; omega
          refine AllReadyH.cons (i := 7) rfl (fun K hK => ?_) ?_
          · simp only [List.getElem_toArray, List.getElem_cons_succ, List.getElem_cons_zero]
            rw [if_pos (by rfl)]
            go_simp
            refine hK.out _ _ ?_ (fun hHeld => ?_)
            · first | trivial | ((try dsimp only); exact ext_trans hHeld (ext_alloc _ _))
            clear hK K
            try simp only [Act.put, List.setIfInBounds_toArray, List.set_cons_zero, List.set_cons_succ]
            refine wpAnyH_ready (rs := [1]) (by kernel_rfl) (by simp) ?_
            refine AllReadyH.cons (i := 1) rfl (fun K hK => ?_) AllReadyH.nil
            simp only [List.getElem_toArray, List.getElem_cons_succ, List.getElem_cons_zero]
            rw [if_pos (by rfl)]
            go_simp
            refine hK.out _ _ ?_ (fun hHeld => ?_)
            · first | trivial | ((try dsimp only); exact hHeld)
            clear hK K
            try simp only [Act.put, List.setIfInBounds_toArray, List.set_cons_zero, List.set_cons_succ]
            refine wpAnyH_ready (rs := [8]) (by kernel_rfl) (by simp) ?_
            refine AllReadyH.cons (i := 8) rfl (fun K hK => ?_) AllReadyH.nil
            simp only [List.getElem_toArray, List.getElem_cons_succ, List.getElem_cons_zero]
            rw [if_pos (by rfl)]
            refine wp_append_lies _ (.tmp 36) (.tmp 42) 27 rfl (w2.heap.size + 1) 42 jj (.agg #[.int .i64 0, .bool false, .string ⟨#[]⟩, .int .i64 0, .string ⟨#[]⟩]) 5 56 Try.underlying27 ki kz0 kz1 kz2 rfl (by decide) v lv (valsCells (skipK (fillK x.vals nk) a k)) (by first | rfl | simp [Act.eval, Act.put]) ((ownsRow_setCell_below (a := ⟨w2.heap.size, 0, none⟩) hV3.out (by show w2.heap.size < _; omega) (.slice (some ⟨g2, 0, none⟩) (lk + 1) cap2)).drew.alloc _) ⟨(w3.setCell ⟨w2.heap.size, 0, none⟩ (.slice (some ⟨g2, 0, none⟩) (lk + 1) cap2)).heap.size, 0, none⟩ 1 1 [.int .i64 vv.kind, .bool vv.num.neg, .string vv.num.dig, .int .i64 vv.num.exp, .string vv.text] (by first | rfl | simp [Act.eval, Act.put]) rfl (World.news_of_block (cs := #[.int .i64 vv.kind, .bool vv.num.neg, .string vv.num.dig, .int .i64 vv.num.exp, .string vv.text]) (t := 42) (fr := (0, 0)) (heap_alloc_new (w3.setCell ⟨w2.heap.size, 0, none⟩ (.slice (some ⟨g2, 0, none⟩) (lk + 1) cap2)).drew _)) (one_valCells vv) (by decide) (by unfold maxLen; omega) (by omega) (by simp; omega) _ rfl ?_
            intro g4 cap4 w5 hown5 hgrow5 hat5 hlt5
            have hg4 : w2.heap.size + 1 ≤ g4 := (hown5.lt g4 rfl).1
            have hB5 : Below (w2.heap.size + 1) (w3.setCell ⟨w2.heap.size, 0, none⟩ (.slice (some ⟨g2, 0, none⟩) (lk + 1) cap2)) w5 := Below.grown (by repeat' (first | (with_reducible exact Below.refl _ _) | (with_reducible refine Below.drew ?_) | (with_reducible refine Below.setCell ?_ ?_ _) | (with_reducible refine Below.alloc ?_ ?_ _) | (simp; done) | (simp; omega) | omega)) hgrow5 (by first | (simp; done) | (simp; omega)) (fun q hq => (HV.out.lt q hq).1)
            have hS5 : Below w2.heap.size w2 w5 := ⟨hB5.os.trans hH4.os, hB5.tape.trans hH4.tape, hB5.output.trans hH4.output, Nat.le_trans hH4.size hB5.size, fun c hc => (hB5.block c (by omega)).trans (hH4.block c hc)⟩
            have v0 : w5.cell? ⟨w2.heap.size, 0, none⟩ = some (.slice (some ⟨g2, 0, none⟩) (lk + 1) cap2) := (hB5.cell (p := ⟨w2.heap.size, 0, none⟩) (by show w2.heap.size < _; omega)).trans (World.cell?_setCell_same _ _ _ r0)
            have v1 : w5.cell? ⟨w2.heap.size, 1, none⟩ = some v := (hB5.cell (p := ⟨w2.heap.size, 1, none⟩) (by show w2.heap.size < _; omega)).trans ((World.cell?_setCell_other _ _ _ _ (by simp)).trans r1)
            have zv0 : w5.frozen? ⟨w2.heap.size, 0, none⟩ = false := (hB5.frozen (p := ⟨w2.heap.size, 0, none⟩) (by show w2.heap.size < _; omega)).trans (by rw [World.frozen?_setCell]; exact zr0)
            have zv1 : w5.frozen? ⟨w2.heap.size, 1, none⟩ = false := (hB5.frozen (p := ⟨w2.heap.size, 1, none⟩) (by show w2.heap.size < _; omega)).trans (by rw [World.frozen?_setCell]; exact zr1)
            have hl5 : w2.heap.size < w5.heap.size := by have := hB5.size; simp [World.setCell] at this; omega
            have hne3' : (Value.slice (some ⟨g2, 0, none⟩) (lk + 1) cap2).ownBlock = none ∨ (Value.slice (some ⟨g2, 0, none⟩) (lk + 1) cap2).ownBlock ≠ v.ownBlock := by
              right
              rcases hne3 with h | h
              · rw [h]; simp [Value.ownBlock]
              · exact fun e => h e.symm
            have hU5 := hid (((ownsRow_setCell_below (a := ⟨w2.heap.size, 0, none⟩) HO3.out (by show w2.heap.size < _; omega) (.slice (some ⟨g2, 0, none⟩) (lk + 1) cap2)).drew.alloc (.cells #[.int .i64 vv.kind, .bool vv.num.neg, .string vv.num.dig, .int .i64 vv.num.exp, .string vv.text] 42)).kept hgrow5 hne3')
            have hne5 : (Value.slice (some ⟨g4, 0, none⟩) (lv + 1) cap4).ownBlock = none ∨ (Value.slice (some ⟨g4, 0, none⟩) (lv + 1) cap4).ownBlock ≠ (Value.slice (some ⟨g2, 0, none⟩) (lk + 1) cap2).ownBlock := by
              right
              have h2 := (HO3.out.lt g2 rfl).2
              simp only [Value.ownBlock, ne_eq, Option.some.injEq]
              rcases hat5 with h | h
              · rcases hne3 with h' | h'
                · rw [h'] at h; simp at h
                · rw [h] at h'; simpa using h'
              · simp [World.setCell] at h; omega
            have HO5 := hid hown5
            clear hown5 hgrow5 hat5
            refine hK.out _ _ ?_ (fun hHeld => ?_)
            · first | trivial | ((try dsimp only); exact hS5)
            clear hK K
            try simp only [Act.put, List.setIfInBounds_toArray, List.set_cons_zero, List.set_cons_succ]
            refine wpAnyH_take (i := 9) (v := ?_) rfl (by kernel_rfl) (by kernel_rfl) (by kernel_rfl) (fun _ _ _ h => h) (Or.inl ⟨by rfl, ?_⟩) (by assumption) ?_
            rotate_left
            · (intro w' hSw; (try dsimp only at hSw); go_simp; try (with_reducible rfl))
            change wpAnyH _ _ _ _ _ _ _ (Act.put _ (some 44) _) _
            try simp only [Act.put, List.setIfInBounds_toArray, List.set_cons_zero, List.set_cons_succ]
            refine wpAnyH_ready (rs := [10]) (by kernel_rfl) (by simp) ?_
            refine AllReadyH.cons (i := 10) rfl (fun K hK => ?_) AllReadyH.nil
            simp only [List.getElem_toArray, List.getElem_cons_succ, List.getElem_cons_zero]
            rw [if_pos (by rfl)]
            go_simp
            refine hK.out _ _ ?_ (fun hHeld => ?_)
            · first | trivial | ((try dsimp only); exact Below.setCell hHeld (Nat.le_refl _) _)
            clear hK K
            try simp only [Act.put, List.setIfInBounds_toArray, List.set_cons_zero, List.set_cons_succ]
            refine wpAnyH_done (by kernel_rfl) ?_ _
            go_wp2
            go_roundw
            case rel =>
              refine ⟨k + 1, .slice (some ⟨g2, 0, none⟩) (lk + 1) cap2, .slice (some ⟨g4, 0, none⟩) (lv + 1) cap4, by omega, by go_num, (World.cell?_setCell_other _ _ _ _ (by simp)).trans v0, World.cell?_setCell_same _ _ _ v1, by rw [World.frozen?_setCell]; exact zv0, by rw [World.frozen?_setCell]; exact zv1, hid ?_, hid ?_, hne5, Below.setCell hS5 (Nat.le_refl _) _, by simpa [World.setCell] using hl5⟩
              · rw [HK1.out, strCells_append, List.length_append, HLK.out]
                exact ownsRow_setCell_below hU5.out (by show w2.heap.size < _; omega) _
              · rw [HK2.out, valsCells_append, List.length_append, HLV.out]
                have eV : valsCells [vv] = valCells vv := by simp [valsCells]
                rw [eV]
                exact ownsRow_setCell_below HO5.out (by show w2.heap.size < _; omega) _
            case measure => simp [intOf]; omega
          exact AllReadyH.nil
        exact AllReadyH.nil

    · obtain rfl : k = nk := by omega
      have p20 := (hbc.1 (w.heap.size + 1) 0 (by omega)).trans t20
      have p21 := (hbc.1 (w.heap.size + 1) 1 (by omega)).trans t21
      have x20 := (hbc.2 (w.heap.size + 1) 0 (by omega)).trans y20
      have x21 := (hbc.2 (w.heap.size + 1) 1 (by omega)).trans y21
      obtain ⟨ua', uc', rfl⟩ := own_sl HU.out
      obtain ⟨va', vc', rfl⟩ := own_sl HV.out
      have e1 : skipK x.keys a k = (arrDrop x s).keys := by
        have h0 := skipK_all x.keys (a := a) (by rw [HNK.out]; omega)
        rw [HNK.out] at h0
        rw [h0]
        unfold arrDrop
        rw [HA.out]
        by_cases h : a < 0
        · rw [if_pos h, if_pos h]; rfl
        · rw [if_neg h, if_neg h]
      have e2 : skipK (fillK x.vals k) a k = (arrDrop x s).vals := by
        have h0 := skipK_all (fillK x.vals k) (a := a) (by rw [fillK_len]; omega)
        rw [fillK_len] at h0
        rw [h0]
        unfold arrDrop arrFill
        rw [HA.out, HNK.out]
        by_cases h : a < 0
        · rw [if_pos h, if_pos h]
        · rw [if_neg h, if_neg h]
      have hk1 : ∀ q ∈ (arrDrop x s).keys, q.size ≤ 9223372036854775807 := by
        intro q hq
        unfold arrDrop at hq
        split at hq
        · exact HSK.out q hq
        · exact HSK.out q (dropAt_mem hq)
      have hv1 : ∀ y ∈ (arrDrop x s).vals, vOk y := by
        intro q hq
        unfold arrDrop arrFill at hq
        rw [HNK.out] at hq
        split at hq
        · exact HVK.out q hq
        · exact HVK.out q (dropAt_mem hq)
      have HE1 := hid e1
      have HE2 := hid e2
      have HK := hid hk1
      have HV1 := hid hv1
      clear hi hz0 hz1 hz2 ki kz0 kz1 kz2 hbc e1 e2 hk1 hv1
      go_wp2
      refine bodyPost_ret (v := .agg #[.slice ua' (skipK x.keys a k).length uc', .slice va' (skipK (fillK x.vals k) a k).length vc']) (by simp [results, Try.results5, go_sem, p20, p21, x20, x21]) rfl ⟨_, rfl, ?_, ?_⟩
      · refine rdArr_own (x := arrDrop x s) (B := w2.heap.size + 1) (C := w2.heap.size + 1) (e1 := 9) (e2 := 42) ?_ ?_ (by omega) (by omega) HK.out HV1.out
        · rw [HE1.out]
          have h0 := HU.out
          rw [HE1.out] at h0
          repeat' (first | exact h0 | (refine ownsRow_setCell_below ?_ ?_ _) | (show w.heap.size + 1 < _; omega))
        · rw [HE2.out]
          have h0 := HV.out
          rw [HE2.out] at h0
          repeat' (first | exact h0 | (refine ownsRow_setCell_below ?_ ?_ _) | (show w.heap.size + 1 < _; omega))
      · have hB3 : Below w.heap.size w wr := ext_trans hB2 hb
        repeat' (first | (with_reducible exact hB3) | (with_reducible refine Below.setCell ?_ ?_ _) | (simp; done) | (simp; omega) | omega)
end Go.Proofs.Ytenfpfjpcpmhiaa
