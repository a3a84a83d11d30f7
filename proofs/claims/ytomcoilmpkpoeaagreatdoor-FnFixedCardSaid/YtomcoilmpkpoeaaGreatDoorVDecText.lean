/-
  What is proved here: spec.DecText and impl.decText return the text of a number. The condition 'PT' says that the library's table of powers of ten lies in the world.
-/
import Derived.Test.YtomcoilmpkpoeaaGreatDoorVNum
import Derived.Test.YtomcoilmpkpoeaaGreatDoorVB
import Derived.Laws.Concat
import Derived.Laws.Cover1
import Derived.Deep.QuietTactic
import Derived.BigQuiet
namespace Go.Proofs.YtomcoilmpkpoeaaGreatDoor
open Go.RowKit
set_option linter.unusedVariables false
set_option linter.unusedSimpArgs false

/-- the sum of a number's exponent and its digits' count -/
def decP (d : Dec) : Int := d.exp + (d.dig.size : Int)
def signB (d : Dec) : ByteArray := if d.neg then ⟨#[45]⟩ else ⟨#[]⟩
def decT (d : Dec) : ByteArray :=
  if d.dig.size = 0 then ⟨#[48]⟩
  else if ¬ (-7 ≤ decP d - 1 ∧ decP d - 1 ≤ 20) then
    (if 1 < d.dig.size then signB d ++ d.dig.extract 0 1 ++ ⟨#[46]⟩ ++ d.dig.extract 1 d.dig.size else signB d ++ d.dig.extract 0 1) ++ (if decP d - 1 < 0 then ⟨#[101, 45]⟩ ++ numB (-(decP d - 1)) else ⟨#[101, 43]⟩ ++ numB (decP d - 1))
  else if 0 ≤ d.exp then signB d ++ d.dig ++ zeroB d.exp.toNat
  else if 0 ≤ decP d - 1 then signB d ++ d.dig.extract 0 (decP d).toNat ++ ⟨#[46]⟩ ++ d.dig.extract (decP d).toNat d.dig.size
  else signB d ++ ⟨#[48, 46]⟩ ++ zeroB (-(decP d)).toNat ++ d.dig
def decTx (d : Dec) : ByteArray := if decOk d then decT d else ⟨#[]⟩
theorem numB_neg {n : Int} (h : n < 0) : numB n = ⟨#[45]⟩ ++ numB (-n) := by
  apply ba_list
  unfold numB Lib.itoa
  rw [if_pos h, if_neg (by omega), show (-n).toNat = n.natAbs by omega]
  simp [mkB]
theorem decOk_facts {neg : Bool} {dig : ByteArray} {exp : Int} (h : decOk ⟨neg, dig, exp⟩ = true) (hz : ¬ dig.size = 0) : dig.size ≤ 20 ∧ -98 - (dig.size : Int) ≤ exp ∧ exp ≤ 100 - (dig.size : Int) ∧ (dig.toList == [48]) = false := by
  unfold decOk at h
  rw [if_neg hz] at h
  simp only [Bool.and_eq_true, decide_eq_true_eq] at h
  obtain ⟨⟨⟨⟨_, h1⟩, h2⟩, _⟩, h3⟩ := h
  refine ⟨h1, h3.1, h3.2, ?_⟩
  rw [beq_eq_false_iff_ne]
  intro h'
  rw [Lib.toList_data] at h'
  exact h2 (by show dig.data.toList.head? = some 48; rw [h']; rfl)

set_option maxHeartbeats 16000000 in
set_option maxRecDepth 100000 in
theorem specDecText0 (neg : Bool) (dig : ByteArray) (exp : Int) (w : World) (hs : dig.size ≤ 9223372036854775807) (he : -9223372036854775808 ≤ exp ∧ exp ≤ 9223372036854775807) :
    Calls Tryz.prog 18 #[.agg #[.bool neg, .string dig, .int .i64 exp]] w fun e w' => e = .returned (.string (decTx ⟨neg, dig, exp⟩)) ∧ Below w.heap.size w w' := by
  cases ho : decOk ⟨neg, dig, exp⟩
  · have HR := hid (show decTx ⟨neg, dig, exp⟩ = ⟨#[]⟩ by unfold decTx; rw [ho]; rfl)
    have HO := hid ho
    clear ho
    go_enter Tryz.func18, Tryz.ntmps18
    go_wp2_with fail
    refine (specDecOk (d := ⟨neg, dig, exp⟩) _ (by exact rdDec_mk (x := ⟨neg, dig, exp⟩) hs (by first | exact he | (dsimp only; omega) | omega))).mono ?_
    rintro e w1 ⟨rfl, hb1⟩
    rw [HO.out]
    obtain ⟨hc1, hf1⟩ := bcell hb1
    have hl : w.heap.size < w1.heap.size := by have := hb1.size; (try simp at this); omega
    go_wp2
    go_ret
    rw [HR.out]
    exact ⟨rfl, (ext_trans (ext_alloc _ _) hb1)⟩
  have hdt : decTx ⟨neg, dig, exp⟩ = decT ⟨neg, dig, exp⟩ := by unfold decTx; rw [ho]; rfl
  rw [hdt]
  clear hdt
  by_cases hz : dig.size = 0
  · have HR := hid (show decT ⟨neg, dig, exp⟩ = ⟨#[48]⟩ by unfold decT; rw [if_pos hz])
    have HO := hid ho
    obtain rfl := ba_nil hz
    clear ho hz
    go_enter Tryz.func18, Tryz.ntmps18
    go_wp2_with fail
    refine (specDecOk (d := ⟨neg, ⟨#[]⟩, exp⟩) _ (by exact rdDec_mk (x := ⟨neg, ⟨#[]⟩, exp⟩) hs (by first | exact he | (dsimp only; omega) | omega))).mono ?_
    rintro e w1 ⟨rfl, hb1⟩
    rw [HO.out]
    obtain ⟨hc1, hf1⟩ := bcell hb1
    have hl : w.heap.size < w1.heap.size := by have := hb1.size; (try simp at this); omega
    go_wp2
    go_ret
    rw [HR.out]
    exact ⟨rfl, (ext_trans (ext_alloc _ _) hb1)⟩
  obtain ⟨hd1, hd2, hd3, hd4⟩ := decOk_facts ho hz
  have g0 : (dig.toList == []) = false := ba_nil_beq hz
  have HO := hid ho
  clear ho
  have hx1 : (dig.extract 0 1).size = 1 := by rw [ByteArray.size_extract]; omega
  have hpos : 0 < dig.size := by omega
  cases neg
  · obtain ⟨P, hP0⟩ : ∃ P : Int, exp + (dig.size : Int) = P := ⟨_, rfl⟩
    have hdp : decP ⟨false, dig, exp⟩ = P := hP0
    have hPb : -98 ≤ P ∧ P ≤ 100 := by omega
    by_cases hbig : -7 ≤ P - 1 ∧ P - 1 ≤ 20
    rotate_left
    · have hin := inB_false hbig
      by_cases hone : 1 < dig.size
      · by_cases hneg : P - 1 < 0
        · have HR := hid (show decT ⟨false, dig, exp⟩ = (⟨#[]⟩ ++ dig.extract 0 1 ++ ⟨#[46]⟩ ++ dig.extract 1 dig.size) ++ (⟨#[101, 45]⟩ ++ numB (-(P - 1))) by unfold decT; rw [hdp, if_neg hz, if_pos hbig, if_pos hone, if_pos hneg]; rfl)
          have hx2 : (dig.extract 1 dig.size).size = dig.size - 1 := by rw [ByteArray.size_extract]; omega
          clear hbig hdp
          go_enter Tryz.func18, Tryz.ntmps18
          go_wp2_with fail
          refine (specDecOk (d := ⟨false, dig, exp⟩) _ (by exact rdDec_mk (x := ⟨false, dig, exp⟩) hs (by first | exact he | (dsimp only; omega) | omega))).mono ?_
          rintro e w1 ⟨rfl, hb1⟩
          rw [HO.out]
          obtain ⟨hc1, hf1⟩ := bcell hb1
          have hl : w.heap.size < w1.heap.size := by have := hb1.size; (try simp at this); omega
          go_wp2_with fail
          refine (between_any _ _ _ _).mono ?_
          rintro e' w2 ⟨rfl, rfl⟩
          go_wp2_with fail
          refine (specNumText _ _ (by omega)).mono ?_
          rintro e w3 ⟨rfl, hb3⟩
          have hns := numB_size (n := -(P - 1)) (by omega)
          go_wp2
          go_ret
          refine ⟨end_string ?_, ?_⟩
          · first | exact HR.out.symm | (rw [HR.out]; apply ba_list; simp)
          · repeat' (first | (with_reducible exact Below.refl _ _) | (with_reducible refine ext_trans ?_ hb3) | (with_reducible refine ext_trans ?_ hb1) | (with_reducible refine ext_trans ?_ (ext_alloc _ _)) | (with_reducible refine Below.drew ?_))
        · have HR := hid (show decT ⟨false, dig, exp⟩ = (⟨#[]⟩ ++ dig.extract 0 1 ++ ⟨#[46]⟩ ++ dig.extract 1 dig.size) ++ (⟨#[101, 43]⟩ ++ numB (P - 1)) by unfold decT; rw [hdp, if_neg hz, if_pos hbig, if_pos hone, if_neg hneg]; rfl)
          have hx2 : (dig.extract 1 dig.size).size = dig.size - 1 := by rw [ByteArray.size_extract]; omega
          have hm1 : 0 < P - 1 := by omega
          have hm2 : 1 < P := by omega
          have hm3 : ¬ P - 1 ≤ 0 := by omega
          clear hbig hdp
          go_enter Tryz.func18, Tryz.ntmps18
          go_wp2_with fail
          refine (specDecOk (d := ⟨false, dig, exp⟩) _ (by exact rdDec_mk (x := ⟨false, dig, exp⟩) hs (by first | exact he | (dsimp only; omega) | omega))).mono ?_
          rintro e w1 ⟨rfl, hb1⟩
          rw [HO.out]
          obtain ⟨hc1, hf1⟩ := bcell hb1
          have hl : w.heap.size < w1.heap.size := by have := hb1.size; (try simp at this); omega
          go_wp2_with fail
          refine (between_any _ _ _ _).mono ?_
          rintro e' w2 ⟨rfl, rfl⟩
          go_wp2_with fail
          refine (specNumText _ _ (by omega)).mono ?_
          rintro e w3 ⟨rfl, hb3⟩
          have hns := numB_size (n := P - 1) (by omega)
          go_wp2
          go_ret
          refine ⟨end_string ?_, ?_⟩
          · first | exact HR.out.symm | (rw [HR.out]; apply ba_list; simp)
          · repeat' (first | (with_reducible exact Below.refl _ _) | (with_reducible refine ext_trans ?_ hb3) | (with_reducible refine ext_trans ?_ hb1) | (with_reducible refine ext_trans ?_ (ext_alloc _ _)) | (with_reducible refine Below.drew ?_))
      · by_cases hneg : P - 1 < 0
        · have HR := hid (show decT ⟨false, dig, exp⟩ = (⟨#[]⟩ ++ dig.extract 0 1) ++ (⟨#[101, 45]⟩ ++ numB (-(P - 1))) by unfold decT; rw [hdp, if_neg hz, if_pos hbig, if_neg hone, if_pos hneg]; rfl)
          have hx2 : (dig.extract 1 dig.size).size = dig.size - 1 := by rw [ByteArray.size_extract]; omega
          clear hbig hdp
          go_enter Tryz.func18, Tryz.ntmps18
          go_wp2_with fail
          refine (specDecOk (d := ⟨false, dig, exp⟩) _ (by exact rdDec_mk (x := ⟨false, dig, exp⟩) hs (by first | exact he | (dsimp only; omega) | omega))).mono ?_
          rintro e w1 ⟨rfl, hb1⟩
          rw [HO.out]
          obtain ⟨hc1, hf1⟩ := bcell hb1
          have hl : w.heap.size < w1.heap.size := by have := hb1.size; (try simp at this); omega
          go_wp2_with fail
          refine (between_any _ _ _ _).mono ?_
          rintro e' w2 ⟨rfl, rfl⟩
          go_wp2_with fail
          refine (specNumText _ _ (by omega)).mono ?_
          rintro e w3 ⟨rfl, hb3⟩
          have hns := numB_size (n := -(P - 1)) (by omega)
          go_wp2
          go_ret
          refine ⟨end_string ?_, ?_⟩
          · first | exact HR.out.symm | (rw [HR.out]; apply ba_list; simp)
          · repeat' (first | (with_reducible exact Below.refl _ _) | (with_reducible refine ext_trans ?_ hb3) | (with_reducible refine ext_trans ?_ hb1) | (with_reducible refine ext_trans ?_ (ext_alloc _ _)) | (with_reducible refine Below.drew ?_))
        · have HR := hid (show decT ⟨false, dig, exp⟩ = (⟨#[]⟩ ++ dig.extract 0 1) ++ (⟨#[101, 43]⟩ ++ numB (P - 1)) by unfold decT; rw [hdp, if_neg hz, if_pos hbig, if_neg hone, if_neg hneg]; rfl)
          have hx2 : (dig.extract 1 dig.size).size = dig.size - 1 := by rw [ByteArray.size_extract]; omega
          have hm1 : 0 < P - 1 := by omega
          have hm2 : 1 < P := by omega
          have hm3 : ¬ P - 1 ≤ 0 := by omega
          clear hbig hdp
          go_enter Tryz.func18, Tryz.ntmps18
          go_wp2_with fail
          refine (specDecOk (d := ⟨false, dig, exp⟩) _ (by exact rdDec_mk (x := ⟨false, dig, exp⟩) hs (by first | exact he | (dsimp only; omega) | omega))).mono ?_
          rintro e w1 ⟨rfl, hb1⟩
          rw [HO.out]
          obtain ⟨hc1, hf1⟩ := bcell hb1
          have hl : w.heap.size < w1.heap.size := by have := hb1.size; (try simp at this); omega
          go_wp2_with fail
          refine (between_any _ _ _ _).mono ?_
          rintro e' w2 ⟨rfl, rfl⟩
          go_wp2_with fail
          refine (specNumText _ _ (by omega)).mono ?_
          rintro e w3 ⟨rfl, hb3⟩
          have hns := numB_size (n := P - 1) (by omega)
          go_wp2
          go_ret
          refine ⟨end_string ?_, ?_⟩
          · first | exact HR.out.symm | (rw [HR.out]; apply ba_list; simp)
          · repeat' (first | (with_reducible exact Below.refl _ _) | (with_reducible refine ext_trans ?_ hb3) | (with_reducible refine ext_trans ?_ hb1) | (with_reducible refine ext_trans ?_ (ext_alloc _ _)) | (with_reducible refine Below.drew ?_))
    · have hin := inB_true hbig
      by_cases hex : 0 ≤ exp
      · obtain ⟨e, rfl⟩ := Int.eq_ofNat_of_zero_le hex
        have HR := hid (show decT ⟨false, dig, (e : Int)⟩ = ⟨#[]⟩ ++ dig ++ zeroB e by unfold decT; rw [hdp, if_neg hz, if_neg (fun h => h hbig), if_pos hex]; rfl)
        have he2 : e ≤ 1000 := by omega
        have hzz := zeroB_size e
        obtain ⟨k1, k2, k3, k4⟩ : (¬ 9223372036854775807 < dig.size) ∧ (¬ 9223372036854775807 < 1 + dig.size) ∧ (¬ 9223372036854775807 < dig.size + e) ∧ (¬ 9223372036854775807 < 1 + dig.size + e) := ⟨by omega, by omega, by omega, by omega⟩
        have k5 : ¬ 9223372036854775807 < 1 + (dig.size + e) := by omega
        go_enter Tryz.func18, Tryz.ntmps18
        go_wp2_with fail
        refine (specDecOk (d := ⟨false, dig, (e : Int)⟩) _ (by exact rdDec_mk (x := ⟨false, dig, (e : Int)⟩) hs (by first | exact he | (dsimp only; omega) | omega))).mono ?_
        rintro e w1 ⟨rfl, hb1⟩
        rw [HO.out]
        obtain ⟨hc1, hf1⟩ := bcell hb1
        have hl : w.heap.size < w1.heap.size := by have := hb1.size; (try simp at this); omega
        clear hdp hbig
        go_wp2_with fail
        refine (between_any _ _ _ _).mono ?_
        rintro e' w2 ⟨rfl, rfl⟩
        go_wp2_with fail
        refine wp_region_held_drew (S := fun w' => w'.cell? ⟨w.heap.size, 0, none⟩ = some (.bool false) ∧ w'.cell? ⟨w.heap.size, 1, none⟩ = some (.string dig) ∧ w'.cell? ⟨w.heap.size, 2, none⟩ = some (.int .i64 (e : Int))) (by kernel_rfl) ?_ (fun hHeld => ?_)
        · simp [*]
        refine wpAnyH_take (i := 0) (v := ?_) rfl (by kernel_rfl) (by kernel_rfl) (by kernel_rfl) (fun _ _ _ h => h) (Or.inl ⟨by rfl, ?_⟩) (by assumption) ?_
        rotate_left
        · (intro w' hSw; (try dsimp only at hSw); go_simp; try (with_reducible rfl))
        change wpAnyH _ _ _ _ _ _ _ (Act.put _ (some 57) _) _
        try simp only [Act.put, List.setIfInBounds_toArray, List.set_cons_zero, List.set_cons_succ]
        refine wpAnyH_take (i := 1) (v := ?_) rfl (by kernel_rfl) (by kernel_rfl) (by kernel_rfl) (fun _ _ _ h => h) (Or.inl ⟨by rfl, ?_⟩) (by assumption) ?_
        rotate_left
        · (intro w' hSw; (try dsimp only at hSw); go_simp; try (with_reducible rfl))
        change wpAnyH _ _ _ _ _ _ _ (Act.put _ (some 58) _) _
        try simp only [Act.put, List.setIfInBounds_toArray, List.set_cons_zero, List.set_cons_succ]
        refine wpAnyH_take (i := 2) (v := ?_) rfl (by kernel_rfl) (by kernel_rfl) (by kernel_rfl) (fun _ _ _ h => h) (Or.inl ⟨by rfl, ?_⟩) (by assumption) ?_
        rotate_left
        · (intro w' hSw; (try dsimp only at hSw); go_simp; try (with_reducible rfl))
        change wpAnyH _ _ _ _ _ _ _ (Act.put _ (some 59) _) _
        try simp only [Act.put, List.setIfInBounds_toArray, List.set_cons_zero, List.set_cons_succ]
        refine wpAnyH_take (i := 3) (v := ?_) rfl (by kernel_rfl) (by kernel_rfl) (by kernel_rfl) (fun _ _ _ h => h) (Or.inl ⟨by rfl, ?_⟩) (by assumption) ?_
        rotate_left
        · (intro w' hSw; (try dsimp only at hSw); go_simp; try (with_reducible rfl))
        change wpAnyH _ _ _ _ _ _ _ (Act.put _ (some 60) _) _
        try simp only [Act.put, List.setIfInBounds_toArray, List.set_cons_zero, List.set_cons_succ]
        refine wpAnyH_take (i := 4) (v := ?_) rfl (by kernel_rfl) (by kernel_rfl) (by kernel_rfl) (fun _ _ _ h => h) (Or.inl ⟨by rfl, ?_⟩) (by assumption) ?_
        rotate_left
        · (intro w' hSw; (try dsimp only at hSw); go_simp; try (with_reducible rfl))
        change wpAnyH _ _ _ _ _ _ _ (Act.put _ (some 61) _) _
        try simp only [Act.put, List.setIfInBounds_toArray, List.set_cons_zero, List.set_cons_succ]
        refine wpAnyH_take (i := 5) (v := ?_) rfl (by kernel_rfl) (by kernel_rfl) (by kernel_rfl) (fun _ _ _ h => h) (Or.inl ⟨by rfl, ?_⟩) (by assumption) ?_
        rotate_left
        · (intro w' hSw; (try dsimp only at hSw); go_simp; try (with_reducible rfl))
        change wpAnyH _ _ _ _ _ _ _ (Act.put _ (some 62) _) _
        try simp only [Act.put, List.setIfInBounds_toArray, List.set_cons_zero, List.set_cons_succ]
        refine wpAnyH_ready (rs := [6]) (by kernel_rfl) (by simp) ?_
        refine AllReadyH.cons (i := 6) rfl (fun K hK => ?_) AllReadyH.nil
        simp only [List.getElem_toArray, List.getElem_cons_succ, List.getElem_cons_zero]
        rw [if_pos (by rfl)]
        go_simp
        (go_at_call 45; refine (specZeros e _ (by omega)).mono ?_; rintro e' w3 ⟨rfl, hb3⟩; have hkc := keeps_cells hb3; go_wp2_with fail)
        refine hK.out _ _ ?_ (fun hHeld => ?_)
        · (try dsimp only); simp [*]
        clear hK K
        try simp only [Act.put, List.setIfInBounds_toArray, List.set_cons_zero, List.set_cons_succ]
        refine wpAnyH_take (i := 7) (v := ?_) rfl (by kernel_rfl) (by kernel_rfl) (by kernel_rfl) (fun _ _ _ h => h) (Or.inl ⟨by rfl, ?_⟩) (by assumption) ?_
        rotate_left
        · (intro w' hSw; (try dsimp only at hSw); go_simp; try (with_reducible rfl))
        change wpAnyH _ _ _ _ _ _ _ (Act.put _ (some 64) _) _
        try simp only [Act.put, List.setIfInBounds_toArray, List.set_cons_zero, List.set_cons_succ]
        refine wpAnyH_take (i := 8) (v := ?_) rfl (by kernel_rfl) (by kernel_rfl) (by kernel_rfl) (fun _ _ _ h => h) (Or.inl ⟨by rfl, ?_⟩) (by assumption) ?_
        rotate_left
        · (intro w' hSw; (try dsimp only at hSw); go_simp; try (with_reducible rfl))
        change wpAnyH _ _ _ _ _ _ _ (Act.put _ (some 2) _) _
        try simp only [Act.put, List.setIfInBounds_toArray, List.set_cons_zero, List.set_cons_succ]
        refine wpAnyH_done (by kernel_rfl) ?_ _
        go_wp2
        go_ret
        refine ⟨end_string ?_, ?_⟩
        · first | exact HR.out.symm | (rw [HR.out]; apply ba_list; simp)
        · repeat' (first | (with_reducible exact Below.refl _ _) | (with_reducible refine ext_trans ?_ hb3) | (with_reducible refine ext_trans ?_ hb1) | (with_reducible refine ext_trans ?_ (ext_alloc _ _)) | (with_reducible refine Below.drew ?_))
      have hex' : exp < 0 := by omega
      by_cases hpp : 0 ≤ P - 1
      · obtain ⟨p, rfl⟩ := Int.eq_ofNat_of_zero_le (show 0 ≤ P by omega)
        have HR := hid (show decT ⟨false, dig, exp⟩ = ⟨#[]⟩ ++ dig.extract 0 p ++ ⟨#[46]⟩ ++ dig.extract p dig.size by unfold decT; rw [hdp, if_neg hz, if_neg (fun h => h hbig), if_neg hex, if_pos hpp]; rfl)
        have hw1 : IntKind.i64.wrap (p : Int) = (p : Int) := IntWalk.i64_in _ (by omega)
        have hp3 : (p : Int) ≤ (dig.size : Int) := by omega
        have hp4 : (0 : Int) ≤ (p : Int) := by omega
        obtain ⟨k1, k2, k3, k4, k5, k6⟩ : (¬ 9223372036854775807 < p) ∧ (¬ 9223372036854775807 < 1 + p) ∧ (¬ 9223372036854775807 < p + 1) ∧ (¬ 9223372036854775807 < 1 + p + 1) ∧ (¬ 9223372036854775807 < p + 1 + (dig.size - p)) ∧ (¬ 9223372036854775807 < 1 + p + 1 + (dig.size - p)) := ⟨by omega, by omega, by omega, by omega, by omega, by omega⟩
        have hp1 : 1 ≤ p := by omega
        have hp2 : p < dig.size := by omega
        have hx2 : (dig.extract 0 p).size = p := by rw [ByteArray.size_extract]; omega
        have hx3 : (dig.extract p dig.size).size = dig.size - p := by rw [ByteArray.size_extract]; omega
        clear hdp hbig
        go_enter Tryz.func18, Tryz.ntmps18
        go_wp2_with fail
        refine (specDecOk (d := ⟨false, dig, exp⟩) _ (by exact rdDec_mk (x := ⟨false, dig, exp⟩) hs (by first | exact he | (dsimp only; omega) | omega))).mono ?_
        rintro e w1 ⟨rfl, hb1⟩
        rw [HO.out]
        obtain ⟨hc1, hf1⟩ := bcell hb1
        have hl : w.heap.size < w1.heap.size := by have := hb1.size; (try simp at this); omega
        go_wp2_with fail
        refine (between_any _ _ _ _).mono ?_
        rintro e' w2 ⟨rfl, rfl⟩
        go_wp2_with fail
        refine wp_region_held_drew (S := fun w' => w'.cell? ⟨w.heap.size, 0, none⟩ = some (.bool false) ∧ w'.cell? ⟨w.heap.size, 1, none⟩ = some (.string dig) ∧ w'.cell? ⟨w.heap.size, 2, none⟩ = some (.int .i64 exp)) (by kernel_rfl) ?_ (fun hHeld => ?_)
        · simp [*]
        refine wpAnyH_take (i := 0) (v := ?_) rfl (by kernel_rfl) (by kernel_rfl) (by kernel_rfl) (fun _ _ _ h => h) (Or.inl ⟨by rfl, ?_⟩) (by assumption) ?_
        rotate_left
        · (intro w' hSw; (try dsimp only at hSw); go_simp; try (with_reducible rfl))
        change wpAnyH _ _ _ _ _ _ _ (Act.put _ (some 68) _) _
        try simp only [Act.put, List.setIfInBounds_toArray, List.set_cons_zero, List.set_cons_succ]
        refine wpAnyH_take (i := 1) (v := ?_) rfl (by kernel_rfl) (by kernel_rfl) (by kernel_rfl) (fun _ _ _ h => h) (Or.inl ⟨by rfl, ?_⟩) (by assumption) ?_
        rotate_left
        · (intro w' hSw; (try dsimp only at hSw); go_simp; try (with_reducible rfl))
        change wpAnyH _ _ _ _ _ _ _ (Act.put _ (some 69) _) _
        try simp only [Act.put, List.setIfInBounds_toArray, List.set_cons_zero, List.set_cons_succ]
        refine wpAnyH_take (i := 2) (v := ?_) rfl (by kernel_rfl) (by kernel_rfl) (by kernel_rfl) (fun _ _ _ h => h) (Or.inl ⟨by rfl, ?_⟩) (by assumption) ?_
        rotate_left
        · (intro w' hSw; (try dsimp only at hSw); go_simp; try (with_reducible rfl))
        change wpAnyH _ _ _ _ _ _ _ (Act.put _ (some 70) _) _
        try simp only [Act.put, List.setIfInBounds_toArray, List.set_cons_zero, List.set_cons_succ]
        refine wpAnyH_take (i := 3) (v := ?_) rfl (by kernel_rfl) (by kernel_rfl) (by kernel_rfl) (fun _ _ _ h => h) (Or.inl ⟨by rfl, ?_⟩) (by assumption) ?_
        rotate_left
        · (intro w' hSw; (try dsimp only at hSw); go_simp; try (with_reducible rfl))
        change wpAnyH _ _ _ _ _ _ _ (Act.put _ (some 71) _) _
        try simp only [Act.put, List.setIfInBounds_toArray, List.set_cons_zero, List.set_cons_succ]
        refine wpAnyH_take (i := 4) (v := ?_) rfl (by kernel_rfl) (by kernel_rfl) (by kernel_rfl) (fun _ _ _ h => h) (Or.inl ⟨by rfl, ?_⟩) (by assumption) ?_
        rotate_left
        · (intro w' hSw; (try dsimp only at hSw); go_simp; try (with_reducible rfl))
        change wpAnyH _ _ _ _ _ _ _ (Act.put _ (some 72) _) _
        try simp only [Act.put, List.setIfInBounds_toArray, List.set_cons_zero, List.set_cons_succ]
        refine wpAnyH_take (i := 5) (v := ?_) rfl (by kernel_rfl) (by kernel_rfl) (by kernel_rfl) (fun _ _ _ h => h) (Or.inl ⟨by rfl, ?_⟩) (by assumption) ?_
        rotate_left
        · (intro w' hSw; (try dsimp only at hSw); go_simp; try (with_reducible rfl))
        change wpAnyH _ _ _ _ _ _ _ (Act.put _ (some 73) _) _
        try simp only [Act.put, List.setIfInBounds_toArray, List.set_cons_zero, List.set_cons_succ]
        refine wpAnyH_take (i := 6) (v := ?_) rfl (by kernel_rfl) (by kernel_rfl) (by kernel_rfl) (fun _ _ _ h => h) (Or.inl ⟨by rfl, ?_⟩) (by assumption) ?_
        rotate_left
        · (intro w' hSw; (try dsimp only at hSw); go_simp; try (with_reducible rfl))
        change wpAnyH _ _ _ _ _ _ _ (Act.put _ (some 74) _) _
        try simp only [Act.put, List.setIfInBounds_toArray, List.set_cons_zero, List.set_cons_succ]
        refine wpAnyH_take (i := 7) (v := ?_) rfl (by kernel_rfl) (by kernel_rfl) (by kernel_rfl) (fun _ _ _ h => h) (Or.inl ⟨by rfl, ?_⟩) (by assumption) ?_
        rotate_left
        · (intro w' hSw; (try dsimp only at hSw); go_simp; try (with_reducible rfl))
        change wpAnyH _ _ _ _ _ _ _ (Act.put _ (some 75) _) _
        try simp only [Act.put, List.setIfInBounds_toArray, List.set_cons_zero, List.set_cons_succ]
        refine wpAnyH_take (i := 8) (v := ?_) rfl (by kernel_rfl) (by kernel_rfl) (by kernel_rfl) (fun _ _ _ h => h) (Or.inl ⟨by rfl, ?_⟩) (by assumption) ?_
        rotate_left
        · (intro w' hSw; (try dsimp only at hSw); go_simp; try (with_reducible rfl))
        change wpAnyH _ _ _ _ _ _ _ (Act.put _ (some 76) _) _
        try simp only [Act.put, List.setIfInBounds_toArray, List.set_cons_zero, List.set_cons_succ]
        refine wpAnyH_take (i := 9) (v := ?_) rfl (by kernel_rfl) (by kernel_rfl) (by kernel_rfl) (fun _ _ _ h => h) (Or.inl ⟨by rfl, ?_⟩) (by assumption) ?_
        rotate_left
        · (intro w' hSw; (try dsimp only at hSw); go_simp; try (with_reducible rfl))
        change wpAnyH _ _ _ _ _ _ _ (Act.put _ (some 77) _) _
        try simp only [Act.put, List.setIfInBounds_toArray, List.set_cons_zero, List.set_cons_succ]
        refine wpAnyH_take (i := 10) (v := ?_) rfl (by kernel_rfl) (by kernel_rfl) (by kernel_rfl) (fun _ _ _ h => h) (Or.inl ⟨by rfl, ?_⟩) (by assumption) ?_
        rotate_left
        · (intro w' hSw; (try dsimp only at hSw); go_simp; try (with_reducible rfl))
        change wpAnyH _ _ _ _ _ _ _ (Act.put _ (some 78) _) _
        try simp only [Act.put, List.setIfInBounds_toArray, List.set_cons_zero, List.set_cons_succ]
        refine wpAnyH_take (i := 11) (v := ?_) rfl (by kernel_rfl) (by kernel_rfl) (by kernel_rfl) (fun _ _ _ h => h) (Or.inl ⟨by rfl, ?_⟩) (by assumption) ?_
        rotate_left
        · (intro w' hSw; (try dsimp only at hSw); go_simp; try (with_reducible rfl))
        change wpAnyH _ _ _ _ _ _ _ (Act.put _ (some 79) _) _
        try simp only [Act.put, List.setIfInBounds_toArray, List.set_cons_zero, List.set_cons_succ]
        refine wpAnyH_take (i := 12) (v := ?_) rfl (by kernel_rfl) (by kernel_rfl) (by kernel_rfl) (fun _ _ _ h => h) (Or.inl ⟨by rfl, ?_⟩) (by assumption) ?_
        rotate_left
        · (intro w' hSw; (try dsimp only at hSw); go_simp; try (with_reducible rfl))
        change wpAnyH _ _ _ _ _ _ _ (Act.put _ (some 80) _) _
        try simp only [Act.put, List.setIfInBounds_toArray, List.set_cons_zero, List.set_cons_succ]
        refine wpAnyH_take (i := 13) (v := ?_) rfl (by kernel_rfl) (by kernel_rfl) (by kernel_rfl) (fun _ _ _ h => h) (Or.inl ⟨by rfl, ?_⟩) (by assumption) ?_
        rotate_left
        · (intro w' hSw; (try dsimp only at hSw); go_simp; try (with_reducible rfl))
        change wpAnyH _ _ _ _ _ _ _ (Act.put _ (some 81) _) _
        try simp only [Act.put, List.setIfInBounds_toArray, List.set_cons_zero, List.set_cons_succ]
        refine wpAnyH_take (i := 14) (v := ?_) rfl (by kernel_rfl) (by kernel_rfl) (by kernel_rfl) (fun _ _ _ h => h) (Or.inl ⟨by rfl, ?_⟩) (by assumption) ?_
        rotate_left
        · (intro w' hSw; (try dsimp only at hSw); go_simp; try (with_reducible rfl))
        change wpAnyH _ _ _ _ _ _ _ (Act.put _ (some 2) _) _
        try simp only [Act.put, List.setIfInBounds_toArray, List.set_cons_zero, List.set_cons_succ]
        refine wpAnyH_done (by kernel_rfl) ?_ _
        go_wp2
        go_ret
        refine ⟨end_string ?_, ?_⟩
        · first | exact HR.out.symm | (rw [HR.out]; apply ba_list; simp)
        · repeat' (first | (with_reducible exact Below.refl _ _) | (with_reducible refine ext_trans ?_ hb3) | (with_reducible refine ext_trans ?_ hb1) | (with_reducible refine ext_trans ?_ (ext_alloc _ _)) | (with_reducible refine Below.drew ?_))
      · obtain ⟨z, hz1⟩ : ∃ z : Nat, P = -(z : Int) := ⟨(-P).toNat, by omega⟩
        subst hz1
        have HR := hid (show decT ⟨false, dig, exp⟩ = ⟨#[]⟩ ++ ⟨#[48, 46]⟩ ++ zeroB z ++ dig by unfold decT; rw [hdp, if_neg hz, if_neg (fun h => h hbig), if_neg hex, if_neg hpp, show (- -(z : Int)).toNat = z by omega]; rfl)
        have he2 : z ≤ 1000 := by omega
        have hzz := zeroB_size z
        have hw1 : IntKind.i64.wrap (-(-(z : Int) - 1)) = (z : Int) + 1 := by rw [show -(-(z : Int) - 1) = (z : Int) + 1 by omega]; exact IntWalk.i64_in _ (by omega)
        have hw2 : IntKind.i64.wrap (z : Int) = (z : Int) := IntWalk.i64_in _ (by omega)
        obtain ⟨k1, k2, k3, k4⟩ : (¬ 9223372036854775807 < 2 + z) ∧ (¬ 9223372036854775807 < 1 + 2 + z) ∧ (¬ 9223372036854775807 < 2 + z + dig.size) ∧ (¬ 9223372036854775807 < 1 + 2 + z + dig.size) := ⟨by omega, by omega, by omega, by omega⟩
        obtain ⟨k5, k6⟩ : (¬ 9223372036854775807 < 3 + z) ∧ (¬ 9223372036854775807 < 3 + z + dig.size) := ⟨by omega, by omega⟩
        clear hdp hbig
        go_enter Tryz.func18, Tryz.ntmps18
        go_wp2_with fail
        refine (specDecOk (d := ⟨false, dig, exp⟩) _ (by exact rdDec_mk (x := ⟨false, dig, exp⟩) hs (by first | exact he | (dsimp only; omega) | omega))).mono ?_
        rintro e w1 ⟨rfl, hb1⟩
        rw [HO.out]
        obtain ⟨hc1, hf1⟩ := bcell hb1
        have hl : w.heap.size < w1.heap.size := by have := hb1.size; (try simp at this); omega
        go_wp2_with fail
        refine (between_any _ _ _ _).mono ?_
        rintro e' w2 ⟨rfl, rfl⟩
        go_wp2_with fail
        refine wp_region_held_drew (S := fun w' => w'.cell? ⟨w.heap.size, 0, none⟩ = some (.bool false) ∧ w'.cell? ⟨w.heap.size, 1, none⟩ = some (.string dig) ∧ w'.cell? ⟨w.heap.size, 2, none⟩ = some (.int .i64 exp)) (by kernel_rfl) ?_ (fun hHeld => ?_)
        · simp [*]
        refine wpAnyH_take (i := 0) (v := ?_) rfl (by kernel_rfl) (by kernel_rfl) (by kernel_rfl) (fun _ _ _ h => h) (Or.inl ⟨by rfl, ?_⟩) (by assumption) ?_
        rotate_left
        · (intro w' hSw; (try dsimp only at hSw); go_simp; try (with_reducible rfl))
        change wpAnyH _ _ _ _ _ _ _ (Act.put _ (some 82) _) _
        try simp only [Act.put, List.setIfInBounds_toArray, List.set_cons_zero, List.set_cons_succ]
        refine wpAnyH_take (i := 1) (v := ?_) rfl (by kernel_rfl) (by kernel_rfl) (by kernel_rfl) (fun _ _ _ h => h) (Or.inl ⟨by rfl, ?_⟩) (by assumption) ?_
        rotate_left
        · (intro w' hSw; (try dsimp only at hSw); go_simp; try (with_reducible rfl))
        change wpAnyH _ _ _ _ _ _ _ (Act.put _ (some 83) _) _
        try simp only [Act.put, List.setIfInBounds_toArray, List.set_cons_zero, List.set_cons_succ]
        refine wpAnyH_take (i := 2) (v := ?_) rfl (by kernel_rfl) (by kernel_rfl) (by kernel_rfl) (fun _ _ _ h => h) (Or.inl ⟨by rfl, ?_⟩) (by assumption) ?_
        rotate_left
        · (intro w' hSw; (try dsimp only at hSw); go_simp; try (with_reducible rfl))
        change wpAnyH _ _ _ _ _ _ _ (Act.put _ (some 84) _) _
        try simp only [Act.put, List.setIfInBounds_toArray, List.set_cons_zero, List.set_cons_succ]
        refine wpAnyH_take (i := 3) (v := ?_) rfl (by kernel_rfl) (by kernel_rfl) (by kernel_rfl) (fun _ _ _ h => h) (Or.inl ⟨by rfl, ?_⟩) (by assumption) ?_
        rotate_left
        · (intro w' hSw; (try dsimp only at hSw); go_simp; try (with_reducible rfl))
        change wpAnyH _ _ _ _ _ _ _ (Act.put _ (some 85) _) _
        try simp only [Act.put, List.setIfInBounds_toArray, List.set_cons_zero, List.set_cons_succ]
        refine wpAnyH_take (i := 4) (v := ?_) rfl (by kernel_rfl) (by kernel_rfl) (by kernel_rfl) (fun _ _ _ h => h) (Or.inl ⟨by rfl, ?_⟩) (by assumption) ?_
        rotate_left
        · (intro w' hSw; (try dsimp only at hSw); go_simp; try (with_reducible rfl))
        change wpAnyH _ _ _ _ _ _ _ (Act.put _ (some 86) _) _
        try simp only [Act.put, List.setIfInBounds_toArray, List.set_cons_zero, List.set_cons_succ]
        refine wpAnyH_take (i := 7) (v := ?_) rfl (by kernel_rfl) (by kernel_rfl) (by kernel_rfl) (fun _ _ _ h => h) (Or.inl ⟨by rfl, ?_⟩) (by assumption) ?_
        rotate_left
        · (intro w' hSw; (try dsimp only at hSw); go_simp; try (with_reducible rfl))
        change wpAnyH _ _ _ _ _ _ _ (Act.put _ (some 89) _) _
        try simp only [Act.put, List.setIfInBounds_toArray, List.set_cons_zero, List.set_cons_succ]
        refine wpAnyH_take (i := 8) (v := ?_) rfl (by kernel_rfl) (by kernel_rfl) (by kernel_rfl) (fun _ _ _ h => h) (Or.inl ⟨by rfl, ?_⟩) (by assumption) ?_
        rotate_left
        · (intro w' hSw; (try dsimp only at hSw); go_simp; try (with_reducible rfl))
        change wpAnyH _ _ _ _ _ _ _ (Act.put _ (some 90) _) _
        try simp only [Act.put, List.setIfInBounds_toArray, List.set_cons_zero, List.set_cons_succ]
        refine wpAnyH_ready (rs := [5]) (by kernel_rfl) (by simp) ?_
        refine AllReadyH.cons (i := 5) rfl (fun K hK => ?_) AllReadyH.nil
        simp only [List.getElem_toArray, List.getElem_cons_succ, List.getElem_cons_zero]
        rw [if_pos (by rfl)]
        go_simp
        (go_at_call 45; refine (specZeros z _ (by omega)).mono ?_; rintro e' w3 ⟨rfl, hb3⟩; have hkc := keeps_cells hb3; go_wp2_with fail)
        refine hK.out _ _ ?_ (fun hHeld => ?_)
        · (try dsimp only); simp [*]
        clear hK K
        try simp only [Act.put, List.setIfInBounds_toArray, List.set_cons_zero, List.set_cons_succ]
        refine wpAnyH_take (i := 6) (v := ?_) rfl (by kernel_rfl) (by kernel_rfl) (by kernel_rfl) (fun _ _ _ h => h) (Or.inl ⟨by rfl, ?_⟩) (by assumption) ?_
        rotate_left
        · (intro w' hSw; (try dsimp only at hSw); go_simp; try (with_reducible rfl))
        change wpAnyH _ _ _ _ _ _ _ (Act.put _ (some 88) _) _
        try simp only [Act.put, List.setIfInBounds_toArray, List.set_cons_zero, List.set_cons_succ]
        refine wpAnyH_take (i := 9) (v := ?_) rfl (by kernel_rfl) (by kernel_rfl) (by kernel_rfl) (fun _ _ _ h => h) (Or.inl ⟨by rfl, ?_⟩) (by assumption) ?_
        rotate_left
        · (intro w' hSw; (try dsimp only at hSw); go_simp; try (with_reducible rfl))
        change wpAnyH _ _ _ _ _ _ _ (Act.put _ (some 91) _) _
        try simp only [Act.put, List.setIfInBounds_toArray, List.set_cons_zero, List.set_cons_succ]
        refine wpAnyH_take (i := 10) (v := ?_) rfl (by kernel_rfl) (by kernel_rfl) (by kernel_rfl) (fun _ _ _ h => h) (Or.inl ⟨by rfl, ?_⟩) (by assumption) ?_
        rotate_left
        · (intro w' hSw; (try dsimp only at hSw); go_simp; try (with_reducible rfl))
        change wpAnyH _ _ _ _ _ _ _ (Act.put _ (some 2) _) _
        try simp only [Act.put, List.setIfInBounds_toArray, List.set_cons_zero, List.set_cons_succ]
        refine wpAnyH_done (by kernel_rfl) ?_ _
        go_wp2
        go_ret
        refine ⟨end_string ?_, ?_⟩
        · first | exact HR.out.symm | (rw [HR.out]; apply ba_list; simp)
        · repeat' (first | (with_reducible exact Below.refl _ _) | (with_reducible refine ext_trans ?_ hb3) | (with_reducible refine ext_trans ?_ hb1) | (with_reducible refine ext_trans ?_ (ext_alloc _ _)) | (with_reducible refine Below.drew ?_))
  · obtain ⟨P, hP0⟩ : ∃ P : Int, exp + (dig.size : Int) = P := ⟨_, rfl⟩
    have hdp : decP ⟨true, dig, exp⟩ = P := hP0
    have hPb : -98 ≤ P ∧ P ≤ 100 := by omega
    by_cases hbig : -7 ≤ P - 1 ∧ P - 1 ≤ 20
    rotate_left
    · have hin := inB_false hbig
      by_cases hone : 1 < dig.size
      · by_cases hneg : P - 1 < 0
        · have HR := hid (show decT ⟨true, dig, exp⟩ = (⟨#[45]⟩ ++ dig.extract 0 1 ++ ⟨#[46]⟩ ++ dig.extract 1 dig.size) ++ (⟨#[101, 45]⟩ ++ numB (-(P - 1))) by unfold decT; rw [hdp, if_neg hz, if_pos hbig, if_pos hone, if_pos hneg]; rfl)
          have hx2 : (dig.extract 1 dig.size).size = dig.size - 1 := by rw [ByteArray.size_extract]; omega
          clear hbig hdp
          go_enter Tryz.func18, Tryz.ntmps18
          go_wp2_with fail
          refine (specDecOk (d := ⟨true, dig, exp⟩) _ (by exact rdDec_mk (x := ⟨true, dig, exp⟩) hs (by first | exact he | (dsimp only; omega) | omega))).mono ?_
          rintro e w1 ⟨rfl, hb1⟩
          rw [HO.out]
          obtain ⟨hc1, hf1⟩ := bcell hb1
          have hl : w.heap.size < w1.heap.size := by have := hb1.size; (try simp at this); omega
          go_wp2_with fail
          refine (between_any _ _ _ _).mono ?_
          rintro e' w2 ⟨rfl, rfl⟩
          go_wp2_with fail
          refine (specNumText _ _ (by omega)).mono ?_
          rintro e w3 ⟨rfl, hb3⟩
          have hns := numB_size (n := -(P - 1)) (by omega)
          go_wp2
          go_ret
          refine ⟨end_string ?_, ?_⟩
          · first | exact HR.out.symm | (rw [HR.out]; apply ba_list; simp)
          · repeat' (first | (with_reducible exact Below.refl _ _) | (with_reducible refine ext_trans ?_ hb3) | (with_reducible refine ext_trans ?_ hb1) | (with_reducible refine ext_trans ?_ (ext_alloc _ _)) | (with_reducible refine Below.drew ?_))
        · have HR := hid (show decT ⟨true, dig, exp⟩ = (⟨#[45]⟩ ++ dig.extract 0 1 ++ ⟨#[46]⟩ ++ dig.extract 1 dig.size) ++ (⟨#[101, 43]⟩ ++ numB (P - 1)) by unfold decT; rw [hdp, if_neg hz, if_pos hbig, if_pos hone, if_neg hneg]; rfl)
          have hx2 : (dig.extract 1 dig.size).size = dig.size - 1 := by rw [ByteArray.size_extract]; omega
          have hm1 : 0 < P - 1 := by omega
          have hm2 : 1 < P := by omega
          have hm3 : ¬ P - 1 ≤ 0 := by omega
          clear hbig hdp
          go_enter Tryz.func18, Tryz.ntmps18
          go_wp2_with fail
          refine (specDecOk (d := ⟨true, dig, exp⟩) _ (by exact rdDec_mk (x := ⟨true, dig, exp⟩) hs (by first | exact he | (dsimp only; omega) | omega))).mono ?_
          rintro e w1 ⟨rfl, hb1⟩
          rw [HO.out]
          obtain ⟨hc1, hf1⟩ := bcell hb1
          have hl : w.heap.size < w1.heap.size := by have := hb1.size; (try simp at this); omega
          go_wp2_with fail
          refine (between_any _ _ _ _).mono ?_
          rintro e' w2 ⟨rfl, rfl⟩
          go_wp2_with fail
          refine (specNumText _ _ (by omega)).mono ?_
          rintro e w3 ⟨rfl, hb3⟩
          have hns := numB_size (n := P - 1) (by omega)
          go_wp2
          go_ret
          refine ⟨end_string ?_, ?_⟩
          · first | exact HR.out.symm | (rw [HR.out]; apply ba_list; simp)
          · repeat' (first | (with_reducible exact Below.refl _ _) | (with_reducible refine ext_trans ?_ hb3) | (with_reducible refine ext_trans ?_ hb1) | (with_reducible refine ext_trans ?_ (ext_alloc _ _)) | (with_reducible refine Below.drew ?_))
      · by_cases hneg : P - 1 < 0
        · have HR := hid (show decT ⟨true, dig, exp⟩ = (⟨#[45]⟩ ++ dig.extract 0 1) ++ (⟨#[101, 45]⟩ ++ numB (-(P - 1))) by unfold decT; rw [hdp, if_neg hz, if_pos hbig, if_neg hone, if_pos hneg]; rfl)
          have hx2 : (dig.extract 1 dig.size).size = dig.size - 1 := by rw [ByteArray.size_extract]; omega
          clear hbig hdp
          go_enter Tryz.func18, Tryz.ntmps18
          go_wp2_with fail
          refine (specDecOk (d := ⟨true, dig, exp⟩) _ (by exact rdDec_mk (x := ⟨true, dig, exp⟩) hs (by first | exact he | (dsimp only; omega) | omega))).mono ?_
          rintro e w1 ⟨rfl, hb1⟩
          rw [HO.out]
          obtain ⟨hc1, hf1⟩ := bcell hb1
          have hl : w.heap.size < w1.heap.size := by have := hb1.size; (try simp at this); omega
          go_wp2_with fail
          refine (between_any _ _ _ _).mono ?_
          rintro e' w2 ⟨rfl, rfl⟩
          go_wp2_with fail
          refine (specNumText _ _ (by omega)).mono ?_
          rintro e w3 ⟨rfl, hb3⟩
          have hns := numB_size (n := -(P - 1)) (by omega)
          go_wp2
          go_ret
          refine ⟨end_string ?_, ?_⟩
          · first | exact HR.out.symm | (rw [HR.out]; apply ba_list; simp)
          · repeat' (first | (with_reducible exact Below.refl _ _) | (with_reducible refine ext_trans ?_ hb3) | (with_reducible refine ext_trans ?_ hb1) | (with_reducible refine ext_trans ?_ (ext_alloc _ _)) | (with_reducible refine Below.drew ?_))
        · have HR := hid (show decT ⟨true, dig, exp⟩ = (⟨#[45]⟩ ++ dig.extract 0 1) ++ (⟨#[101, 43]⟩ ++ numB (P - 1)) by unfold decT; rw [hdp, if_neg hz, if_pos hbig, if_neg hone, if_neg hneg]; rfl)
          have hx2 : (dig.extract 1 dig.size).size = dig.size - 1 := by rw [ByteArray.size_extract]; omega
          have hm1 : 0 < P - 1 := by omega
          have hm2 : 1 < P := by omega
          have hm3 : ¬ P - 1 ≤ 0 := by omega
          clear hbig hdp
          go_enter Tryz.func18, Tryz.ntmps18
          go_wp2_with fail
          refine (specDecOk (d := ⟨true, dig, exp⟩) _ (by exact rdDec_mk (x := ⟨true, dig, exp⟩) hs (by first | exact he | (dsimp only; omega) | omega))).mono ?_
          rintro e w1 ⟨rfl, hb1⟩
          rw [HO.out]
          obtain ⟨hc1, hf1⟩ := bcell hb1
          have hl : w.heap.size < w1.heap.size := by have := hb1.size; (try simp at this); omega
          go_wp2_with fail
          refine (between_any _ _ _ _).mono ?_
          rintro e' w2 ⟨rfl, rfl⟩
          go_wp2_with fail
          refine (specNumText _ _ (by omega)).mono ?_
          rintro e w3 ⟨rfl, hb3⟩
          have hns := numB_size (n := P - 1) (by omega)
          go_wp2
          go_ret
          refine ⟨end_string ?_, ?_⟩
          · first | exact HR.out.symm | (rw [HR.out]; apply ba_list; simp)
          · repeat' (first | (with_reducible exact Below.refl _ _) | (with_reducible refine ext_trans ?_ hb3) | (with_reducible refine ext_trans ?_ hb1) | (with_reducible refine ext_trans ?_ (ext_alloc _ _)) | (with_reducible refine Below.drew ?_))
    · have hin := inB_true hbig
      by_cases hex : 0 ≤ exp
      · obtain ⟨e, rfl⟩ := Int.eq_ofNat_of_zero_le hex
        have HR := hid (show decT ⟨true, dig, (e : Int)⟩ = ⟨#[45]⟩ ++ dig ++ zeroB e by unfold decT; rw [hdp, if_neg hz, if_neg (fun h => h hbig), if_pos hex]; rfl)
        have he2 : e ≤ 1000 := by omega
        have hzz := zeroB_size e
        obtain ⟨k1, k2, k3, k4⟩ : (¬ 9223372036854775807 < dig.size) ∧ (¬ 9223372036854775807 < 1 + dig.size) ∧ (¬ 9223372036854775807 < dig.size + e) ∧ (¬ 9223372036854775807 < 1 + dig.size + e) := ⟨by omega, by omega, by omega, by omega⟩
        have k5 : ¬ 9223372036854775807 < 1 + (dig.size + e) := by omega
        go_enter Tryz.func18, Tryz.ntmps18
        go_wp2_with fail
        refine (specDecOk (d := ⟨true, dig, (e : Int)⟩) _ (by exact rdDec_mk (x := ⟨true, dig, (e : Int)⟩) hs (by first | exact he | (dsimp only; omega) | omega))).mono ?_
        rintro e w1 ⟨rfl, hb1⟩
        rw [HO.out]
        obtain ⟨hc1, hf1⟩ := bcell hb1
        have hl : w.heap.size < w1.heap.size := by have := hb1.size; (try simp at this); omega
        clear hdp hbig
        go_wp2_with fail
        refine (between_any _ _ _ _).mono ?_
        rintro e' w2 ⟨rfl, rfl⟩
        go_wp2_with fail
        refine wp_region_held_drew (S := fun w' => w'.cell? ⟨w.heap.size, 0, none⟩ = some (.bool true) ∧ w'.cell? ⟨w.heap.size, 1, none⟩ = some (.string dig) ∧ w'.cell? ⟨w.heap.size, 2, none⟩ = some (.int .i64 (e : Int))) (by kernel_rfl) ?_ (fun hHeld => ?_)
        · simp [*]
        refine wpAnyH_take (i := 0) (v := ?_) rfl (by kernel_rfl) (by kernel_rfl) (by kernel_rfl) (fun _ _ _ h => h) (Or.inl ⟨by rfl, ?_⟩) (by assumption) ?_
        rotate_left
        · (intro w' hSw; (try dsimp only at hSw); go_simp; try (with_reducible rfl))
        change wpAnyH _ _ _ _ _ _ _ (Act.put _ (some 57) _) _
        try simp only [Act.put, List.setIfInBounds_toArray, List.set_cons_zero, List.set_cons_succ]
        refine wpAnyH_take (i := 1) (v := ?_) rfl (by kernel_rfl) (by kernel_rfl) (by kernel_rfl) (fun _ _ _ h => h) (Or.inl ⟨by rfl, ?_⟩) (by assumption) ?_
        rotate_left
        · (intro w' hSw; (try dsimp only at hSw); go_simp; try (with_reducible rfl))
        change wpAnyH _ _ _ _ _ _ _ (Act.put _ (some 58) _) _
        try simp only [Act.put, List.setIfInBounds_toArray, List.set_cons_zero, List.set_cons_succ]
        refine wpAnyH_take (i := 2) (v := ?_) rfl (by kernel_rfl) (by kernel_rfl) (by kernel_rfl) (fun _ _ _ h => h) (Or.inl ⟨by rfl, ?_⟩) (by assumption) ?_
        rotate_left
        · (intro w' hSw; (try dsimp only at hSw); go_simp; try (with_reducible rfl))
        change wpAnyH _ _ _ _ _ _ _ (Act.put _ (some 59) _) _
        try simp only [Act.put, List.setIfInBounds_toArray, List.set_cons_zero, List.set_cons_succ]
        refine wpAnyH_take (i := 3) (v := ?_) rfl (by kernel_rfl) (by kernel_rfl) (by kernel_rfl) (fun _ _ _ h => h) (Or.inl ⟨by rfl, ?_⟩) (by assumption) ?_
        rotate_left
        · (intro w' hSw; (try dsimp only at hSw); go_simp; try (with_reducible rfl))
        change wpAnyH _ _ _ _ _ _ _ (Act.put _ (some 60) _) _
        try simp only [Act.put, List.setIfInBounds_toArray, List.set_cons_zero, List.set_cons_succ]
        refine wpAnyH_take (i := 4) (v := ?_) rfl (by kernel_rfl) (by kernel_rfl) (by kernel_rfl) (fun _ _ _ h => h) (Or.inl ⟨by rfl, ?_⟩) (by assumption) ?_
        rotate_left
        · (intro w' hSw; (try dsimp only at hSw); go_simp; try (with_reducible rfl))
        change wpAnyH _ _ _ _ _ _ _ (Act.put _ (some 61) _) _
        try simp only [Act.put, List.setIfInBounds_toArray, List.set_cons_zero, List.set_cons_succ]
        refine wpAnyH_take (i := 5) (v := ?_) rfl (by kernel_rfl) (by kernel_rfl) (by kernel_rfl) (fun _ _ _ h => h) (Or.inl ⟨by rfl, ?_⟩) (by assumption) ?_
        rotate_left
        · (intro w' hSw; (try dsimp only at hSw); go_simp; try (with_reducible rfl))
        change wpAnyH _ _ _ _ _ _ _ (Act.put _ (some 62) _) _
        try simp only [Act.put, List.setIfInBounds_toArray, List.set_cons_zero, List.set_cons_succ]
        refine wpAnyH_ready (rs := [6]) (by kernel_rfl) (by simp) ?_
        refine AllReadyH.cons (i := 6) rfl (fun K hK => ?_) AllReadyH.nil
        simp only [List.getElem_toArray, List.getElem_cons_succ, List.getElem_cons_zero]
        rw [if_pos (by rfl)]
        go_simp
        (go_at_call 45; refine (specZeros e _ (by omega)).mono ?_; rintro e' w3 ⟨rfl, hb3⟩; have hkc := keeps_cells hb3; go_wp2_with fail)
        refine hK.out _ _ ?_ (fun hHeld => ?_)
        · (try dsimp only); simp [*]
        clear hK K
        try simp only [Act.put, List.setIfInBounds_toArray, List.set_cons_zero, List.set_cons_succ]
        refine wpAnyH_take (i := 7) (v := ?_) rfl (by kernel_rfl) (by kernel_rfl) (by kernel_rfl) (fun _ _ _ h => h) (Or.inl ⟨by rfl, ?_⟩) (by assumption) ?_
        rotate_left
        · (intro w' hSw; (try dsimp only at hSw); go_simp; try (with_reducible rfl))
        change wpAnyH _ _ _ _ _ _ _ (Act.put _ (some 64) _) _
        try simp only [Act.put, List.setIfInBounds_toArray, List.set_cons_zero, List.set_cons_succ]
        refine wpAnyH_take (i := 8) (v := ?_) rfl (by kernel_rfl) (by kernel_rfl) (by kernel_rfl) (fun _ _ _ h => h) (Or.inl ⟨by rfl, ?_⟩) (by assumption) ?_
        rotate_left
        · (intro w' hSw; (try dsimp only at hSw); go_simp; try (with_reducible rfl))
        change wpAnyH _ _ _ _ _ _ _ (Act.put _ (some 2) _) _
        try simp only [Act.put, List.setIfInBounds_toArray, List.set_cons_zero, List.set_cons_succ]
        refine wpAnyH_done (by kernel_rfl) ?_ _
        go_wp2
        go_ret
        refine ⟨end_string ?_, ?_⟩
        · first | exact HR.out.symm | (rw [HR.out]; apply ba_list; simp)
        · repeat' (first | (with_reducible exact Below.refl _ _) | (with_reducible refine ext_trans ?_ hb3) | (with_reducible refine ext_trans ?_ hb1) | (with_reducible refine ext_trans ?_ (ext_alloc _ _)) | (with_reducible refine Below.drew ?_))
      have hex' : exp < 0 := by omega
      by_cases hpp : 0 ≤ P - 1
      · obtain ⟨p, rfl⟩ := Int.eq_ofNat_of_zero_le (show 0 ≤ P by omega)
        have HR := hid (show decT ⟨true, dig, exp⟩ = ⟨#[45]⟩ ++ dig.extract 0 p ++ ⟨#[46]⟩ ++ dig.extract p dig.size by unfold decT; rw [hdp, if_neg hz, if_neg (fun h => h hbig), if_neg hex, if_pos hpp]; rfl)
        have hw1 : IntKind.i64.wrap (p : Int) = (p : Int) := IntWalk.i64_in _ (by omega)
        have hp3 : (p : Int) ≤ (dig.size : Int) := by omega
        have hp4 : (0 : Int) ≤ (p : Int) := by omega
        obtain ⟨k1, k2, k3, k4, k5, k6⟩ : (¬ 9223372036854775807 < p) ∧ (¬ 9223372036854775807 < 1 + p) ∧ (¬ 9223372036854775807 < p + 1) ∧ (¬ 9223372036854775807 < 1 + p + 1) ∧ (¬ 9223372036854775807 < p + 1 + (dig.size - p)) ∧ (¬ 9223372036854775807 < 1 + p + 1 + (dig.size - p)) := ⟨by omega, by omega, by omega, by omega, by omega, by omega⟩
        have hp1 : 1 ≤ p := by omega
        have hp2 : p < dig.size := by omega
        have hx2 : (dig.extract 0 p).size = p := by rw [ByteArray.size_extract]; omega
        have hx3 : (dig.extract p dig.size).size = dig.size - p := by rw [ByteArray.size_extract]; omega
        clear hdp hbig
        go_enter Tryz.func18, Tryz.ntmps18
        go_wp2_with fail
        refine (specDecOk (d := ⟨true, dig, exp⟩) _ (by exact rdDec_mk (x := ⟨true, dig, exp⟩) hs (by first | exact he | (dsimp only; omega) | omega))).mono ?_
        rintro e w1 ⟨rfl, hb1⟩
        rw [HO.out]
        obtain ⟨hc1, hf1⟩ := bcell hb1
        have hl : w.heap.size < w1.heap.size := by have := hb1.size; (try simp at this); omega
        go_wp2_with fail
        refine (between_any _ _ _ _).mono ?_
        rintro e' w2 ⟨rfl, rfl⟩
        go_wp2_with fail
        refine wp_region_held_drew (S := fun w' => w'.cell? ⟨w.heap.size, 0, none⟩ = some (.bool true) ∧ w'.cell? ⟨w.heap.size, 1, none⟩ = some (.string dig) ∧ w'.cell? ⟨w.heap.size, 2, none⟩ = some (.int .i64 exp)) (by kernel_rfl) ?_ (fun hHeld => ?_)
        · simp [*]
        refine wpAnyH_take (i := 0) (v := ?_) rfl (by kernel_rfl) (by kernel_rfl) (by kernel_rfl) (fun _ _ _ h => h) (Or.inl ⟨by rfl, ?_⟩) (by assumption) ?_
        rotate_left
        · (intro w' hSw; (try dsimp only at hSw); go_simp; try (with_reducible rfl))
        change wpAnyH _ _ _ _ _ _ _ (Act.put _ (some 68) _) _
        try simp only [Act.put, List.setIfInBounds_toArray, List.set_cons_zero, List.set_cons_succ]
        refine wpAnyH_take (i := 1) (v := ?_) rfl (by kernel_rfl) (by kernel_rfl) (by kernel_rfl) (fun _ _ _ h => h) (Or.inl ⟨by rfl, ?_⟩) (by assumption) ?_
        rotate_left
        · (intro w' hSw; (try dsimp only at hSw); go_simp; try (with_reducible rfl))
        change wpAnyH _ _ _ _ _ _ _ (Act.put _ (some 69) _) _
        try simp only [Act.put, List.setIfInBounds_toArray, List.set_cons_zero, List.set_cons_succ]
        refine wpAnyH_take (i := 2) (v := ?_) rfl (by kernel_rfl) (by kernel_rfl) (by kernel_rfl) (fun _ _ _ h => h) (Or.inl ⟨by rfl, ?_⟩) (by assumption) ?_
        rotate_left
        · (intro w' hSw; (try dsimp only at hSw); go_simp; try (with_reducible rfl))
        change wpAnyH _ _ _ _ _ _ _ (Act.put _ (some 70) _) _
        try simp only [Act.put, List.setIfInBounds_toArray, List.set_cons_zero, List.set_cons_succ]
        refine wpAnyH_take (i := 3) (v := ?_) rfl (by kernel_rfl) (by kernel_rfl) (by kernel_rfl) (fun _ _ _ h => h) (Or.inl ⟨by rfl, ?_⟩) (by assumption) ?_
        rotate_left
        · (intro w' hSw; (try dsimp only at hSw); go_simp; try (with_reducible rfl))
        change wpAnyH _ _ _ _ _ _ _ (Act.put _ (some 71) _) _
        try simp only [Act.put, List.setIfInBounds_toArray, List.set_cons_zero, List.set_cons_succ]
        refine wpAnyH_take (i := 4) (v := ?_) rfl (by kernel_rfl) (by kernel_rfl) (by kernel_rfl) (fun _ _ _ h => h) (Or.inl ⟨by rfl, ?_⟩) (by assumption) ?_
        rotate_left
        · (intro w' hSw; (try dsimp only at hSw); go_simp; try (with_reducible rfl))
        change wpAnyH _ _ _ _ _ _ _ (Act.put _ (some 72) _) _
        try simp only [Act.put, List.setIfInBounds_toArray, List.set_cons_zero, List.set_cons_succ]
        refine wpAnyH_take (i := 5) (v := ?_) rfl (by kernel_rfl) (by kernel_rfl) (by kernel_rfl) (fun _ _ _ h => h) (Or.inl ⟨by rfl, ?_⟩) (by assumption) ?_
        rotate_left
        · (intro w' hSw; (try dsimp only at hSw); go_simp; try (with_reducible rfl))
        change wpAnyH _ _ _ _ _ _ _ (Act.put _ (some 73) _) _
        try simp only [Act.put, List.setIfInBounds_toArray, List.set_cons_zero, List.set_cons_succ]
        refine wpAnyH_take (i := 6) (v := ?_) rfl (by kernel_rfl) (by kernel_rfl) (by kernel_rfl) (fun _ _ _ h => h) (Or.inl ⟨by rfl, ?_⟩) (by assumption) ?_
        rotate_left
        · (intro w' hSw; (try dsimp only at hSw); go_simp; try (with_reducible rfl))
        change wpAnyH _ _ _ _ _ _ _ (Act.put _ (some 74) _) _
        try simp only [Act.put, List.setIfInBounds_toArray, List.set_cons_zero, List.set_cons_succ]
        refine wpAnyH_take (i := 7) (v := ?_) rfl (by kernel_rfl) (by kernel_rfl) (by kernel_rfl) (fun _ _ _ h => h) (Or.inl ⟨by rfl, ?_⟩) (by assumption) ?_
        rotate_left
        · (intro w' hSw; (try dsimp only at hSw); go_simp; try (with_reducible rfl))
        change wpAnyH _ _ _ _ _ _ _ (Act.put _ (some 75) _) _
        try simp only [Act.put, List.setIfInBounds_toArray, List.set_cons_zero, List.set_cons_succ]
        refine wpAnyH_take (i := 8) (v := ?_) rfl (by kernel_rfl) (by kernel_rfl) (by kernel_rfl) (fun _ _ _ h => h) (Or.inl ⟨by rfl, ?_⟩) (by assumption) ?_
        rotate_left
        · (intro w' hSw; (try dsimp only at hSw); go_simp; try (with_reducible rfl))
        change wpAnyH _ _ _ _ _ _ _ (Act.put _ (some 76) _) _
        try simp only [Act.put, List.setIfInBounds_toArray, List.set_cons_zero, List.set_cons_succ]
        refine wpAnyH_take (i := 9) (v := ?_) rfl (by kernel_rfl) (by kernel_rfl) (by kernel_rfl) (fun _ _ _ h => h) (Or.inl ⟨by rfl, ?_⟩) (by assumption) ?_
        rotate_left
        · (intro w' hSw; (try dsimp only at hSw); go_simp; try (with_reducible rfl))
        change wpAnyH _ _ _ _ _ _ _ (Act.put _ (some 77) _) _
        try simp only [Act.put, List.setIfInBounds_toArray, List.set_cons_zero, List.set_cons_succ]
        refine wpAnyH_take (i := 10) (v := ?_) rfl (by kernel_rfl) (by kernel_rfl) (by kernel_rfl) (fun _ _ _ h => h) (Or.inl ⟨by rfl, ?_⟩) (by assumption) ?_
        rotate_left
        · (intro w' hSw; (try dsimp only at hSw); go_simp; try (with_reducible rfl))
        change wpAnyH _ _ _ _ _ _ _ (Act.put _ (some 78) _) _
        try simp only [Act.put, List.setIfInBounds_toArray, List.set_cons_zero, List.set_cons_succ]
        refine wpAnyH_take (i := 11) (v := ?_) rfl (by kernel_rfl) (by kernel_rfl) (by kernel_rfl) (fun _ _ _ h => h) (Or.inl ⟨by rfl, ?_⟩) (by assumption) ?_
        rotate_left
        · (intro w' hSw; (try dsimp only at hSw); go_simp; try (with_reducible rfl))
        change wpAnyH _ _ _ _ _ _ _ (Act.put _ (some 79) _) _
        try simp only [Act.put, List.setIfInBounds_toArray, List.set_cons_zero, List.set_cons_succ]
        refine wpAnyH_take (i := 12) (v := ?_) rfl (by kernel_rfl) (by kernel_rfl) (by kernel_rfl) (fun _ _ _ h => h) (Or.inl ⟨by rfl, ?_⟩) (by assumption) ?_
        rotate_left
        · (intro w' hSw; (try dsimp only at hSw); go_simp; try (with_reducible rfl))
        change wpAnyH _ _ _ _ _ _ _ (Act.put _ (some 80) _) _
        try simp only [Act.put, List.setIfInBounds_toArray, List.set_cons_zero, List.set_cons_succ]
        refine wpAnyH_take (i := 13) (v := ?_) rfl (by kernel_rfl) (by kernel_rfl) (by kernel_rfl) (fun _ _ _ h => h) (Or.inl ⟨by rfl, ?_⟩) (by assumption) ?_
        rotate_left
        · (intro w' hSw; (try dsimp only at hSw); go_simp; try (with_reducible rfl))
        change wpAnyH _ _ _ _ _ _ _ (Act.put _ (some 81) _) _
        try simp only [Act.put, List.setIfInBounds_toArray, List.set_cons_zero, List.set_cons_succ]
        refine wpAnyH_take (i := 14) (v := ?_) rfl (by kernel_rfl) (by kernel_rfl) (by kernel_rfl) (fun _ _ _ h => h) (Or.inl ⟨by rfl, ?_⟩) (by assumption) ?_
        rotate_left
        · (intro w' hSw; (try dsimp only at hSw); go_simp; try (with_reducible rfl))
        change wpAnyH _ _ _ _ _ _ _ (Act.put _ (some 2) _) _
        try simp only [Act.put, List.setIfInBounds_toArray, List.set_cons_zero, List.set_cons_succ]
        refine wpAnyH_done (by kernel_rfl) ?_ _
        go_wp2
        go_ret
        refine ⟨end_string ?_, ?_⟩
        · first | exact HR.out.symm | (rw [HR.out]; apply ba_list; simp)
        · repeat' (first | (with_reducible exact Below.refl _ _) | (with_reducible refine ext_trans ?_ hb3) | (with_reducible refine ext_trans ?_ hb1) | (with_reducible refine ext_trans ?_ (ext_alloc _ _)) | (with_reducible refine Below.drew ?_))
      · obtain ⟨z, hz1⟩ : ∃ z : Nat, P = -(z : Int) := ⟨(-P).toNat, by omega⟩
        subst hz1
        have HR := hid (show decT ⟨true, dig, exp⟩ = ⟨#[45]⟩ ++ ⟨#[48, 46]⟩ ++ zeroB z ++ dig by unfold decT; rw [hdp, if_neg hz, if_neg (fun h => h hbig), if_neg hex, if_neg hpp, show (- -(z : Int)).toNat = z by omega]; rfl)
        have he2 : z ≤ 1000 := by omega
        have hzz := zeroB_size z
        have hw1 : IntKind.i64.wrap (-(-(z : Int) - 1)) = (z : Int) + 1 := by rw [show -(-(z : Int) - 1) = (z : Int) + 1 by omega]; exact IntWalk.i64_in _ (by omega)
        have hw2 : IntKind.i64.wrap (z : Int) = (z : Int) := IntWalk.i64_in _ (by omega)
        obtain ⟨k1, k2, k3, k4⟩ : (¬ 9223372036854775807 < 2 + z) ∧ (¬ 9223372036854775807 < 1 + 2 + z) ∧ (¬ 9223372036854775807 < 2 + z + dig.size) ∧ (¬ 9223372036854775807 < 1 + 2 + z + dig.size) := ⟨by omega, by omega, by omega, by omega⟩
        obtain ⟨k5, k6⟩ : (¬ 9223372036854775807 < 3 + z) ∧ (¬ 9223372036854775807 < 3 + z + dig.size) := ⟨by omega, by omega⟩
        clear hdp hbig
        go_enter Tryz.func18, Tryz.ntmps18
        go_wp2_with fail
        refine (specDecOk (d := ⟨true, dig, exp⟩) _ (by exact rdDec_mk (x := ⟨true, dig, exp⟩) hs (by first | exact he | (dsimp only; omega) | omega))).mono ?_
        rintro e w1 ⟨rfl, hb1⟩
        rw [HO.out]
        obtain ⟨hc1, hf1⟩ := bcell hb1
        have hl : w.heap.size < w1.heap.size := by have := hb1.size; (try simp at this); omega
        go_wp2_with fail
        refine (between_any _ _ _ _).mono ?_
        rintro e' w2 ⟨rfl, rfl⟩
        go_wp2_with fail
        refine wp_region_held_drew (S := fun w' => w'.cell? ⟨w.heap.size, 0, none⟩ = some (.bool true) ∧ w'.cell? ⟨w.heap.size, 1, none⟩ = some (.string dig) ∧ w'.cell? ⟨w.heap.size, 2, none⟩ = some (.int .i64 exp)) (by kernel_rfl) ?_ (fun hHeld => ?_)
        · simp [*]
        refine wpAnyH_take (i := 0) (v := ?_) rfl (by kernel_rfl) (by kernel_rfl) (by kernel_rfl) (fun _ _ _ h => h) (Or.inl ⟨by rfl, ?_⟩) (by assumption) ?_
        rotate_left
        · (intro w' hSw; (try dsimp only at hSw); go_simp; try (with_reducible rfl))
        change wpAnyH _ _ _ _ _ _ _ (Act.put _ (some 82) _) _
        try simp only [Act.put, List.setIfInBounds_toArray, List.set_cons_zero, List.set_cons_succ]
        refine wpAnyH_take (i := 1) (v := ?_) rfl (by kernel_rfl) (by kernel_rfl) (by kernel_rfl) (fun _ _ _ h => h) (Or.inl ⟨by rfl, ?_⟩) (by assumption) ?_
        rotate_left
        · (intro w' hSw; (try dsimp only at hSw); go_simp; try (with_reducible rfl))
        change wpAnyH _ _ _ _ _ _ _ (Act.put _ (some 83) _) _
        try simp only [Act.put, List.setIfInBounds_toArray, List.set_cons_zero, List.set_cons_succ]
        refine wpAnyH_take (i := 2) (v := ?_) rfl (by kernel_rfl) (by kernel_rfl) (by kernel_rfl) (fun _ _ _ h => h) (Or.inl ⟨by rfl, ?_⟩) (by assumption) ?_
        rotate_left
        · (intro w' hSw; (try dsimp only at hSw); go_simp; try (with_reducible rfl))
        change wpAnyH _ _ _ _ _ _ _ (Act.put _ (some 84) _) _
        try simp only [Act.put, List.setIfInBounds_toArray, List.set_cons_zero, List.set_cons_succ]
        refine wpAnyH_take (i := 3) (v := ?_) rfl (by kernel_rfl) (by kernel_rfl) (by kernel_rfl) (fun _ _ _ h => h) (Or.inl ⟨by rfl, ?_⟩) (by assumption) ?_
        rotate_left
        · (intro w' hSw; (try dsimp only at hSw); go_simp; try (with_reducible rfl))
        change wpAnyH _ _ _ _ _ _ _ (Act.put _ (some 85) _) _
        try simp only [Act.put, List.setIfInBounds_toArray, List.set_cons_zero, List.set_cons_succ]
        refine wpAnyH_take (i := 4) (v := ?_) rfl (by kernel_rfl) (by kernel_rfl) (by kernel_rfl) (fun _ _ _ h => h) (Or.inl ⟨by rfl, ?_⟩) (by assumption) ?_
        rotate_left
        · (intro w' hSw; (try dsimp only at hSw); go_simp; try (with_reducible rfl))
        change wpAnyH _ _ _ _ _ _ _ (Act.put _ (some 86) _) _
        try simp only [Act.put, List.setIfInBounds_toArray, List.set_cons_zero, List.set_cons_succ]
        refine wpAnyH_take (i := 7) (v := ?_) rfl (by kernel_rfl) (by kernel_rfl) (by kernel_rfl) (fun _ _ _ h => h) (Or.inl ⟨by rfl, ?_⟩) (by assumption) ?_
        rotate_left
        · (intro w' hSw; (try dsimp only at hSw); go_simp; try (with_reducible rfl))
        change wpAnyH _ _ _ _ _ _ _ (Act.put _ (some 89) _) _
        try simp only [Act.put, List.setIfInBounds_toArray, List.set_cons_zero, List.set_cons_succ]
        refine wpAnyH_take (i := 8) (v := ?_) rfl (by kernel_rfl) (by kernel_rfl) (by kernel_rfl) (fun _ _ _ h => h) (Or.inl ⟨by rfl, ?_⟩) (by assumption) ?_
        rotate_left
        · (intro w' hSw; (try dsimp only at hSw); go_simp; try (with_reducible rfl))
        change wpAnyH _ _ _ _ _ _ _ (Act.put _ (some 90) _) _
        try simp only [Act.put, List.setIfInBounds_toArray, List.set_cons_zero, List.set_cons_succ]
        refine wpAnyH_ready (rs := [5]) (by kernel_rfl) (by simp) ?_
        refine AllReadyH.cons (i := 5) rfl (fun K hK => ?_) AllReadyH.nil
        simp only [List.getElem_toArray, List.getElem_cons_succ, List.getElem_cons_zero]
        rw [if_pos (by rfl)]
        go_simp
        (go_at_call 45; refine (specZeros z _ (by omega)).mono ?_; rintro e' w3 ⟨rfl, hb3⟩; have hkc := keeps_cells hb3; go_wp2_with fail)
        refine hK.out _ _ ?_ (fun hHeld => ?_)
        · (try dsimp only); simp [*]
        clear hK K
        try simp only [Act.put, List.setIfInBounds_toArray, List.set_cons_zero, List.set_cons_succ]
        refine wpAnyH_take (i := 6) (v := ?_) rfl (by kernel_rfl) (by kernel_rfl) (by kernel_rfl) (fun _ _ _ h => h) (Or.inl ⟨by rfl, ?_⟩) (by assumption) ?_
        rotate_left
        · (intro w' hSw; (try dsimp only at hSw); go_simp; try (with_reducible rfl))
        change wpAnyH _ _ _ _ _ _ _ (Act.put _ (some 88) _) _
        try simp only [Act.put, List.setIfInBounds_toArray, List.set_cons_zero, List.set_cons_succ]
        refine wpAnyH_take (i := 9) (v := ?_) rfl (by kernel_rfl) (by kernel_rfl) (by kernel_rfl) (fun _ _ _ h => h) (Or.inl ⟨by rfl, ?_⟩) (by assumption) ?_
        rotate_left
        · (intro w' hSw; (try dsimp only at hSw); go_simp; try (with_reducible rfl))
        change wpAnyH _ _ _ _ _ _ _ (Act.put _ (some 91) _) _
        try simp only [Act.put, List.setIfInBounds_toArray, List.set_cons_zero, List.set_cons_succ]
        refine wpAnyH_take (i := 10) (v := ?_) rfl (by kernel_rfl) (by kernel_rfl) (by kernel_rfl) (fun _ _ _ h => h) (Or.inl ⟨by rfl, ?_⟩) (by assumption) ?_
        rotate_left
        · (intro w' hSw; (try dsimp only at hSw); go_simp; try (with_reducible rfl))
        change wpAnyH _ _ _ _ _ _ _ (Act.put _ (some 2) _) _
        try simp only [Act.put, List.setIfInBounds_toArray, List.set_cons_zero, List.set_cons_succ]
        refine wpAnyH_done (by kernel_rfl) ?_ _
        go_wp2
        go_ret
        refine ⟨end_string ?_, ?_⟩
        · first | exact HR.out.symm | (rw [HR.out]; apply ba_list; simp)
        · repeat' (first | (with_reducible exact Below.refl _ _) | (with_reducible refine ext_trans ?_ hb3) | (with_reducible refine ext_trans ?_ hb1) | (with_reducible refine ext_trans ?_ (ext_alloc _ _)) | (with_reducible refine Below.drew ?_))
set_option maxHeartbeats 16000000 in
set_option maxRecDepth 100000 in
theorem implDecText0 (neg : Bool) (dig : ByteArray) (exp : Int) (w : World) (hs : dig.size ≤ 9223372036854775807) (he : -9223372036854775808 ≤ exp ∧ exp ≤ 9223372036854775807) (ho : decOk ⟨neg, dig, exp⟩ = true) (hP : PT w) :
    Calls Tryz.prog 88 #[.agg #[.bool neg, .string dig, .int .i64 exp]] w fun e w' => e = .returned (.string (decT ⟨neg, dig, exp⟩)) ∧ Below w.heap.size w w' := by
  by_cases hz : dig.size = 0
  · have HR := hid (show decT ⟨neg, dig, exp⟩ = ⟨#[48]⟩ by unfold decT; rw [if_pos hz])
    have HO := hid ho
    obtain rfl := ba_nil hz
    clear ho hz
    go_enter Tryz.func88, Tryz.ntmps88
    go_wp2
    go_ret
    rw [HR.out]
    exact ⟨rfl, (ext_alloc _ _)⟩
  obtain ⟨hd1, hd2, hd3, hd4⟩ := decOk_facts ho hz
  have g0 : (dig.toList == []) = false := ba_nil_beq hz
  have HO := hid ho
  clear ho
  have hx1 : (dig.extract 0 1).size = 1 := by rw [ByteArray.size_extract]; omega
  have hpos : 0 < dig.size := by omega
  cases neg
  · obtain ⟨P, hP0⟩ : ∃ P : Int, exp + (dig.size : Int) = P := ⟨_, rfl⟩
    have hdp : decP ⟨false, dig, exp⟩ = P := hP0
    have hPb : -98 ≤ P ∧ P ≤ 100 := by omega
    by_cases hbig : -7 ≤ P - 1 ∧ P - 1 ≤ 20
    rotate_left
    · have hin := inB_false hbig
      by_cases hone : 1 < dig.size
      · by_cases hneg : P - 1 < 0
        · have HR := hid (show decT ⟨false, dig, exp⟩ = (⟨#[]⟩ ++ dig.extract 0 1 ++ ⟨#[46]⟩ ++ dig.extract 1 dig.size) ++ (⟨#[101, 45]⟩ ++ numB (-(P - 1))) by unfold decT; rw [hdp, if_neg hz, if_pos hbig, if_pos hone, if_pos hneg]; rfl)
          have hx2 : (dig.extract 1 dig.size).size = dig.size - 1 := by rw [ByteArray.size_extract]; omega
          clear hbig hdp
          have HN := hid (numB_neg hneg)
          go_enter Tryz.func88, Tryz.ntmps88
          go_wp2_with fail
          refine (within_any _ _ _ _).mono ?_
          rintro e' w2 ⟨rfl, rfl⟩
          go_wp2_with (go_at_call 125; refine Hid.out ?_)
          refine hid ?_
          refine (implItoa _ _ (pt_below hP (ext_alloc _ _)) (by omega)).mono ?_
          rintro e w3 ⟨rfl, hb3⟩
          have hns := numB_size (n := P - 1) (by omega)
          go_wp2
          go_ret
          refine ⟨end_string ?_, ?_⟩
          · first | exact HR.out.symm | (rw [HR.out]; apply ba_list; simp [HN.out])
          · repeat' (first | (with_reducible exact Below.refl _ _) | (with_reducible refine ext_trans ?_ hb3) | (with_reducible refine ext_trans ?_ hb1) | (with_reducible refine ext_trans ?_ (ext_alloc _ _)) | (with_reducible refine Below.drew ?_))
        · have HR := hid (show decT ⟨false, dig, exp⟩ = (⟨#[]⟩ ++ dig.extract 0 1 ++ ⟨#[46]⟩ ++ dig.extract 1 dig.size) ++ (⟨#[101, 43]⟩ ++ numB (P - 1)) by unfold decT; rw [hdp, if_neg hz, if_pos hbig, if_pos hone, if_neg hneg]; rfl)
          have hx2 : (dig.extract 1 dig.size).size = dig.size - 1 := by rw [ByteArray.size_extract]; omega
          have hm1 : 0 < P - 1 := by omega
          have hm2 : 1 < P := by omega
          have hm3 : ¬ P - 1 ≤ 0 := by omega
          clear hbig hdp
          go_enter Tryz.func88, Tryz.ntmps88
          go_wp2_with fail
          refine (within_any _ _ _ _).mono ?_
          rintro e' w2 ⟨rfl, rfl⟩
          go_wp2_with (go_at_call 125; refine Hid.out ?_)
          refine hid ?_
          refine (implItoa _ _ (pt_below hP (ext_alloc _ _)) (by omega)).mono ?_
          rintro e w3 ⟨rfl, hb3⟩
          have hns := numB_size (n := P - 1) (by omega)
          go_wp2
          go_ret
          refine ⟨end_string ?_, ?_⟩
          · first | exact HR.out.symm | (rw [HR.out]; apply ba_list; simp)
          · repeat' (first | (with_reducible exact Below.refl _ _) | (with_reducible refine ext_trans ?_ hb3) | (with_reducible refine ext_trans ?_ hb1) | (with_reducible refine ext_trans ?_ (ext_alloc _ _)) | (with_reducible refine Below.drew ?_))
      · by_cases hneg : P - 1 < 0
        · have HR := hid (show decT ⟨false, dig, exp⟩ = (⟨#[]⟩ ++ dig.extract 0 1) ++ (⟨#[101, 45]⟩ ++ numB (-(P - 1))) by unfold decT; rw [hdp, if_neg hz, if_pos hbig, if_neg hone, if_pos hneg]; rfl)
          have hx2 : (dig.extract 1 dig.size).size = dig.size - 1 := by rw [ByteArray.size_extract]; omega
          clear hbig hdp
          have HN := hid (numB_neg hneg)
          go_enter Tryz.func88, Tryz.ntmps88
          go_wp2_with fail
          refine (within_any _ _ _ _).mono ?_
          rintro e' w2 ⟨rfl, rfl⟩
          go_wp2_with (go_at_call 125; refine Hid.out ?_)
          refine hid ?_
          refine (implItoa _ _ (pt_below hP (ext_alloc _ _)) (by omega)).mono ?_
          rintro e w3 ⟨rfl, hb3⟩
          have hns := numB_size (n := P - 1) (by omega)
          go_wp2
          go_ret
          refine ⟨end_string ?_, ?_⟩
          · first | exact HR.out.symm | (rw [HR.out]; apply ba_list; simp [HN.out])
          · repeat' (first | (with_reducible exact Below.refl _ _) | (with_reducible refine ext_trans ?_ hb3) | (with_reducible refine ext_trans ?_ hb1) | (with_reducible refine ext_trans ?_ (ext_alloc _ _)) | (with_reducible refine Below.drew ?_))
        · have HR := hid (show decT ⟨false, dig, exp⟩ = (⟨#[]⟩ ++ dig.extract 0 1) ++ (⟨#[101, 43]⟩ ++ numB (P - 1)) by unfold decT; rw [hdp, if_neg hz, if_pos hbig, if_neg hone, if_neg hneg]; rfl)
          have hx2 : (dig.extract 1 dig.size).size = dig.size - 1 := by rw [ByteArray.size_extract]; omega
          have hm1 : 0 < P - 1 := by omega
          have hm2 : 1 < P := by omega
          have hm3 : ¬ P - 1 ≤ 0 := by omega
          clear hbig hdp
          go_enter Tryz.func88, Tryz.ntmps88
          go_wp2_with fail
          refine (within_any _ _ _ _).mono ?_
          rintro e' w2 ⟨rfl, rfl⟩
          go_wp2_with (go_at_call 125; refine Hid.out ?_)
          refine hid ?_
          refine (implItoa _ _ (pt_below hP (ext_alloc _ _)) (by omega)).mono ?_
          rintro e w3 ⟨rfl, hb3⟩
          have hns := numB_size (n := P - 1) (by omega)
          go_wp2
          go_ret
          refine ⟨end_string ?_, ?_⟩
          · first | exact HR.out.symm | (rw [HR.out]; apply ba_list; simp)
          · repeat' (first | (with_reducible exact Below.refl _ _) | (with_reducible refine ext_trans ?_ hb3) | (with_reducible refine ext_trans ?_ hb1) | (with_reducible refine ext_trans ?_ (ext_alloc _ _)) | (with_reducible refine Below.drew ?_))
    · have hin := inB_true hbig
      by_cases hex : 0 ≤ exp
      · obtain ⟨e, rfl⟩ := Int.eq_ofNat_of_zero_le hex
        have HR := hid (show decT ⟨false, dig, (e : Int)⟩ = ⟨#[]⟩ ++ dig ++ zeroB e by unfold decT; rw [hdp, if_neg hz, if_neg (fun h => h hbig), if_pos hex]; rfl)
        have he2 : e ≤ 1000 := by omega
        have hzz := zeroB_size e
        obtain ⟨k1, k2, k3, k4⟩ : (¬ 9223372036854775807 < dig.size) ∧ (¬ 9223372036854775807 < 1 + dig.size) ∧ (¬ 9223372036854775807 < dig.size + e) ∧ (¬ 9223372036854775807 < 1 + dig.size + e) := ⟨by omega, by omega, by omega, by omega⟩
        have k5 : ¬ 9223372036854775807 < 1 + (dig.size + e) := by omega
        go_enter Tryz.func88, Tryz.ntmps88
        clear hdp hbig
        go_wp2_with fail
        refine (within_any _ _ _ _).mono ?_
        rintro e' w2 ⟨rfl, rfl⟩
        go_wp2_with fail
        refine (implShift dig e _ (by omega) (by omega) hd4).mono ?_
        rintro e' w3 ⟨rfl, hb3⟩
        go_wp2
        go_ret
        refine ⟨end_string ?_, ?_⟩
        · first | exact HR.out.symm | (rw [HR.out]; apply ba_list; simp)
        · repeat' (first | (with_reducible exact Below.refl _ _) | (with_reducible refine ext_trans ?_ hb3) | (with_reducible refine ext_trans ?_ hb1) | (with_reducible refine ext_trans ?_ (ext_alloc _ _)) | (with_reducible refine Below.drew ?_))
      have hex' : exp < 0 := by omega
      by_cases hpp : 0 ≤ P - 1
      · obtain ⟨p, rfl⟩ := Int.eq_ofNat_of_zero_le (show 0 ≤ P by omega)
        have HR := hid (show decT ⟨false, dig, exp⟩ = ⟨#[]⟩ ++ dig.extract 0 p ++ ⟨#[46]⟩ ++ dig.extract p dig.size by unfold decT; rw [hdp, if_neg hz, if_neg (fun h => h hbig), if_neg hex, if_pos hpp]; rfl)
        have hw1 : IntKind.i64.wrap (p : Int) = (p : Int) := IntWalk.i64_in _ (by omega)
        have hp3 : (p : Int) ≤ (dig.size : Int) := by omega
        have hp4 : (0 : Int) ≤ (p : Int) := by omega
        obtain ⟨k1, k2, k3, k4, k5, k6⟩ : (¬ 9223372036854775807 < p) ∧ (¬ 9223372036854775807 < 1 + p) ∧ (¬ 9223372036854775807 < p + 1) ∧ (¬ 9223372036854775807 < 1 + p + 1) ∧ (¬ 9223372036854775807 < p + 1 + (dig.size - p)) ∧ (¬ 9223372036854775807 < 1 + p + 1 + (dig.size - p)) := ⟨by omega, by omega, by omega, by omega, by omega, by omega⟩
        have hp1 : 1 ≤ p := by omega
        have hp2 : p < dig.size := by omega
        have hx2 : (dig.extract 0 p).size = p := by rw [ByteArray.size_extract]; omega
        have hx3 : (dig.extract p dig.size).size = dig.size - p := by rw [ByteArray.size_extract]; omega
        clear hdp hbig
        go_enter Tryz.func88, Tryz.ntmps88
        go_wp2_with fail
        refine (within_any _ _ _ _).mono ?_
        rintro e' w2 ⟨rfl, rfl⟩
        go_wp2_with fail
        refine wp_region_held_drew (S := fun w' => w'.cell? ⟨w.heap.size, 0, none⟩ = some (.bool false) ∧ w'.cell? ⟨w.heap.size, 1, none⟩ = some (.string dig) ∧ w'.cell? ⟨w.heap.size, 2, none⟩ = some (.int .i64 exp)) (by kernel_rfl) ?_ (fun hHeld => ?_)
        · simp [*]
        refine wpAnyH_take (i := 0) (v := ?_) rfl (by kernel_rfl) (by kernel_rfl) (by kernel_rfl) (fun _ _ _ h => h) (Or.inl ⟨by rfl, ?_⟩) (by assumption) ?_
        rotate_left
        · (intro w' hSw; (try dsimp only at hSw); go_simp; try (with_reducible rfl))
        change wpAnyH _ _ _ _ _ _ _ (Act.put _ (some 73) _) _
        try simp only [Act.put, List.setIfInBounds_toArray, List.set_cons_zero, List.set_cons_succ]
        refine wpAnyH_take (i := 1) (v := ?_) rfl (by kernel_rfl) (by kernel_rfl) (by kernel_rfl) (fun _ _ _ h => h) (Or.inl ⟨by rfl, ?_⟩) (by assumption) ?_
        rotate_left
        · (intro w' hSw; (try dsimp only at hSw); go_simp; try (with_reducible rfl))
        change wpAnyH _ _ _ _ _ _ _ (Act.put _ (some 74) _) _
        try simp only [Act.put, List.setIfInBounds_toArray, List.set_cons_zero, List.set_cons_succ]
        refine wpAnyH_take (i := 2) (v := ?_) rfl (by kernel_rfl) (by kernel_rfl) (by kernel_rfl) (fun _ _ _ h => h) (Or.inl ⟨by rfl, ?_⟩) (by assumption) ?_
        rotate_left
        · (intro w' hSw; (try dsimp only at hSw); go_simp; try (with_reducible rfl))
        change wpAnyH _ _ _ _ _ _ _ (Act.put _ (some 75) _) _
        try simp only [Act.put, List.setIfInBounds_toArray, List.set_cons_zero, List.set_cons_succ]
        refine wpAnyH_take (i := 3) (v := ?_) rfl (by kernel_rfl) (by kernel_rfl) (by kernel_rfl) (fun _ _ _ h => h) (Or.inl ⟨by rfl, ?_⟩) (by assumption) ?_
        rotate_left
        · (intro w' hSw; (try dsimp only at hSw); go_simp; try (with_reducible rfl))
        change wpAnyH _ _ _ _ _ _ _ (Act.put _ (some 76) _) _
        try simp only [Act.put, List.setIfInBounds_toArray, List.set_cons_zero, List.set_cons_succ]
        refine wpAnyH_take (i := 4) (v := ?_) rfl (by kernel_rfl) (by kernel_rfl) (by kernel_rfl) (fun _ _ _ h => h) (Or.inl ⟨by rfl, ?_⟩) (by assumption) ?_
        rotate_left
        · (intro w' hSw; (try dsimp only at hSw); go_simp; try (with_reducible rfl))
        change wpAnyH _ _ _ _ _ _ _ (Act.put _ (some 77) _) _
        try simp only [Act.put, List.setIfInBounds_toArray, List.set_cons_zero, List.set_cons_succ]
        refine wpAnyH_take (i := 5) (v := ?_) rfl (by kernel_rfl) (by kernel_rfl) (by kernel_rfl) (fun _ _ _ h => h) (Or.inl ⟨by rfl, ?_⟩) (by assumption) ?_
        rotate_left
        · (intro w' hSw; (try dsimp only at hSw); go_simp; try (with_reducible rfl))
        change wpAnyH _ _ _ _ _ _ _ (Act.put _ (some 78) _) _
        try simp only [Act.put, List.setIfInBounds_toArray, List.set_cons_zero, List.set_cons_succ]
        refine wpAnyH_take (i := 6) (v := ?_) rfl (by kernel_rfl) (by kernel_rfl) (by kernel_rfl) (fun _ _ _ h => h) (Or.inl ⟨by rfl, ?_⟩) (by assumption) ?_
        rotate_left
        · (intro w' hSw; (try dsimp only at hSw); go_simp; try (with_reducible rfl))
        change wpAnyH _ _ _ _ _ _ _ (Act.put _ (some 79) _) _
        try simp only [Act.put, List.setIfInBounds_toArray, List.set_cons_zero, List.set_cons_succ]
        refine wpAnyH_take (i := 7) (v := ?_) rfl (by kernel_rfl) (by kernel_rfl) (by kernel_rfl) (fun _ _ _ h => h) (Or.inl ⟨by rfl, ?_⟩) (by assumption) ?_
        rotate_left
        · (intro w' hSw; (try dsimp only at hSw); go_simp; try (with_reducible rfl))
        change wpAnyH _ _ _ _ _ _ _ (Act.put _ (some 80) _) _
        try simp only [Act.put, List.setIfInBounds_toArray, List.set_cons_zero, List.set_cons_succ]
        refine wpAnyH_take (i := 8) (v := ?_) rfl (by kernel_rfl) (by kernel_rfl) (by kernel_rfl) (fun _ _ _ h => h) (Or.inl ⟨by rfl, ?_⟩) (by assumption) ?_
        rotate_left
        · (intro w' hSw; (try dsimp only at hSw); go_simp; try (with_reducible rfl))
        change wpAnyH _ _ _ _ _ _ _ (Act.put _ (some 81) _) _
        try simp only [Act.put, List.setIfInBounds_toArray, List.set_cons_zero, List.set_cons_succ]
        refine wpAnyH_take (i := 9) (v := ?_) rfl (by kernel_rfl) (by kernel_rfl) (by kernel_rfl) (fun _ _ _ h => h) (Or.inl ⟨by rfl, ?_⟩) (by assumption) ?_
        rotate_left
        · (intro w' hSw; (try dsimp only at hSw); go_simp; try (with_reducible rfl))
        change wpAnyH _ _ _ _ _ _ _ (Act.put _ (some 82) _) _
        try simp only [Act.put, List.setIfInBounds_toArray, List.set_cons_zero, List.set_cons_succ]
        refine wpAnyH_take (i := 10) (v := ?_) rfl (by kernel_rfl) (by kernel_rfl) (by kernel_rfl) (fun _ _ _ h => h) (Or.inl ⟨by rfl, ?_⟩) (by assumption) ?_
        rotate_left
        · (intro w' hSw; (try dsimp only at hSw); go_simp; try (with_reducible rfl))
        change wpAnyH _ _ _ _ _ _ _ (Act.put _ (some 83) _) _
        try simp only [Act.put, List.setIfInBounds_toArray, List.set_cons_zero, List.set_cons_succ]
        refine wpAnyH_take (i := 11) (v := ?_) rfl (by kernel_rfl) (by kernel_rfl) (by kernel_rfl) (fun _ _ _ h => h) (Or.inl ⟨by rfl, ?_⟩) (by assumption) ?_
        rotate_left
        · (intro w' hSw; (try dsimp only at hSw); go_simp; try (with_reducible rfl))
        change wpAnyH _ _ _ _ _ _ _ (Act.put _ (some 84) _) _
        try simp only [Act.put, List.setIfInBounds_toArray, List.set_cons_zero, List.set_cons_succ]
        refine wpAnyH_take (i := 12) (v := ?_) rfl (by kernel_rfl) (by kernel_rfl) (by kernel_rfl) (fun _ _ _ h => h) (Or.inl ⟨by rfl, ?_⟩) (by assumption) ?_
        rotate_left
        · (intro w' hSw; (try dsimp only at hSw); go_simp; try (with_reducible rfl))
        change wpAnyH _ _ _ _ _ _ _ (Act.put _ (some 85) _) _
        try simp only [Act.put, List.setIfInBounds_toArray, List.set_cons_zero, List.set_cons_succ]
        refine wpAnyH_take (i := 13) (v := ?_) rfl (by kernel_rfl) (by kernel_rfl) (by kernel_rfl) (fun _ _ _ h => h) (Or.inl ⟨by rfl, ?_⟩) (by assumption) ?_
        rotate_left
        · (intro w' hSw; (try dsimp only at hSw); go_simp; try (with_reducible rfl))
        change wpAnyH _ _ _ _ _ _ _ (Act.put _ (some 86) _) _
        try simp only [Act.put, List.setIfInBounds_toArray, List.set_cons_zero, List.set_cons_succ]
        refine wpAnyH_take (i := 14) (v := ?_) rfl (by kernel_rfl) (by kernel_rfl) (by kernel_rfl) (fun _ _ _ h => h) (Or.inl ⟨by rfl, ?_⟩) (by assumption) ?_
        rotate_left
        · (intro w' hSw; (try dsimp only at hSw); go_simp; try (with_reducible rfl))
        change wpAnyH _ _ _ _ _ _ _ (Act.put _ (some 2) _) _
        try simp only [Act.put, List.setIfInBounds_toArray, List.set_cons_zero, List.set_cons_succ]
        refine wpAnyH_done (by kernel_rfl) ?_ _
        go_wp2
        go_ret
        refine ⟨end_string ?_, ?_⟩
        · first | exact HR.out.symm | (rw [HR.out]; apply ba_list; simp)
        · repeat' (first | (with_reducible exact Below.refl _ _) | (with_reducible refine ext_trans ?_ hb3) | (with_reducible refine ext_trans ?_ hb1) | (with_reducible refine ext_trans ?_ (ext_alloc _ _)) | (with_reducible refine Below.drew ?_))
      · obtain ⟨z, hz1⟩ : ∃ z : Nat, P = -(z : Int) := ⟨(-P).toNat, by omega⟩
        subst hz1
        have HR := hid (show decT ⟨false, dig, exp⟩ = ⟨#[]⟩ ++ ⟨#[48, 46]⟩ ++ zeroB z ++ dig by unfold decT; rw [hdp, if_neg hz, if_neg (fun h => h hbig), if_neg hex, if_neg hpp, show (- -(z : Int)).toNat = z by omega]; rfl)
        have he2 : z ≤ 1000 := by omega
        have hzz := zeroB_size z
        have hw1 : IntKind.i64.wrap (-(-(z : Int) - 1)) = (z : Int) + 1 := by rw [show -(-(z : Int) - 1) = (z : Int) + 1 by omega]; exact IntWalk.i64_in _ (by omega)
        have hw2 : IntKind.i64.wrap (z : Int) = (z : Int) := IntWalk.i64_in _ (by omega)
        obtain ⟨k1, k2, k3, k4⟩ : (¬ 9223372036854775807 < 2 + z) ∧ (¬ 9223372036854775807 < 1 + 2 + z) ∧ (¬ 9223372036854775807 < 2 + z + dig.size) ∧ (¬ 9223372036854775807 < 1 + 2 + z + dig.size) := ⟨by omega, by omega, by omega, by omega⟩
        obtain ⟨k5, k6⟩ : (¬ 9223372036854775807 < 3 + z) ∧ (¬ 9223372036854775807 < 3 + z + dig.size) := ⟨by omega, by omega⟩
        clear hdp hbig
        go_enter Tryz.func88, Tryz.ntmps88
        go_wp2_with fail
        refine (within_any _ _ _ _).mono ?_
        rintro e' w2 ⟨rfl, rfl⟩
        go_wp2_with fail
        refine wp_region_held_drew (S := fun w' => w'.cell? ⟨w.heap.size, 0, none⟩ = some (.bool false) ∧ w'.cell? ⟨w.heap.size, 1, none⟩ = some (.string dig) ∧ w'.cell? ⟨w.heap.size, 2, none⟩ = some (.int .i64 exp)) (by kernel_rfl) ?_ (fun hHeld => ?_)
        · simp [*]
        refine wpAnyH_take (i := 0) (v := ?_) rfl (by kernel_rfl) (by kernel_rfl) (by kernel_rfl) (fun _ _ _ h => h) (Or.inl ⟨by rfl, ?_⟩) (by assumption) ?_
        rotate_left
        · (intro w' hSw; (try dsimp only at hSw); go_simp; try (with_reducible rfl))
        change wpAnyH _ _ _ _ _ _ _ (Act.put _ (some 63) _) _
        try simp only [Act.put, List.setIfInBounds_toArray, List.set_cons_zero, List.set_cons_succ]
        refine wpAnyH_take (i := 1) (v := ?_) rfl (by kernel_rfl) (by kernel_rfl) (by kernel_rfl) (fun _ _ _ h => h) (Or.inl ⟨by rfl, ?_⟩) (by assumption) ?_
        rotate_left
        · (intro w' hSw; (try dsimp only at hSw); go_simp; try (with_reducible rfl))
        change wpAnyH _ _ _ _ _ _ _ (Act.put _ (some 64) _) _
        try simp only [Act.put, List.setIfInBounds_toArray, List.set_cons_zero, List.set_cons_succ]
        refine wpAnyH_take (i := 2) (v := ?_) rfl (by kernel_rfl) (by kernel_rfl) (by kernel_rfl) (fun _ _ _ h => h) (Or.inl ⟨by rfl, ?_⟩) (by assumption) ?_
        rotate_left
        · (intro w' hSw; (try dsimp only at hSw); go_simp; try (with_reducible rfl))
        change wpAnyH _ _ _ _ _ _ _ (Act.put _ (some 65) _) _
        try simp only [Act.put, List.setIfInBounds_toArray, List.set_cons_zero, List.set_cons_succ]
        refine wpAnyH_take (i := 3) (v := ?_) rfl (by kernel_rfl) (by kernel_rfl) (by kernel_rfl) (fun _ _ _ h => h) (Or.inl ⟨by rfl, ?_⟩) (by assumption) ?_
        rotate_left
        · (intro w' hSw; (try dsimp only at hSw); go_simp; try (with_reducible rfl))
        change wpAnyH _ _ _ _ _ _ _ (Act.put _ (some 66) _) _
        try simp only [Act.put, List.setIfInBounds_toArray, List.set_cons_zero, List.set_cons_succ]
        refine wpAnyH_take (i := 4) (v := ?_) rfl (by kernel_rfl) (by kernel_rfl) (by kernel_rfl) (fun _ _ _ h => h) (Or.inl ⟨by rfl, ?_⟩) (by assumption) ?_
        rotate_left
        · (intro w' hSw; (try dsimp only at hSw); go_simp; try (with_reducible rfl))
        change wpAnyH _ _ _ _ _ _ _ (Act.put _ (some 67) _) _
        try simp only [Act.put, List.setIfInBounds_toArray, List.set_cons_zero, List.set_cons_succ]
        refine wpAnyH_take (i := 7) (v := ?_) rfl (by kernel_rfl) (by kernel_rfl) (by kernel_rfl) (fun _ _ _ h => h) (Or.inl ⟨by rfl, ?_⟩) (by assumption) ?_
        rotate_left
        · (intro w' hSw; (try dsimp only at hSw); go_simp; try (with_reducible rfl))
        change wpAnyH _ _ _ _ _ _ _ (Act.put _ (some 70) _) _
        try simp only [Act.put, List.setIfInBounds_toArray, List.set_cons_zero, List.set_cons_succ]
        refine wpAnyH_take (i := 8) (v := ?_) rfl (by kernel_rfl) (by kernel_rfl) (by kernel_rfl) (fun _ _ _ h => h) (Or.inl ⟨by rfl, ?_⟩) (by assumption) ?_
        rotate_left
        · (intro w' hSw; (try dsimp only at hSw); go_simp; try (with_reducible rfl))
        change wpAnyH _ _ _ _ _ _ _ (Act.put _ (some 71) _) _
        try simp only [Act.put, List.setIfInBounds_toArray, List.set_cons_zero, List.set_cons_succ]
        refine wpAnyH_ready (rs := [5]) (by kernel_rfl) (by simp) ?_
        refine AllReadyH.cons (i := 5) rfl (fun K hK => ?_) AllReadyH.nil
        simp only [List.getElem_toArray, List.getElem_cons_succ, List.getElem_cons_zero]
        rw [if_pos (by rfl)]
        go_simp
        (go_at_call 98; refine (zRepeat z _ (by omega)).mono ?_; rintro e' w3 ⟨rfl, hb3⟩; have hkc := keeps_cells hb3; go_wp2_with fail)
        refine hK.out _ _ ?_ (fun hHeld => ?_)
        · (try dsimp only); simp [*]
        clear hK K
        try simp only [Act.put, List.setIfInBounds_toArray, List.set_cons_zero, List.set_cons_succ]
        refine wpAnyH_take (i := 6) (v := ?_) rfl (by kernel_rfl) (by kernel_rfl) (by kernel_rfl) (fun _ _ _ h => h) (Or.inl ⟨by rfl, ?_⟩) (by assumption) ?_
        rotate_left
        · (intro w' hSw; (try dsimp only at hSw); go_simp; try (with_reducible rfl))
        change wpAnyH _ _ _ _ _ _ _ (Act.put _ (some 69) _) _
        try simp only [Act.put, List.setIfInBounds_toArray, List.set_cons_zero, List.set_cons_succ]
        refine wpAnyH_take (i := 9) (v := ?_) rfl (by kernel_rfl) (by kernel_rfl) (by kernel_rfl) (fun _ _ _ h => h) (Or.inl ⟨by rfl, ?_⟩) (by assumption) ?_
        rotate_left
        · (intro w' hSw; (try dsimp only at hSw); go_simp; try (with_reducible rfl))
        change wpAnyH _ _ _ _ _ _ _ (Act.put _ (some 72) _) _
        try simp only [Act.put, List.setIfInBounds_toArray, List.set_cons_zero, List.set_cons_succ]
        refine wpAnyH_take (i := 10) (v := ?_) rfl (by kernel_rfl) (by kernel_rfl) (by kernel_rfl) (fun _ _ _ h => h) (Or.inl ⟨by rfl, ?_⟩) (by assumption) ?_
        rotate_left
        · (intro w' hSw; (try dsimp only at hSw); go_simp; try (with_reducible rfl))
        change wpAnyH _ _ _ _ _ _ _ (Act.put _ (some 2) _) _
        try simp only [Act.put, List.setIfInBounds_toArray, List.set_cons_zero, List.set_cons_succ]
        refine wpAnyH_done (by kernel_rfl) ?_ _
        go_wp2
        go_ret
        refine ⟨end_string ?_, ?_⟩
        · first | exact HR.out.symm | (rw [HR.out]; apply ba_list; simp)
        · repeat' (first | (with_reducible exact Below.refl _ _) | (with_reducible refine ext_trans ?_ hb3) | (with_reducible refine ext_trans ?_ hb1) | (with_reducible refine ext_trans ?_ (ext_alloc _ _)) | (with_reducible refine Below.drew ?_))
  · obtain ⟨P, hP0⟩ : ∃ P : Int, exp + (dig.size : Int) = P := ⟨_, rfl⟩
    have hdp : decP ⟨true, dig, exp⟩ = P := hP0
    have hPb : -98 ≤ P ∧ P ≤ 100 := by omega
    by_cases hbig : -7 ≤ P - 1 ∧ P - 1 ≤ 20
    rotate_left
    · have hin := inB_false hbig
      by_cases hone : 1 < dig.size
      · by_cases hneg : P - 1 < 0
        · have HR := hid (show decT ⟨true, dig, exp⟩ = (⟨#[45]⟩ ++ dig.extract 0 1 ++ ⟨#[46]⟩ ++ dig.extract 1 dig.size) ++ (⟨#[101, 45]⟩ ++ numB (-(P - 1))) by unfold decT; rw [hdp, if_neg hz, if_pos hbig, if_pos hone, if_pos hneg]; rfl)
          have hx2 : (dig.extract 1 dig.size).size = dig.size - 1 := by rw [ByteArray.size_extract]; omega
          clear hbig hdp
          have HN := hid (numB_neg hneg)
          go_enter Tryz.func88, Tryz.ntmps88
          go_wp2_with fail
          refine (within_any _ _ _ _).mono ?_
          rintro e' w2 ⟨rfl, rfl⟩
          go_wp2_with (go_at_call 125; refine Hid.out ?_)
          refine hid ?_
          refine (implItoa _ _ (pt_below hP (ext_alloc _ _)) (by omega)).mono ?_
          rintro e w3 ⟨rfl, hb3⟩
          have hns := numB_size (n := P - 1) (by omega)
          go_wp2
          go_ret
          refine ⟨end_string ?_, ?_⟩
          · first | exact HR.out.symm | (rw [HR.out]; apply ba_list; simp [HN.out])
          · repeat' (first | (with_reducible exact Below.refl _ _) | (with_reducible refine ext_trans ?_ hb3) | (with_reducible refine ext_trans ?_ hb1) | (with_reducible refine ext_trans ?_ (ext_alloc _ _)) | (with_reducible refine Below.drew ?_))
        · have HR := hid (show decT ⟨true, dig, exp⟩ = (⟨#[45]⟩ ++ dig.extract 0 1 ++ ⟨#[46]⟩ ++ dig.extract 1 dig.size) ++ (⟨#[101, 43]⟩ ++ numB (P - 1)) by unfold decT; rw [hdp, if_neg hz, if_pos hbig, if_pos hone, if_neg hneg]; rfl)
          have hx2 : (dig.extract 1 dig.size).size = dig.size - 1 := by rw [ByteArray.size_extract]; omega
          have hm1 : 0 < P - 1 := by omega
          have hm2 : 1 < P := by omega
          have hm3 : ¬ P - 1 ≤ 0 := by omega
          clear hbig hdp
          go_enter Tryz.func88, Tryz.ntmps88
          go_wp2_with fail
          refine (within_any _ _ _ _).mono ?_
          rintro e' w2 ⟨rfl, rfl⟩
          go_wp2_with (go_at_call 125; refine Hid.out ?_)
          refine hid ?_
          refine (implItoa _ _ (pt_below hP (ext_alloc _ _)) (by omega)).mono ?_
          rintro e w3 ⟨rfl, hb3⟩
          have hns := numB_size (n := P - 1) (by omega)
          go_wp2
          go_ret
          refine ⟨end_string ?_, ?_⟩
          · first | exact HR.out.symm | (rw [HR.out]; apply ba_list; simp)
          · repeat' (first | (with_reducible exact Below.refl _ _) | (with_reducible refine ext_trans ?_ hb3) | (with_reducible refine ext_trans ?_ hb1) | (with_reducible refine ext_trans ?_ (ext_alloc _ _)) | (with_reducible refine Below.drew ?_))
      · by_cases hneg : P - 1 < 0
        · have HR := hid (show decT ⟨true, dig, exp⟩ = (⟨#[45]⟩ ++ dig.extract 0 1) ++ (⟨#[101, 45]⟩ ++ numB (-(P - 1))) by unfold decT; rw [hdp, if_neg hz, if_pos hbig, if_neg hone, if_pos hneg]; rfl)
          have hx2 : (dig.extract 1 dig.size).size = dig.size - 1 := by rw [ByteArray.size_extract]; omega
          clear hbig hdp
          have HN := hid (numB_neg hneg)
          go_enter Tryz.func88, Tryz.ntmps88
          go_wp2_with fail
          refine (within_any _ _ _ _).mono ?_
          rintro e' w2 ⟨rfl, rfl⟩
          go_wp2_with (go_at_call 125; refine Hid.out ?_)
          refine hid ?_
          refine (implItoa _ _ (pt_below hP (ext_alloc _ _)) (by omega)).mono ?_
          rintro e w3 ⟨rfl, hb3⟩
          have hns := numB_size (n := P - 1) (by omega)
          go_wp2
          go_ret
          refine ⟨end_string ?_, ?_⟩
          · first | exact HR.out.symm | (rw [HR.out]; apply ba_list; simp [HN.out])
          · repeat' (first | (with_reducible exact Below.refl _ _) | (with_reducible refine ext_trans ?_ hb3) | (with_reducible refine ext_trans ?_ hb1) | (with_reducible refine ext_trans ?_ (ext_alloc _ _)) | (with_reducible refine Below.drew ?_))
        · have HR := hid (show decT ⟨true, dig, exp⟩ = (⟨#[45]⟩ ++ dig.extract 0 1) ++ (⟨#[101, 43]⟩ ++ numB (P - 1)) by unfold decT; rw [hdp, if_neg hz, if_pos hbig, if_neg hone, if_neg hneg]; rfl)
          have hx2 : (dig.extract 1 dig.size).size = dig.size - 1 := by rw [ByteArray.size_extract]; omega
          have hm1 : 0 < P - 1 := by omega
          have hm2 : 1 < P := by omega
          have hm3 : ¬ P - 1 ≤ 0 := by omega
          clear hbig hdp
          go_enter Tryz.func88, Tryz.ntmps88
          go_wp2_with fail
          refine (within_any _ _ _ _).mono ?_
          rintro e' w2 ⟨rfl, rfl⟩
          go_wp2_with (go_at_call 125; refine Hid.out ?_)
          refine hid ?_
          refine (implItoa _ _ (pt_below hP (ext_alloc _ _)) (by omega)).mono ?_
          rintro e w3 ⟨rfl, hb3⟩
          have hns := numB_size (n := P - 1) (by omega)
          go_wp2
          go_ret
          refine ⟨end_string ?_, ?_⟩
          · first | exact HR.out.symm | (rw [HR.out]; apply ba_list; simp)
          · repeat' (first | (with_reducible exact Below.refl _ _) | (with_reducible refine ext_trans ?_ hb3) | (with_reducible refine ext_trans ?_ hb1) | (with_reducible refine ext_trans ?_ (ext_alloc _ _)) | (with_reducible refine Below.drew ?_))
    · have hin := inB_true hbig
      by_cases hex : 0 ≤ exp
      · obtain ⟨e, rfl⟩ := Int.eq_ofNat_of_zero_le hex
        have HR := hid (show decT ⟨true, dig, (e : Int)⟩ = ⟨#[45]⟩ ++ dig ++ zeroB e by unfold decT; rw [hdp, if_neg hz, if_neg (fun h => h hbig), if_pos hex]; rfl)
        have he2 : e ≤ 1000 := by omega
        have hzz := zeroB_size e
        obtain ⟨k1, k2, k3, k4⟩ : (¬ 9223372036854775807 < dig.size) ∧ (¬ 9223372036854775807 < 1 + dig.size) ∧ (¬ 9223372036854775807 < dig.size + e) ∧ (¬ 9223372036854775807 < 1 + dig.size + e) := ⟨by omega, by omega, by omega, by omega⟩
        have k5 : ¬ 9223372036854775807 < 1 + (dig.size + e) := by omega
        go_enter Tryz.func88, Tryz.ntmps88
        clear hdp hbig
        go_wp2_with fail
        refine (within_any _ _ _ _).mono ?_
        rintro e' w2 ⟨rfl, rfl⟩
        go_wp2_with fail
        refine (implShift dig e _ (by omega) (by omega) hd4).mono ?_
        rintro e' w3 ⟨rfl, hb3⟩
        go_wp2
        go_ret
        refine ⟨end_string ?_, ?_⟩
        · first | exact HR.out.symm | (rw [HR.out]; apply ba_list; simp)
        · repeat' (first | (with_reducible exact Below.refl _ _) | (with_reducible refine ext_trans ?_ hb3) | (with_reducible refine ext_trans ?_ hb1) | (with_reducible refine ext_trans ?_ (ext_alloc _ _)) | (with_reducible refine Below.drew ?_))
      have hex' : exp < 0 := by omega
      by_cases hpp : 0 ≤ P - 1
      · obtain ⟨p, rfl⟩ := Int.eq_ofNat_of_zero_le (show 0 ≤ P by omega)
        have HR := hid (show decT ⟨true, dig, exp⟩ = ⟨#[45]⟩ ++ dig.extract 0 p ++ ⟨#[46]⟩ ++ dig.extract p dig.size by unfold decT; rw [hdp, if_neg hz, if_neg (fun h => h hbig), if_neg hex, if_pos hpp]; rfl)
        have hw1 : IntKind.i64.wrap (p : Int) = (p : Int) := IntWalk.i64_in _ (by omega)
        have hp3 : (p : Int) ≤ (dig.size : Int) := by omega
        have hp4 : (0 : Int) ≤ (p : Int) := by omega
        obtain ⟨k1, k2, k3, k4, k5, k6⟩ : (¬ 9223372036854775807 < p) ∧ (¬ 9223372036854775807 < 1 + p) ∧ (¬ 9223372036854775807 < p + 1) ∧ (¬ 9223372036854775807 < 1 + p + 1) ∧ (¬ 9223372036854775807 < p + 1 + (dig.size - p)) ∧ (¬ 9223372036854775807 < 1 + p + 1 + (dig.size - p)) := ⟨by omega, by omega, by omega, by omega, by omega, by omega⟩
        have hp1 : 1 ≤ p := by omega
        have hp2 : p < dig.size := by omega
        have hx2 : (dig.extract 0 p).size = p := by rw [ByteArray.size_extract]; omega
        have hx3 : (dig.extract p dig.size).size = dig.size - p := by rw [ByteArray.size_extract]; omega
        clear hdp hbig
        go_enter Tryz.func88, Tryz.ntmps88
        go_wp2_with fail
        refine (within_any _ _ _ _).mono ?_
        rintro e' w2 ⟨rfl, rfl⟩
        go_wp2_with fail
        refine wp_region_held_drew (S := fun w' => w'.cell? ⟨w.heap.size, 0, none⟩ = some (.bool true) ∧ w'.cell? ⟨w.heap.size, 1, none⟩ = some (.string dig) ∧ w'.cell? ⟨w.heap.size, 2, none⟩ = some (.int .i64 exp)) (by kernel_rfl) ?_ (fun hHeld => ?_)
        · simp [*]
        refine wpAnyH_take (i := 0) (v := ?_) rfl (by kernel_rfl) (by kernel_rfl) (by kernel_rfl) (fun _ _ _ h => h) (Or.inl ⟨by rfl, ?_⟩) (by assumption) ?_
        rotate_left
        · (intro w' hSw; (try dsimp only at hSw); go_simp; try (with_reducible rfl))
        change wpAnyH _ _ _ _ _ _ _ (Act.put _ (some 73) _) _
        try simp only [Act.put, List.setIfInBounds_toArray, List.set_cons_zero, List.set_cons_succ]
        refine wpAnyH_take (i := 1) (v := ?_) rfl (by kernel_rfl) (by kernel_rfl) (by kernel_rfl) (fun _ _ _ h => h) (Or.inl ⟨by rfl, ?_⟩) (by assumption) ?_
        rotate_left
        · (intro w' hSw; (try dsimp only at hSw); go_simp; try (with_reducible rfl))
        change wpAnyH _ _ _ _ _ _ _ (Act.put _ (some 74) _) _
        try simp only [Act.put, List.setIfInBounds_toArray, List.set_cons_zero, List.set_cons_succ]
        refine wpAnyH_take (i := 2) (v := ?_) rfl (by kernel_rfl) (by kernel_rfl) (by kernel_rfl) (fun _ _ _ h => h) (Or.inl ⟨by rfl, ?_⟩) (by assumption) ?_
        rotate_left
        · (intro w' hSw; (try dsimp only at hSw); go_simp; try (with_reducible rfl))
        change wpAnyH _ _ _ _ _ _ _ (Act.put _ (some 75) _) _
        try simp only [Act.put, List.setIfInBounds_toArray, List.set_cons_zero, List.set_cons_succ]
        refine wpAnyH_take (i := 3) (v := ?_) rfl (by kernel_rfl) (by kernel_rfl) (by kernel_rfl) (fun _ _ _ h => h) (Or.inl ⟨by rfl, ?_⟩) (by assumption) ?_
        rotate_left
        · (intro w' hSw; (try dsimp only at hSw); go_simp; try (with_reducible rfl))
        change wpAnyH _ _ _ _ _ _ _ (Act.put _ (some 76) _) _
        try simp only [Act.put, List.setIfInBounds_toArray, List.set_cons_zero, List.set_cons_succ]
        refine wpAnyH_take (i := 4) (v := ?_) rfl (by kernel_rfl) (by kernel_rfl) (by kernel_rfl) (fun _ _ _ h => h) (Or.inl ⟨by rfl, ?_⟩) (by assumption) ?_
        rotate_left
        · (intro w' hSw; (try dsimp only at hSw); go_simp; try (with_reducible rfl))
        change wpAnyH _ _ _ _ _ _ _ (Act.put _ (some 77) _) _
        try simp only [Act.put, List.setIfInBounds_toArray, List.set_cons_zero, List.set_cons_succ]
        refine wpAnyH_take (i := 5) (v := ?_) rfl (by kernel_rfl) (by kernel_rfl) (by kernel_rfl) (fun _ _ _ h => h) (Or.inl ⟨by rfl, ?_⟩) (by assumption) ?_
        rotate_left
        · (intro w' hSw; (try dsimp only at hSw); go_simp; try (with_reducible rfl))
        change wpAnyH _ _ _ _ _ _ _ (Act.put _ (some 78) _) _
        try simp only [Act.put, List.setIfInBounds_toArray, List.set_cons_zero, List.set_cons_succ]
        refine wpAnyH_take (i := 6) (v := ?_) rfl (by kernel_rfl) (by kernel_rfl) (by kernel_rfl) (fun _ _ _ h => h) (Or.inl ⟨by rfl, ?_⟩) (by assumption) ?_
        rotate_left
        · (intro w' hSw; (try dsimp only at hSw); go_simp; try (with_reducible rfl))
        change wpAnyH _ _ _ _ _ _ _ (Act.put _ (some 79) _) _
        try simp only [Act.put, List.setIfInBounds_toArray, List.set_cons_zero, List.set_cons_succ]
        refine wpAnyH_take (i := 7) (v := ?_) rfl (by kernel_rfl) (by kernel_rfl) (by kernel_rfl) (fun _ _ _ h => h) (Or.inl ⟨by rfl, ?_⟩) (by assumption) ?_
        rotate_left
        · (intro w' hSw; (try dsimp only at hSw); go_simp; try (with_reducible rfl))
        change wpAnyH _ _ _ _ _ _ _ (Act.put _ (some 80) _) _
        try simp only [Act.put, List.setIfInBounds_toArray, List.set_cons_zero, List.set_cons_succ]
        refine wpAnyH_take (i := 8) (v := ?_) rfl (by kernel_rfl) (by kernel_rfl) (by kernel_rfl) (fun _ _ _ h => h) (Or.inl ⟨by rfl, ?_⟩) (by assumption) ?_
        rotate_left
        · (intro w' hSw; (try dsimp only at hSw); go_simp; try (with_reducible rfl))
        change wpAnyH _ _ _ _ _ _ _ (Act.put _ (some 81) _) _
        try simp only [Act.put, List.setIfInBounds_toArray, List.set_cons_zero, List.set_cons_succ]
        refine wpAnyH_take (i := 9) (v := ?_) rfl (by kernel_rfl) (by kernel_rfl) (by kernel_rfl) (fun _ _ _ h => h) (Or.inl ⟨by rfl, ?_⟩) (by assumption) ?_
        rotate_left
        · (intro w' hSw; (try dsimp only at hSw); go_simp; try (with_reducible rfl))
        change wpAnyH _ _ _ _ _ _ _ (Act.put _ (some 82) _) _
        try simp only [Act.put, List.setIfInBounds_toArray, List.set_cons_zero, List.set_cons_succ]
        refine wpAnyH_take (i := 10) (v := ?_) rfl (by kernel_rfl) (by kernel_rfl) (by kernel_rfl) (fun _ _ _ h => h) (Or.inl ⟨by rfl, ?_⟩) (by assumption) ?_
        rotate_left
        · (intro w' hSw; (try dsimp only at hSw); go_simp; try (with_reducible rfl))
        change wpAnyH _ _ _ _ _ _ _ (Act.put _ (some 83) _) _
        try simp only [Act.put, List.setIfInBounds_toArray, List.set_cons_zero, List.set_cons_succ]
        refine wpAnyH_take (i := 11) (v := ?_) rfl (by kernel_rfl) (by kernel_rfl) (by kernel_rfl) (fun _ _ _ h => h) (Or.inl ⟨by rfl, ?_⟩) (by assumption) ?_
        rotate_left
        · (intro w' hSw; (try dsimp only at hSw); go_simp; try (with_reducible rfl))
        change wpAnyH _ _ _ _ _ _ _ (Act.put _ (some 84) _) _
        try simp only [Act.put, List.setIfInBounds_toArray, List.set_cons_zero, List.set_cons_succ]
        refine wpAnyH_take (i := 12) (v := ?_) rfl (by kernel_rfl) (by kernel_rfl) (by kernel_rfl) (fun _ _ _ h => h) (Or.inl ⟨by rfl, ?_⟩) (by assumption) ?_
        rotate_left
        · (intro w' hSw; (try dsimp only at hSw); go_simp; try (with_reducible rfl))
        change wpAnyH _ _ _ _ _ _ _ (Act.put _ (some 85) _) _
        try simp only [Act.put, List.setIfInBounds_toArray, List.set_cons_zero, List.set_cons_succ]
        refine wpAnyH_take (i := 13) (v := ?_) rfl (by kernel_rfl) (by kernel_rfl) (by kernel_rfl) (fun _ _ _ h => h) (Or.inl ⟨by rfl, ?_⟩) (by assumption) ?_
        rotate_left
        · (intro w' hSw; (try dsimp only at hSw); go_simp; try (with_reducible rfl))
        change wpAnyH _ _ _ _ _ _ _ (Act.put _ (some 86) _) _
        try simp only [Act.put, List.setIfInBounds_toArray, List.set_cons_zero, List.set_cons_succ]
        refine wpAnyH_take (i := 14) (v := ?_) rfl (by kernel_rfl) (by kernel_rfl) (by kernel_rfl) (fun _ _ _ h => h) (Or.inl ⟨by rfl, ?_⟩) (by assumption) ?_
        rotate_left
        · (intro w' hSw; (try dsimp only at hSw); go_simp; try (with_reducible rfl))
        change wpAnyH _ _ _ _ _ _ _ (Act.put _ (some 2) _) _
        try simp only [Act.put, List.setIfInBounds_toArray, List.set_cons_zero, List.set_cons_succ]
        refine wpAnyH_done (by kernel_rfl) ?_ _
        go_wp2
        go_ret
        refine ⟨end_string ?_, ?_⟩
        · first | exact HR.out.symm | (rw [HR.out]; apply ba_list; simp)
        · repeat' (first | (with_reducible exact Below.refl _ _) | (with_reducible refine ext_trans ?_ hb3) | (with_reducible refine ext_trans ?_ hb1) | (with_reducible refine ext_trans ?_ (ext_alloc _ _)) | (with_reducible refine Below.drew ?_))
      · obtain ⟨z, hz1⟩ : ∃ z : Nat, P = -(z : Int) := ⟨(-P).toNat, by omega⟩
        subst hz1
        have HR := hid (show decT ⟨true, dig, exp⟩ = ⟨#[45]⟩ ++ ⟨#[48, 46]⟩ ++ zeroB z ++ dig by unfold decT; rw [hdp, if_neg hz, if_neg (fun h => h hbig), if_neg hex, if_neg hpp, show (- -(z : Int)).toNat = z by omega]; rfl)
        have he2 : z ≤ 1000 := by omega
        have hzz := zeroB_size z
        have hw1 : IntKind.i64.wrap (-(-(z : Int) - 1)) = (z : Int) + 1 := by rw [show -(-(z : Int) - 1) = (z : Int) + 1 by omega]; exact IntWalk.i64_in _ (by omega)
        have hw2 : IntKind.i64.wrap (z : Int) = (z : Int) := IntWalk.i64_in _ (by omega)
        obtain ⟨k1, k2, k3, k4⟩ : (¬ 9223372036854775807 < 2 + z) ∧ (¬ 9223372036854775807 < 1 + 2 + z) ∧ (¬ 9223372036854775807 < 2 + z + dig.size) ∧ (¬ 9223372036854775807 < 1 + 2 + z + dig.size) := ⟨by omega, by omega, by omega, by omega⟩
        obtain ⟨k5, k6⟩ : (¬ 9223372036854775807 < 3 + z) ∧ (¬ 9223372036854775807 < 3 + z + dig.size) := ⟨by omega, by omega⟩
        clear hdp hbig
        go_enter Tryz.func88, Tryz.ntmps88
        go_wp2_with fail
        refine (within_any _ _ _ _).mono ?_
        rintro e' w2 ⟨rfl, rfl⟩
        go_wp2_with fail
        refine wp_region_held_drew (S := fun w' => w'.cell? ⟨w.heap.size, 0, none⟩ = some (.bool true) ∧ w'.cell? ⟨w.heap.size, 1, none⟩ = some (.string dig) ∧ w'.cell? ⟨w.heap.size, 2, none⟩ = some (.int .i64 exp)) (by kernel_rfl) ?_ (fun hHeld => ?_)
        · simp [*]
        refine wpAnyH_take (i := 0) (v := ?_) rfl (by kernel_rfl) (by kernel_rfl) (by kernel_rfl) (fun _ _ _ h => h) (Or.inl ⟨by rfl, ?_⟩) (by assumption) ?_
        rotate_left
        · (intro w' hSw; (try dsimp only at hSw); go_simp; try (with_reducible rfl))
        change wpAnyH _ _ _ _ _ _ _ (Act.put _ (some 63) _) _
        try simp only [Act.put, List.setIfInBounds_toArray, List.set_cons_zero, List.set_cons_succ]
        refine wpAnyH_take (i := 1) (v := ?_) rfl (by kernel_rfl) (by kernel_rfl) (by kernel_rfl) (fun _ _ _ h => h) (Or.inl ⟨by rfl, ?_⟩) (by assumption) ?_
        rotate_left
        · (intro w' hSw; (try dsimp only at hSw); go_simp; try (with_reducible rfl))
        change wpAnyH _ _ _ _ _ _ _ (Act.put _ (some 64) _) _
        try simp only [Act.put, List.setIfInBounds_toArray, List.set_cons_zero, List.set_cons_succ]
        refine wpAnyH_take (i := 2) (v := ?_) rfl (by kernel_rfl) (by kernel_rfl) (by kernel_rfl) (fun _ _ _ h => h) (Or.inl ⟨by rfl, ?_⟩) (by assumption) ?_
        rotate_left
        · (intro w' hSw; (try dsimp only at hSw); go_simp; try (with_reducible rfl))
        change wpAnyH _ _ _ _ _ _ _ (Act.put _ (some 65) _) _
        try simp only [Act.put, List.setIfInBounds_toArray, List.set_cons_zero, List.set_cons_succ]
        refine wpAnyH_take (i := 3) (v := ?_) rfl (by kernel_rfl) (by kernel_rfl) (by kernel_rfl) (fun _ _ _ h => h) (Or.inl ⟨by rfl, ?_⟩) (by assumption) ?_
        rotate_left
        · (intro w' hSw; (try dsimp only at hSw); go_simp; try (with_reducible rfl))
        change wpAnyH _ _ _ _ _ _ _ (Act.put _ (some 66) _) _
        try simp only [Act.put, List.setIfInBounds_toArray, List.set_cons_zero, List.set_cons_succ]
        refine wpAnyH_take (i := 4) (v := ?_) rfl (by kernel_rfl) (by kernel_rfl) (by kernel_rfl) (fun _ _ _ h => h) (Or.inl ⟨by rfl, ?_⟩) (by assumption) ?_
        rotate_left
        · (intro w' hSw; (try dsimp only at hSw); go_simp; try (with_reducible rfl))
        change wpAnyH _ _ _ _ _ _ _ (Act.put _ (some 67) _) _
        try simp only [Act.put, List.setIfInBounds_toArray, List.set_cons_zero, List.set_cons_succ]
        refine wpAnyH_take (i := 7) (v := ?_) rfl (by kernel_rfl) (by kernel_rfl) (by kernel_rfl) (fun _ _ _ h => h) (Or.inl ⟨by rfl, ?_⟩) (by assumption) ?_
        rotate_left
        · (intro w' hSw; (try dsimp only at hSw); go_simp; try (with_reducible rfl))
        change wpAnyH _ _ _ _ _ _ _ (Act.put _ (some 70) _) _
        try simp only [Act.put, List.setIfInBounds_toArray, List.set_cons_zero, List.set_cons_succ]
        refine wpAnyH_take (i := 8) (v := ?_) rfl (by kernel_rfl) (by kernel_rfl) (by kernel_rfl) (fun _ _ _ h => h) (Or.inl ⟨by rfl, ?_⟩) (by assumption) ?_
        rotate_left
        · (intro w' hSw; (try dsimp only at hSw); go_simp; try (with_reducible rfl))
        change wpAnyH _ _ _ _ _ _ _ (Act.put _ (some 71) _) _
        try simp only [Act.put, List.setIfInBounds_toArray, List.set_cons_zero, List.set_cons_succ]
        refine wpAnyH_ready (rs := [5]) (by kernel_rfl) (by simp) ?_
        refine AllReadyH.cons (i := 5) rfl (fun K hK => ?_) AllReadyH.nil
        simp only [List.getElem_toArray, List.getElem_cons_succ, List.getElem_cons_zero]
        rw [if_pos (by rfl)]
        go_simp
        (go_at_call 98; refine (zRepeat z _ (by omega)).mono ?_; rintro e' w3 ⟨rfl, hb3⟩; have hkc := keeps_cells hb3; go_wp2_with fail)
        refine hK.out _ _ ?_ (fun hHeld => ?_)
        · (try dsimp only); simp [*]
        clear hK K
        try simp only [Act.put, List.setIfInBounds_toArray, List.set_cons_zero, List.set_cons_succ]
        refine wpAnyH_take (i := 6) (v := ?_) rfl (by kernel_rfl) (by kernel_rfl) (by kernel_rfl) (fun _ _ _ h => h) (Or.inl ⟨by rfl, ?_⟩) (by assumption) ?_
        rotate_left
        · (intro w' hSw; (try dsimp only at hSw); go_simp; try (with_reducible rfl))
        change wpAnyH _ _ _ _ _ _ _ (Act.put _ (some 69) _) _
        try simp only [Act.put, List.setIfInBounds_toArray, List.set_cons_zero, List.set_cons_succ]
        refine wpAnyH_take (i := 9) (v := ?_) rfl (by kernel_rfl) (by kernel_rfl) (by kernel_rfl) (fun _ _ _ h => h) (Or.inl ⟨by rfl, ?_⟩) (by assumption) ?_
        rotate_left
        · (intro w' hSw; (try dsimp only at hSw); go_simp; try (with_reducible rfl))
        change wpAnyH _ _ _ _ _ _ _ (Act.put _ (some 72) _) _
        try simp only [Act.put, List.setIfInBounds_toArray, List.set_cons_zero, List.set_cons_succ]
        refine wpAnyH_take (i := 10) (v := ?_) rfl (by kernel_rfl) (by kernel_rfl) (by kernel_rfl) (fun _ _ _ h => h) (Or.inl ⟨by rfl, ?_⟩) (by assumption) ?_
        rotate_left
        · (intro w' hSw; (try dsimp only at hSw); go_simp; try (with_reducible rfl))
        change wpAnyH _ _ _ _ _ _ _ (Act.put _ (some 2) _) _
        try simp only [Act.put, List.setIfInBounds_toArray, List.set_cons_zero, List.set_cons_succ]
        refine wpAnyH_done (by kernel_rfl) ?_ _
        go_wp2
        go_ret
        refine ⟨end_string ?_, ?_⟩
        · first | exact HR.out.symm | (rw [HR.out]; apply ba_list; simp)
        · repeat' (first | (with_reducible exact Below.refl _ _) | (with_reducible refine ext_trans ?_ hb3) | (with_reducible refine ext_trans ?_ hb1) | (with_reducible refine ext_trans ?_ (ext_alloc _ _)) | (with_reducible refine Below.drew ?_))
theorem specDecText {cs : Array Value} {d : Dec} (w : World) (hrd : Rd.rd (Old w) w cs.toList d) :
    Calls Tryz.prog 18 #[.agg cs] w fun e w' => e = .returned (.string (decTx d)) ∧ Below w.heap.size w w' := by
  obtain ⟨hcs, hs, he⟩ := rdDec hrd
  obtain rfl := arr_of_list hcs
  exact specDecText0 d.neg d.dig d.exp w hs he
end Go.Proofs.YtomcoilmpkpoeaaGreatDoor
