/-
  What is proved here: the text of a bracket in impl. No condition.
-/
import Derived.Test.YtomcoilmpkpoeaaGreatDoorQRxTI2
import Derived.Test.YtomcoilmpkpoeaaGreatDoorQRxS1
namespace Go.Proofs.YtomcoilmpkpoeaaGreatDoor
open Go.RowKit
set_option linter.unusedVariables false
set_option linter.unusedSimpArgs false

theorem setBody_two {s : List Int} {m : Nat} (hm : m % 2 = 0) (h : m + 1 < s.length) : setBody (s.take (m + 2)) = setBody (s.take m) ++ (charP spSet s[m] ++ (if s[m] = s[m + 1] then [] else 45 :: charP spSet s[m + 1])) := by
  obtain ⟨k, rfl⟩ : ∃ k, m = 2 * k := ⟨m / 2, by omega⟩
  exact setBody_take k s h
def SetRes (n : RxNode) (w : World) (e : Ending) (w' : World) : Prop := ∃ (s : ByteArray) (ok : Bool), e = .returned (.tuple #[.string s, .bool ok]) ∧ s.size ≤ 30000 ∧ (ok = true ↔ (setBad n = false ∧ n.set.length ≤ 2000)) ∧ (ok = true → s.data.toList = setOpen n.neg ++ setBody n.set ++ [93]) ∧ Below w.heap.size w w'
theorem spSet_low : ∀ b ∈ (⟨#[92, 93, 91, 94, 45]⟩ : ByteArray).data.toList, b.toNat < 128 := by decide
theorem dat_app3 (a b : ByteArray) : (a ++ b).data.toList = a.data.toList ++ b.data.toList := by rw [ByteArray.data_append, Array.toList_append]
theorem setTextBad (c : Int) (W : World) :
    Calls Tryz.prog 186 (#[.int .i64 c] ++ #[]) W fun e W' => e = .returned (.bool (!ptB c)) ∧ Below W.heap.size W W' := by
  have C := hid (implPoint c W)
  show Calls Tryz.prog 186 #[.int .i64 c] W _
  go_enter Tryz.func186, Tryz.ntmps186
  go_wp2_with fail
  refine C.out.mono ?_
  rintro e w1 ⟨rfl, rfl⟩
  go_wp2
  go_ret
  exact ⟨rfl, Below.refl _ _⟩
set_option maxHeartbeats 8000000 in
set_option maxRecDepth 100000 in
theorem implSetText {n : RxNode} {sa : Option Addr} {sc : Nat} {uk : Value} (w : World) (h : Rd.rd (Old w) w [.slice sa n.set.length sc] n.set) (hone : uk.oneCell' = true) (hku : ∃ ka kn kc, uk = .slice ka kn kc) :
    Calls Tryz.prog 152 #[.agg #[.int .i64 n.kind, .int .i64 n.lo, .int .i64 n.hi, .bool n.neg, .slice sa n.set.length sc, uk]] w (SetRes n w) := by
  obtain ⟨ka, kn, kc, rfl⟩ := hku
  obtain ⟨neg, hneg⟩ : ∃ z, n.neg = z := ⟨_, rfl⟩
  obtain ⟨a', cap', hv, h1, h2, hF⟩ := rdIntsL h
  obtain ⟨rfl, rfl⟩ : sa = a' ∧ sc = cap' := by simpa using hv
  have HNEG := hid hneg
  have HSET := hid (fun (ok : Bool) (s : ByteArray) (w' : World) (h1 : s.size ≤ 30000) (h2 : ok = true ↔ (setBad n = false ∧ n.set.length ≤ 2000)) (h3 : ok = true → s.data.toList = setOpen neg ++ setBody n.set ++ [93]) (h4 : Below w.heap.size w w') => (show SetRes n w (.returned (.tuple #[.string s, .bool ok])) w' from ⟨s, ok, rfl, h1, h2, by rw [hneg]; exact h3, h4⟩))
  rw [hneg]
  obtain ⟨L, hL⟩ : ∃ z, n.set.length = z := ⟨_, rfl⟩
  have HL := hid hL
  rw [hL] at h1
  rw [hL]
  have hW0 := heap_alloc_new w (.cells #[.int .i64 n.kind, .int .i64 n.lo, .int .i64 n.hi, .bool neg, .slice sa L sc, .slice ka kn kc] 82)
  have HBX := hid (fun (w' : World) (hb : Below (w.heap.size + 1) (w.alloc (.cells #[.int .i64 n.kind, .int .i64 n.lo, .int .i64 n.hi, .bool neg, .slice sa L sc, .slice ka kn kc] 82)) w') => (blk6c ((hb.block w.heap.size (Nat.lt_succ_self _)).trans hW0)).1)
  have HBW := hid (fun (w' : World) (hb : Below (w.heap.size + 1) (w.alloc (.cells #[.int .i64 n.kind, .int .i64 n.lo, .int .i64 n.hi, .bool neg, .slice sa L sc, .slice ka kn kc] 82)) w') => (ext_alloc w (.cells #[.int .i64 n.kind, .int .i64 n.lo, .int .i64 n.hi, .bool neg, .slice sa L sc, .slice ka kn kc] 82)).trans (hb.mono (Nat.le_succ _)))
  have HSZ := hid (fun (w' : World) (hb : Below (w.heap.size + 1) (w.alloc (.cells #[.int .i64 n.kind, .int .i64 n.lo, .int .i64 n.hi, .bool neg, .slice sa L sc, .slice ka kn kc] 82)) w') => (show w.heap.size + 1 ≤ w'.heap.size from by have := hb.size; simp at this; exact this))
  clear hW0 hneg hv
  have hb0 := Below.refl (w.heap.size + 1) (w.alloc (.cells #[.int .i64 n.kind, .int .i64 n.lo, .int .i64 n.hi, .bool neg, .slice sa L sc, .slice ka kn kc] 82))
  obtain ⟨z0, z1, z2, z3, z4, z5⟩ := HBX.out _ hb0
  replace hF := fun (h0 : 0 < L) => hF (by omega)
  have hr2 : (0 : Int) ≤ (L : Int) := by omega
  by_cases hodd : L % 2 = 1
  · have HBAD := hid (show setBad n = true by unfold setBad; rw [HL.out, decide_eq_true hodd]; rfl)
    have e1 : ((L : Int) % 2 == 1) = true := by rw [beq_iff_eq]; omega
    have e2 : ((L : Int).tmod 2 == 1) = true := by rw [Int.tmod_eq_emod_of_nonneg hr2]; exact e1
    clear hL hodd hF
    cases neg
    all_goals
      go_enter Tryz.func152, Tryz.ntmps152
      go_wp2
      go_ret2
      exact HSET.out false _ _ (by decide) ⟨fun h => (by cases h), fun h => (by rw [HBAD.out] at h; cases h.1)⟩ (fun h => by cases h) (HBW.out _ hb0)
  by_cases hlong : 2000 < L
  · have e0 : ((L : Int) % 2 == 1) = false := by rw [beq_eq_false_iff_ne]; omega
    have e2 : ((L : Int).tmod 2 == 1) = false := by rw [Int.tmod_eq_emod_of_nonneg hr2]; exact e0
    have e3 : (2000 : Int) < (L : Int) := by omega
    clear hL hodd hF
    cases neg
    all_goals
      go_enter Tryz.func152, Tryz.ntmps152
      go_wp2
      go_ret2
      exact HSET.out false _ _ (by decide) ⟨fun h => (by cases h), fun h => (by have := h.2; rw [HL.out] at this; omega)⟩ (fun h => by cases h) (HBW.out _ hb0)
  have e0 : ((L : Int) % 2 == 1) = false := by rw [beq_eq_false_iff_ne]; omega
  have e2 : ((L : Int).tmod 2 == 1) = false := by rw [Int.tmod_eq_emod_of_nonneg hr2]; exact e0
  have e3 : ¬ (2000 : Int) < (L : Int) := by omega
  have eg1 := enters_of Tryz.func186 (by kernel_rfl) rfl
  have CA := hid (anyIntF (fun c => !ptB c) 186 #[] eg1 (xs := n.set) _ (Rd.later (ext_alloc w (.cells #[.int .i64 n.kind, .int .i64 n.lo, .int .i64 n.hi, .bool neg, .slice sa L sc, .slice ka kn kc] 82)) h) (by omega) (fun c W hbW => setTextBad c W))
  obtain ⟨q, hq⟩ : ∃ q, (n.set.any fun c => !ptB c) = q := ⟨_, rfl⟩
  rw [hq] at CA
  rw [hL] at CA
  have HQ := hid hq
  have HOD := hid hodd
  clear hq eg1 h hL hodd
  cases q with
  | true =>
    have HBAD := hid (show setBad n = true by unfold setBad; rw [HQ.out]; simp)
    clear hF
    cases neg
    all_goals
      go_enter Tryz.func152, Tryz.ntmps152
      go_wp2_with fail
      refine CA.out.mono ?_
      rintro e w1 ⟨rfl, hb⟩
      go_wp2
      go_ret2
      exact HSET.out false _ _ (by decide) ⟨fun h => (by cases h), fun h => (by rw [HBAD.out] at h; cases h.1)⟩ (fun h => by cases h) (ext_trans (ext_alloc w _) hb)
  | false =>
    have HGOOD := hid (show setBad n = false by unfold setBad; rw [HQ.out, HL.out, decide_eq_false HOD.out]; rfl)
    have HPT := hid (show ∀ k (hk : k < n.set.length), ptB n.set[k] = true from fun k hk => by
      have := List.any_eq_false.1 HQ.out n.set[k] (List.getElem_mem hk)
      simpa using this)
    have HOPEN := hid (show ∃ o : ByteArray, o.data.toList = setOpen neg ∧ o.size ≤ 2 from ⟨⟨(setOpen neg).toArray⟩, rfl, by cases neg <;> decide⟩)
    have key : ∀ (wr : World) (o : ByteArray), True := fun _ _ => trivial
    clear key
    cases neg
    all_goals
      go_enter Tryz.func152, Tryz.ntmps152
      go_wp2_with fail
      refine CA.out.mono ?_
      rintro e w1 ⟨rfl, hb⟩
      have b1 := hb0.trans (hb.mono (HSZ.out _ hb0))
      clear hb z0 z1 z2 z3 z4 z5
      obtain ⟨z0, z1, z2, z3, z4, z5⟩ := HBX.out _ b1
      go_wp2
      go_loopw [4, 5] (fun sv i wr => ∃ (m : Nat) (sb : ByteArray), m ≤ L ∧ m % 2 = 0 ∧ sv = .string sb ∧ i = .int .i64 (m : Int) ∧ sb.size ≤ 2 + 6 * m ∧ Hid (sb.data.toList = setOpen n.neg ++ setBody (n.set.take m)) ∧ Below (w.heap.size + 1) (w.alloc (.cells #[.int .i64 n.kind, .int .i64 n.lo, .int .i64 n.hi, .bool n.neg, .slice sa L sc, .slice ka kn kc] 82)) wr) (fun _ i _ => L - (intOf i).toNat)
      case atStart => exact ⟨0, _, Nat.zero_le _, rfl, rfl, rfl, by decide, hid (by rw [HNEG.out]; rfl), by rw [HNEG.out]; exact b1⟩
      case round =>
        obtain ⟨m, sb, hm, hev, rfl, rfl, hsb, HSB, hB⟩ := hrel
        rw [HNEG.out] at hB
        clear z0 z1 z2 z3 z4 z5
        obtain ⟨z0, z1, z2, z3, z4, z5⟩ := HBX.out _ hB
        have hBw := HBW.out _ hB
        have hsr := HSZ.out _ hB
        have HOD1 := HOD.out
        by_cases hlt : m < L
        · obtain ⟨b, off, rfl, hBk, hcell⟩ := hF (by omega)
          have hm1 : m < n.set.length := by rw [HL.out]; exact hlt
          have hm2 : m + 1 < n.set.length := by rw [HL.out]; omega
          have t0 : wr.cell? ⟨b, off + m, none⟩ = some (.int .i64 n.set[m]) := (hBw.cell (p := ⟨b, off + m, none⟩) hBk).trans (hcell m hm1).1
          have t1 : wr.cell? ⟨b, off + (m + 1), none⟩ = some (.int .i64 n.set[m + 1]) := (hBw.cell (p := ⟨b, off + (m + 1), none⟩) hBk).trans (hcell (m + 1) hm2).1
          have HST := hid (setBody_two hev hm2)
          have p1 := HPT.out m hm1
          have p2 := HPT.out (m + 1) hm2
          obtain ⟨x, hx⟩ : ∃ x, n.set[m] = x := ⟨_, rfl⟩
          obtain ⟨y, hy⟩ : ∃ y, n.set[m + 1] = y := ⟨_, rfl⟩
          rw [hx] at t0 p1 HST
          rw [hy] at t1 p2 HST
          have HP1 := hid p1
          have HP2 := hid p2
          have g0 : (0 : Int) ≤ (m : Int) := by omega
          have gl : (m : Int) < (L : Int) := by omega
          have g1 : IntKind.i64.wrap ((m : Int) + 1) = (m : Int) + 1 := IntWalk.i64_in _ (by omega)
          have g2 : (0 : Int) ≤ (m : Int) + 1 := by omega
          have g3 : ((m : Int) + 1).toNat = m + 1 := by omega
          have g4 : (m : Int) + 1 < (L : Int) := by omega
          have g5 : IntKind.i64.wrap ((m : Int) + 2) = (m : Int) + 2 := IntWalk.i64_in _ (by omega)
          clear hcell hF hx hy p1 p2
          go_wp2_with fail
          refine (implCharText x ⟨#[92, 93, 91, 94, 45]⟩ _ spSet_low (by decide)).mono ?_
          rintro e w2 ⟨s1, rfl, hs1, hc1, hb2⟩
          have HC1 := hid (hc1 HP1.out)
          have u1 := keeps_cells hb2 _ _ t1
          have u0 := keeps_cells hb2 _ _ t0
          have u4 := keeps_cells hb2 _ _ z4
          have q1 : ¬ 9223372036854775807 < sb.size + s1.size := by omega
          clear hc1
          by_cases hxy : x = y
          · have f1 : (x != y) = false := by simp [hxy]
            have f2 : (x == y) = true := by simp [hxy]
            have HXY := hid hxy
            clear hxy
            go_wp2
            go_quiet (fail)
            go_wp2
            go_roundw
            case rel =>
              refine ⟨m + 2, sb ++ s1, by omega, by omega, rfl, by go_num, by rw [ByteArray.size_append]; omega, hid ?_, by rw [HNEG.out]; exact hB.trans ((bel_dn2 hb2 _).mono hsr)⟩
              rw [dat_app3, HSB.out, HC1.out, HST.out, if_pos HXY.out]
              simp only [List.append_nil, List.append_assoc]
              rfl
            case measure => simp [intOf]; omega
          · have f1 : (x != y) = true := by rw [bne_iff_ne]; exact hxy
            have f2 : (x == y) = false := by rw [beq_eq_false_iff_ne]; exact hxy
            have HXY := hid hxy
            clear hxy
            go_wp2
            go_quiet (fail)
            obtain ⟨w3, hw3⟩ : ∃ W, w2.drewN nq = W := ⟨_, rfl⟩
            have v1 : w3.cell? ⟨b, off + (m + 1), none⟩ = some (.int .i64 y) := by rw [← hw3]; exact u1
            have v4 : w3.cell? ⟨w.heap.size, 4, none⟩ = some (.slice (some ⟨b, off, none⟩) L sc) := by rw [← hw3]; exact u4
            have hB3 : Below wr.heap.size wr w3 := by rw [← hw3]; exact bel_dn2 hb2 _
            rw [hw3]
            clear hw3
            go_wp2_with fail
            refine (implCharText y ⟨#[92, 93, 91, 94, 45]⟩ _ spSet_low (by decide)).mono ?_
            rintro e w4 ⟨s2, rfl, hs2, hc2, hb4⟩
            have HC2 := hid (hc2 HP2.out)
            have q2 : ¬ 9223372036854775807 < 1 + s2.size := by omega
            have q3 : ¬ 9223372036854775807 < sb.size + s1.size + (1 + s2.size) := by omega
            clear hc2
            go_wp2
            go_roundw
            case rel =>
              refine ⟨m + 2, sb ++ s1 ++ (⟨#[45]⟩ ++ s2), by omega, by omega, rfl, by go_num, by rw [ByteArray.size_append, ByteArray.size_append, ByteArray.size_append]; show sb.size + s1.size + (1 + s2.size) ≤ _; omega, hid ?_, by rw [HNEG.out]; exact hB.trans ((ext_trans hB3 hb4).mono hsr)⟩
              rw [dat_app3, dat_app3, dat_app3, HSB.out, HC1.out, HC2.out, HST.out, if_neg HXY.out]
              simp only [List.append_assoc]
              rfl
            case measure => simp [intOf]; omega
        · have gl : ¬ (m : Int) < (L : Int) := by omega
          have q1 : ¬ 9223372036854775807 < sb.size + 1 := by omega
          have HFULL := hid (show n.set.take m = n.set from List.take_of_length_le (by rw [HL.out]; omega))
          have HLL := hid (show n.set.length ≤ 2000 by rw [HL.out]; omega)
          clear hF
          go_wp2
          go_ret2
          refine HSET.out true _ _ (by rw [ByteArray.size_append]; show sb.size + 1 ≤ _; omega) ⟨fun _ => ⟨HGOOD.out, HLL.out⟩, fun _ => rfl⟩ (fun _ => ?_) hBw
          rw [dat_app3, HSB.out, HFULL.out, HNEG.out]
end Go.Proofs.YtomcoilmpkpoeaaGreatDoor
