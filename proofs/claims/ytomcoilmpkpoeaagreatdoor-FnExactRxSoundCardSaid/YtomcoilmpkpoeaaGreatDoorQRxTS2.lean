/-
  What is proved here: the text of a pattern in the reference. No condition.
-/
import Derived.Test.YtomcoilmpkpoeaaGreatDoorQRxTS1
import Derived.Test.YtomcoilmpkpoeaaGreatDoorQRxTI5
import Derived.Test.YtomcoilmpkpoeaaGreatDoorQRxSzT
namespace Go.Proofs.YtomcoilmpkpoeaaGreatDoor
open Go.RowKit
set_option linter.unusedVariables false
set_option linter.unusedSimpArgs false

theorem setBody_pre : ∀ (k : Nat) (s : List Int), (setBody (s.take (2 * k))).length ≤ (setBody s).length
  | 0, s => by simp [setBody]
  | k + 1, [] => by simp
  | k + 1, [a] => by
    rw [show 2 * (k + 1) = (2 * k) + 1 + 1 by omega, List.take_succ_cons]
    simp [setBody]
  | k + 1, a :: b :: r => by
    have ih := setBody_pre k r
    rw [show 2 * (k + 1) = (2 * k) + 1 + 1 by omega, List.take_succ_cons, List.take_succ_cons, setBody, setBody]
    simp only [List.length_append]
    omega
theorem setBody_pre2 {m : Nat} {s : List Int} (hm : m % 2 = 0) : (setBody (s.take m)).length ≤ (setBody s).length := by
  obtain ⟨k, rfl⟩ : ∃ k, m = 2 * k := ⟨m / 2, by omega⟩
  exact setBody_pre k s
/-- a node's answer, off its text -/
theorem step_of {kinds : List Int} {ts : List ByteArray} {n : RxNode} {t : List UInt8} {s : ByteArray} (h : nodeT kinds ts n = some t) (hs : s.data.toList = t) : stepT kinds ts n = if s.size ≤ 1000 then some s else none := by
  have h1 := step_some h hs
  rw [← h1]
  by_cases hl : s.size ≤ 1000
  · rw [if_pos ⟨rfl, hl⟩, if_pos hl]
  · rw [if_neg (fun hc => hl hc.2), if_neg hl]
theorem step_no {kinds : List Int} {ts : List ByteArray} {n : RxNode} (h : nodeT kinds ts n = none) : stepT kinds ts n = none := by unfold stepT; rw [h]
theorem step_big {kinds : List Int} {ts : List ByteArray} {n : RxNode} {t : List UInt8} (h : nodeT kinds ts n = some t) (hl : 1000 < t.length) : stepT kinds ts n = none := by
  unfold stepT
  rw [h]
  dsimp only
  have h1 : ¬ t.length ≤ 1000 := by omega
  rw [if_neg h1]
set_option maxHeartbeats 32000000 in
set_option maxRecDepth 100000 in
theorem specRxText {na : Option Addr} {nc : Nat} {ns : List RxNode} (w : World) (hn : Rd.rd (Old w) w [.slice na ns.length nc] ns) (hl : ns.length ≤ 2000000) :
    Calls Tryz.prog 32 #[.agg #[.slice na ns.length nc]] w fun e w' => e = .returned (.string ((textP ns).getD ⟨#[]⟩)) ∧ Below w.heap.size w w' := by
  have hb0 := Below.refl (w.heap.size + 1) (w.alloc (.cells #[.slice na ns.length nc] 29))
  have hW0 := heap_alloc_new w (.cells #[.slice na ns.length nc] 29)
  have HBX := hid (fun (w' : World) (hb : Below (w.heap.size + 1) (w.alloc (.cells #[.slice na ns.length nc] 29)) w') => (show w'.cell? ⟨w.heap.size, 0, none⟩ = some (.slice na ns.length nc) from cell_of_row _ _ 0 _ _ _ ((hb.block w.heap.size (Nat.lt_succ_self _)).trans hW0)))
  have HBW := hid (fun (w' : World) (hb : Below (w.heap.size + 1) (w.alloc (.cells #[.slice na ns.length nc] 29)) w') => (ext_alloc w (.cells #[.slice na ns.length nc] 29)).trans (hb.mono (Nat.le_succ _)))
  have HSZ := hid (fun (w' : World) (hb : Below (w.heap.size + 1) (w.alloc (.cells #[.slice na ns.length nc] 29)) w') => (show w.heap.size + 1 ≤ w'.heap.size from by have := hb.size; simp at this; exact this))
  have CT := hid (specTree (w.alloc (.cells #[.slice na ns.length nc] 29)) (Rd.later (ext_alloc w _) hn) hl)
  obtain ⟨q, hq⟩ : ∃ q, treeB (kidsOf ns) = q := ⟨_, rfl⟩
  rw [hq] at CT
  have HQ := hid hq
  have x0 := HBX.out _ hb0
  clear hW0 hq
  cases q with
  | false =>
    have HR := hid (show (textP ns).getD ⟨#[]⟩ = ⟨#[]⟩ by rw [textP_no HQ.out]; rfl)
    go_enter Tryz.func32, Tryz.ntmps32
    go_wp2_with fail
    refine CT.out.mono ?_
    rintro e w1 ⟨rfl, hb⟩
    go_wp2
    go_ret
    rw [HR.out]
    exact ⟨rfl, ext_trans (ext_alloc w _) hb⟩
  | true =>
    have htree := treeB_iff.1 HQ.out
    have hpos : 0 < ns.length := by have := htree.1; simpa [kidsOf] using this
    have HTREE := hid htree
    have hmk := run_make_row' (P := Tryz.prog) 90 9 _ 16 Tryz.underlying90 info_strN rfl .i64 .i64 ns.length (by omega) (by omega)
    obtain ⟨n, hnn⟩ : ∃ n, ns.length = n := ⟨_, rfl⟩
    have HNN := hid hnn
    obtain ⟨na', cap', hv, h1, h2, hrow⟩ := rdRow hn
    obtain ⟨rfl, rfl⟩ : na = na' ∧ nc = cap' := by simpa using hv
    have HROW := hid (fun (h0 : 0 < n) => hrow (by rw [hnn]; exact h0))
    have HGO0 := hid (textP_go HQ.out)
    rw [hnn] at hmk x0 HBX HBW HSZ hb0 CT hl h1 hpos
    rw [hnn]
    clear hv hrow hnn hn htree
    go_enter Tryz.func32, Tryz.ntmps32
    go_wp2_with fail
    refine CT.out.mono ?_
    rintro e w1 ⟨rfl, hb⟩
    have b1 := hb0.trans (hb.mono (HSZ.out _ hb0))
    clear hb x0
    have x0 := HBX.out _ b1
    have hs1 := HSZ.out _ b1
    have hs2 : w.heap.size < w1.heap.size := by omega
    obtain ⟨B, hB⟩ : ∃ B, w1.heap.size = B := ⟨_, rfl⟩
    have HBB := hid hB
    have hmade := made_strs w1 n 9
    rw [hB] at hmade
    have hb2 : Below (w.heap.size + 1) (w.alloc (.cells #[.slice na n nc] 29)) (w1.alloc (.cells (madeCells #[.string ⟨#[]⟩] n) 9)) := b1.trans ((ext_alloc w1 _).mono hs1)
    have hBs : w.heap.size + 1 ≤ B := by rw [← hB]; exact hs1
    have HM := hid hmade
    clear hmade hB
    go_wp2
    rw [HBB.out]
    clear hmk
    go_loopw [4] (fun iv wr => ∃ (i : Nat) (ts : List ByteArray), i ≤ n ∧ ts.length = i ∧ iv = .int .i64 (i : Int) ∧ wr.heap[B]? = some (.cells (strRow n ts).toArray 9 (0, 0)) ∧ Hid (textsGo (kindsOf ns) ns [] = textsGo (kindsOf ns) (ns.drop i) ts) ∧ Hid (∀ t ∈ ts, t.size ≤ 1000) ∧ Below (w.heap.size + 1) (w.alloc (.cells #[.slice na n nc] 29)) wr) (fun iv _ => n - (intOf iv).toNat)
    case atStart => exact ⟨0, [], Nat.zero_le _, rfl, rfl, HM.out, hid rfl, hid (fun t ht => by cases ht), hb2⟩
    case round =>
      obtain ⟨i, ts, hi, hti, rfl, hrow, HGO, HTS, hB⟩ := hrel
      clear x0
      have x0 := HBX.out _ hB
      have hBw := HBW.out _ hB
      have hsr := HSZ.out _ hB
      have hBlt : B < wr.heap.size := (Array.getElem?_eq_some_iff.1 hrow).1
      have hwl : w.heap.size < wr.heap.size := by omega
      by_cases hlt : i < n
      · have hik : i < ns.length := by rw [HNN.out]; exact hlt
        obtain ⟨b, off, rfl, hBk, hr⟩ := HROW.out (by omega)
        obtain ⟨cs, hc, hcs⟩ := hr i hik
        obtain ⟨us, uk, rfl, b0, b1', b2, hset, hkids⟩ := rdNode hcs
        obtain ⟨sa, sc, rfl, hs3, hs4, hSF⟩ := rdIntsL hset
        obtain ⟨ka, kc, rfl, hk3, hk4, hKF⟩ := rdIntsL hkids
        have hbc := fun o => hBw.cell (p := ⟨b, o, none⟩) hBk
        have hbl : b < wr.heap.size := Nat.lt_of_lt_of_le hBk hBw.size
        have d0 : wr.cell? ⟨b, off + i * 6, none⟩ = some (.int .i64 ns[i].kind) := (hbc _).trans (hc 0 (by decide))
        have d1 : wr.cell? ⟨b, off + i * 6 + 1, none⟩ = some (.int .i64 ns[i].lo) := (hbc _).trans (hc 1 (by decide))
        have d2 : wr.cell? ⟨b, off + i * 6 + 2, none⟩ = some (.int .i64 ns[i].hi) := (hbc _).trans (hc 2 (by decide))
        have d3 : wr.cell? ⟨b, off + i * 6 + 3, none⟩ = some (.bool ns[i].neg) := (hbc _).trans (hc 3 (by decide))
        have d4 : wr.cell? ⟨b, off + i * 6 + 4, none⟩ = some (.slice sa ns[i].set.length sc) := (hbc _).trans (hc 4 (by decide))
        have d5 : wr.cell? ⟨b, off + i * 6 + 5, none⟩ = some (.slice ka ns[i].kids.length kc) := (hbc _).trans (hc 5 (by decide))
        have HKID := hid (show ∀ k ∈ ns[i].kids, 0 ≤ k ∧ k < (ts.length : Int) from fun k hk => by
          rw [hti]
          obtain ⟨j, hj, rfl⟩ := List.mem_iff_getElem.1 hk
          exact tree_kid HTREE.out hik hj)
        have HKD := hid (fun (k : Nat) (hk : k < ns.length) => (by
          obtain ⟨cs, hc, hcs⟩ := hr k hk
          obtain ⟨us, uk, rfl, _⟩ := rdNode hcs
          exact (hbc _).trans (hc 0 (by decide)) : wr.cell? ⟨b, off + k * 6, none⟩ = some (.int .i64 ns[k].kind)))
        have HSTEP := hid (fun (t : ByteArray) (h : stepT (kindsOf ns) ts ns[i] = some t) => textsGo_step hik h)
        have HBAD := hid (fun (h : stepT (kindsOf ns) ts ns[i] = none) => (show (textP ns).getD ⟨#[]⟩ = ⟨#[]⟩ by rw [HGO0.out, HGO.out, textsGo_bad hik h]; rfl))
        obtain ⟨N, hN⟩ : ∃ N, ns[i] = N := ⟨_, rfl⟩
        rw [hN] at d0 d1 d2 d3 d4 d5 HKID HSTEP HBAD b0 b1' b2
        have hSF' := hSF
        have hKF' := hKF
        have HSF := hid (show 0 < N.set.length → ∃ b off, sa = some ⟨b, off, none⟩ ∧ Old w b ∧ ∀ k (hk : k < N.set.length), w.cell? ⟨b, off + k, none⟩ = some (.int .i64 N.set[k]) ∧ (-9223372036854775808 ≤ N.set[k] ∧ N.set[k] ≤ 9223372036854775807) by rw [← hN]; exact hSF)
        have HKF := hid (show 0 < N.kids.length → ∃ b off, ka = some ⟨b, off, none⟩ ∧ Old w b ∧ ∀ k (hk : k < N.kids.length), w.cell? ⟨b, off + k, none⟩ = some (.int .i64 N.kids[k]) ∧ (-9223372036854775808 ≤ N.kids[k] ∧ N.kids[k] ≤ 9223372036854775807) by rw [← hN]; exact hKF)
        rw [hN] at hs3 hk3
        have hki : (i : Int) < (n : Int) := by omega
        have hk0 : (0 : Int) ≤ (i : Int) := by omega
        have HTI := hid hti
        have HROW2 := hid hrow
        have c0 : wr.cell? ⟨B, i, none⟩ = some (.string ⟨#[]⟩) := cell_row hrow (by rw [← hti]; exact strRow_zero (by omega))
        have f0 : wr.frozen? ⟨B, i, none⟩ = false := frozen_of_row wr _ i _ _ hrow
        have HTK := hid (show ∀ k (hk : k < ts.length), wr.cell? ⟨B, k, none⟩ = some (.string ts[k]) from fun k hk => cell_row hrow (strRow_get hk))
        have HEND := hid (fun (W : World) (s : ByteArray) (hW : Below wr.heap.size wr W) (hs : stepT (kindsOf ns) ts N = some s) => (by
          refine ⟨i + 1, ts ++ [s], by omega, by rw [List.length_append, HTI.out]; rfl, rfl, ?_, hid (HGO.out.trans (HSTEP.out s hs)), hid (fun t ht => ?_), (hB.trans (hW.mono hsr)).setCell (p := ⟨B, i, none⟩) (by show _ ≤ B; omega) _⟩
          · rw [← strRow_set s (by rw [HTI.out]; exact hlt), HTI.out]
            exact set_row ((hW.block B hBlt).trans HROW2.out)
          · rcases List.mem_append.1 ht with h | h
            · exact HTS.out t h
            · rw [List.mem_singleton] at h; subst h; exact stepT_size hs :
          ∃ (i' : Nat) (ts' : List ByteArray), i' ≤ n ∧ ts'.length = i' ∧ Value.int .i64 ((i + 1 : Nat) : Int) = .int .i64 (i' : Int) ∧ (W.setCell ⟨B, i, none⟩ (.string s)).heap[B]? = some (.cells (strRow n ts').toArray 9 (0, 0)) ∧ Hid (textsGo (kindsOf ns) ns [] = textsGo (kindsOf ns) (ns.drop i') ts') ∧ Hid (∀ t ∈ ts', t.size ≤ 1000) ∧ Below (w.heap.size + 1) (w.alloc (.cells #[.slice (some ⟨b, off, none⟩) n nc] 29)) (W.setCell ⟨B, i, none⟩ (.string s))))
        clear hr hc hcs hset hkids hbc hN hrow hti hSF hKF hSF' hKF'
        by_cases p1 : N.kind = 1
        · as_aux_lemma =>
            rw [p1] at d0
            have HS := hid (show stepT (kindsOf ns) ts N = some ⟨#[]⟩ by unfold stepT nodeT; rw [p1]; rfl)
            clear p1
            go_wp2
            go_roundw
            case rel =>
              have h := HEND.out (wr.alloc (.cells #[.int .i64 1, .int .i64 N.lo, .int .i64 N.hi, .bool N.neg, .slice sa N.set.length sc, .slice ka N.kids.length kc] 82)) ⟨#[]⟩ (ext_alloc _ _) HS.out
              try rw [World.setCell_alloc_past _ _ _ _ hBlt] at h
              exact h
            case measure => simp [intOf]; omega
        by_cases p2 : N.kind = 2
        · as_aux_lemma =>
            rw [p2] at d0
            obtain ⟨q, hq⟩ : ∃ q, ptB N.lo = q := ⟨_, rfl⟩
            have CP := hid (fun w => specPoint N.lo w)
            rw [hq] at CP
            have HS := hid (show nodeT (kindsOf ns) ts N = if q = true then some (charP spChar N.lo) else none by unfold nodeT; rw [p2, hq]; rfl)
            have HPT := hid hq
            clear hq p1 p2
            cases q with
            | false =>
              go_wp2_with fail
              refine (CP.out _).mono ?_
              rintro e w2 ⟨rfl, rfl⟩
              go_wp2
              go_ret
              rw [HBAD.out (step_no HS.out)]
              exact ⟨rfl, ext_trans hBw (ext_alloc _ _)⟩
            | true =>
              have hcl := (charP_len spChar N.lo).2
              have CC := hid (fun w => specChar N.lo ⟨#[92, 94, 36, 46, 91, 124, 40, 41, 42, 43, 63, 123]⟩ w spChar_low (by decide) HPT.out)
              have HE := hid (step_of (s := mkB (charP spChar N.lo)) HS.out (mkB_data _))
              have hsz : (mkB (charP spChar N.lo)).size ≤ 5 := by rw [mkB_size]; exact hcl
              have HX := hid (show mkB (charP (⟨#[92, 94, 36, 46, 91, 124, 40, 41, 42, 43, 63, 123]⟩ : ByteArray).data.toList N.lo) = mkB (charP spChar N.lo) from rfl)
              rw [HX.out] at CC
              obtain ⟨OUT, hO⟩ : ∃ z, mkB (charP spChar N.lo) = z := ⟨_, rfl⟩
              rw [hO] at CC HE hsz
              have HE2 := hid (show stepT (kindsOf ns) ts N = some OUT by rw [HE.out, if_pos (by omega)])
              have hng : ¬ (1000 : Int) < (OUT.size : Int) := by omega
              clear hO hcl
              go_wp2_with fail
              refine (CP.out _).mono ?_
              rintro e w2 ⟨rfl, rfl⟩
              go_wp2_with fail
              refine (CC.out _).mono ?_
              rintro e w3 ⟨rfl, hb3⟩
              have hB3 := ext_trans (ext_alloc wr (.cells #[.int .i64 2, .int .i64 N.lo, .int .i64 N.hi, .bool N.neg, .slice sa N.set.length sc, .slice ka N.kids.length kc] 82)) hb3
              have c3 := keeps_cells hB3 _ _ c0
              have f3 : w3.frozen? ⟨B, i, none⟩ = false := frozen_of_row w3 _ i _ _ ((hB3.block B hBlt).trans HROW2.out)
              clear c0 f0 hb3
              go_wp2
              go_roundw
              case rel =>
                have h := HEND.out w3 OUT (hB3) HE2.out
                try rw [World.setCell_alloc_past _ _ _ _ hBlt] at h
                exact h
              case measure => simp [intOf]; omega
        by_cases p3 : N.kind = 3
        · as_aux_lemma =>
            rw [p3] at d0
            have HS := hid (show stepT (kindsOf ns) ts N = some ⟨#[46]⟩ by unfold stepT nodeT; rw [p3]; rfl)
            clear p1 p2 p3
            go_wp2
            go_roundw
            case rel =>
              have h := HEND.out (wr.alloc (.cells #[.int .i64 3, .int .i64 N.lo, .int .i64 N.hi, .bool N.neg, .slice sa N.set.length sc, .slice ka N.kids.length kc] 82)) ⟨#[46]⟩ (ext_alloc _ _) HS.out
              try rw [World.setCell_alloc_past _ _ _ _ hBlt] at h
              exact h
            case measure => simp [intOf]; omega
        by_cases p5 : N.kind = 5
        · as_aux_lemma =>
            rw [p5] at d0
            have HS := hid (show stepT (kindsOf ns) ts N = some ⟨#[94]⟩ by unfold stepT nodeT; rw [p5]; rfl)
            clear p1 p2 p3 p5
            go_wp2
            go_roundw
            case rel =>
              have h := HEND.out (wr.alloc (.cells #[.int .i64 5, .int .i64 N.lo, .int .i64 N.hi, .bool N.neg, .slice sa N.set.length sc, .slice ka N.kids.length kc] 82)) ⟨#[94]⟩ (ext_alloc _ _) HS.out
              try rw [World.setCell_alloc_past _ _ _ _ hBlt] at h
              exact h
            case measure => simp [intOf]; omega
        by_cases p6 : N.kind = 6
        · as_aux_lemma =>
            rw [p6] at d0
            have HS := hid (show stepT (kindsOf ns) ts N = some ⟨#[36]⟩ by unfold stepT nodeT; rw [p6]; rfl)
            clear p1 p2 p3 p5 p6
            go_wp2
            go_roundw
            case rel =>
              have h := HEND.out (wr.alloc (.cells #[.int .i64 6, .int .i64 N.lo, .int .i64 N.hi, .bool N.neg, .slice sa N.set.length sc, .slice ka N.kids.length kc] 82)) ⟨#[36]⟩ (ext_alloc _ _) HS.out
              try rw [World.setCell_alloc_past _ _ _ _ hBlt] at h
              exact h
            case measure => simp [intOf]; omega
        by_cases p4 : N.kind = 4
        · as_aux_lemma =>
            rw [p4] at d0
            have HS := hid (show nodeT (kindsOf ns) ts N = setT N by unfold nodeT; rw [p4]; rfl)
            have hneg2 : N.neg = N.neg := rfl
            obtain ⟨L, hL⟩ : ∃ z, N.set.length = z := ⟨_, rfl⟩
            have HL := hid hL
            rw [hL] at d4 hs3
            have hr2 : (0 : Int) ≤ (L : Int) := by omega
            clear hL hneg2 p1 p2 p3 p5 p6 p4
            by_cases hodd : L % 2 = 1
            · have HNO := hid (show nodeT (kindsOf ns) ts N = none by rw [HS.out]; unfold setT; rw [if_pos (by unfold setBad; rw [HL.out, decide_eq_true hodd]; rfl)])
              have e1 : ((L : Int) % 2 != 0) = true := by rw [bne_iff_ne]; omega
              have e2 : ((L : Int).tmod 2 != 0) = true := by rw [Int.tmod_eq_emod_of_nonneg hr2]; exact e1
              have e3 : ((L : Int) % 2 == 0) = false := by rw [beq_eq_false_iff_ne]; omega
              clear hodd
              go_wp2
              go_ret
              rw [HBAD.out (step_no HNO.out)]
              exact ⟨rfl, ext_trans hBw (ext_alloc _ _)⟩
            have e1 : ((L : Int) % 2 != 0) = false := by simp; omega
            have e2 : ((L : Int).tmod 2 != 0) = false := by rw [Int.tmod_eq_emod_of_nonneg hr2]; exact e1
            have e3 : ((L : Int) % 2 == 0) = true := by rw [beq_iff_eq]; omega
            have HOD := hid hodd
            have HNL := hid (fun (m : Nat) (hm : m % 2 = 0) (sb : ByteArray) (h : sb.data.toList = setOpen N.neg ++ setBody (N.set.take m)) (hb : 1000 < sb.size) => (show stepT (kindsOf ns) ts N = none by
              have h1 := setBody_pre2 (s := N.set) hm
              rw [Lib.size_eq, h, List.length_append] at hb
              by_cases hbad : setBad N = true
              · exact step_no (by rw [HS.out]; unfold setT; rw [if_pos hbad])
              · exact step_big (t := setOpen N.neg ++ setBody N.set ++ [93]) (by rw [HS.out]; unfold setT; rw [if_neg hbad]) (by rw [List.length_append, List.length_append]; simp only [List.length_cons, List.length_nil]; omega)))
            have HNP := hid (fun (j : Nat) (hj : j < N.set.length) (h : ptB N.set[j] = false) => (show stepT (kindsOf ns) ts N = none from
              step_no (by rw [HS.out]; unfold setT; rw [if_pos (by unfold setBad; rw [Bool.or_eq_true, List.any_eq_true]; exact Or.inr ⟨N.set[j], List.getElem_mem hj, by rw [h]; rfl⟩)])))
            have HYES := hid (fun (sb : ByteArray) (h : sb.data.toList = setOpen N.neg ++ setBody N.set ++ [93]) (hp : ∀ j (hj : j < N.set.length), ptB N.set[j] = true) => (show stepT (kindsOf ns) ts N = if sb.size ≤ 1000 then some sb else none from by
              refine step_of (t := setOpen N.neg ++ setBody N.set ++ [93]) ?_ h
              rw [HS.out]; unfold setT
              rw [if_neg]
              unfold setBad
              rw [Bool.or_eq_true, decide_eq_true_eq, HL.out, List.any_eq_true]
              rintro (h1 | ⟨c, hc, h2⟩)
              · exact HOD.out h1
              · obtain ⟨j, hj, rfl⟩ := List.mem_iff_getElem.1 hc
                rw [hp j hj] at h2
                cases h2))
            obtain ⟨neg, hneg⟩ : ∃ z, N.neg = z := ⟨_, rfl⟩
            have HNEG := hid hneg
            rw [hneg] at d3
            clear hodd hneg
            have hW7 := heap_alloc_new wr (.cells #[.int .i64 4, .int .i64 N.lo, .int .i64 N.hi, .bool neg, .slice sa L sc, .slice ka N.kids.length kc] 82)
            have HB7 := hid (fun (w' : World) (hb : Below (wr.heap.size + 1) (wr.alloc (.cells #[.int .i64 4, .int .i64 N.lo, .int .i64 N.hi, .bool neg, .slice sa L sc, .slice ka N.kids.length kc] 82)) w') => (blk6c ((hb.block wr.heap.size (Nat.lt_succ_self _)).trans hW7)).1)
            have HW7 := hid (fun (w' : World) (hb : Below (wr.heap.size + 1) (wr.alloc (.cells #[.int .i64 4, .int .i64 N.lo, .int .i64 N.hi, .bool neg, .slice sa L sc, .slice ka N.kids.length kc] 82)) w') => (ext_alloc wr (.cells #[.int .i64 4, .int .i64 N.lo, .int .i64 N.hi, .bool neg, .slice sa L sc, .slice ka N.kids.length kc] 82)).trans (hb.mono (Nat.le_succ _)))
            have HS7 := hid (fun (w' : World) (hb : Below (wr.heap.size + 1) (wr.alloc (.cells #[.int .i64 4, .int .i64 N.lo, .int .i64 N.hi, .bool neg, .slice sa L sc, .slice ka N.kids.length kc] 82)) w') => (show wr.heap.size + 1 ≤ w'.heap.size from by have := hb.size; simp at this; exact this))
            have HR7 := hid (Below.refl (wr.heap.size + 1) (wr.alloc (.cells #[.int .i64 4, .int .i64 N.lo, .int .i64 N.hi, .bool neg, .slice sa L sc, .slice ka N.kids.length kc] 82)))
            have HKC := hid (fun (w' : World) (h : Below wr.heap.size wr w') => (show w'.cell? ⟨B, i, none⟩ = some (.string ⟨#[]⟩) from keeps_cells h _ _ c0))
            have HKF2 := hid (fun (w' : World) (h : Below wr.heap.size wr w') => (show w'.frozen? ⟨B, i, none⟩ = false from frozen_of_row w' _ i _ _ ((h.block B hBlt).trans HROW2.out)))
            clear hW7
            cases neg
            all_goals
              go_wp2
              go_loopw [6, 7] (fun sv iv wq => ∃ (m : Nat) (sb : ByteArray), m ≤ L ∧ m % 2 = 0 ∧ sv = .string sb ∧ iv = .int .i64 (m : Int) ∧ sb.size ≤ 1020 ∧ Hid (sb.data.toList = setOpen N.neg ++ setBody (N.set.take m)) ∧ Hid (∀ j (hj : j < N.set.length), j < m → ptB N.set[j] = true) ∧ Below (wr.heap.size + 1) (wr.alloc (.cells #[.int .i64 4, .int .i64 N.lo, .int .i64 N.hi, .bool N.neg, .slice sa L sc, .slice ka N.kids.length kc] 82)) wq) (fun _ iv _ => L - (intOf iv).toNat)
              case atStart => exact ⟨0, _, Nat.zero_le _, rfl, rfl, rfl, by decide, hid (by rw [HNEG.out]; rfl), hid (fun j _ hj => absurd hj (Nat.not_lt_zero _)), by rw [HNEG.out]; exact HR7.out⟩
              case round =>
                obtain ⟨m, sb, hm, hev, rfl, rfl, hsb, HSB, HPT, hB7⟩ := hrel
                rw [HNEG.out] at hB7
                obtain ⟨n0, n1, n2, n3, n4, n5⟩ := HB7.out _ hB7
                have hW := HW7.out _ hB7
                have hsr7 := HS7.out _ hB7
                have hWw := ext_trans hBw hW
                have HOD1 := HOD.out
                clear c0 f0 d0 d1 d2 d3 d4 d5 x0
                by_cases hlt2 : m < L
                · obtain ⟨b2, off2, rfl, hBk2, hcell⟩ := HSF.out (by rw [HL.out]; omega)
                  have hm1 : m < N.set.length := by rw [HL.out]; exact hlt2
                  have hm2 : m + 1 < N.set.length := by rw [HL.out]; omega
                  have t0 : wr.cell? ⟨b2, off2 + m, none⟩ = some (.int .i64 N.set[m]) := (hWw.cell (p := ⟨b2, off2 + m, none⟩) hBk2).trans (hcell m hm1).1
                  have t1 : wr.cell? ⟨b2, off2 + (m + 1), none⟩ = some (.int .i64 N.set[m + 1]) := (hWw.cell (p := ⟨b2, off2 + (m + 1), none⟩) hBk2).trans (hcell (m + 1) hm2).1
                  have HST := hid (setBody_two hev hm2)
                  have HNX := hid (HNP.out m hm1)
                  have HNY := hid (HNP.out (m + 1) hm2)
                  obtain ⟨x, hx⟩ : ∃ x, N.set[m] = x := ⟨_, rfl⟩
                  obtain ⟨y, hy⟩ : ∃ y, N.set[m + 1] = y := ⟨_, rfl⟩
                  rw [hx] at t0 HST HNX
                  rw [hy] at t1 HST HNY
                  have HXE := hid hx
                  have HYE := hid hy
                  have g0 : (0 : Int) ≤ (m : Int) := by omega
                  have gl : (m : Int) < (L : Int) := by omega
                  have g1 : IntKind.i64.wrap ((m : Int) + 1) = (m : Int) + 1 := IntWalk.i64_in _ (by omega)
                  have g2 : (0 : Int) ≤ (m : Int) + 1 := by omega
                  have g3 : ((m : Int) + 1).toNat = m + 1 := by omega
                  have g4 : (m : Int) + 1 < (L : Int) := by omega
                  have g5 : IntKind.i64.wrap ((m : Int) + 2) = (m : Int) + 2 := IntWalk.i64_in _ (by omega)
                  clear hcell hx hy
                  by_cases hlong : (1000 : Int) < (sb.size : Int)
                  · go_wp2
                    go_ret
                    rw [HBAD.out (HNL.out m hev sb HSB.out (by omega))]
                    exact ⟨rfl, hWw⟩
                  have CX := hid (fun w => specPoint x w)
                  have CY := hid (fun w => specPoint y w)
                  obtain ⟨qx, hqx⟩ : ∃ q, ptB x = q := ⟨_, rfl⟩
                  obtain ⟨qy, hqy⟩ : ∃ q, ptB y = q := ⟨_, rfl⟩
                  rw [hqx] at CX
                  rw [hqy] at CY
                  have HQX := hid hqx
                  have HQY := hid hqy
                  clear hqx hqy
                  cases qx with
                  | false =>
                    go_wp2_with fail
                    refine (CX.out _).mono ?_
                    rintro e w2 ⟨rfl, rfl⟩
                    go_wp2
                    go_ret
                    rw [HBAD.out (HNX.out HQX.out)]
                    exact ⟨rfl, hWw⟩
                  | true =>
                    cases qy with
                    | false =>
                      go_wp2_with fail
                      refine (CX.out _).mono ?_
                      rintro e w2 ⟨rfl, rfl⟩
                      go_wp2_with fail
                      refine (CY.out _).mono ?_
                      rintro e w2 ⟨rfl, rfl⟩
                      go_wp2
                      go_ret
                      rw [HBAD.out (HNY.out HQY.out)]
                      exact ⟨rfl, hWw⟩
                    | true =>
                      have CCX := hid (show ∀ w : World, Calls Tryz.prog 72 #[.int .i64 x, .string ⟨#[92, 93, 91, 94, 45]⟩] w fun e w' => e = .returned (.string (mkB (charP spSet x))) ∧ Below w.heap.size w w' from fun w => specChar x ⟨#[92, 93, 91, 94, 45]⟩ w spSet_low (by decide) HQX.out)
                      have CCY := hid (show ∀ w : World, Calls Tryz.prog 72 #[.int .i64 y, .string ⟨#[92, 93, 91, 94, 45]⟩] w fun e w' => e = .returned (.string (mkB (charP spSet y))) ∧ Below w.heap.size w w' from fun w => specChar y ⟨#[92, 93, 91, 94, 45]⟩ w spSet_low (by decide) HQY.out)
                      have l1 : (mkB (charP spSet x)).size ≤ 5 := by rw [mkB_size]; exact (charP_len _ _).2
                      have l2 : (mkB (charP spSet y)).size ≤ 5 := by rw [mkB_size]; exact (charP_len _ _).2
                      obtain ⟨s1, hs1'⟩ : ∃ z, mkB (charP spSet x) = z := ⟨_, rfl⟩
                      obtain ⟨s2, hs2'⟩ : ∃ z, mkB (charP spSet y) = z := ⟨_, rfl⟩
                      rw [hs1'] at CCX l1
                      rw [hs2'] at CCY l2
                      have HD1 := hid (show s1.data.toList = charP spSet x by rw [← hs1', mkB_data])
                      have HD2 := hid (show s2.data.toList = charP spSet y by rw [← hs2', mkB_data])
                      have HPN := hid (show ∀ j (hj : j < N.set.length), j < m + 2 → ptB N.set[j] = true from fun j hj hjm => by
                        by_cases e1 : j = m
                        · subst e1; rw [HXE.out]; exact HQX.out
                        · by_cases e2 : j = m + 1
                          · subst e2; rw [HYE.out]; exact HQY.out
                          · exact HPT.out j hj (by omega))
                      have q1 : ¬ 9223372036854775807 < sb.size + s1.size := by omega
                      have q2 : ¬ 9223372036854775807 < sb.size + s1.size + 1 := by omega
                      have q3 : ¬ 9223372036854775807 < sb.size + s1.size + 1 + s2.size := by omega
                      clear hs1' hs2'
                      go_wp2_with fail
                      refine (CX.out _).mono ?_
                      rintro e w2 ⟨rfl, rfl⟩
                      go_wp2_with fail
                      refine (CY.out _).mono ?_
                      rintro e w2 ⟨rfl, rfl⟩
                      go_wp2_with fail
                      refine (CCX.out _).mono ?_
                      rintro e w2 ⟨rfl, hb2⟩
                      have u1 := keeps_cells hb2 _ _ t1
                      have u0 := keeps_cells hb2 _ _ t0
                      have u4 := keeps_cells hb2 _ _ n4
                      clear t0 t1 n0 n1 n2 n3 n4 n5
                      by_cases hxy : x = y
                      · have f1 : (x != y) = false := by simp [hxy]
                        have f2 : (x == y) = true := by simp [hxy]
                        have HXY := hid hxy
                        clear hxy
                        go_wp2
                        go_quiet (fail)
                        go_wp2
                        go_roundw
                        case rel =>
                          refine ⟨m + 2, sb ++ s1, by omega, by omega, rfl, by go_num, by rw [ByteArray.size_append]; omega, hid ?_, HPN, by rw [HNEG.out]; exact hB7.trans ((bel_dn2 hb2 _).mono hsr7)⟩
                          rw [dat_app3, HSB.out, HD1.out, HST.out, if_pos HXY.out]
                          simp only [List.append_nil, List.append_assoc]
                        case measure => simp [intOf]; omega
                      · have f1 : (x != y) = true := by rw [bne_iff_ne]; exact hxy
                        have f2 : (x == y) = false := by rw [beq_eq_false_iff_ne]; exact hxy
                        have HXY := hid hxy
                        clear hxy
                        go_wp2
                        go_quiet (fail)
                        obtain ⟨w3, hw3⟩ : ∃ W, w2.drewN nq = W := ⟨_, rfl⟩
                        have hB34 : Below w2.heap.size w2 w3 := by rw [← hw3]; exact bel_dn2 (Below.refl _ _) nq
                        have v1 := keeps_cells hB34 _ _ u1
                        have v4 := keeps_cells hB34 _ _ u4
                        have hB3 := ext_trans hb2 hB34
                        rw [hw3]
                        clear hw3 u0 u1 u4
                        go_wp2_with fail
                        refine (CCY.out _).mono ?_
                        rintro e w4 ⟨rfl, hb4⟩
                        go_wp2
                        go_roundw
                        case rel =>
                          refine ⟨m + 2, sb ++ s1 ++ ⟨#[45]⟩ ++ s2, by omega, by omega, rfl, by go_num, by rw [ByteArray.size_append, ByteArray.size_append, ByteArray.size_append]; show sb.size + s1.size + 1 + s2.size ≤ _; omega, hid ?_, HPN, by rw [HNEG.out]; exact hB7.trans ((ext_trans hB3 hb4).mono hsr7)⟩
                          rw [dat_app3, dat_app3, dat_app3, HSB.out, HD1.out, HD2.out, HST.out, if_neg HXY.out]
                          simp only [List.append_assoc]
                          rfl
                        case measure => simp [intOf]; omega
                · have gl : ¬ (m : Int) < (L : Int) := by omega
                  have q1 : ¬ 9223372036854775807 < sb.size + 1 := by omega
                  have HF := hid (HYES.out (sb ++ ⟨#[93]⟩) (by rw [dat_app3, HSB.out, List.take_of_length_le (by rw [HL.out]; omega)]) (fun j hj => HPT.out j hj (by rw [HL.out] at hj; omega)))
                  have c3 := HKC.out _ hW
                  have f3 := HKF2.out _ hW
                  by_cases hbig : (1000 : Int) < ((sb.size + 1 : Nat) : Int)
                  · have hbig2 : (1000 : Int) < (sb.size : Int) + 1 := by omega
                    have HNO := hid (show stepT (kindsOf ns) ts N = none by rw [HF.out, if_neg (by rw [ByteArray.size_append]; show ¬ sb.size + 1 ≤ _; omega)])
                    go_wp2
                    go_ret
                    rw [HBAD.out HNO.out]
                    exact ⟨rfl, hWw⟩
                  · have hbig2 : ¬ (1000 : Int) < (sb.size : Int) + 1 := by omega
                    have HSO := hid (show stepT (kindsOf ns) ts N = some (sb ++ ⟨#[93]⟩) by rw [HF.out, if_pos (by rw [ByteArray.size_append]; show sb.size + 1 ≤ _; omega)])
                    go_wp2
                    go_roundw
                    case rel => exact HEND.out _ _ hW HSO.out
                    case measure => simp [intOf]; omega
        by_cases p7 : N.kind = 7
        · as_aux_lemma =>
            rw [p7] at d0
            have HS := hid (show nodeT (kindsOf ns) ts N = some (joinB [] (N.kids.map (kidT [7, 8, 1] (kindsOf ns) ts))) by unfold nodeT; rw [p7]; rfl)
            obtain ⟨L, hL⟩ : ∃ z, N.kids.length = z := ⟨_, rfl⟩
            have HL := hid hL
            rw [hL] at d5 hk3
            have hr2 : (0 : Int) ≤ (L : Int) := by omega
            clear hL p1 p2 p3 p5 p6 p4 p7
            have HNL := hid (fun (m : Nat) (hm : m ≤ L) (sb : ByteArray) (h : sb.data.toList = joinB [] ((N.kids.take m).map (kidT [7, 8, 1] (kindsOf ns) ts))) (hb : 1000 < sb.size) => (show stepT (kindsOf ns) ts N = none from by
              have h1 := joinB_mono [] ((N.kids.take m).map (kidT [7, 8, 1] (kindsOf ns) ts)) ((N.kids.drop m).map (kidT [7, 8, 1] (kindsOf ns) ts))
              rw [← List.map_append, List.take_append_drop, ← h, ← Lib.size_eq] at h1
              exact step_big HS.out (by omega)))
            have HYES := hid (fun (sb : ByteArray) (h : sb.data.toList = joinB [] (N.kids.map (kidT [7, 8, 1] (kindsOf ns) ts))) => (show stepT (kindsOf ns) ts N = if sb.size ≤ 1000 then some sb else none from step_of HS.out h))
            have hW7 := heap_alloc_new wr (.cells #[.int .i64 7, .int .i64 N.lo, .int .i64 N.hi, .bool N.neg, .slice sa N.set.length sc, .slice ka L kc] 82)
            have HB7 := hid (fun (w' : World) (hb : Below (wr.heap.size + 1) (wr.alloc (.cells #[.int .i64 7, .int .i64 N.lo, .int .i64 N.hi, .bool N.neg, .slice sa N.set.length sc, .slice ka L kc] 82)) w') => (blk6c ((hb.block wr.heap.size (Nat.lt_succ_self _)).trans hW7)).1)
            have HW7 := hid (fun (w' : World) (hb : Below (wr.heap.size + 1) (wr.alloc (.cells #[.int .i64 7, .int .i64 N.lo, .int .i64 N.hi, .bool N.neg, .slice sa N.set.length sc, .slice ka L kc] 82)) w') => (ext_alloc wr (.cells #[.int .i64 7, .int .i64 N.lo, .int .i64 N.hi, .bool N.neg, .slice sa N.set.length sc, .slice ka L kc] 82)).trans (hb.mono (Nat.le_succ _)))
            have HS7 := hid (fun (w' : World) (hb : Below (wr.heap.size + 1) (wr.alloc (.cells #[.int .i64 7, .int .i64 N.lo, .int .i64 N.hi, .bool N.neg, .slice sa N.set.length sc, .slice ka L kc] 82)) w') => (show wr.heap.size + 1 ≤ w'.heap.size from by have := hb.size; simp at this; exact this))
            have HR7 := hid (Below.refl (wr.heap.size + 1) (wr.alloc (.cells #[.int .i64 7, .int .i64 N.lo, .int .i64 N.hi, .bool N.neg, .slice sa N.set.length sc, .slice ka L kc] 82)))
            have HKC := hid (fun (w' : World) (h : Below wr.heap.size wr w') => (show w'.cell? ⟨B, i, none⟩ = some (.string ⟨#[]⟩) from keeps_cells h _ _ c0))
            have HKF2 := hid (fun (w' : World) (h : Below wr.heap.size wr w') => (show w'.frozen? ⟨B, i, none⟩ = false from frozen_of_row w' _ i _ _ ((h.block B hBlt).trans HROW2.out)))
            have HKX := hid (fun (w' : World) (h : Below wr.heap.size wr w') => keeps_cells h _ _ x0)
            have HKD2 := hid (fun (w' : World) (h : Below wr.heap.size wr w') (k : Nat) (hk : k < ns.length) => keeps_cells h _ _ (HKD.out k hk))
            have HTK2 := hid (fun (w' : World) (h : Below wr.heap.size wr w') (k : Nat) (hk : k < ts.length) => keeps_cells h _ _ (HTK.out k hk))
            clear hW7
            go_wp2
            go_loopw [6, 8] (fun sv iv wq => ∃ (m : Nat) (sb : ByteArray), m ≤ L ∧ sv = .string sb ∧ iv = .int .i64 (m : Int) ∧ sb.size ≤ 1000 ∧ Hid (sb.data.toList = joinB [] ((N.kids.take m).map (kidT [7, 8, 1] (kindsOf ns) ts))) ∧ Below (wr.heap.size + 1) (wr.alloc (.cells #[.int .i64 7, .int .i64 N.lo, .int .i64 N.hi, .bool N.neg, .slice sa N.set.length sc, .slice ka L kc] 82)) wq) (fun _ iv _ => L - (intOf iv).toNat)
            case atStart => exact ⟨0, _, Nat.zero_le _, rfl, rfl, by decide, hid (by simp [joinB]), HR7.out⟩
            case round =>
              obtain ⟨m, sb, hm, rfl, rfl, hsb, HSB, hB7⟩ := hrel
              obtain ⟨n0, n1, n2, n3, n4, n5⟩ := HB7.out _ hB7
              have hW := HW7.out _ hB7
              have hsr7 := HS7.out _ hB7
              have hWw := ext_trans hBw hW
              clear c0 f0 d0 d1 d2 d3 d4 d5 x0
              have x0 := HKX.out _ hW
              by_cases hlt2 : m < L
              · obtain ⟨b2, off2, rfl, hBk2, hcell⟩ := HKF.out (by rw [HL.out]; omega)
                have hm1 : m < N.kids.length := by rw [HL.out]; exact hlt2
                have t0 : wr.cell? ⟨b2, off2 + m, none⟩ = some (.int .i64 N.kids[m]) := (hWw.cell (p := ⟨b2, off2 + m, none⟩) hBk2).trans (hcell m hm1).1
                have hkj := HKID.out N.kids[m] (List.getElem_mem hm1)
                obtain ⟨kn, hkn⟩ : ∃ kn : Nat, (kn : Int) = N.kids[m] := ⟨N.kids[m].toNat, by omega⟩
                have HKN := hid hkn
                rw [← hkn] at t0 hkj
                have hk3' : kn < ts.length := by omega
                have hk4' : kn < ns.length := by rw [HNN.out]; have := HTI.out; omega
                have tk := HTK2.out _ hW kn hk3'
                have tkd := HKD2.out _ hW kn hk4'
                have hsz := HTS.out ts[kn] (List.getElem_mem hk3')
                have hkdv : kidT [7, 8, 1] (kindsOf ns) ts (kn : Int) = if [7, 8, 1].contains ns[kn].kind = true then 40 :: (ts[kn].data.toList ++ [41]) else ts[kn].data.toList := by rw [kidT_at hk4' hk3']; rfl
                have hjoin : joinB [] ((N.kids.take (m + 1)).map (kidT [7, 8, 1] (kindsOf ns) ts)) = joinB [] ((N.kids.take m).map (kidT [7, 8, 1] (kindsOf ns) ts)) ++ ((if m = 0 then [] else []) ++ kidT [7, 8, 1] (kindsOf ns) ts (kn : Int)) := by
                  rw [List.take_succ_eq_append_getElem hm1, List.map_append, List.map_cons, List.map_nil, joinB_snoc, HKN.out]
                  congr 2
                  by_cases h0 : m = 0
                  · subst h0; simp
                  · rw [if_neg h0, if_neg]
                    intro hc
                    have := congrArg List.length hc
                    rw [List.length_map, List.length_take, List.length_nil] at this
                    omega
                obtain ⟨kd, hkd⟩ : ∃ z, ns[kn].kind = z := ⟨_, rfl⟩
                obtain ⟨t, ht⟩ : ∃ z, ts[kn] = z := ⟨_, rfl⟩
                rw [hkd] at tkd hkdv
                rw [ht] at tk hsz hkdv
                have HKV := hid hkdv
                have HJ := hid hjoin
                have g0 : (0 : Int) ≤ (m : Int) := by omega
                have gl : (m : Int) < (L : Int) := by omega
                have gk0 : (0 : Int) ≤ (kn : Int) := by omega
                have gk1 : (kn : Int) < (n : Int) := by have := HTI.out; omega
                clear hcell hkn hkd ht hkdv hjoin
                by_cases kd8 : kd = 8
                · have hcon : ([7, 8, 1] : List Int).contains kd = true := by rw [kd8]; decide
                  have e8 : (kd == 8) = true := by rw [beq_iff_eq]; exact kd8
                  have KD8 := hid kd8
                  clear kd8
                  by_cases hm0 : m = 0
                  · have gm : ¬ (0 : Int) < (m : Int) := by omega
                    have q1 : ¬ 9223372036854775807 < 1 + t.size := by omega
                    have q2 : ¬ 9223372036854775807 < 1 + t.size + 1 := by omega
                    have q4 : ¬ 9223372036854775807 < sb.size + (1 + t.size + 1) := by omega
                    have q5 : ¬ 9223372036854775807 < sb.size + t.size := by omega
                    have hsO : (sb ++ (⟨#[40]⟩ ++ t ++ ⟨#[41]⟩) : ByteArray).size = sb.size + (1 + t.size + 1) := by simp only [ByteArray.size_append] <;> rfl
                    have HO := hid (show (sb ++ (⟨#[40]⟩ ++ t ++ ⟨#[41]⟩) : ByteArray).data.toList = joinB [] ((N.kids.take (m + 1)).map (kidT [7, 8, 1] (kindsOf ns) ts)) by
                      rw [HJ.out, HKV.out]
                      rw [if_pos hm0]
                      rw [if_pos hcon]
                      simp only [dat_app3, HSB.out, List.append_assoc]
                      try rfl)
                    obtain ⟨OUT, hOUT⟩ : ∃ z : ByteArray, sb ++ (⟨#[40]⟩ ++ t ++ ⟨#[41]⟩) = z := ⟨_, rfl⟩
                    rw [hOUT] at HO hsO
                    have HOE := hid hOUT.symm
                    have HCON := hid hcon
                    have HM0 := hid hm0
                    by_cases hbig : (1000 : Int) < (OUT.size : Int)
                    · have hb9 : (1000 : Int) < ((sb.size + (1 + t.size + 1) : Nat) : Int) := by rw [← hsO]; exact hbig
                      have hb8 := hb9
                      clear hOUT hcon hm0
                      have HNO := hid (HNL.out (m + 1) (by omega) OUT HO.out (by omega))
                      go_wp2
                      go_quiet (fail)
                      obtain ⟨w2, hw2⟩ : ∃ W, wr.drewN nq = W := ⟨_, rfl⟩
                      have hB2 : Below wr.heap.size wr w2 := by rw [← hw2]; exact bel_dn2 (Below.refl _ _) nq
                      have m0' := keeps_cells hB2 _ _ n0
                      have m5 := keeps_cells hB2 _ _ n5
                      have mt := keeps_cells hB2 _ _ t0
                      have mk := keeps_cells hB2 _ _ tk
                      rw [hw2]
                      clear hw2
                      go_wp2
                      go_ret
                      rw [HBAD.out HNO.out]
                      exact ⟨rfl, ext_trans hWw hB2⟩
                    · have hb9 : ¬ (1000 : Int) < ((sb.size + (1 + t.size + 1) : Nat) : Int) := by rw [← hsO]; exact hbig
                      have hb8 : (((sb.size + (1 + t.size + 1) : Nat) : Int)) ≤ 1000 := by omega
                      have hO10 : OUT.size ≤ 1000 := by omega
                      clear hOUT hcon hm0
                      go_wp2
                      go_quiet (fail)
                      obtain ⟨w2, hw2⟩ : ∃ W, wr.drewN nq = W := ⟨_, rfl⟩
                      have hB2 : Below wr.heap.size wr w2 := by rw [← hw2]; exact bel_dn2 (Below.refl _ _) nq
                      have m0' := keeps_cells hB2 _ _ n0
                      have m5 := keeps_cells hB2 _ _ n5
                      have mt := keeps_cells hB2 _ _ t0
                      have mk := keeps_cells hB2 _ _ tk
                      rw [hw2]
                      clear hw2
                      go_wp2
                      go_roundw
                      case rel => exact ⟨m + 1, _, by omega, by rw [HOE.out], by go_num, hO10, HO, hB7.trans (hB2.mono hsr7)⟩
                      case measure => simp [intOf]; omega
                  · have gm : (0 : Int) < (m : Int) := by omega
                    have q1 : ¬ 9223372036854775807 < 1 + t.size := by omega
                    have q2 : ¬ 9223372036854775807 < 1 + t.size + 1 := by omega
                    have q4 : ¬ 9223372036854775807 < sb.size + (1 + t.size + 1) := by omega
                    have q5 : ¬ 9223372036854775807 < sb.size + t.size := by omega
                    have hsO : (sb ++ (⟨#[40]⟩ ++ t ++ ⟨#[41]⟩) : ByteArray).size = sb.size + (1 + t.size + 1) := by simp only [ByteArray.size_append] <;> rfl
                    have HO := hid (show (sb ++ (⟨#[40]⟩ ++ t ++ ⟨#[41]⟩) : ByteArray).data.toList = joinB [] ((N.kids.take (m + 1)).map (kidT [7, 8, 1] (kindsOf ns) ts)) by
                      rw [HJ.out, HKV.out]
                      rw [if_neg hm0]
                      rw [if_pos hcon]
                      simp only [dat_app3, HSB.out, List.append_assoc]
                      try rfl)
                    obtain ⟨OUT, hOUT⟩ : ∃ z : ByteArray, sb ++ (⟨#[40]⟩ ++ t ++ ⟨#[41]⟩) = z := ⟨_, rfl⟩
                    rw [hOUT] at HO hsO
                    have HOE := hid hOUT.symm
                    have HCON := hid hcon
                    have HM0 := hid hm0
                    by_cases hbig : (1000 : Int) < (OUT.size : Int)
                    · have hb9 : (1000 : Int) < ((sb.size + (1 + t.size + 1) : Nat) : Int) := by rw [← hsO]; exact hbig
                      have hb8 := hb9
                      clear hOUT hcon hm0
                      have HNO := hid (HNL.out (m + 1) (by omega) OUT HO.out (by omega))
                      go_wp2
                      go_quiet (fail)
                      obtain ⟨w2, hw2⟩ : ∃ W, wr.drewN nq = W := ⟨_, rfl⟩
                      have hB2 : Below wr.heap.size wr w2 := by rw [← hw2]; exact bel_dn2 (Below.refl _ _) nq
                      have m0' := keeps_cells hB2 _ _ n0
                      have m5 := keeps_cells hB2 _ _ n5
                      have mt := keeps_cells hB2 _ _ t0
                      have mk := keeps_cells hB2 _ _ tk
                      rw [hw2]
                      clear hw2
                      go_wp2
                      go_ret
                      rw [HBAD.out HNO.out]
                      exact ⟨rfl, ext_trans hWw hB2⟩
                    · have hb9 : ¬ (1000 : Int) < ((sb.size + (1 + t.size + 1) : Nat) : Int) := by rw [← hsO]; exact hbig
                      have hb8 : (((sb.size + (1 + t.size + 1) : Nat) : Int)) ≤ 1000 := by omega
                      have hO10 : OUT.size ≤ 1000 := by omega
                      clear hOUT hcon hm0
                      go_wp2
                      go_quiet (fail)
                      obtain ⟨w2, hw2⟩ : ∃ W, wr.drewN nq = W := ⟨_, rfl⟩
                      have hB2 : Below wr.heap.size wr w2 := by rw [← hw2]; exact bel_dn2 (Below.refl _ _) nq
                      have m0' := keeps_cells hB2 _ _ n0
                      have m5 := keeps_cells hB2 _ _ n5
                      have mt := keeps_cells hB2 _ _ t0
                      have mk := keeps_cells hB2 _ _ tk
                      rw [hw2]
                      clear hw2
                      go_wp2
                      go_roundw
                      case rel => exact ⟨m + 1, _, by omega, by rw [HOE.out], by go_num, hO10, HO, hB7.trans (hB2.mono hsr7)⟩
                      case measure => simp [intOf]; omega
                by_cases kd7 : kd = 7
                · have hcon : ([7, 8, 1] : List Int).contains kd = true := by rw [kd7]; decide
                  have e7 : (kd == 7) = true := by rw [beq_iff_eq]; exact kd7
                  have e8 : (kd == 8) = false := by rw [beq_eq_false_iff_ne]; omega
                  have KD7 := hid kd7
                  clear kd8 kd7
                  by_cases hm0 : m = 0
                  · have gm : ¬ (0 : Int) < (m : Int) := by omega
                    have q1 : ¬ 9223372036854775807 < 1 + t.size := by omega
                    have q2 : ¬ 9223372036854775807 < 1 + t.size + 1 := by omega
                    have q4 : ¬ 9223372036854775807 < sb.size + (1 + t.size + 1) := by omega
                    have q5 : ¬ 9223372036854775807 < sb.size + t.size := by omega
                    have hsO : (sb ++ (⟨#[40]⟩ ++ t ++ ⟨#[41]⟩) : ByteArray).size = sb.size + (1 + t.size + 1) := by simp only [ByteArray.size_append] <;> rfl
                    have HO := hid (show (sb ++ (⟨#[40]⟩ ++ t ++ ⟨#[41]⟩) : ByteArray).data.toList = joinB [] ((N.kids.take (m + 1)).map (kidT [7, 8, 1] (kindsOf ns) ts)) by
                      rw [HJ.out, HKV.out]
                      rw [if_pos hm0]
                      rw [if_pos hcon]
                      simp only [dat_app3, HSB.out, List.append_assoc]
                      try rfl)
                    obtain ⟨OUT, hOUT⟩ : ∃ z : ByteArray, sb ++ (⟨#[40]⟩ ++ t ++ ⟨#[41]⟩) = z := ⟨_, rfl⟩
                    rw [hOUT] at HO hsO
                    have HOE := hid hOUT.symm
                    have HCON := hid hcon
                    have HM0 := hid hm0
                    by_cases hbig : (1000 : Int) < (OUT.size : Int)
                    · have hb9 : (1000 : Int) < ((sb.size + (1 + t.size + 1) : Nat) : Int) := by rw [← hsO]; exact hbig
                      have hb8 := hb9
                      clear hOUT hcon hm0
                      have HNO := hid (HNL.out (m + 1) (by omega) OUT HO.out (by omega))
                      go_wp2
                      go_quiet (fail)
                      obtain ⟨w2, hw2⟩ : ∃ W, wr.drewN nq = W := ⟨_, rfl⟩
                      have hB2 : Below wr.heap.size wr w2 := by rw [← hw2]; exact bel_dn2 (Below.refl _ _) nq
                      have m0' := keeps_cells hB2 _ _ n0
                      have m5 := keeps_cells hB2 _ _ n5
                      have mt := keeps_cells hB2 _ _ t0
                      have mk := keeps_cells hB2 _ _ tk
                      rw [hw2]
                      clear hw2
                      go_wp2
                      go_ret
                      rw [HBAD.out HNO.out]
                      exact ⟨rfl, ext_trans hWw hB2⟩
                    · have hb9 : ¬ (1000 : Int) < ((sb.size + (1 + t.size + 1) : Nat) : Int) := by rw [← hsO]; exact hbig
                      have hb8 : (((sb.size + (1 + t.size + 1) : Nat) : Int)) ≤ 1000 := by omega
                      have hO10 : OUT.size ≤ 1000 := by omega
                      clear hOUT hcon hm0
                      go_wp2
                      go_quiet (fail)
                      obtain ⟨w2, hw2⟩ : ∃ W, wr.drewN nq = W := ⟨_, rfl⟩
                      have hB2 : Below wr.heap.size wr w2 := by rw [← hw2]; exact bel_dn2 (Below.refl _ _) nq
                      have m0' := keeps_cells hB2 _ _ n0
                      have m5 := keeps_cells hB2 _ _ n5
                      have mt := keeps_cells hB2 _ _ t0
                      have mk := keeps_cells hB2 _ _ tk
                      rw [hw2]
                      clear hw2
                      go_wp2
                      go_roundw
                      case rel => exact ⟨m + 1, _, by omega, by rw [HOE.out], by go_num, hO10, HO, hB7.trans (hB2.mono hsr7)⟩
                      case measure => simp [intOf]; omega
                  · have gm : (0 : Int) < (m : Int) := by omega
                    have q1 : ¬ 9223372036854775807 < 1 + t.size := by omega
                    have q2 : ¬ 9223372036854775807 < 1 + t.size + 1 := by omega
                    have q4 : ¬ 9223372036854775807 < sb.size + (1 + t.size + 1) := by omega
                    have q5 : ¬ 9223372036854775807 < sb.size + t.size := by omega
                    have hsO : (sb ++ (⟨#[40]⟩ ++ t ++ ⟨#[41]⟩) : ByteArray).size = sb.size + (1 + t.size + 1) := by simp only [ByteArray.size_append] <;> rfl
                    have HO := hid (show (sb ++ (⟨#[40]⟩ ++ t ++ ⟨#[41]⟩) : ByteArray).data.toList = joinB [] ((N.kids.take (m + 1)).map (kidT [7, 8, 1] (kindsOf ns) ts)) by
                      rw [HJ.out, HKV.out]
                      rw [if_neg hm0]
                      rw [if_pos hcon]
                      simp only [dat_app3, HSB.out, List.append_assoc]
                      try rfl)
                    obtain ⟨OUT, hOUT⟩ : ∃ z : ByteArray, sb ++ (⟨#[40]⟩ ++ t ++ ⟨#[41]⟩) = z := ⟨_, rfl⟩
                    rw [hOUT] at HO hsO
                    have HOE := hid hOUT.symm
                    have HCON := hid hcon
                    have HM0 := hid hm0
                    by_cases hbig : (1000 : Int) < (OUT.size : Int)
                    · have hb9 : (1000 : Int) < ((sb.size + (1 + t.size + 1) : Nat) : Int) := by rw [← hsO]; exact hbig
                      have hb8 := hb9
                      clear hOUT hcon hm0
                      have HNO := hid (HNL.out (m + 1) (by omega) OUT HO.out (by omega))
                      go_wp2
                      go_quiet (fail)
                      obtain ⟨w2, hw2⟩ : ∃ W, wr.drewN nq = W := ⟨_, rfl⟩
                      have hB2 : Below wr.heap.size wr w2 := by rw [← hw2]; exact bel_dn2 (Below.refl _ _) nq
                      have m0' := keeps_cells hB2 _ _ n0
                      have m5 := keeps_cells hB2 _ _ n5
                      have mt := keeps_cells hB2 _ _ t0
                      have mk := keeps_cells hB2 _ _ tk
                      rw [hw2]
                      clear hw2
                      go_wp2
                      go_ret
                      rw [HBAD.out HNO.out]
                      exact ⟨rfl, ext_trans hWw hB2⟩
                    · have hb9 : ¬ (1000 : Int) < ((sb.size + (1 + t.size + 1) : Nat) : Int) := by rw [← hsO]; exact hbig
                      have hb8 : (((sb.size + (1 + t.size + 1) : Nat) : Int)) ≤ 1000 := by omega
                      have hO10 : OUT.size ≤ 1000 := by omega
                      clear hOUT hcon hm0
                      go_wp2
                      go_quiet (fail)
                      obtain ⟨w2, hw2⟩ : ∃ W, wr.drewN nq = W := ⟨_, rfl⟩
                      have hB2 : Below wr.heap.size wr w2 := by rw [← hw2]; exact bel_dn2 (Below.refl _ _) nq
                      have m0' := keeps_cells hB2 _ _ n0
                      have m5 := keeps_cells hB2 _ _ n5
                      have mt := keeps_cells hB2 _ _ t0
                      have mk := keeps_cells hB2 _ _ tk
                      rw [hw2]
                      clear hw2
                      go_wp2
                      go_roundw
                      case rel => exact ⟨m + 1, _, by omega, by rw [HOE.out], by go_num, hO10, HO, hB7.trans (hB2.mono hsr7)⟩
                      case measure => simp [intOf]; omega
                by_cases kd1 : kd = 1
                · have hcon : ([7, 8, 1] : List Int).contains kd = true := by rw [kd1]; decide
                  have e1 : (kd == 1) = true := by rw [beq_iff_eq]; exact kd1
                  have e8 : (kd == 8) = false := by rw [beq_eq_false_iff_ne]; omega
                  have e7 : (kd == 7) = false := by rw [beq_eq_false_iff_ne]; omega
                  have KD1 := hid kd1
                  clear kd8 kd7 kd1
                  by_cases hm0 : m = 0
                  · have gm : ¬ (0 : Int) < (m : Int) := by omega
                    have q1 : ¬ 9223372036854775807 < 1 + t.size := by omega
                    have q2 : ¬ 9223372036854775807 < 1 + t.size + 1 := by omega
                    have q4 : ¬ 9223372036854775807 < sb.size + (1 + t.size + 1) := by omega
                    have q5 : ¬ 9223372036854775807 < sb.size + t.size := by omega
                    have hsO : (sb ++ (⟨#[40]⟩ ++ t ++ ⟨#[41]⟩) : ByteArray).size = sb.size + (1 + t.size + 1) := by simp only [ByteArray.size_append] <;> rfl
                    have HO := hid (show (sb ++ (⟨#[40]⟩ ++ t ++ ⟨#[41]⟩) : ByteArray).data.toList = joinB [] ((N.kids.take (m + 1)).map (kidT [7, 8, 1] (kindsOf ns) ts)) by
                      rw [HJ.out, HKV.out]
                      rw [if_pos hm0]
                      rw [if_pos hcon]
                      simp only [dat_app3, HSB.out, List.append_assoc]
                      try rfl)
                    obtain ⟨OUT, hOUT⟩ : ∃ z : ByteArray, sb ++ (⟨#[40]⟩ ++ t ++ ⟨#[41]⟩) = z := ⟨_, rfl⟩
                    rw [hOUT] at HO hsO
                    have HOE := hid hOUT.symm
                    have HCON := hid hcon
                    have HM0 := hid hm0
                    by_cases hbig : (1000 : Int) < (OUT.size : Int)
                    · have hb9 : (1000 : Int) < ((sb.size + (1 + t.size + 1) : Nat) : Int) := by rw [← hsO]; exact hbig
                      have hb8 := hb9
                      clear hOUT hcon hm0
                      have HNO := hid (HNL.out (m + 1) (by omega) OUT HO.out (by omega))
                      go_wp2
                      go_quiet (fail)
                      obtain ⟨w2, hw2⟩ : ∃ W, wr.drewN nq = W := ⟨_, rfl⟩
                      have hB2 : Below wr.heap.size wr w2 := by rw [← hw2]; exact bel_dn2 (Below.refl _ _) nq
                      have m0' := keeps_cells hB2 _ _ n0
                      have m5 := keeps_cells hB2 _ _ n5
                      have mt := keeps_cells hB2 _ _ t0
                      have mk := keeps_cells hB2 _ _ tk
                      rw [hw2]
                      clear hw2
                      go_wp2
                      go_ret
                      rw [HBAD.out HNO.out]
                      exact ⟨rfl, ext_trans hWw hB2⟩
                    · have hb9 : ¬ (1000 : Int) < ((sb.size + (1 + t.size + 1) : Nat) : Int) := by rw [← hsO]; exact hbig
                      have hb8 : (((sb.size + (1 + t.size + 1) : Nat) : Int)) ≤ 1000 := by omega
                      have hO10 : OUT.size ≤ 1000 := by omega
                      clear hOUT hcon hm0
                      go_wp2
                      go_quiet (fail)
                      obtain ⟨w2, hw2⟩ : ∃ W, wr.drewN nq = W := ⟨_, rfl⟩
                      have hB2 : Below wr.heap.size wr w2 := by rw [← hw2]; exact bel_dn2 (Below.refl _ _) nq
                      have m0' := keeps_cells hB2 _ _ n0
                      have m5 := keeps_cells hB2 _ _ n5
                      have mt := keeps_cells hB2 _ _ t0
                      have mk := keeps_cells hB2 _ _ tk
                      rw [hw2]
                      clear hw2
                      go_wp2
                      go_roundw
                      case rel => exact ⟨m + 1, _, by omega, by rw [HOE.out], by go_num, hO10, HO, hB7.trans (hB2.mono hsr7)⟩
                      case measure => simp [intOf]; omega
                  · have gm : (0 : Int) < (m : Int) := by omega
                    have q1 : ¬ 9223372036854775807 < 1 + t.size := by omega
                    have q2 : ¬ 9223372036854775807 < 1 + t.size + 1 := by omega
                    have q4 : ¬ 9223372036854775807 < sb.size + (1 + t.size + 1) := by omega
                    have q5 : ¬ 9223372036854775807 < sb.size + t.size := by omega
                    have hsO : (sb ++ (⟨#[40]⟩ ++ t ++ ⟨#[41]⟩) : ByteArray).size = sb.size + (1 + t.size + 1) := by simp only [ByteArray.size_append] <;> rfl
                    have HO := hid (show (sb ++ (⟨#[40]⟩ ++ t ++ ⟨#[41]⟩) : ByteArray).data.toList = joinB [] ((N.kids.take (m + 1)).map (kidT [7, 8, 1] (kindsOf ns) ts)) by
                      rw [HJ.out, HKV.out]
                      rw [if_neg hm0]
                      rw [if_pos hcon]
                      simp only [dat_app3, HSB.out, List.append_assoc]
                      try rfl)
                    obtain ⟨OUT, hOUT⟩ : ∃ z : ByteArray, sb ++ (⟨#[40]⟩ ++ t ++ ⟨#[41]⟩) = z := ⟨_, rfl⟩
                    rw [hOUT] at HO hsO
                    have HOE := hid hOUT.symm
                    have HCON := hid hcon
                    have HM0 := hid hm0
                    by_cases hbig : (1000 : Int) < (OUT.size : Int)
                    · have hb9 : (1000 : Int) < ((sb.size + (1 + t.size + 1) : Nat) : Int) := by rw [← hsO]; exact hbig
                      have hb8 := hb9
                      clear hOUT hcon hm0
                      have HNO := hid (HNL.out (m + 1) (by omega) OUT HO.out (by omega))
                      go_wp2
                      go_quiet (fail)
                      obtain ⟨w2, hw2⟩ : ∃ W, wr.drewN nq = W := ⟨_, rfl⟩
                      have hB2 : Below wr.heap.size wr w2 := by rw [← hw2]; exact bel_dn2 (Below.refl _ _) nq
                      have m0' := keeps_cells hB2 _ _ n0
                      have m5 := keeps_cells hB2 _ _ n5
                      have mt := keeps_cells hB2 _ _ t0
                      have mk := keeps_cells hB2 _ _ tk
                      rw [hw2]
                      clear hw2
                      go_wp2
                      go_ret
                      rw [HBAD.out HNO.out]
                      exact ⟨rfl, ext_trans hWw hB2⟩
                    · have hb9 : ¬ (1000 : Int) < ((sb.size + (1 + t.size + 1) : Nat) : Int) := by rw [← hsO]; exact hbig
                      have hb8 : (((sb.size + (1 + t.size + 1) : Nat) : Int)) ≤ 1000 := by omega
                      have hO10 : OUT.size ≤ 1000 := by omega
                      clear hOUT hcon hm0
                      go_wp2
                      go_quiet (fail)
                      obtain ⟨w2, hw2⟩ : ∃ W, wr.drewN nq = W := ⟨_, rfl⟩
                      have hB2 : Below wr.heap.size wr w2 := by rw [← hw2]; exact bel_dn2 (Below.refl _ _) nq
                      have m0' := keeps_cells hB2 _ _ n0
                      have m5 := keeps_cells hB2 _ _ n5
                      have mt := keeps_cells hB2 _ _ t0
                      have mk := keeps_cells hB2 _ _ tk
                      rw [hw2]
                      clear hw2
                      go_wp2
                      go_roundw
                      case rel => exact ⟨m + 1, _, by omega, by rw [HOE.out], by go_num, hO10, HO, hB7.trans (hB2.mono hsr7)⟩
                      case measure => simp [intOf]; omega
                have hcon : ¬ ([7, 8, 1] : List Int).contains kd = true := by simp; omega
                have e8 : (kd == 8) = false := by rw [beq_eq_false_iff_ne]; omega
                have e7 : (kd == 7) = false := by rw [beq_eq_false_iff_ne]; omega
                have e1 : (kd == 1) = false := by rw [beq_eq_false_iff_ne]; omega
                clear kd8 kd7 kd1
                by_cases hm0 : m = 0
                · have gm : ¬ (0 : Int) < (m : Int) := by omega
                  have q4 : ¬ 9223372036854775807 < sb.size + (t.size) := by omega
                  have q5 : ¬ 9223372036854775807 < sb.size + t.size := by omega
                  have hsO : (sb ++ t : ByteArray).size = sb.size + (t.size) := by simp only [ByteArray.size_append] <;> rfl
                  have HO := hid (show (sb ++ t : ByteArray).data.toList = joinB [] ((N.kids.take (m + 1)).map (kidT [7, 8, 1] (kindsOf ns) ts)) by
                    rw [HJ.out, HKV.out]
                    rw [if_pos hm0]
                    rw [if_neg hcon]
                    simp only [dat_app3, HSB.out, List.append_assoc]
                    try rfl)
                  obtain ⟨OUT, hOUT⟩ : ∃ z : ByteArray, sb ++ t = z := ⟨_, rfl⟩
                  rw [hOUT] at HO hsO
                  have HOE := hid hOUT.symm
                  have HCON := hid hcon
                  have HM0 := hid hm0
                  by_cases hbig : (1000 : Int) < (OUT.size : Int)
                  · have hb9 : (1000 : Int) < ((sb.size + (t.size) : Nat) : Int) := by rw [← hsO]; exact hbig
                    have hb8 := hb9
                    clear hOUT hcon hm0
                    have HNO := hid (HNL.out (m + 1) (by omega) OUT HO.out (by omega))
                    go_wp2
                    go_quiet (fail)
                    obtain ⟨w2, hw2⟩ : ∃ W, wr.drewN nq = W := ⟨_, rfl⟩
                    have hB2 : Below wr.heap.size wr w2 := by rw [← hw2]; exact bel_dn2 (Below.refl _ _) nq
                    have m0' := keeps_cells hB2 _ _ n0
                    have m5 := keeps_cells hB2 _ _ n5
                    have mt := keeps_cells hB2 _ _ t0
                    have mk := keeps_cells hB2 _ _ tk
                    rw [hw2]
                    clear hw2
                    go_wp2
                    go_ret
                    rw [HBAD.out HNO.out]
                    exact ⟨rfl, ext_trans hWw hB2⟩
                  · have hb9 : ¬ (1000 : Int) < ((sb.size + (t.size) : Nat) : Int) := by rw [← hsO]; exact hbig
                    have hb8 : (((sb.size + (t.size) : Nat) : Int)) ≤ 1000 := by omega
                    have hO10 : OUT.size ≤ 1000 := by omega
                    clear hOUT hcon hm0
                    go_wp2
                    go_quiet (fail)
                    obtain ⟨w2, hw2⟩ : ∃ W, wr.drewN nq = W := ⟨_, rfl⟩
                    have hB2 : Below wr.heap.size wr w2 := by rw [← hw2]; exact bel_dn2 (Below.refl _ _) nq
                    have m0' := keeps_cells hB2 _ _ n0
                    have m5 := keeps_cells hB2 _ _ n5
                    have mt := keeps_cells hB2 _ _ t0
                    have mk := keeps_cells hB2 _ _ tk
                    rw [hw2]
                    clear hw2
                    go_wp2
                    go_roundw
                    case rel => exact ⟨m + 1, _, by omega, by rw [HOE.out], by go_num, hO10, HO, hB7.trans (hB2.mono hsr7)⟩
                    case measure => simp [intOf]; omega
                · have gm : (0 : Int) < (m : Int) := by omega
                  have q4 : ¬ 9223372036854775807 < sb.size + (t.size) := by omega
                  have q5 : ¬ 9223372036854775807 < sb.size + t.size := by omega
                  have hsO : (sb ++ t : ByteArray).size = sb.size + (t.size) := by simp only [ByteArray.size_append] <;> rfl
                  have HO := hid (show (sb ++ t : ByteArray).data.toList = joinB [] ((N.kids.take (m + 1)).map (kidT [7, 8, 1] (kindsOf ns) ts)) by
                    rw [HJ.out, HKV.out]
                    rw [if_neg hm0]
                    rw [if_neg hcon]
                    simp only [dat_app3, HSB.out, List.append_assoc]
                    try rfl)
                  obtain ⟨OUT, hOUT⟩ : ∃ z : ByteArray, sb ++ t = z := ⟨_, rfl⟩
                  rw [hOUT] at HO hsO
                  have HOE := hid hOUT.symm
                  have HCON := hid hcon
                  have HM0 := hid hm0
                  by_cases hbig : (1000 : Int) < (OUT.size : Int)
                  · have hb9 : (1000 : Int) < ((sb.size + (t.size) : Nat) : Int) := by rw [← hsO]; exact hbig
                    have hb8 := hb9
                    clear hOUT hcon hm0
                    have HNO := hid (HNL.out (m + 1) (by omega) OUT HO.out (by omega))
                    go_wp2
                    go_quiet (fail)
                    obtain ⟨w2, hw2⟩ : ∃ W, wr.drewN nq = W := ⟨_, rfl⟩
                    have hB2 : Below wr.heap.size wr w2 := by rw [← hw2]; exact bel_dn2 (Below.refl _ _) nq
                    have m0' := keeps_cells hB2 _ _ n0
                    have m5 := keeps_cells hB2 _ _ n5
                    have mt := keeps_cells hB2 _ _ t0
                    have mk := keeps_cells hB2 _ _ tk
                    rw [hw2]
                    clear hw2
                    go_wp2
                    go_ret
                    rw [HBAD.out HNO.out]
                    exact ⟨rfl, ext_trans hWw hB2⟩
                  · have hb9 : ¬ (1000 : Int) < ((sb.size + (t.size) : Nat) : Int) := by rw [← hsO]; exact hbig
                    have hb8 : (((sb.size + (t.size) : Nat) : Int)) ≤ 1000 := by omega
                    have hO10 : OUT.size ≤ 1000 := by omega
                    clear hOUT hcon hm0
                    go_wp2
                    go_quiet (fail)
                    obtain ⟨w2, hw2⟩ : ∃ W, wr.drewN nq = W := ⟨_, rfl⟩
                    have hB2 : Below wr.heap.size wr w2 := by rw [← hw2]; exact bel_dn2 (Below.refl _ _) nq
                    have m0' := keeps_cells hB2 _ _ n0
                    have m5 := keeps_cells hB2 _ _ n5
                    have mt := keeps_cells hB2 _ _ t0
                    have mk := keeps_cells hB2 _ _ tk
                    rw [hw2]
                    clear hw2
                    go_wp2
                    go_roundw
                    case rel => exact ⟨m + 1, _, by omega, by rw [HOE.out], by go_num, hO10, HO, hB7.trans (hB2.mono hsr7)⟩
                    case measure => simp [intOf]; omega
              · have gl : ¬ (m : Int) < (L : Int) := by omega
                have HF := hid (HYES.out sb (by rw [HSB.out, List.take_of_length_le (by rw [HL.out]; omega)]))
                have c3 := HKC.out _ hW
                have f3 := HKF2.out _ hW
                have hng : ¬ (1000 : Int) < (sb.size : Int) := by omega
                have HSO := hid (show stepT (kindsOf ns) ts N = some sb by rw [HF.out, if_pos hsb])
                go_wp2
                go_roundw
                case rel => exact HEND.out _ _ hW HSO.out
                case measure => simp [intOf]; omega
        by_cases p8 : N.kind = 8
        · as_aux_lemma =>
            rw [p8] at d0
            have HS := hid (show nodeT (kindsOf ns) ts N = some (joinB [124] (N.kids.map (kidT [8] (kindsOf ns) ts))) by unfold nodeT; rw [p8]; rfl)
            obtain ⟨L, hL⟩ : ∃ z, N.kids.length = z := ⟨_, rfl⟩
            have HL := hid hL
            rw [hL] at d5 hk3
            have hr2 : (0 : Int) ≤ (L : Int) := by omega
            clear hL p1 p2 p3 p5 p6 p4 p7 p8
            have HNL := hid (fun (m : Nat) (hm : m ≤ L) (sb : ByteArray) (h : sb.data.toList = joinB [124] ((N.kids.take m).map (kidT [8] (kindsOf ns) ts))) (hb : 1000 < sb.size) => (show stepT (kindsOf ns) ts N = none from by
              have h1 := joinB_mono [124] ((N.kids.take m).map (kidT [8] (kindsOf ns) ts)) ((N.kids.drop m).map (kidT [8] (kindsOf ns) ts))
              rw [← List.map_append, List.take_append_drop, ← h, ← Lib.size_eq] at h1
              exact step_big HS.out (by omega)))
            have HYES := hid (fun (sb : ByteArray) (h : sb.data.toList = joinB [124] (N.kids.map (kidT [8] (kindsOf ns) ts))) => (show stepT (kindsOf ns) ts N = if sb.size ≤ 1000 then some sb else none from step_of HS.out h))
            have hW7 := heap_alloc_new wr (.cells #[.int .i64 8, .int .i64 N.lo, .int .i64 N.hi, .bool N.neg, .slice sa N.set.length sc, .slice ka L kc] 82)
            have HB7 := hid (fun (w' : World) (hb : Below (wr.heap.size + 1) (wr.alloc (.cells #[.int .i64 8, .int .i64 N.lo, .int .i64 N.hi, .bool N.neg, .slice sa N.set.length sc, .slice ka L kc] 82)) w') => (blk6c ((hb.block wr.heap.size (Nat.lt_succ_self _)).trans hW7)).1)
            have HW7 := hid (fun (w' : World) (hb : Below (wr.heap.size + 1) (wr.alloc (.cells #[.int .i64 8, .int .i64 N.lo, .int .i64 N.hi, .bool N.neg, .slice sa N.set.length sc, .slice ka L kc] 82)) w') => (ext_alloc wr (.cells #[.int .i64 8, .int .i64 N.lo, .int .i64 N.hi, .bool N.neg, .slice sa N.set.length sc, .slice ka L kc] 82)).trans (hb.mono (Nat.le_succ _)))
            have HS7 := hid (fun (w' : World) (hb : Below (wr.heap.size + 1) (wr.alloc (.cells #[.int .i64 8, .int .i64 N.lo, .int .i64 N.hi, .bool N.neg, .slice sa N.set.length sc, .slice ka L kc] 82)) w') => (show wr.heap.size + 1 ≤ w'.heap.size from by have := hb.size; simp at this; exact this))
            have HR7 := hid (Below.refl (wr.heap.size + 1) (wr.alloc (.cells #[.int .i64 8, .int .i64 N.lo, .int .i64 N.hi, .bool N.neg, .slice sa N.set.length sc, .slice ka L kc] 82)))
            have HKC := hid (fun (w' : World) (h : Below wr.heap.size wr w') => (show w'.cell? ⟨B, i, none⟩ = some (.string ⟨#[]⟩) from keeps_cells h _ _ c0))
            have HKF2 := hid (fun (w' : World) (h : Below wr.heap.size wr w') => (show w'.frozen? ⟨B, i, none⟩ = false from frozen_of_row w' _ i _ _ ((h.block B hBlt).trans HROW2.out)))
            have HKX := hid (fun (w' : World) (h : Below wr.heap.size wr w') => keeps_cells h _ _ x0)
            have HKD2 := hid (fun (w' : World) (h : Below wr.heap.size wr w') (k : Nat) (hk : k < ns.length) => keeps_cells h _ _ (HKD.out k hk))
            have HTK2 := hid (fun (w' : World) (h : Below wr.heap.size wr w') (k : Nat) (hk : k < ts.length) => keeps_cells h _ _ (HTK.out k hk))
            clear hW7
            go_wp2
            go_loopw [6, 8] (fun sv iv wq => ∃ (m : Nat) (sb : ByteArray), m ≤ L ∧ sv = .string sb ∧ iv = .int .i64 (m : Int) ∧ sb.size ≤ 1000 ∧ Hid (sb.data.toList = joinB [124] ((N.kids.take m).map (kidT [8] (kindsOf ns) ts))) ∧ Below (wr.heap.size + 1) (wr.alloc (.cells #[.int .i64 8, .int .i64 N.lo, .int .i64 N.hi, .bool N.neg, .slice sa N.set.length sc, .slice ka L kc] 82)) wq) (fun _ iv _ => L - (intOf iv).toNat)
            case atStart => exact ⟨0, _, Nat.zero_le _, rfl, rfl, by decide, hid (by simp [joinB]), HR7.out⟩
            case round =>
              obtain ⟨m, sb, hm, rfl, rfl, hsb, HSB, hB7⟩ := hrel
              obtain ⟨n0, n1, n2, n3, n4, n5⟩ := HB7.out _ hB7
              have hW := HW7.out _ hB7
              have hsr7 := HS7.out _ hB7
              have hWw := ext_trans hBw hW
              clear c0 f0 d0 d1 d2 d3 d4 d5 x0
              have x0 := HKX.out _ hW
              by_cases hlt2 : m < L
              · obtain ⟨b2, off2, rfl, hBk2, hcell⟩ := HKF.out (by rw [HL.out]; omega)
                have hm1 : m < N.kids.length := by rw [HL.out]; exact hlt2
                have t0 : wr.cell? ⟨b2, off2 + m, none⟩ = some (.int .i64 N.kids[m]) := (hWw.cell (p := ⟨b2, off2 + m, none⟩) hBk2).trans (hcell m hm1).1
                have hkj := HKID.out N.kids[m] (List.getElem_mem hm1)
                obtain ⟨kn, hkn⟩ : ∃ kn : Nat, (kn : Int) = N.kids[m] := ⟨N.kids[m].toNat, by omega⟩
                have HKN := hid hkn
                rw [← hkn] at t0 hkj
                have hk3' : kn < ts.length := by omega
                have hk4' : kn < ns.length := by rw [HNN.out]; have := HTI.out; omega
                have tk := HTK2.out _ hW kn hk3'
                have tkd := HKD2.out _ hW kn hk4'
                have hsz := HTS.out ts[kn] (List.getElem_mem hk3')
                have hkdv : kidT [8] (kindsOf ns) ts (kn : Int) = if [8].contains ns[kn].kind = true then 40 :: (ts[kn].data.toList ++ [41]) else ts[kn].data.toList := by rw [kidT_at hk4' hk3']; rfl
                have hjoin : joinB [124] ((N.kids.take (m + 1)).map (kidT [8] (kindsOf ns) ts)) = joinB [124] ((N.kids.take m).map (kidT [8] (kindsOf ns) ts)) ++ ((if m = 0 then [] else [124]) ++ kidT [8] (kindsOf ns) ts (kn : Int)) := by
                  rw [List.take_succ_eq_append_getElem hm1, List.map_append, List.map_cons, List.map_nil, joinB_snoc, HKN.out]
                  congr 2
                  by_cases h0 : m = 0
                  · subst h0; simp
                  · rw [if_neg h0, if_neg]
                    intro hc
                    have := congrArg List.length hc
                    rw [List.length_map, List.length_take, List.length_nil] at this
                    omega
                obtain ⟨kd, hkd⟩ : ∃ z, ns[kn].kind = z := ⟨_, rfl⟩
                obtain ⟨t, ht⟩ : ∃ z, ts[kn] = z := ⟨_, rfl⟩
                rw [hkd] at tkd hkdv
                rw [ht] at tk hsz hkdv
                have HKV := hid hkdv
                have HJ := hid hjoin
                have g0 : (0 : Int) ≤ (m : Int) := by omega
                have gl : (m : Int) < (L : Int) := by omega
                have gk0 : (0 : Int) ≤ (kn : Int) := by omega
                have gk1 : (kn : Int) < (n : Int) := by have := HTI.out; omega
                clear hcell hkn hkd ht hkdv hjoin
                by_cases kd8 : kd = 8
                · have hcon : ([8] : List Int).contains kd = true := by rw [kd8]; decide
                  have e8 : (kd == 8) = true := by rw [beq_iff_eq]; exact kd8
                  have KD8 := hid kd8
                  clear kd8
                  by_cases hm0 : m = 0
                  · have gm : ¬ (0 : Int) < (m : Int) := by omega
                    have q1 : ¬ 9223372036854775807 < 1 + t.size := by omega
                    have q2 : ¬ 9223372036854775807 < 1 + t.size + 1 := by omega
                    have q4 : ¬ 9223372036854775807 < sb.size + (1 + t.size + 1) := by omega
                    have q5 : ¬ 9223372036854775807 < sb.size + t.size := by omega
                    have hsO : (sb ++ (⟨#[40]⟩ ++ t ++ ⟨#[41]⟩) : ByteArray).size = sb.size + (1 + t.size + 1) := by simp only [ByteArray.size_append] <;> rfl
                    have HO := hid (show (sb ++ (⟨#[40]⟩ ++ t ++ ⟨#[41]⟩) : ByteArray).data.toList = joinB [124] ((N.kids.take (m + 1)).map (kidT [8] (kindsOf ns) ts)) by
                      rw [HJ.out, HKV.out]
                      rw [if_pos hm0]
                      rw [if_pos hcon]
                      simp only [dat_app3, HSB.out, List.append_assoc]
                      try rfl)
                    obtain ⟨OUT, hOUT⟩ : ∃ z : ByteArray, sb ++ (⟨#[40]⟩ ++ t ++ ⟨#[41]⟩) = z := ⟨_, rfl⟩
                    rw [hOUT] at HO hsO
                    have HOE := hid hOUT.symm
                    have HCON := hid hcon
                    have HM0 := hid hm0
                    by_cases hbig : (1000 : Int) < (OUT.size : Int)
                    · have hb9 : (1000 : Int) < ((sb.size + (1 + t.size + 1) : Nat) : Int) := by rw [← hsO]; exact hbig
                      have hb8 := hb9
                      clear hOUT hcon hm0
                      have HNO := hid (HNL.out (m + 1) (by omega) OUT HO.out (by omega))
                      go_wp2
                      go_quiet (fail)
                      obtain ⟨w2, hw2⟩ : ∃ W, wr.drewN nq = W := ⟨_, rfl⟩
                      have hB2 : Below wr.heap.size wr w2 := by rw [← hw2]; exact bel_dn2 (Below.refl _ _) nq
                      have m0' := keeps_cells hB2 _ _ n0
                      have m5 := keeps_cells hB2 _ _ n5
                      have mt := keeps_cells hB2 _ _ t0
                      have mk := keeps_cells hB2 _ _ tk
                      rw [hw2]
                      clear hw2
                      go_wp2
                      go_ret
                      rw [HBAD.out HNO.out]
                      exact ⟨rfl, ext_trans hWw hB2⟩
                    · have hb9 : ¬ (1000 : Int) < ((sb.size + (1 + t.size + 1) : Nat) : Int) := by rw [← hsO]; exact hbig
                      have hb8 : (((sb.size + (1 + t.size + 1) : Nat) : Int)) ≤ 1000 := by omega
                      have hO10 : OUT.size ≤ 1000 := by omega
                      clear hOUT hcon hm0
                      go_wp2
                      go_quiet (fail)
                      obtain ⟨w2, hw2⟩ : ∃ W, wr.drewN nq = W := ⟨_, rfl⟩
                      have hB2 : Below wr.heap.size wr w2 := by rw [← hw2]; exact bel_dn2 (Below.refl _ _) nq
                      have m0' := keeps_cells hB2 _ _ n0
                      have m5 := keeps_cells hB2 _ _ n5
                      have mt := keeps_cells hB2 _ _ t0
                      have mk := keeps_cells hB2 _ _ tk
                      rw [hw2]
                      clear hw2
                      go_wp2
                      go_roundw
                      case rel => exact ⟨m + 1, _, by omega, by rw [HOE.out], by go_num, hO10, HO, hB7.trans (hB2.mono hsr7)⟩
                      case measure => simp [intOf]; omega
                  · have gm : (0 : Int) < (m : Int) := by omega
                    have q1 : ¬ 9223372036854775807 < 1 + t.size := by omega
                    have q2 : ¬ 9223372036854775807 < 1 + t.size + 1 := by omega
                    have q3 : ¬ 9223372036854775807 < sb.size + 1 := by omega
                    have q4 : ¬ 9223372036854775807 < sb.size + 1 + (1 + t.size + 1) := by omega
                    have hsO : (sb ++ ⟨#[124]⟩ ++ (⟨#[40]⟩ ++ t ++ ⟨#[41]⟩) : ByteArray).size = sb.size + 1 + (1 + t.size + 1) := by simp only [ByteArray.size_append] <;> rfl
                    have HO := hid (show (sb ++ ⟨#[124]⟩ ++ (⟨#[40]⟩ ++ t ++ ⟨#[41]⟩) : ByteArray).data.toList = joinB [124] ((N.kids.take (m + 1)).map (kidT [8] (kindsOf ns) ts)) by
                      rw [HJ.out, HKV.out]
                      rw [if_neg hm0]
                      rw [if_pos hcon]
                      simp only [dat_app3, HSB.out, List.append_assoc]
                      try rfl)
                    obtain ⟨OUT, hOUT⟩ : ∃ z : ByteArray, sb ++ ⟨#[124]⟩ ++ (⟨#[40]⟩ ++ t ++ ⟨#[41]⟩) = z := ⟨_, rfl⟩
                    rw [hOUT] at HO hsO
                    have HOE := hid hOUT.symm
                    have HCON := hid hcon
                    have HM0 := hid hm0
                    by_cases hbig : (1000 : Int) < (OUT.size : Int)
                    · have hb9 : (1000 : Int) < ((sb.size + 1 + (1 + t.size + 1) : Nat) : Int) := by rw [← hsO]; exact hbig
                      have hb8 := hb9
                      clear hOUT hcon hm0
                      have HNO := hid (HNL.out (m + 1) (by omega) OUT HO.out (by omega))
                      go_wp2
                      go_quiet (fail)
                      obtain ⟨w2, hw2⟩ : ∃ W, wr.drewN nq = W := ⟨_, rfl⟩
                      have hB2 : Below wr.heap.size wr w2 := by rw [← hw2]; exact bel_dn2 (Below.refl _ _) nq
                      have m0' := keeps_cells hB2 _ _ n0
                      have m5 := keeps_cells hB2 _ _ n5
                      have mt := keeps_cells hB2 _ _ t0
                      have mk := keeps_cells hB2 _ _ tk
                      rw [hw2]
                      clear hw2
                      go_wp2
                      go_ret
                      rw [HBAD.out HNO.out]
                      exact ⟨rfl, ext_trans hWw hB2⟩
                    · have hb9 : ¬ (1000 : Int) < ((sb.size + 1 + (1 + t.size + 1) : Nat) : Int) := by rw [← hsO]; exact hbig
                      have hb8 : (((sb.size + 1 + (1 + t.size + 1) : Nat) : Int)) ≤ 1000 := by omega
                      have hO10 : OUT.size ≤ 1000 := by omega
                      clear hOUT hcon hm0
                      go_wp2
                      go_quiet (fail)
                      obtain ⟨w2, hw2⟩ : ∃ W, wr.drewN nq = W := ⟨_, rfl⟩
                      have hB2 : Below wr.heap.size wr w2 := by rw [← hw2]; exact bel_dn2 (Below.refl _ _) nq
                      have m0' := keeps_cells hB2 _ _ n0
                      have m5 := keeps_cells hB2 _ _ n5
                      have mt := keeps_cells hB2 _ _ t0
                      have mk := keeps_cells hB2 _ _ tk
                      rw [hw2]
                      clear hw2
                      go_wp2
                      go_roundw
                      case rel => exact ⟨m + 1, _, by omega, by rw [HOE.out], by go_num, hO10, HO, hB7.trans (hB2.mono hsr7)⟩
                      case measure => simp [intOf]; omega
                have hcon : ¬ ([8] : List Int).contains kd = true := by simp; omega
                have e8 : (kd == 8) = false := by rw [beq_eq_false_iff_ne]; omega
                clear kd8
                by_cases hm0 : m = 0
                · have gm : ¬ (0 : Int) < (m : Int) := by omega
                  have q4 : ¬ 9223372036854775807 < sb.size + (t.size) := by omega
                  have q5 : ¬ 9223372036854775807 < sb.size + t.size := by omega
                  have hsO : (sb ++ t : ByteArray).size = sb.size + (t.size) := by simp only [ByteArray.size_append] <;> rfl
                  have HO := hid (show (sb ++ t : ByteArray).data.toList = joinB [124] ((N.kids.take (m + 1)).map (kidT [8] (kindsOf ns) ts)) by
                    rw [HJ.out, HKV.out]
                    rw [if_pos hm0]
                    rw [if_neg hcon]
                    simp only [dat_app3, HSB.out, List.append_assoc]
                    try rfl)
                  obtain ⟨OUT, hOUT⟩ : ∃ z : ByteArray, sb ++ t = z := ⟨_, rfl⟩
                  rw [hOUT] at HO hsO
                  have HOE := hid hOUT.symm
                  have HCON := hid hcon
                  have HM0 := hid hm0
                  by_cases hbig : (1000 : Int) < (OUT.size : Int)
                  · have hb9 : (1000 : Int) < ((sb.size + (t.size) : Nat) : Int) := by rw [← hsO]; exact hbig
                    have hb8 := hb9
                    clear hOUT hcon hm0
                    have HNO := hid (HNL.out (m + 1) (by omega) OUT HO.out (by omega))
                    go_wp2
                    go_quiet (fail)
                    obtain ⟨w2, hw2⟩ : ∃ W, wr.drewN nq = W := ⟨_, rfl⟩
                    have hB2 : Below wr.heap.size wr w2 := by rw [← hw2]; exact bel_dn2 (Below.refl _ _) nq
                    have m0' := keeps_cells hB2 _ _ n0
                    have m5 := keeps_cells hB2 _ _ n5
                    have mt := keeps_cells hB2 _ _ t0
                    have mk := keeps_cells hB2 _ _ tk
                    rw [hw2]
                    clear hw2
                    go_wp2
                    go_ret
                    rw [HBAD.out HNO.out]
                    exact ⟨rfl, ext_trans hWw hB2⟩
                  · have hb9 : ¬ (1000 : Int) < ((sb.size + (t.size) : Nat) : Int) := by rw [← hsO]; exact hbig
                    have hb8 : (((sb.size + (t.size) : Nat) : Int)) ≤ 1000 := by omega
                    have hO10 : OUT.size ≤ 1000 := by omega
                    clear hOUT hcon hm0
                    go_wp2
                    go_quiet (fail)
                    obtain ⟨w2, hw2⟩ : ∃ W, wr.drewN nq = W := ⟨_, rfl⟩
                    have hB2 : Below wr.heap.size wr w2 := by rw [← hw2]; exact bel_dn2 (Below.refl _ _) nq
                    have m0' := keeps_cells hB2 _ _ n0
                    have m5 := keeps_cells hB2 _ _ n5
                    have mt := keeps_cells hB2 _ _ t0
                    have mk := keeps_cells hB2 _ _ tk
                    rw [hw2]
                    clear hw2
                    go_wp2
                    go_roundw
                    case rel => exact ⟨m + 1, _, by omega, by rw [HOE.out], by go_num, hO10, HO, hB7.trans (hB2.mono hsr7)⟩
                    case measure => simp [intOf]; omega
                · have gm : (0 : Int) < (m : Int) := by omega
                  have q3 : ¬ 9223372036854775807 < sb.size + 1 := by omega
                  have q4 : ¬ 9223372036854775807 < sb.size + 1 + (t.size) := by omega
                  have hsO : (sb ++ ⟨#[124]⟩ ++ t : ByteArray).size = sb.size + 1 + (t.size) := by simp only [ByteArray.size_append] <;> rfl
                  have HO := hid (show (sb ++ ⟨#[124]⟩ ++ t : ByteArray).data.toList = joinB [124] ((N.kids.take (m + 1)).map (kidT [8] (kindsOf ns) ts)) by
                    rw [HJ.out, HKV.out]
                    rw [if_neg hm0]
                    rw [if_neg hcon]
                    simp only [dat_app3, HSB.out, List.append_assoc]
                    try rfl)
                  obtain ⟨OUT, hOUT⟩ : ∃ z : ByteArray, sb ++ ⟨#[124]⟩ ++ t = z := ⟨_, rfl⟩
                  rw [hOUT] at HO hsO
                  have HOE := hid hOUT.symm
                  have HCON := hid hcon
                  have HM0 := hid hm0
                  by_cases hbig : (1000 : Int) < (OUT.size : Int)
                  · have hb9 : (1000 : Int) < ((sb.size + 1 + (t.size) : Nat) : Int) := by rw [← hsO]; exact hbig
                    have hb8 := hb9
                    clear hOUT hcon hm0
                    have HNO := hid (HNL.out (m + 1) (by omega) OUT HO.out (by omega))
                    go_wp2
                    go_quiet (fail)
                    obtain ⟨w2, hw2⟩ : ∃ W, wr.drewN nq = W := ⟨_, rfl⟩
                    have hB2 : Below wr.heap.size wr w2 := by rw [← hw2]; exact bel_dn2 (Below.refl _ _) nq
                    have m0' := keeps_cells hB2 _ _ n0
                    have m5 := keeps_cells hB2 _ _ n5
                    have mt := keeps_cells hB2 _ _ t0
                    have mk := keeps_cells hB2 _ _ tk
                    rw [hw2]
                    clear hw2
                    go_wp2
                    go_ret
                    rw [HBAD.out HNO.out]
                    exact ⟨rfl, ext_trans hWw hB2⟩
                  · have hb9 : ¬ (1000 : Int) < ((sb.size + 1 + (t.size) : Nat) : Int) := by rw [← hsO]; exact hbig
                    have hb8 : (((sb.size + 1 + (t.size) : Nat) : Int)) ≤ 1000 := by omega
                    have hO10 : OUT.size ≤ 1000 := by omega
                    clear hOUT hcon hm0
                    go_wp2
                    go_quiet (fail)
                    obtain ⟨w2, hw2⟩ : ∃ W, wr.drewN nq = W := ⟨_, rfl⟩
                    have hB2 : Below wr.heap.size wr w2 := by rw [← hw2]; exact bel_dn2 (Below.refl _ _) nq
                    have m0' := keeps_cells hB2 _ _ n0
                    have m5 := keeps_cells hB2 _ _ n5
                    have mt := keeps_cells hB2 _ _ t0
                    have mk := keeps_cells hB2 _ _ tk
                    rw [hw2]
                    clear hw2
                    go_wp2
                    go_roundw
                    case rel => exact ⟨m + 1, _, by omega, by rw [HOE.out], by go_num, hO10, HO, hB7.trans (hB2.mono hsr7)⟩
                    case measure => simp [intOf]; omega
              · have gl : ¬ (m : Int) < (L : Int) := by omega
                have HF := hid (HYES.out sb (by rw [HSB.out, List.take_of_length_le (by rw [HL.out]; omega)]))
                have c3 := HKC.out _ hW
                have f3 := HKF2.out _ hW
                have hng : ¬ (1000 : Int) < (sb.size : Int) := by omega
                have HSO := hid (show stepT (kindsOf ns) ts N = some sb by rw [HF.out, if_pos hsb])
                go_wp2
                go_roundw
                case rel => exact HEND.out _ _ hW HSO.out
                case measure => simp [intOf]; omega
        by_cases p9 : N.kind = 9
        · as_aux_lemma =>
            rw [p9] at d0
            by_cases hbad : N.kids.length ≠ 1 ∨ N.lo < 0 ∨ N.hi < -1
            · have HNO := hid (step_no (show nodeT (kindsOf ns) ts N = none by unfold nodeT; rw [p9]; simp [hbad]))
              obtain ⟨L, hL⟩ : ∃ z, N.kids.length = z := ⟨_, rfl⟩
              rw [hL] at d5 hbad
              by_cases g1 : L = 1
              · subst g1
                by_cases g2 : N.lo < 0
                · clear hbad hL p1 p2 p3 p5 p6 p4 p7 p8 p9
                  go_wp2
                  go_ret
                  rw [HBAD.out HNO.out]
                  exact ⟨rfl, ext_trans hBw (ext_alloc _ _)⟩
                · have g3 : N.hi < -1 := by omega
                  clear hbad hL p1 p2 p3 p5 p6 p4 p7 p8 p9
                  go_wp2
                  go_ret
                  rw [HBAD.out HNO.out]
                  exact ⟨rfl, ext_trans hBw (ext_alloc _ _)⟩
              · have g1a : ((L : Int) != 1) = true := by rw [bne_iff_ne]; omega
                have g1b : ((L : Int) == 1) = false := by rw [beq_eq_false_iff_ne]; omega
                clear hbad hL g1 p1 p2 p3 p5 p6 p4 p7 p8 p9
                go_wp2
                go_ret
                rw [HBAD.out HNO.out]
                exact ⟨rfl, ext_trans hBw (ext_alloc _ _)⟩
            have HS := hid (show nodeT (kindsOf ns) ts N = some (kidT [7, 8, 9, 1] (kindsOf ns) ts (N.kids.getD 0 0) ++ timesP N.lo N.hi) by unfold nodeT; rw [p9]; simp [hbad])
            have g1 : N.kids.length = 1 := by omega
            have g2 : ¬ N.lo < 0 := by omega
            have g3 : ¬ N.hi < -1 := by omega
            obtain ⟨bz, oz, rfl, hBk2, hcell⟩ := HKF.out (by omega)
            have t0 : wr.cell? ⟨bz, oz, none⟩ = some (.int .i64 N.kids[0]) := (hBw.cell (p := ⟨bz, oz, none⟩) hBk2).trans (by have h := (hcell 0 (by omega)).1; rw [Nat.add_zero] at h; exact h)
            have hkj := HKID.out N.kids[0] (List.getElem_mem (by omega))
            obtain ⟨kn, hkn⟩ : ∃ kn : Nat, (kn : Int) = N.kids[0] := ⟨N.kids[0].toNat, by omega⟩
            have HKG := hid (show N.kids.getD 0 0 = (kn : Int) by rw [hkn, List.getD_eq_getElem?_getD, List.getElem?_eq_getElem (by omega)]; rfl)
            rw [← hkn] at t0 hkj
            rw [g1] at d5
            have hk3' : kn < ts.length := by omega
            have hk4' : kn < ns.length := by rw [HNN.out]; have := HTI.out; omega
            have tk := HTK.out kn hk3'
            have tkd := HKD.out kn hk4'
            have hsz := HTS.out ts[kn] (List.getElem_mem hk3')
            have hkdv : kidT [7, 8, 9, 1] (kindsOf ns) ts (kn : Int) = if ([7, 8, 9, 1] : List Int).contains ns[kn].kind = true then 40 :: (ts[kn].data.toList ++ [41]) else ts[kn].data.toList := by rw [kidT_at hk4' hk3']; rfl
            obtain ⟨kd, hkd⟩ : ∃ z, ns[kn].kind = z := ⟨_, rfl⟩
            obtain ⟨t, ht⟩ : ∃ z, ts[kn] = z := ⟨_, rfl⟩
            rw [hkd] at tkd hkdv
            rw [ht] at tk hsz hkdv
            have HKV := hid hkdv
            have gk0 : (0 : Int) ≤ (kn : Int) := by omega
            have gk1 : (kn : Int) < (n : Int) := by have := HTI.out; omega
            have htz := timesP_len (numB_size b1') (numB_size b2)
            have CT := hid (fun (w : World) => specOften N.lo N.hi w b1' b2 (by omega))
            have HTD := hid (mkB_data (timesP N.lo N.hi))
            have s2 : (mkB (timesP N.lo N.hi)).size ≤ 50 := by rw [mkB_size]; exact htz
            obtain ⟨TT, hTT⟩ : ∃ z, mkB (timesP N.lo N.hi) = z := ⟨_, rfl⟩
            rw [hTT] at CT HTD s2
            have e7 := ext_alloc wr (.cells #[.int .i64 9, .int .i64 N.lo, .int .i64 N.hi, .bool N.neg, .slice sa N.set.length sc, .slice (some ⟨bz, oz, none⟩) 1 kc] 82)
            have HC0 := hid (fun (w' : World) (h : Below wr.heap.size wr w') => (show w'.cell? ⟨B, i, none⟩ = some (.string ⟨#[]⟩) from keeps_cells h _ _ c0))
            have HKF2 := hid (fun (w' : World) (h : Below wr.heap.size wr w') => (show w'.frozen? ⟨B, i, none⟩ = false from frozen_of_row w' _ i _ _ ((h.block B hBlt).trans HROW2.out)))
            have t0' := keeps_cells e7 _ _ t0
            have tk' := keeps_cells e7 _ _ tk
            have tkd' := keeps_cells e7 _ _ tkd
            have hbl2 : bz < wr.heap.size := Nat.lt_of_lt_of_le hBk2 hBw.size
            have E7 := hid e7
            clear hcell hkn hkd ht hkdv hTT htz hbad g1 e7 p1 p2 p3 p5 p6 p4 p7 p8 p9
            by_cases kd7 : kd = 7
            · have hcon : ([7, 8, 9, 1] : List Int).contains kd = true := by rw [kd7]; decide
              have e7 : (kd == 7) = true := by rw [beq_iff_eq]; exact kd7
              clear kd7
              have q1 : ¬ 9223372036854775807 < 1 + t.size := by omega
              have q2 : ¬ 9223372036854775807 < 1 + t.size + 1 := by omega
              have q3 : ¬ 9223372036854775807 < 1 + t.size + 1 + TT.size := by omega
              have hsO : ((⟨#[40]⟩ ++ t ++ ⟨#[41]⟩) ++ TT : ByteArray).size = 1 + t.size + 1 + TT.size := by simp only [ByteArray.size_append] <;> rfl
              have HE := hid (step_of (s := (⟨#[40]⟩ ++ t ++ ⟨#[41]⟩) ++ TT) HS.out (by rw [HKG.out, HKV.out, if_pos hcon, dat_app3, HTD.out] <;> first | rfl | (simp only [dat_app3, List.append_assoc]; rfl)))
              obtain ⟨OUT, hOUT⟩ : ∃ z : ByteArray, (⟨#[40]⟩ ++ t ++ ⟨#[41]⟩) ++ TT = z := ⟨_, rfl⟩
              rw [hOUT] at HE hsO
              have HOE := hid hOUT.symm
              have hx0 := x0
              clear hcon hOUT
              go_wp2
              go_quiet (fail)
              obtain ⟨w2, hw2⟩ : ∃ W, (wr.alloc (.cells #[.int .i64 9, .int .i64 N.lo, .int .i64 N.hi, .bool N.neg, .slice sa N.set.length sc, .slice (some ⟨bz, oz, none⟩) 1 kc] 82)).drewN nq = W := ⟨_, rfl⟩
              have hB2 : Below wr.heap.size wr w2 := by rw [← hw2]; exact bel_dn2 E7.out nq
              have hB27 : Below (wr.alloc (.cells #[.int .i64 9, .int .i64 N.lo, .int .i64 N.hi, .bool N.neg, .slice sa N.set.length sc, .slice (some ⟨bz, oz, none⟩) 1 kc] 82)).heap.size (wr.alloc (.cells #[.int .i64 9, .int .i64 N.lo, .int .i64 N.hi, .bool N.neg, .slice sa N.set.length sc, .slice (some ⟨bz, oz, none⟩) 1 kc] 82)) w2 := by rw [← hw2]; exact bel_dn2 (Below.refl _ _) nq
              obtain ⟨⟨m0, m1, m2, m3, m4, m5⟩, _⟩ := blk6c ((hB27.block wr.heap.size (by simp)).trans (heap_alloc_new wr _))
              rw [hw2]
              clear hw2
              go_wp2_with fail
              refine (CT.out _).mono ?_
              rintro e w3 ⟨rfl, hb3⟩
              have hB3 := ext_trans hB2 hb3
              have c3 := HC0.out _ hB3
              have f3 := HKF2.out _ hB3
              clear c0 f0
              by_cases hbig : (1000 : Int) < (OUT.size : Int)
              · have hb9 : (1000 : Int) < ((1 + t.size + 1 + TT.size : Nat) : Int) := by rw [← hsO]; exact hbig
                have hb8 := hb9
                have HNO := hid (show stepT (kindsOf ns) ts N = none by rw [HE.out, if_neg (by omega)])
                go_wp2
                go_ret
                rw [HBAD.out HNO.out]
                exact ⟨rfl, ext_trans hBw hB3⟩
              · have hb9 : ¬ (1000 : Int) < ((1 + t.size + 1 + TT.size : Nat) : Int) := by rw [← hsO]; exact hbig
                have hb8 : (((1 + t.size + 1 + TT.size : Nat) : Int)) ≤ 1000 := by omega
                have HSO := hid (show stepT (kindsOf ns) ts N = some OUT by rw [HE.out, if_pos (by omega)])
                have HEND2 := hid (HEND.out w3 OUT hB3 HSO.out)
                rw [HOE.out] at HEND2
                go_wp2
                go_roundw
                case rel => exact HEND2.out
                case measure => simp [intOf]; omega
            by_cases kd8 : kd = 8
            · have hcon : ([7, 8, 9, 1] : List Int).contains kd = true := by rw [kd8]; decide
              have e8 : (kd == 8) = true := by rw [beq_iff_eq]; exact kd8
              have e7 : (kd == 7) = false := by rw [beq_eq_false_iff_ne]; omega
              clear kd7 kd8
              have q1 : ¬ 9223372036854775807 < 1 + t.size := by omega
              have q2 : ¬ 9223372036854775807 < 1 + t.size + 1 := by omega
              have q3 : ¬ 9223372036854775807 < 1 + t.size + 1 + TT.size := by omega
              have hsO : ((⟨#[40]⟩ ++ t ++ ⟨#[41]⟩) ++ TT : ByteArray).size = 1 + t.size + 1 + TT.size := by simp only [ByteArray.size_append] <;> rfl
              have HE := hid (step_of (s := (⟨#[40]⟩ ++ t ++ ⟨#[41]⟩) ++ TT) HS.out (by rw [HKG.out, HKV.out, if_pos hcon, dat_app3, HTD.out] <;> first | rfl | (simp only [dat_app3, List.append_assoc]; rfl)))
              obtain ⟨OUT, hOUT⟩ : ∃ z : ByteArray, (⟨#[40]⟩ ++ t ++ ⟨#[41]⟩) ++ TT = z := ⟨_, rfl⟩
              rw [hOUT] at HE hsO
              have HOE := hid hOUT.symm
              have hx0 := x0
              clear hcon hOUT
              go_wp2
              go_quiet (fail)
              obtain ⟨w2, hw2⟩ : ∃ W, (wr.alloc (.cells #[.int .i64 9, .int .i64 N.lo, .int .i64 N.hi, .bool N.neg, .slice sa N.set.length sc, .slice (some ⟨bz, oz, none⟩) 1 kc] 82)).drewN nq = W := ⟨_, rfl⟩
              have hB2 : Below wr.heap.size wr w2 := by rw [← hw2]; exact bel_dn2 E7.out nq
              have hB27 : Below (wr.alloc (.cells #[.int .i64 9, .int .i64 N.lo, .int .i64 N.hi, .bool N.neg, .slice sa N.set.length sc, .slice (some ⟨bz, oz, none⟩) 1 kc] 82)).heap.size (wr.alloc (.cells #[.int .i64 9, .int .i64 N.lo, .int .i64 N.hi, .bool N.neg, .slice sa N.set.length sc, .slice (some ⟨bz, oz, none⟩) 1 kc] 82)) w2 := by rw [← hw2]; exact bel_dn2 (Below.refl _ _) nq
              obtain ⟨⟨m0, m1, m2, m3, m4, m5⟩, _⟩ := blk6c ((hB27.block wr.heap.size (by simp)).trans (heap_alloc_new wr _))
              rw [hw2]
              clear hw2
              go_wp2_with fail
              refine (CT.out _).mono ?_
              rintro e w3 ⟨rfl, hb3⟩
              have hB3 := ext_trans hB2 hb3
              have c3 := HC0.out _ hB3
              have f3 := HKF2.out _ hB3
              clear c0 f0
              by_cases hbig : (1000 : Int) < (OUT.size : Int)
              · have hb9 : (1000 : Int) < ((1 + t.size + 1 + TT.size : Nat) : Int) := by rw [← hsO]; exact hbig
                have hb8 := hb9
                have HNO := hid (show stepT (kindsOf ns) ts N = none by rw [HE.out, if_neg (by omega)])
                go_wp2
                go_ret
                rw [HBAD.out HNO.out]
                exact ⟨rfl, ext_trans hBw hB3⟩
              · have hb9 : ¬ (1000 : Int) < ((1 + t.size + 1 + TT.size : Nat) : Int) := by rw [← hsO]; exact hbig
                have hb8 : (((1 + t.size + 1 + TT.size : Nat) : Int)) ≤ 1000 := by omega
                have HSO := hid (show stepT (kindsOf ns) ts N = some OUT by rw [HE.out, if_pos (by omega)])
                have HEND2 := hid (HEND.out w3 OUT hB3 HSO.out)
                rw [HOE.out] at HEND2
                go_wp2
                go_roundw
                case rel => exact HEND2.out
                case measure => simp [intOf]; omega
            by_cases kd9 : kd = 9
            · have hcon : ([7, 8, 9, 1] : List Int).contains kd = true := by rw [kd9]; decide
              have e9 : (kd == 9) = true := by rw [beq_iff_eq]; exact kd9
              have e7 : (kd == 7) = false := by rw [beq_eq_false_iff_ne]; omega
              have e8 : (kd == 8) = false := by rw [beq_eq_false_iff_ne]; omega
              clear kd7 kd8 kd9
              have q1 : ¬ 9223372036854775807 < 1 + t.size := by omega
              have q2 : ¬ 9223372036854775807 < 1 + t.size + 1 := by omega
              have q3 : ¬ 9223372036854775807 < 1 + t.size + 1 + TT.size := by omega
              have hsO : ((⟨#[40]⟩ ++ t ++ ⟨#[41]⟩) ++ TT : ByteArray).size = 1 + t.size + 1 + TT.size := by simp only [ByteArray.size_append] <;> rfl
              have HE := hid (step_of (s := (⟨#[40]⟩ ++ t ++ ⟨#[41]⟩) ++ TT) HS.out (by rw [HKG.out, HKV.out, if_pos hcon, dat_app3, HTD.out] <;> first | rfl | (simp only [dat_app3, List.append_assoc]; rfl)))
              obtain ⟨OUT, hOUT⟩ : ∃ z : ByteArray, (⟨#[40]⟩ ++ t ++ ⟨#[41]⟩) ++ TT = z := ⟨_, rfl⟩
              rw [hOUT] at HE hsO
              have HOE := hid hOUT.symm
              have hx0 := x0
              clear hcon hOUT
              go_wp2
              go_quiet (fail)
              obtain ⟨w2, hw2⟩ : ∃ W, (wr.alloc (.cells #[.int .i64 9, .int .i64 N.lo, .int .i64 N.hi, .bool N.neg, .slice sa N.set.length sc, .slice (some ⟨bz, oz, none⟩) 1 kc] 82)).drewN nq = W := ⟨_, rfl⟩
              have hB2 : Below wr.heap.size wr w2 := by rw [← hw2]; exact bel_dn2 E7.out nq
              have hB27 : Below (wr.alloc (.cells #[.int .i64 9, .int .i64 N.lo, .int .i64 N.hi, .bool N.neg, .slice sa N.set.length sc, .slice (some ⟨bz, oz, none⟩) 1 kc] 82)).heap.size (wr.alloc (.cells #[.int .i64 9, .int .i64 N.lo, .int .i64 N.hi, .bool N.neg, .slice sa N.set.length sc, .slice (some ⟨bz, oz, none⟩) 1 kc] 82)) w2 := by rw [← hw2]; exact bel_dn2 (Below.refl _ _) nq
              obtain ⟨⟨m0, m1, m2, m3, m4, m5⟩, _⟩ := blk6c ((hB27.block wr.heap.size (by simp)).trans (heap_alloc_new wr _))
              rw [hw2]
              clear hw2
              go_wp2_with fail
              refine (CT.out _).mono ?_
              rintro e w3 ⟨rfl, hb3⟩
              have hB3 := ext_trans hB2 hb3
              have c3 := HC0.out _ hB3
              have f3 := HKF2.out _ hB3
              clear c0 f0
              by_cases hbig : (1000 : Int) < (OUT.size : Int)
              · have hb9 : (1000 : Int) < ((1 + t.size + 1 + TT.size : Nat) : Int) := by rw [← hsO]; exact hbig
                have hb8 := hb9
                have HNO := hid (show stepT (kindsOf ns) ts N = none by rw [HE.out, if_neg (by omega)])
                go_wp2
                go_ret
                rw [HBAD.out HNO.out]
                exact ⟨rfl, ext_trans hBw hB3⟩
              · have hb9 : ¬ (1000 : Int) < ((1 + t.size + 1 + TT.size : Nat) : Int) := by rw [← hsO]; exact hbig
                have hb8 : (((1 + t.size + 1 + TT.size : Nat) : Int)) ≤ 1000 := by omega
                have HSO := hid (show stepT (kindsOf ns) ts N = some OUT by rw [HE.out, if_pos (by omega)])
                have HEND2 := hid (HEND.out w3 OUT hB3 HSO.out)
                rw [HOE.out] at HEND2
                go_wp2
                go_roundw
                case rel => exact HEND2.out
                case measure => simp [intOf]; omega
            by_cases kd1 : kd = 1
            · have hcon : ([7, 8, 9, 1] : List Int).contains kd = true := by rw [kd1]; decide
              have e1 : (kd == 1) = true := by rw [beq_iff_eq]; exact kd1
              have e7 : (kd == 7) = false := by rw [beq_eq_false_iff_ne]; omega
              have e8 : (kd == 8) = false := by rw [beq_eq_false_iff_ne]; omega
              have e9 : (kd == 9) = false := by rw [beq_eq_false_iff_ne]; omega
              clear kd7 kd8 kd9 kd1
              have q1 : ¬ 9223372036854775807 < 1 + t.size := by omega
              have q2 : ¬ 9223372036854775807 < 1 + t.size + 1 := by omega
              have q3 : ¬ 9223372036854775807 < 1 + t.size + 1 + TT.size := by omega
              have hsO : ((⟨#[40]⟩ ++ t ++ ⟨#[41]⟩) ++ TT : ByteArray).size = 1 + t.size + 1 + TT.size := by simp only [ByteArray.size_append] <;> rfl
              have HE := hid (step_of (s := (⟨#[40]⟩ ++ t ++ ⟨#[41]⟩) ++ TT) HS.out (by rw [HKG.out, HKV.out, if_pos hcon, dat_app3, HTD.out] <;> first | rfl | (simp only [dat_app3, List.append_assoc]; rfl)))
              obtain ⟨OUT, hOUT⟩ : ∃ z : ByteArray, (⟨#[40]⟩ ++ t ++ ⟨#[41]⟩) ++ TT = z := ⟨_, rfl⟩
              rw [hOUT] at HE hsO
              have HOE := hid hOUT.symm
              have hx0 := x0
              clear hcon hOUT
              go_wp2
              go_quiet (fail)
              obtain ⟨w2, hw2⟩ : ∃ W, (wr.alloc (.cells #[.int .i64 9, .int .i64 N.lo, .int .i64 N.hi, .bool N.neg, .slice sa N.set.length sc, .slice (some ⟨bz, oz, none⟩) 1 kc] 82)).drewN nq = W := ⟨_, rfl⟩
              have hB2 : Below wr.heap.size wr w2 := by rw [← hw2]; exact bel_dn2 E7.out nq
              have hB27 : Below (wr.alloc (.cells #[.int .i64 9, .int .i64 N.lo, .int .i64 N.hi, .bool N.neg, .slice sa N.set.length sc, .slice (some ⟨bz, oz, none⟩) 1 kc] 82)).heap.size (wr.alloc (.cells #[.int .i64 9, .int .i64 N.lo, .int .i64 N.hi, .bool N.neg, .slice sa N.set.length sc, .slice (some ⟨bz, oz, none⟩) 1 kc] 82)) w2 := by rw [← hw2]; exact bel_dn2 (Below.refl _ _) nq
              obtain ⟨⟨m0, m1, m2, m3, m4, m5⟩, _⟩ := blk6c ((hB27.block wr.heap.size (by simp)).trans (heap_alloc_new wr _))
              rw [hw2]
              clear hw2
              go_wp2_with fail
              refine (CT.out _).mono ?_
              rintro e w3 ⟨rfl, hb3⟩
              have hB3 := ext_trans hB2 hb3
              have c3 := HC0.out _ hB3
              have f3 := HKF2.out _ hB3
              clear c0 f0
              by_cases hbig : (1000 : Int) < (OUT.size : Int)
              · have hb9 : (1000 : Int) < ((1 + t.size + 1 + TT.size : Nat) : Int) := by rw [← hsO]; exact hbig
                have hb8 := hb9
                have HNO := hid (show stepT (kindsOf ns) ts N = none by rw [HE.out, if_neg (by omega)])
                go_wp2
                go_ret
                rw [HBAD.out HNO.out]
                exact ⟨rfl, ext_trans hBw hB3⟩
              · have hb9 : ¬ (1000 : Int) < ((1 + t.size + 1 + TT.size : Nat) : Int) := by rw [← hsO]; exact hbig
                have hb8 : (((1 + t.size + 1 + TT.size : Nat) : Int)) ≤ 1000 := by omega
                have HSO := hid (show stepT (kindsOf ns) ts N = some OUT by rw [HE.out, if_pos (by omega)])
                have HEND2 := hid (HEND.out w3 OUT hB3 HSO.out)
                rw [HOE.out] at HEND2
                go_wp2
                go_roundw
                case rel => exact HEND2.out
                case measure => simp [intOf]; omega
            have hcon : ¬ ([7, 8, 9, 1] : List Int).contains kd = true := by simp; omega
            have e7 : (kd == 7) = false := by rw [beq_eq_false_iff_ne]; omega
            have e8 : (kd == 8) = false := by rw [beq_eq_false_iff_ne]; omega
            have e9 : (kd == 9) = false := by rw [beq_eq_false_iff_ne]; omega
            have e1 : (kd == 1) = false := by rw [beq_eq_false_iff_ne]; omega
            clear kd7 kd8 kd9 kd1
            have q1 : ¬ 9223372036854775807 < 1 + t.size := by omega
            have q2 : ¬ 9223372036854775807 < 1 + t.size + 1 := by omega
            have q3 : ¬ 9223372036854775807 < t.size + TT.size := by omega
            have hsO : (t ++ TT : ByteArray).size = t.size + TT.size := by simp only [ByteArray.size_append] <;> rfl
            have HE := hid (step_of (s := t ++ TT) HS.out (by rw [HKG.out, HKV.out, if_neg hcon, dat_app3, HTD.out] <;> first | rfl | (simp only [dat_app3, List.append_assoc]; rfl)))
            obtain ⟨OUT, hOUT⟩ : ∃ z : ByteArray, t ++ TT = z := ⟨_, rfl⟩
            rw [hOUT] at HE hsO
            have HOE := hid hOUT.symm
            have hx0 := x0
            clear hcon hOUT
            go_wp2
            go_quiet (fail)
            obtain ⟨w2, hw2⟩ : ∃ W, (wr.alloc (.cells #[.int .i64 9, .int .i64 N.lo, .int .i64 N.hi, .bool N.neg, .slice sa N.set.length sc, .slice (some ⟨bz, oz, none⟩) 1 kc] 82)).drewN nq = W := ⟨_, rfl⟩
            have hB2 : Below wr.heap.size wr w2 := by rw [← hw2]; exact bel_dn2 E7.out nq
            have hB27 : Below (wr.alloc (.cells #[.int .i64 9, .int .i64 N.lo, .int .i64 N.hi, .bool N.neg, .slice sa N.set.length sc, .slice (some ⟨bz, oz, none⟩) 1 kc] 82)).heap.size (wr.alloc (.cells #[.int .i64 9, .int .i64 N.lo, .int .i64 N.hi, .bool N.neg, .slice sa N.set.length sc, .slice (some ⟨bz, oz, none⟩) 1 kc] 82)) w2 := by rw [← hw2]; exact bel_dn2 (Below.refl _ _) nq
            obtain ⟨⟨m0, m1, m2, m3, m4, m5⟩, _⟩ := blk6c ((hB27.block wr.heap.size (by simp)).trans (heap_alloc_new wr _))
            rw [hw2]
            clear hw2
            go_wp2_with fail
            refine (CT.out _).mono ?_
            rintro e w3 ⟨rfl, hb3⟩
            have hB3 := ext_trans hB2 hb3
            have c3 := HC0.out _ hB3
            have f3 := HKF2.out _ hB3
            clear c0 f0
            by_cases hbig : (1000 : Int) < (OUT.size : Int)
            · have hb9 : (1000 : Int) < ((t.size + TT.size : Nat) : Int) := by rw [← hsO]; exact hbig
              have hb8 := hb9
              have HNO := hid (show stepT (kindsOf ns) ts N = none by rw [HE.out, if_neg (by omega)])
              go_wp2
              go_ret
              rw [HBAD.out HNO.out]
              exact ⟨rfl, ext_trans hBw hB3⟩
            · have hb9 : ¬ (1000 : Int) < ((t.size + TT.size : Nat) : Int) := by rw [← hsO]; exact hbig
              have hb8 : (((t.size + TT.size : Nat) : Int)) ≤ 1000 := by omega
              have HSO := hid (show stepT (kindsOf ns) ts N = some OUT by rw [HE.out, if_pos (by omega)])
              have HEND2 := hid (HEND.out w3 OUT hB3 HSO.out)
              rw [HOE.out] at HEND2
              go_wp2
              go_roundw
              case rel => exact HEND2.out
              case measure => simp [intOf]; omega
        have HS := hid (show nodeT (kindsOf ns) ts N = none by unfold nodeT; simp [p1, p2, p3, p5, p6, p4, p7, p8, p9])
        clear HTK
        go_wp2
        go_ret
        rw [HBAD.out (step_no HS.out)]
        exact ⟨rfl, ext_trans hBw (ext_alloc _ _)⟩
      · have hie : i = n := by omega
        have hlen : ts.length = n := by omega
        have g1 : IntKind.i64.wrap ((n : Int) - 1) = ((n - 1 : Nat) : Int) := by rw [show (n : Int) - 1 = ((n - 1 : Nat) : Int) by omega]; exact IntWalk.i64_in _ (by omega)
        have g2 : (n : Int) - 1 = ((n - 1 : Nat) : Int) := by omega
        have hlast : wr.cell? ⟨B, n - 1, none⟩ = some (.string (ts[n - 1]'(by omega))) := cell_row hrow (strRow_get (by omega))
        have HL := hid (show (textP ns).getD ⟨#[]⟩ = (ts[n - 1]'(by omega)) by
          rw [HGO0.out, HGO.out, textsGo_end (by rw [HNN.out]; omega)]
          show ts.getLastD ⟨#[]⟩ = _
          rw [getLastD_at hlen hpos])
        obtain ⟨t, ht⟩ : ∃ t, ts[n - 1]'(by omega) = t := ⟨_, rfl⟩
        rw [ht] at hlast HL
        have hki : ¬ (i : Int) < (n : Int) := by omega
        have hm1 : (0 : Int) ≤ ((n - 1 : Nat) : Int) := by omega
        have hm2 : ((n - 1 : Nat) : Int) < (n : Int) := by omega
        clear hie hlen ht hrow g2
        go_wp2
        go_ret
        rw [HL.out]
        exact ⟨rfl, hBw⟩
end Go.Proofs.YtomcoilmpkpoeaaGreatDoor
