/-
  What is proved here: the text of a pattern in impl. The condition 'PT' says that the library's table of powers of ten lies in the world.
-/
import Derived.Test.YtomcoilmpkpoeaaGreatDoorQRxTI4
import Derived.Test.YtomcoilmpkpoeaaGreatDoorQRxSzI
namespace Go.Proofs.YtomcoilmpkpoeaaGreatDoor
open Go.RowKit
set_option linter.unusedVariables false
set_option linter.unusedSimpArgs false

def TextRes (ns : List RxNode) (w : World) (e : Ending) (w' : World) : Prop :=
  ∃ (s : ByteArray) (ok : Bool), e = .returned (.tuple #[.string s, .bool ok]) ∧ (if ok = true then some s else none) = textP ns ∧ (ok = true → s.size ≤ 1000) ∧ Below w.heap.size w w'
theorem textP_no {ns : List RxNode} (h : treeB (kidsOf ns) = false) : textP ns = none := by unfold textP; rw [h]; rfl
theorem textP_go {ns : List RxNode} (h : treeB (kidsOf ns) = true) : textP ns = (textsGo (kindsOf ns) ns []).map fun ts => ts.getLastD ⟨#[]⟩ := by unfold textP; rw [h]; rfl
theorem getLastD_at {ts : List ByteArray} {n : Nat} (h : ts.length = n) (h0 : 0 < n) : ts.getLastD ⟨#[]⟩ = ts[n - 1]'(by omega) := by
  subst h
  have hne : ts ≠ [] := by intro e; rw [e] at h0; exact absurd h0 (Nat.lt_irrefl _)
  rw [List.getLastD_eq_getLast?, List.getLast?_eq_getElem?, List.getElem?_eq_getElem (by omega)]
  rfl
set_option maxHeartbeats 16000000 in
set_option maxRecDepth 100000 in
theorem implRxText {na : Option Addr} {nc : Nat} {ns : List RxNode} (w : World) (hP : PT w) (hn : Rd.rd (Old w) w [.slice na ns.length nc] ns) (hl : ns.length ≤ 2000000) (hf : (kidsOf ns).flatten.length ≤ 1000000000000) (hk : ∀ n ∈ ns, n.kids.length ≤ 1048576) :
    Calls Tryz.prog 76 #[.agg #[.slice na ns.length nc]] w (TextRes ns w) := by
  have hb0 := Below.refl (w.heap.size + 1) (w.alloc (.cells #[.slice na ns.length nc] 29))
  have hW0 := heap_alloc_new w (.cells #[.slice na ns.length nc] 29)
  have HBX := hid (fun (w' : World) (hb : Below (w.heap.size + 1) (w.alloc (.cells #[.slice na ns.length nc] 29)) w') => (show w'.cell? ⟨w.heap.size, 0, none⟩ = some (.slice na ns.length nc) from cell_of_row _ _ 0 _ _ _ ((hb.block w.heap.size (Nat.lt_succ_self _)).trans hW0)))
  have HBW := hid (fun (w' : World) (hb : Below (w.heap.size + 1) (w.alloc (.cells #[.slice na ns.length nc] 29)) w') => (ext_alloc w (.cells #[.slice na ns.length nc] 29)).trans (hb.mono (Nat.le_succ _)))
  have HSZ := hid (fun (w' : World) (hb : Below (w.heap.size + 1) (w.alloc (.cells #[.slice na ns.length nc] 29)) w') => (show w.heap.size + 1 ≤ w'.heap.size from by have := hb.size; simp at this; exact this))
  have CT := hid (implIsRxTree (w.alloc (.cells #[.slice na ns.length nc] 29)) (Rd.later (ext_alloc w _) hn) hl hf)
  obtain ⟨q, hq⟩ : ∃ q, treeB (kidsOf ns) = q := ⟨_, rfl⟩
  rw [hq] at CT
  have HQ := hid hq
  have x0 := HBX.out _ hb0
  clear hW0 hq
  cases q with
  | false =>
    go_enter Tryz.func76, Tryz.ntmps76
    go_wp2_with fail
    refine CT.out.mono ?_
    rintro e w1 ⟨rfl, hb⟩
    go_wp2
    go_ret2
    exact ⟨⟨#[]⟩, false, rfl, (textP_no HQ.out).symm, fun h => (by cases h), ext_trans (ext_alloc w _) hb⟩
  | true =>
    have htree := treeB_iff.1 HQ.out
    have hpos : 0 < ns.length := by have := htree.1; simpa [kidsOf] using this
    have HTREE := hid htree
    have hmk := run_make_row' (P := Tryz.prog) 90 9 _ 16 Tryz.underlying90 info_strN rfl .i64 .i64 ns.length (by omega) (by omega)
    obtain ⟨n, hnn⟩ : ∃ n, ns.length = n := ⟨_, rfl⟩
    have HNN := hid hnn
    have HN0 := hid hn
    have HK := hid hk
    obtain ⟨na', cap', hv, h1, h2, hrow⟩ := rdRow hn
    obtain ⟨rfl, rfl⟩ : na = na' ∧ nc = cap' := by simpa using hv
    have HROW := hid (fun (h0 : 0 < n) => hrow (by rw [hnn]; exact h0))
    rw [hnn] at hmk x0 HBX HBW HSZ hb0 CT hl h1 hpos
    rw [hnn]
    clear hv hrow hnn hn hk htree
    go_enter Tryz.func76, Tryz.ntmps76
    go_wp2_with fail
    refine CT.out.mono ?_
    rintro e w1 ⟨rfl, hb⟩
    have b1 := hb0.trans (hb.mono (HSZ.out _ hb0))
    clear hb x0
    have x0 := HBX.out _ b1
    have hs1 := HSZ.out _ b1
    have hs2 : w.heap.size < w1.heap.size := by omega
    obtain ⟨B, hB⟩ : ∃ B, w1.heap.size = B := ⟨_, rfl⟩
    have HBB := hid hB
    have hmade := made_strs w1 n 9
    rw [hB] at hmade
    have hb2 : Below (w.heap.size + 1) (w.alloc (.cells #[.slice na n nc] 29)) (w1.alloc (.cells (madeCells #[.string ⟨#[]⟩] n) 9)) := b1.trans ((ext_alloc w1 _).mono hs1)
    have hBs : w.heap.size + 1 ≤ B := by rw [← hB]; exact hs1
    have hBl : B < (w1.alloc (.cells (madeCells #[.string ⟨#[]⟩] n) 9)).heap.size := by rw [← hB]; simp
    have HM := hid hmade
    clear hmade hB
    go_wp2
    rw [HBB.out]
    clear hmk
    go_loopw [19] (fun iv wr => ∃ (i : Nat) (ts : List ByteArray), i ≤ n ∧ ts.length = i ∧ iv = .int .i64 (i : Int) ∧ wr.heap[B]? = some (.cells (strRow n ts).toArray 9 (0, 0)) ∧ Hid (textsGo (kindsOf ns) ns [] = textsGo (kindsOf ns) (ns.drop i) ts) ∧ Hid (∀ t ∈ ts, t.size ≤ 1000) ∧ Below (w.heap.size + 1) (w.alloc (.cells #[.slice na n nc] 29)) wr) (fun iv _ => n - (intOf iv).toNat)
    case atStart => exact ⟨0, [], Nat.zero_le _, rfl, rfl, HM.out, hid rfl, hid (fun t ht => by cases ht), hb2⟩
    case round =>
      obtain ⟨i, ts, hi, hti, rfl, hrow, HGO, HTS, hB⟩ := hrel
      clear x0
      have x0 := HBX.out _ hB
      have hBw := HBW.out _ hB
      have hsr := HSZ.out _ hB
      have hBlt : B < wr.heap.size := (Array.getElem?_eq_some_iff.1 hrow).1
      by_cases hlt : i < n
      · have hik : i < ns.length := by rw [HNN.out]; exact hlt
        obtain ⟨b, off, rfl, hBk, hr⟩ := HROW.out (by omega)
        obtain ⟨cs, hc, hcs⟩ := hr i hik
        have hcs2 := hcs
        obtain ⟨us, uk, rfl, b0, b1', b2, hset, hkids⟩ := rdNode hcs
        obtain ⟨sa, sc, rfl, _⟩ := rdIntsL hset
        obtain ⟨ka, kc, rfl, _⟩ := rdIntsL hkids
        have hbc := fun o => hBw.cell (p := ⟨b, o, none⟩) hBk
        have d0 : wr.cell? ⟨b, off + i * 6, none⟩ = some (.int .i64 ns[i].kind) := (hbc _).trans (hc 0 (by decide))
        have d1 : wr.cell? ⟨b, off + i * 6 + 1, none⟩ = some (.int .i64 ns[i].lo) := (hbc _).trans (hc 1 (by decide))
        have d2 : wr.cell? ⟨b, off + i * 6 + 2, none⟩ = some (.int .i64 ns[i].hi) := (hbc _).trans (hc 2 (by decide))
        have d3 : wr.cell? ⟨b, off + i * 6 + 3, none⟩ = some (.bool ns[i].neg) := (hbc _).trans (hc 3 (by decide))
        have d4 : wr.cell? ⟨b, off + i * 6 + 4, none⟩ = some (.slice sa ns[i].set.length sc) := (hbc _).trans (hc 4 (by decide))
        have d5 : wr.cell? ⟨b, off + i * 6 + 5, none⟩ = some (.slice ka ns[i].kids.length kc) := (hbc _).trans (hc 5 (by decide))
        have HKL := hid (HK.out ns[i] (List.getElem_mem hik))
        have HKID := hid (show ∀ k ∈ ns[i].kids, 0 ≤ k ∧ k < (ts.length : Int) from fun k hk => by
          rw [hti]
          obtain ⟨j, hj, rfl⟩ := List.mem_iff_getElem.1 hk
          exact tree_kid HTREE.out hik hj)
        have HSTEP := hid (fun (t : ByteArray) (h : stepT (kindsOf ns) ts ns[i] = some t) => textsGo_step hik h)
        have HBAD := hid (fun (h : stepT (kindsOf ns) ts ns[i] = none) => textsGo_bad hik h)
        obtain ⟨N, hN⟩ : ∃ N, ns[i] = N := ⟨_, rfl⟩
        rw [hN] at d0 d1 d2 d3 d4 d5 HKL HKID HSTEP HBAD hcs2
        have HROW2 := hid hrow
        have htk : ∀ k (hk : k < ts.length), wr.cell? ⟨B, k, none⟩ = some (.string ts[k]) := fun k hk => cell_row hrow (strRow_get hk)
        have e6 := ext_alloc wr (.cells #[.int .i64 N.kind, .int .i64 N.lo, .int .i64 N.hi, .bool N.neg, .slice sa N.set.length sc, .slice ka N.kids.length kc] 82)
        have hn0 := HN0.out
        rw [HNN.out] at hn0
        have CN := implNodeText (tb := B) (tm := n) (tc := n) (ns := ns) (ts := ts) (n := N) (na := some ⟨b, off, none⟩) (nc := nc) (wr.alloc (.cells #[.int .i64 N.kind, .int .i64 N.lo, .int .i64 N.hi, .bool N.neg, .slice sa N.set.length sc, .slice ka N.kids.length kc] 82)) (pt_below hP (ext_trans hBw e6)) (Rd.later (ext_trans hBw e6) HN0.out) (by simp; omega) (fun k hk => (e6.cell (p := ⟨B, k, none⟩) hBlt).trans (htk k hk)) (by rw [hti, HNN.out]; omega) (by omega) HTS.out (Rd.later (ext_trans hBw e6) hcs2) HKID.out HKL.out hl
        rw [HNN.out] at CN
        have HCN := hid CN
        have hwl : w.heap.size < wr.heap.size := by omega
        have hki : (i : Int) < (n : Int) := by omega
        have hk0 : (0 : Int) ≤ (i : Int) := by omega
        have c0 : wr.cell? ⟨B, i, none⟩ = some (.string ⟨#[]⟩) := cell_row hrow (by rw [← hti]; exact strRow_zero (by omega))
        have HTI := hid hti
        have HTK := hid htk
        have E6 := hid e6
        clear CN hr hc hcs hcs2 hset hkids hbc hN hrow htk hti hn0 e6 b0 b1' b2
        go_wp2_with fail
        refine HCN.out.mono ?_
        rintro e w3 ⟨s, ok, rfl, hss, hst, hb3⟩
        have hB3 := ext_trans E6.out hb3
        have HST := hid hst
        have HR3 := hid ((hB3.block B hBlt).trans HROW2.out)
        have c3 : w3.cell? ⟨B, i, none⟩ = some (.string ⟨#[]⟩) := keeps_cells hB3 _ _ c0
        have f3 : w3.frozen? ⟨B, i, none⟩ = false := frozen_of_row w3 _ i _ _ HR3.out
        have hBB := hB.trans (hB3.mono hsr)
        clear hst c0 hb3
        cases ok with
        | false =>
          have HNO := hid (HBAD.out HST.out.symm)
          go_wp2
          go_ret2
          exact ⟨⟨#[]⟩, false, rfl, by rw [textP_go HQ.out, HGO.out, HNO.out]; rfl, fun h => (by cases h), ext_trans hBw hB3⟩
        | true =>
          by_cases hlong : (1000 : Int) < (s.size : Int)
          · have HNO := hid (HBAD.out (by rw [← HST.out, if_neg (by omega)]))
            go_wp2
            go_ret2
            exact ⟨⟨#[]⟩, false, rfl, by rw [textP_go HQ.out, HGO.out, HNO.out]; rfl, fun h => (by cases h), ext_trans hBw hB3⟩
          · have HYES := hid (HSTEP.out s (by rw [← HST.out, if_pos ⟨rfl, by omega⟩]))
            have hs1000 : s.size ≤ 1000 := by omega
            go_wp2
            go_roundw
            case rel =>
              refine ⟨i + 1, ts ++ [s], by omega, by rw [List.length_append, HTI.out]; rfl, by go_num, ?_, hid (HGO.out.trans HYES.out), hid (fun t ht => ?_), hBB.setCell (p := ⟨B, i, none⟩) (by show _ ≤ B; omega) _⟩
              · rw [← strRow_set s (by rw [HTI.out]; exact hlt), HTI.out]
                exact set_row HR3.out
              · rcases List.mem_append.1 ht with h | h
                · exact HTS.out t h
                · rw [List.mem_singleton] at h; subst h; exact hs1000
            case measure => simp [intOf]; omega
      · have hie : i = n := by omega
        have hlen : ts.length = n := by omega
        have g1 : IntKind.i64.wrap ((n : Int) - 1) = ((n - 1 : Nat) : Int) := by rw [show (n : Int) - 1 = ((n - 1 : Nat) : Int) by omega]; exact IntWalk.i64_in _ (by omega)
        have g2 : (n : Int) - 1 = ((n - 1 : Nat) : Int) := by omega
        have hlast : wr.cell? ⟨B, n - 1, none⟩ = some (.string (ts[n - 1]'(by omega))) := cell_row hrow (strRow_get (by omega))
        have HL := hid (show textP ns = some (ts[n - 1]'(by omega)) by
          rw [textP_go HQ.out, HGO.out, textsGo_end (by rw [HNN.out]; omega)]
          show some (ts.getLastD ⟨#[]⟩) = _
          rw [getLastD_at hlen hpos])
        have HS := hid (HTS.out (ts[n - 1]'(by omega)) (List.getElem_mem _))
        obtain ⟨t, ht⟩ : ∃ t, ts[n - 1]'(by omega) = t := ⟨_, rfl⟩
        rw [ht] at hlast HL HS
        have hki : ¬ (i : Int) < (n : Int) := by omega
        have hm1 : (0 : Int) ≤ ((n - 1 : Nat) : Int) := by omega
        have hm2 : ((n - 1 : Nat) : Int) < (n : Int) := by omega
        clear hie hlen ht hrow g2
        go_wp2
        go_ret2
        exact ⟨t, true, rfl, HL.out.symm, fun _ => HS.out, hBw⟩
end Go.Proofs.YtomcoilmpkpoeaaGreatDoor
