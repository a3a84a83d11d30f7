/-
  What is proved here: the walk of FnLinesBack: the law returns true at every code. The condition 'Tabs' says that the library's tables for UTF-8 lie in the world; 'Mx', that a variable of the library holds some int.
-/
import Derived.Test.YtenfpfjpcpmhiaaDoorLinesS
namespace Go.Proofs.YtenfpfjpcpmhiaaDoor
open Go.RowKit
set_option linter.unusedVariables false
set_option linter.unusedSimpArgs false

theorem lawBig {S : Nat → Prop} {v : Value} {c : List UInt8} (w : World) (h : Rd.rd S w [v] c) :
    Calls Tryd.prog 15 #[v] w fun e w' => e = .returned (.bool (decide (1048576 < (c.length : Int)))) ∧ w = w' := by
  obtain ⟨a, cap, rfl, h1, h2, hc⟩ := rdBytes h
  clear hc h
  by_cases hb : 1048576 < (c.length : Int)
  · have HB := hid (decide_eq_true hb)
    go_enter Tryd.func15, Tryd.ntmps15
    go_wp2
    go_ret
    exact ⟨end_bool HB.out.symm, rfl⟩
  · have HB := hid (decide_eq_false hb)
    go_enter Tryd.func15, Tryd.ntmps15
    go_wp2
    go_ret
    exact ⟨end_bool HB.out.symm, rfl⟩
set_option maxHeartbeats 400000 in
theorem sameTexts_same {v u : Value} {xs : List ByteArray} (w : World) (h : Rd.rd (Old w) w [v] xs) (h' : Rd.rd (Old w) w [u] xs) :
    Calls Tryd.prog 20 #[v, u] w fun e w' => e = .returned (.bool true) ∧ Below w.heap.size w w' := by
  obtain ⟨a, cap, rfl, h1, h2, hc⟩ := rdStrs h
  obtain ⟨a', cap', rfl, h1', h2', hc'⟩ := rdStrs h'
  clear h h'
  go_enter Tryd.func20, Tryd.ntmps20
  go_wp2
  go_loopw [5] (fun i wr => ∃ k : Nat, k ≤ xs.length ∧ i = .int .i64 k ∧ Below w.heap.size w wr) (fun i _ => xs.length - (intOf i).toNat)
  case atStart => exact ⟨0, Nat.zero_le _, rfl, Below.refl _ _⟩
  case round =>
    obtain ⟨k, hk, rfl, hb⟩ := hrel
    by_cases hlt : k < xs.length
    · obtain ⟨b, off, rfl, hB, hcell⟩ := hc (by omega)
      obtain ⟨b', off', rfl, hB', hcell'⟩ := hc' (by omega)
      have hce : wr.cell? ⟨b, off + k, none⟩ = some (.string xs[k]) := (hb.cell (p := ⟨b, off + k, none⟩) hB).trans (hcell k hlt).1
      have hce' : wr.cell? ⟨b', off' + k, none⟩ = some (.string xs[k]) := (hb.cell (p := ⟨b', off' + k, none⟩) hB').trans (hcell' k hlt).1
      clear hcell hc hcell' hc'
      have hi1 : (0 : Int) ≤ k := by omega
      have hi2 : (k : Int) < xs.length := by omega
      go_wp2
      go_quiet (fail)
      go_wp2
      go_roundw
      case rel => exact ⟨k + 1, by omega, by go_num, by first | exact hb | exact hb.drew | exact ⟨hb.os, hb.tape, hb.output, hb.size, hb.block⟩⟩
      case measure => simp [intOf]; omega
    · have : k = xs.length := by omega
      subst this
      clear hc hc'
      go_wp2
      go_ret
      exact ⟨rfl, hb⟩

theorem joinE_take (sep : ByteArray) (l : List ByteArray) (i : Nat) : (joinE sep (l.take i)).size ≤ (joinE sep l).size := by
  have e : (joinE sep l).data.toList = (joinE sep (l.take i)).data.toList ++ ((l.drop i).map fun p => p.data.toList ++ sep.data.toList).flatten := by
    conv => lhs; rw [← List.take_append_drop i l]
    rw [joinE_list, joinE_list, List.map_append, List.flatten_append]
  rw [← ba_len, ← ba_len, e, List.length_append]
  omega
theorem joinE_succ (sep : ByteArray) (l : List ByteArray) (i : Nat) (h : i < l.length) : joinE sep (l.take (i + 1)) = joinE sep (l.take i) ++ l[i] ++ sep := by
  rw [List.take_succ_eq_append_getElem h, joinE_app]
set_option maxHeartbeats 4000000 in
set_option maxRecDepth 100000 in
theorem fnLinesBack_walk (W : World) (hT : Tabs W) (hM : Mx W) {v0 : Value} {x0 : List UInt8} (h0 : Rd.rd (Old W) W [v0] x0) :
    Calls Tryd.prog 4 #[v0] W fun e W' => e = .returned (.bool true) ∧ Below W.heap.size W W' := by
  by_cases hb : 1048576 < (x0.length : Int)
  · go_enter Tryd.func4, Tryd.ntmps4
    go_wp2_with fail
    refine (lawBig _ h0).mono ?_
    rintro e w1 ⟨rfl, rfl⟩
    rw [decide_eq_true hb]
    go_wp2
    go_ret
    exact ⟨rfl, Below.refl _ _⟩
  have HB := hid (decide_eq_false hb)
  have hn : x0.length ≤ 1048576 := by omega
  clear hb
  go_enter Tryd.func4, Tryd.ntmps4
  go_wp2_with fail
  refine (lawBig _ h0).mono ?_
  rintro e w1 ⟨rfl, rfl⟩
  rw [HB.out]
  go_wp2_with fail
  refine (drawLines _ h0 hn).mono ?_
  rintro e w1 ⟨s, rs, rfl, hs, hrs, hb1⟩
  go_wp2_with fail
  refine (implLines s rs _ hrs (tabs_below hT hb1) (mx_below hM hb1)).mono ?_
  rintro e w2 ⟨a, c, rfl, hrd, hb2⟩
  have hB2 := ext_trans hb1 hb2
  obtain ⟨L, hL⟩ : ∃ L, linesOf s rs = L := ⟨_, rfl⟩
  have HL := hid hL
  rw [hL] at hrd ⊢
  have HRD := hid (Rd.old hrd)
  clear hL hrd hb1 hb2
  go_wp2_with fail
  refine (specFileOk s _).mono ?_
  rintro e w3 ⟨rfl, hb3⟩
  have hB3 := ext_trans hB2 hb3
  rcases hf : fileOk s with _ | _
  · have HE : L = [] := by rw [← HL.out]; unfold linesOf; rw [hf]; rfl
    subst HE
    clear hf
    go_wp2
    go_ret
    exact ⟨rfl, hB3⟩
  · go_wp2_with fail
    refine (specLength rs _).mono ?_
    rintro e w4 ⟨rfl, hb4⟩
    have hB4 := ext_trans hB3 hb4
    have hB24 : Below w2.heap.size w2 w4 := ext_trans hb3 hb4
    have hRD4 := hid (Rd.later hB24 HRD.out)
    have hsz := file_size hf
    have HFO := hid hf
    have hLb : ∀ p ∈ L, p.size ≤ 9223372036854775807 := by obtain ⟨_, _, _, _, _, _⟩ := rdStrs HRD.out; exact strs_ok HRD.out
    rcases rs_len hrs with ⟨h1, h2⟩ | h3
    · obtain rfl : rs = ⟨#[]⟩ := by apply ba_ext; exact List.eq_nil_of_length_eq_zero h1
      have HE : L = parasOf s := by rw [← HL.out]; unfold linesOf; rw [hf, if_pos rfl, h2, if_pos rfl]
      rw [h2]
      have HG := hid (parasOf_good s)
      rw [← HE] at HG
      have HEE := hid HE
      clear h1 h2 hf HE hb3 hb4 hrs
      obtain ⟨a', cap', hv, hq1, hq2, hc⟩ := rdStrs hRD4.out
      simp only [List.cons.injEq, Value.slice.injEq, and_true] at hv
      obtain ⟨rfl, _, rfl⟩ := hv
      have HC := hid hc
      clear hc
      go_wp2
      go_loopw [6] (fun iv wr => ∃ k : Nat, k ≤ L.length ∧ iv = .int .i64 (k : Int) ∧ Below w4.heap.size w4 wr) (fun iv _ => L.length - (intOf iv).toNat)
      case atStart => exact ⟨0, Nat.zero_le _, rfl, Below.refl _ _⟩
      case round =>
        obtain ⟨k, hk, rfl, hb⟩ := hrel
        by_cases hlt : k < L.length
        · obtain ⟨b, off, rfl, hB, hcell⟩ := HC.out (by omega)
          obtain ⟨p, hp⟩ : ∃ p, L[k] = p := ⟨_, rfl⟩
          have hgood : goodP p := by rw [← hp]; exact HG.out _ (List.getElem_mem hlt)
          have hce : wr.cell? ⟨b, off + k, none⟩ = some (.string p) := by rw [← hp]; exact (hb.cell (p := ⟨b, off + k, none⟩) hB).trans (hcell k hlt).1
          obtain ⟨ch, r, hdl, hch⟩ := hgood
          have hps : 0 < p.size := by rw [← ba_len, hdl]; simp
          have hne0 : (p.toList == (⟨#[]⟩ : ByteArray).toList) = false := ba_ne (fun e => by rw [e] at hps; exact absurd hps (by decide))
          have hne : p.toList ≠ [] := by intro e; rw [e] at hne0; simp at hne0
          have hne1 : (p.toList == []) = false := by simpa using hne
          have hne2 : p.toList.isEmpty = false := by simpa using hne
          have hget : p[0] = ch := by
            have h9 : p.data.toList[0]? = some ch := by rw [hdl]; rfl
            rw [List.getElem?_eq_getElem (by rw [ba_len]; exact hps), Option.some.injEq] at h9
            exact h9
          have hnc : ¬ (ch.toNat : Int) = 10 := by
            intro e
            apply hch
            apply UInt8.toNat_inj.1
            show ch.toNat = 10
            omega
          have hx1 : ((p[0].toNat : Int) == 10) = false := by rw [hget]; simpa using hnc
          have hx2 : ¬ (p[0].toNat : Int) = 10 := by rw [hget]; exact hnc
          have hi1 : (0 : Int) ≤ k := by omega
          have hi2 : (k : Int) < L.length := by omega
          have hps2 : (0 : Int) < (p.size : Int) := by omega
          clear hcell hp hdl hget
          go_wp2
          go_roundw
          case rel => exact ⟨k + 1, by omega, by go_num, hb⟩
          case measure => simp [intOf]; omega
        · obtain rfl : k = L.length := by omega
          go_wp2_with fail
          refine (specLines0 s _ HFO.out).mono ?_
          rintro e w5 ⟨a2, c2, rfl, hrd5, hb5⟩
          rw [← HEE.out] at hrd5 ⊢
          go_wp2_with fail
          refine (sameTexts_same _ (by exact Rd.later (ext_trans hb hb5) hRD4.out) (by exact Rd.old hrd5)).mono ?_
          rintro e w6 ⟨rfl, hb6⟩
          go_wp2
          go_ret
          exact ⟨rfl, ext_trans (ext_trans (ext_trans hB4 hb) hb5) hb6⟩
    · have hr1 : 1 ≤ rs.size ∧ rs.size ≤ 2 := by rcases h3 with h | h <;> omega
      have hl12 : lenOf rs = 1 ∨ lenOf rs = 2 := by rcases h3 with h | h <;> omega
      rcases hl12 with h2 | h2
      · have HE : L = recsOf s rs := by rw [← HL.out]; unfold linesOf; rw [hf, if_pos rfl, h2, if_neg (by decide), if_pos rfl]
        have hback := recs_back s rs hr1.1
        rw [← HE] at hback
        have hJ : (joinE rs L).size ≤ 5002 := by
          rcases hback with h | h
          · rw [h]; omega
          · rw [h, ByteArray.size_append]; omega
        have HBK := hid hback
        have hrne0 : (rs.toList == (⟨#[]⟩ : ByteArray).toList) = false := ba_ne (fun e => by have := hr1.1; rw [e] at this; exact absurd this (by decide))
        have hrne : rs.toList ≠ [] := by intro e; rw [e] at hrne0; simp at hrne0
        have hrne1 : (rs.toList == []) = false := by simpa using hrne
        have hrne2 : rs.toList.isEmpty = false := by simpa using hrne
        rw [h2]
        clear h2 h3 hf HE hb3 hb4 hrs hback
        obtain ⟨a', cap', hv, hq1, hq2, hc⟩ := rdStrs hRD4.out
        simp only [List.cons.injEq, Value.slice.injEq, and_true] at hv
        obtain ⟨rfl, _, rfl⟩ := hv
        have HC := hid hc
        clear hc
        go_wp2
        go_loopw [7, 8] (fun tv iv wr => ∃ k : Nat, k ≤ L.length ∧ iv = .int .i64 (k : Int) ∧ tv = .string (joinE rs (L.take k)) ∧ Below w4.heap.size w4 wr) (fun _ iv _ => L.length - (intOf iv).toNat)
        case atStart => exact ⟨0, Nat.zero_le _, rfl, rfl, Below.refl _ _⟩
        case round =>
          obtain ⟨k, hk, rfl, rfl, hb⟩ := hrel
          obtain ⟨T, hTT⟩ : ∃ T, joinE rs (L.take k) = T := ⟨_, rfl⟩
          have hTs : T.size ≤ 5002 := by rw [← hTT]; exact Nat.le_trans (joinE_take rs L k) hJ
          by_cases hlt : k < L.length
          · obtain ⟨b, off, rfl, hB, hcell⟩ := HC.out (by omega)
            have hsu := joinE_succ rs L k hlt
            obtain ⟨p, hp⟩ : ∃ p, L[k] = p := ⟨_, rfl⟩
            have hce : wr.cell? ⟨b, off + k, none⟩ = some (.string p) := by rw [← hp]; exact (hb.cell (p := ⟨b, off + k, none⟩) hB).trans (hcell k hlt).1
            rw [hp, hTT] at hsu
            have hTs2 : (T ++ p ++ rs).size ≤ 5002 := by rw [← hsu]; exact Nat.le_trans (joinE_take rs L (k + 1)) hJ
            have HSU := hid hsu
            rw [ByteArray.size_append, ByteArray.size_append] at hTs2
            have hs1 : ¬ 9223372036854775807 < T.size + p.size := by omega
            have hs2 : ¬ 9223372036854775807 < T.size + p.size + rs.size := by omega
            have hs3 : ¬ 9223372036854775807 < (T ++ p).size + rs.size := by rw [ByteArray.size_append]; omega
            have hi1 : (0 : Int) ≤ k := by omega
            have hi2 : (k : Int) < L.length := by omega
            rw [hTT]
            clear hcell hp hsu hTT
            go_wp2
            go_roundw
            case rel => exact ⟨k + 1, by omega, by go_num, by rw [HSU.out], hb⟩
            case measure => simp [intOf]; omega
          · obtain rfl : k = L.length := by omega
            rw [hTT]
            rw [List.take_length] at hTT
            have hbk := HBK.out
            rw [hTT] at hbk
            have hs9 : ¬ 9223372036854775807 < s.size + rs.size := by omega
            by_cases he : T = s
            · have hx : (T.toList == s.toList) = true := by rw [he]; simp
              have HX := hid he
              clear he hbk hTT
              go_wp2
              go_ret
              exact ⟨rfl, ext_trans hB4 hb⟩
            · have he2 : T = s ++ rs := by rcases hbk with h | h; exact absurd h he; exact h
              have hx : (T.toList == s.toList) = false := ba_ne he
              have hx2 : (T.toList == (s ++ rs).toList) = true := by rw [he2]; simp
              have HX := hid he
              clear he he2 hbk hTT
              go_wp2
              go_ret
              exact ⟨rfl, ext_trans hB4 hb⟩
      · have HE : L = [] := by rw [← HL.out]; unfold linesOf; rw [hf, if_pos rfl, h2, if_neg (by decide), if_neg (by decide)]
        subst HE
        rw [h2]
        clear h2 h3 hf hb3 hb4 hrs
        go_wp2
        go_ret
        exact ⟨rfl, hB4⟩
end Go.Proofs.YtenfpfjpcpmhiaaDoor
