/-
  What is proved here: (*strings.byteStringReplacer).Replace at a table of single bytes: each byte that the table has is replaced. No condition besides the text's size.
-/
import Derived.Test.YtcebgmdcbdggeaaDoorReplP
import Derived.Test.YtcebgmdcbdggeaaDoorShelfC
import Derived.WalkSpells
namespace Go.Proofs.YtcebgmdcbdggeaaDoor
open Go.RowKit
set_option linter.unusedVariables false
set_option linter.unusedSimpArgs false
theorem info_u8RR : (Tryd.prog.info? 5).map (fun i => (i.zero.isSome, i.size, i.bytes)) = some (true, 1, 1) := by kernel_rfl
theorem info_u8RS : (Tryd.prog.info? 5).map (·.size) = some 1 := by kernel_rfl
set_option maxHeartbeats 16000000 in
set_option maxRecDepth 100000 in
theorem bsrReplace {ps : List (UInt8 × UInt8)} {n0 br : Nat} {s : ByteArray} (w : World) (hnd : (ps.map (·.1)).Nodup) (hL : ps.length ≤ 100) (hB : Bsr n0 ps br w) (hs : s.size ≤ 1000000) :
    Calls Tryd.prog 113 #[.pointer (some ⟨br, 0, none⟩), .string s] w fun e w' => e = .returned (.string (mkB (replL ps s.data.toList))) ∧ Below w.heap.size w w' := by
  have qN : ∀ (w : World) (a : Option Addr) (n c n' c' : Nat), (binOp .neq 24 (.slice a n c) (.slice none n' c')).run Tryd.prog w = .ok (.bool (!a.isNone)) w := fun w a n c n' c' => run_neq_slice_nil_any w _ _ a n c n' c' Tryd.underlying24
  have hnot : ∀ (x : Bool) (w : World), (Op.unary .not (.bool x)).run Tryd.prog w = .ok (.bool (!x)) w := fun _ _ => rfl
  obtain ⟨l, hl⟩ : ∃ l, s.data.toList = l := ⟨_, rfl⟩
  have hsl : s.size = l.length := by rw [Lib.size_eq, hl]
  have HSL := hid hsl
  have HL := hid hl
  have hlen := replL_length hnd l
  have hle2 := replL_len ps l
  have HTK := hid (replL_take_le ps l)
  have HND := hid hnd
  rw [hl]
  obtain ⟨R, hR⟩ : ∃ R, replL ps l = R := ⟨_, rfl⟩
  have HID := hid (fun h : R.length = l.length => show R = l by rw [← hR]; exact replL_id ps (by rw [hR]; exact h))
  have HR := hid hR
  rw [hR] at hlen hle2 HTK ⊢
  have HLEN := hid hlen
  obtain ⟨v, hrow0, hown0⟩ := hB.row
  have HOWN := hid hown0
  obtain ⟨va, vc, rfl⟩ := own_slice hown0
  have HB := hid hB
  have hRb : R.length ≤ 2000000 := by omega
  have hmks : s.data.toList = l := hl
  have HS := hid (show mkB l = s by rw [← hl, mkB_of])
  clear hl hsl hR hlen hle2 hnd hB hown0 hmks

  by_cases hroad : ps.length * 8 ≤ s.size
  · have hr1 : (ps.length : Int) * 8 ≤ (s.size : Int) := by omega
    have HC := hid (fun (x : UInt8) (w : World) => Tryd.strings_Count_one s x w)
    go_enter Tryd.func113, Tryd.ntmps113
    go_wp2
    go_loopw [5, 6, 8, 9, 32] (fun ns any _ _ i wr => ∃ k : Nat, k ≤ ps.length ∧ i = .int .i64 (k : Int) ∧ ns = .int .i64 ((s.size + sumC (ps.drop (ps.length - k)) l : Nat) : Int) ∧ any = .bool (sumC (ps.drop (ps.length - k)) l != 0) ∧ Hid (Below w.heap.size w wr)) (fun _ _ _ _ i _ => ps.length - (intOf i).toNat)
    case atStart => exact ⟨0, Nat.zero_le _, rfl, by rw [Nat.sub_zero, List.drop_length]; rfl, by rw [Nat.sub_zero, List.drop_length]; rfl, hid (Below.refl _ _)⟩
    case round =>
      obtain ⟨k, hk, rfl, rfl, rfl, HBL⟩ := hrel
      have hbL := HBL.out
      have HBr : Hid (Bsr n0 ps br wr) := hid (HB.out.later hbL)
      by_cases hlt : k < ps.length
      · obtain ⟨j, hj⟩ : ∃ j, ps.length - 1 - k = j := ⟨_, rfl⟩
        have hjl : j < ps.length := by omega
        have hd1 : ps.drop (ps.length - k) = ps.drop (j + 1) := by congr 1; omega
        have hd2 : ps.drop (ps.length - (k + 1)) = ps.drop j := by congr 1; omega
        have hsum := sumC_pair ps[j] (ps.drop (j + 1)) l
        rw [← rep_drop hjl] at hsum
        have hold : (olds ps)[k]? = some (.string (mkB [ps[j].1])) := by
          unfold olds
          rw [List.getElem?_reverse (by simpa using hlt), List.length_map, hj, List.getElem?_map, List.getElem?_eq_getElem hjl]
          rfl
        have hcel : ∃ gb, va = some ⟨gb, 0, none⟩ ∧ wr.cell? ⟨gb, k, none⟩ = some (.string (mkB [ps[j].1])) := by
          have h1 := own_later HOWN.out hbL
          rcases h1.2 with ⟨h', h0⟩ | ⟨gb, cap, cur, h', hb, hg, hnc, hcm, hcs, htk⟩
          · omega
          · have e1 : va = some ⟨gb, 0, none⟩ := by injection h'
            refine ⟨gb, e1, ?_⟩
            subst e1
            rw [h1.cellAt k (by omega)]
            exact hold
        obtain ⟨gb, rfl, hce⟩ := hcel
        rw [hd1]
        obtain ⟨S0, hS0⟩ : ∃ z, sumC (ps.drop (j + 1)) l = z := ⟨_, rfl⟩
        obtain ⟨S1, hS1⟩ : ∃ z, sumC (ps.drop j) l = z := ⟨_, rfl⟩
        rw [hS0, hS1] at hsum
        rw [hS0]
        have HS1 := hid hS1
        have HD2 := hid hd2
        have hmem : rep ps ps[j].1 ≠ none := by
          intro e
          exact rep_mem (List.getElem_mem hjl) e
        obtain ⟨x, hx⟩ : ∃ z, ps[j].1 = z := ⟨_, rfl⟩
        rw [hx] at hsum hce hmem
        obtain ⟨C, hC⟩ : ∃ z, l.count x = z := ⟨_, rfl⟩
        have hCle : C ≤ l.length := by rw [← hC]; exact List.count_le_length
        have hS0le : S1 ≤ l.length := by
          rw [← hS1]
          have h1 := sumC_drop_le ps l j
          have h2 := HLEN.out
          have h3 : R.length ≤ 2 * l.length := by rw [← HR.out]; exact replL_len ps l
          omega
        have hsl := HSL.out
        rw [hC] at hsum
        have HCC : Hid (Lib.countByte s.data.toList x = C) := hid (by rw [HL.out]; exact hC)
        have HSUM := hid hsum
        have z0 := mkB_size [x]
        have hix : ∀ h, ((mkB [x])[0]'h : UInt8) = x := fun _ => rfl
        have HCX := hid (show mkB [x] = ⟨#[x]⟩ from rfl)
        obtain ⟨o, hoe⟩ : ∃ z, mkB [x] = z := ⟨_, rfl⟩
        rw [hoe] at hce z0 hix HCX
        simp only [List.length_cons, List.length_nil, Nat.zero_add] at z0
        have hi1 : (0 : Int) ≤ (k : Int) := by omega
        have hi2 : (k : Int) < (ps.length : Int) := by omega
        have hb0 : (0 : Int) ≤ (x.toNat : Int) := by omega
        have hb1 : (x.toNat : Int) < 256 := by have := x.toNat_lt; omega
        have hob : s.size + S1 ≤ 3000000 := by omega
        clear hj hd1 hd2 hold hS0 hS1 hx hC hoe hjl hsl
        go_wp2_with fail
        rw [HCX.out]
        refine (HC.out x _).mono ?_
        rintro e w1 ⟨rfl, rfl⟩
        rw [HCC.out]
        rw [← HCX.out]
        obtain ⟨c, hrep⟩ := Option.ne_none_iff_exists'.1 hmem
        by_cases hC0 : C = 0
        · have hcz : ((C : Int) != 0) = false := by simp [hC0]
          have hS : S1 = S0 := by omega
          have HSS := hid hS
          clear hC0 hS hsum hmem
          go_wp2
          go_roundw
          case rel => exact ⟨k + 1, by omega, by go_num, by rw [HD2.out, HS1.out, HSS.out]; simp, by rw [HD2.out, HS1.out, HSS.out], HBL⟩
          case measure => simp [intOf]; omega
        · have hcz : ((C : Int) != 0) = true := by simp [hC0]
          have hS : S1 = C + S0 := by omega
          have hS1n : (S1 != 0) = true := by simp; omega
          have HSN := hid hS1n
          have HSS := hid hS
          obtain ⟨v, c0, hv⟩ := (HBr.out.tab x).2 c hrep
          obtain ⟨g2, cp2, rfl, hg2b, hg2, hcl⟩ := hv.cells
          simp only [byteVals_length, List.length_cons, List.length_nil, Nat.zero_add] at c0 hv hcl
          have hC1 : C ≤ 1000000 := by have := HSL.out; omega
          clear hC0 hS hsum hmem hv hcl hg2 hg2b hS1n
          go_wp2

          refine wp_region_held_drew (S := fun w' => w'.cell? ⟨br, x.toNat, none⟩ = some (.slice (some ⟨g2, 0, none⟩) 2 cp2)) (by kernel_rfl) ?_ (fun hHeld => ?_)
          · simp [*]
          refine wpAnyH_take (i := 0) (v := ?_) rfl (by kernel_rfl) (by kernel_rfl) (by kernel_rfl) (fun _ _ _ h => h) (Or.inl ⟨by rfl, ?_⟩) (by assumption) ?_
          rotate_left
          · (intro w' hSw; (try dsimp only at hSw); go_simp; try (with_reducible rfl))
          change wpAnyH _ _ _ _ _ _ _ (Act.put _ (some 41) _) _
          try simp only [Act.put, List.setIfInBounds_toArray, List.set_cons_zero, List.set_cons_succ]
          refine wpAnyH_take (i := 1) (v := ?_) rfl (by kernel_rfl) (by kernel_rfl) (by kernel_rfl) (fun _ _ _ h => h) (Or.inl ⟨by rfl, ?_⟩) (by assumption) ?_
          rotate_left
          · (intro w' hSw; (try dsimp only at hSw); go_simp; try (with_reducible rfl))
          change wpAnyH _ _ _ _ _ _ _ (Act.put _ (some 42) _) _
          try simp only [Act.put, List.setIfInBounds_toArray, List.set_cons_zero, List.set_cons_succ]
          refine wpAnyH_take (i := 2) (v := ?_) rfl (by kernel_rfl) (by kernel_rfl) (by kernel_rfl) (fun _ _ _ h => h) (Or.inl ⟨by rfl, ?_⟩) (by assumption) ?_
          rotate_left
          · (intro w' hSw; (try dsimp only at hSw); go_simp; try (with_reducible rfl))
          change wpAnyH _ _ _ _ _ _ _ (Act.put _ (some 43) _) _
          try simp only [Act.put, List.setIfInBounds_toArray, List.set_cons_zero, List.set_cons_succ]
          refine wpAnyH_take (i := 3) (v := ?_) rfl (by kernel_rfl) (by kernel_rfl) (by kernel_rfl) (fun _ _ _ h => h) (Or.inl ⟨by rfl, ?_⟩) (by assumption) ?_
          rotate_left
          · (intro w' hSw; (try dsimp only at hSw); go_simp; try (with_reducible rfl))
          change wpAnyH _ _ _ _ _ _ _ (Act.put _ (some 44) _) _
          try simp only [Act.put, List.setIfInBounds_toArray, List.set_cons_zero, List.set_cons_succ]
          refine wpAnyH_take (i := 4) (v := ?_) rfl (by kernel_rfl) (by kernel_rfl) (by kernel_rfl) (fun _ _ _ h => h) (Or.inl ⟨by rfl, ?_⟩) (by assumption) ?_
          rotate_left
          · (intro w' hSw; (try dsimp only at hSw); go_simp; try (with_reducible rfl))
          change wpAnyH _ _ _ _ _ _ _ (Act.put _ (some 45) _) _
          try simp only [Act.put, List.setIfInBounds_toArray, List.set_cons_zero, List.set_cons_succ]
          refine wpAnyH_take (i := 5) (v := ?_) rfl (by kernel_rfl) (by kernel_rfl) (by kernel_rfl) (fun _ _ _ h => h) (Or.inl ⟨by rfl, ?_⟩) (by assumption) ?_
          rotate_left
          · (intro w' hSw; (try dsimp only at hSw); go_simp; try (with_reducible rfl))
          change wpAnyH _ _ _ _ _ _ _ (Act.put _ (some 46) _) _
          try simp only [Act.put, List.setIfInBounds_toArray, List.set_cons_zero, List.set_cons_succ]
          refine wpAnyH_take (i := 6) (v := ?_) rfl (by kernel_rfl) (by kernel_rfl) (by kernel_rfl) (fun _ _ _ h => h) (Or.inl ⟨by rfl, ?_⟩) (by assumption) ?_
          rotate_left
          · (intro w' hSw; (try dsimp only at hSw); go_simp; try (with_reducible rfl))
          change wpAnyH _ _ _ _ _ _ _ (Act.put _ (some 47) _) _
          try simp only [Act.put, List.setIfInBounds_toArray, List.set_cons_zero, List.set_cons_succ]
          refine wpAnyH_take (i := 7) (v := ?_) rfl (by kernel_rfl) (by kernel_rfl) (by kernel_rfl) (fun _ _ _ h => h) (Or.inl ⟨by rfl, ?_⟩) (by assumption) ?_
          rotate_left
          · (intro w' hSw; (try dsimp only at hSw); go_simp; try (with_reducible rfl))
          change wpAnyH _ _ _ _ _ _ _ (Act.put _ (some 48) _) _
          try simp only [Act.put, List.setIfInBounds_toArray, List.set_cons_zero, List.set_cons_succ]
          refine wpAnyH_take (i := 8) (v := ?_) rfl (by kernel_rfl) (by kernel_rfl) (by kernel_rfl) (fun _ _ _ h => h) (Or.inl ⟨by rfl, ?_⟩) (by assumption) ?_
          rotate_left
          · (intro w' hSw; (try dsimp only at hSw); go_simp; try (with_reducible rfl))
          change wpAnyH _ _ _ _ _ _ _ (Act.put _ (some 49) _) _
          try simp only [Act.put, List.setIfInBounds_toArray, List.set_cons_zero, List.set_cons_succ]
          refine wpAnyH_take (i := 9) (v := ?_) rfl (by kernel_rfl) (by kernel_rfl) (by kernel_rfl) (fun _ _ _ h => h) (Or.inl ⟨by rfl, ?_⟩) (by assumption) ?_
          rotate_left
          · (intro w' hSw; (try dsimp only at hSw); go_simp; try (with_reducible rfl))
          change wpAnyH _ _ _ _ _ _ _ (Act.put _ (some 50) _) _
          try simp only [Act.put, List.setIfInBounds_toArray, List.set_cons_zero, List.set_cons_succ]
          refine wpAnyH_take (i := 10) (v := ?_) rfl (by kernel_rfl) (by kernel_rfl) (by kernel_rfl) (fun _ _ _ h => h) (Or.inl ⟨by rfl, ?_⟩) (by assumption) ?_
          rotate_left
          · (intro w' hSw; (try dsimp only at hSw); go_simp; try (with_reducible rfl))
          change wpAnyH _ _ _ _ _ _ _ (Act.put _ (some 51) _) _
          try simp only [Act.put, List.setIfInBounds_toArray, List.set_cons_zero, List.set_cons_succ]
          refine wpAnyH_take (i := 11) (v := ?_) rfl (by kernel_rfl) (by kernel_rfl) (by kernel_rfl) (fun _ _ _ h => h) (Or.inl ⟨by rfl, ?_⟩) (by assumption) ?_
          rotate_left
          · (intro w' hSw; (try dsimp only at hSw); go_simp; try (with_reducible rfl))
          change wpAnyH _ _ _ _ _ _ _ (Act.put _ (some 52) _) _
          try simp only [Act.put, List.setIfInBounds_toArray, List.set_cons_zero, List.set_cons_succ]
          refine wpAnyH_take (i := 12) (v := ?_) rfl (by kernel_rfl) (by kernel_rfl) (by kernel_rfl) (fun _ _ _ h => h) (Or.inl ⟨by rfl, ?_⟩) (by assumption) ?_
          rotate_left
          · (intro w' hSw; (try dsimp only at hSw); go_simp; try (with_reducible rfl))
          change wpAnyH _ _ _ _ _ _ _ (Act.put _ (some 53) _) _
          try simp only [Act.put, List.setIfInBounds_toArray, List.set_cons_zero, List.set_cons_succ]
          refine wpAnyH_take (i := 13) (v := ?_) rfl (by kernel_rfl) (by kernel_rfl) (by kernel_rfl) (fun _ _ _ h => h) (Or.inl ⟨by rfl, ?_⟩) (by assumption) ?_
          rotate_left
          · (intro w' hSw; (try dsimp only at hSw); go_simp; try (with_reducible rfl))
          change wpAnyH _ _ _ _ _ _ _ (Act.put _ (some 5) _) _
          try simp only [Act.put, List.setIfInBounds_toArray, List.set_cons_zero, List.set_cons_succ]
          refine wpAnyH_done (by kernel_rfl) ?_ _
          go_wp2
          go_roundw
          case rel => exact ⟨k + 1, by omega, by go_num, by rw [HD2.out, HS1.out, HSS.out]; have e1 : IntKind.i64.wrap 1 = 1 := rfl; rw [e1, Int.mul_one]; rw [IntWalk.i64_in (C : Int) (by omega), IntWalk.i64_in _ (by have := HSS.out; omega)]; go_num, by rw [HD2.out, HS1.out, HSN.out], hid (Below.drew HBL.out)⟩
          case measure => simp [intOf]; omega
      · have hi2 : ¬ (k : Int) < (ps.length : Int) := by omega
        obtain rfl : k = ps.length := by omega
        have hd0 : ps.drop (ps.length - ps.length) = ps := by rw [Nat.sub_self]; rfl
        rw [hd0]
        have hRl := HLEN.out
        have hsl := HSL.out
        obtain ⟨SC, hSC⟩ : ∃ z, sumC ps l = z := ⟨_, rfl⟩
        rw [hSC] at hRl ⊢
        clear hSC hd0

        by_cases hch : R.length = s.size
        · have hany : (SC != 0) = false := by simp; omega
          rw [hany]
          have hRe : R = l := HID.out (by rw [hch]; exact HSL.out)
          have HE := hid (show s = mkB R by rw [hRe, HS.out])
          clear hRe hch hany hRl hsl
          go_wp2
          go_ret
          exact ⟨by rw [← HE.out]; rfl, hbL⟩
        · have hany : (SC != 0) = true := by simp; omega
          have hns : s.size + SC = R.length := by omega
          rw [hany, hns]
          obtain ⟨N, hN⟩ : ∃ N, R.length = N := ⟨_, rfl⟩
          have HN := hid hN
          have hN2 : N ≤ 2000000 := by omega
          have hbL1 := HBL.out
          obtain ⟨wl, hwl⟩ : ∃ z, wr = z := ⟨_, rfl⟩
          rw [hwl] at hbL hbL1 HBL HBr ⊢
          obtain ⟨zc, hzl, hmk⟩ := make_cells (P := Tryd.prog) (t := 24) (e := 5) (n := 1) (bytes := 1) Tryd.underlying24 info_u8RR N (by omega) (by omega)
          rw [hN]
          clear hany hns hch hN hwl hRl hsl
          go_wp2
          obtain ⟨g, hg⟩ : ∃ g, wl.heap.size = g := ⟨_, rfl⟩
          have hOw : (wl.alloc (.cells zc.toArray 5)).ownsRow wl.heap.size 5 1 (.slice (some ⟨wl.heap.size, 0, none⟩) N N) N zc := by
            have := World.ownsRow_lit (base := wl.heap.size) (e := 5) (size := 1) wl zc.toArray N (Nat.le_refl _) (by unfold maxLen; omega) (by simpa using hzl)
            simpa using this
          have hBA : Below wl.heap.size wl (wl.alloc (.cells zc.toArray 5)) := ext_alloc _ _
          rw [hg] at hOw hBA ⊢
          have HG := hid hg
          have hG1 : w.heap.size ≤ g := by rw [← hg]; exact hbL1.size
          have hGb : br < g := by rw [← hg]; exact HBr.out.lt
          clear hmk hg hzl
          go_loopw [13, 14, 15] (fun j i _ wr => ∃ (k : Nat) (rest : List Value), k ≤ s.size ∧ i = .int .i64 (k : Int) ∧ j = .int .i64 ((replL ps (l.take k)).length : Int) ∧ Hid (wr.ownsRow g 5 1 (.slice (some ⟨g, 0, none⟩) N N) N (byteVals (replL ps (l.take k)) ++ rest)) ∧ Hid (Below g wl wr)) (fun _ i _ _ => s.size - (intOf i).toNat)
          case atStart => exact ⟨0, zc, Nat.zero_le _, rfl, rfl, hid hOw, hid hBA⟩
          case round =>
            obtain ⟨k, rest, hk, rfl, rfl, HO, HBW⟩ := hrel
            by_cases hlt : k < s.size
            · obtain ⟨x, hx⟩ : ∃ x, s[k] = x := ⟨_, rfl⟩
              have hkl : k < l.length := by rw [← HSL.out]; exact hlt
              have hlx : l[k] = x := by
                rw [← hx]
                have := get_list s k hlt
                rw [← this]
                congr 1
                exact HL.out.symm
              have hstep := replL_succ ps hkl
              rw [hlx] at hstep
              have hpre := HTK.out (k + 1)
              have hxt : (s[k] : UInt8).toNat = x.toNat := by rw [hx]
              have hi1 : (0 : Int) ≤ (k : Int) := by omega
              have hi2 : (k : Int) < (s.size : Int) := by omega
              have hb0 : (0 : Int) ≤ (x.toNat : Int) := by omega
              have hb1 : (x.toNat : Int) < 256 := by have := x.toNat_lt; omega
              have HBrr : Hid (Bsr n0 ps br wr) := hid (HBr.out.later (HG.out ▸ HBW.out))
              have hROL := HO.out.1
              have hNR := HN.out
              obtain ⟨A, hA⟩ : ∃ A, replL ps (l.take k) = A := ⟨_, rfl⟩
              rw [hA] at hstep HO hROL ⊢
              rw [List.length_append, byteVals_length, Nat.mul_one] at hROL
              cases hrep : rep ps x with
              | none =>
                have hrb : replB ps x = [x] := by unfold replB; rw [hrep]
                rw [hrb] at hstep
                have hlA : (replL ps (l.take (k + 1))).length = A.length + 1 := by rw [hstep]; simp
                have hAN : A.length < N := by omega
                have c0 := (HBrr.out.tab x).1 hrep
                have c1 := HO.out.cellAt A.length (by omega)
                have c2 := HO.out.frozenAt A.length
                obtain ⟨r0, rest', hre⟩ : ∃ r0 rest', rest = r0 :: rest' := by
                  cases rest with
                  | nil => simp at hROL; omega
                  | cons a b => exact ⟨a, b, rfl⟩
                subst hre
                have hget : (byteVals A ++ r0 :: rest')[A.length]? = some r0 := by
                  rw [List.getElem?_append_right (by rw [byteVals_length]; exact Nat.le_refl _), byteVals_length, Nat.sub_self]
                  rfl
                rw [hget] at c1
                have hst := (HO.out.stored A.length (.int .u8 (x.toNat : Int))).1
                have hset : (byteVals A ++ r0 :: rest').set A.length (.int .u8 (x.toNat : Int)) = byteVals (A ++ [x]) ++ rest' := by
                  rw [List.set_append_right _ _ (by rw [byteVals_length]; exact Nat.le_refl _), byteVals_length, Nat.sub_self, byteVals_append]
                  simp [byteVals]
                rw [hset, ← hstep] at hst
                have HST := hid hst
                have HNB := hid (HBW.out.setCell (p := ⟨g, A.length, none⟩) (Nat.le_refl _) (.int .u8 (x.toNat : Int)))
                have HLA := hid hlA
                have hA0 : (0 : Int) ≤ (A.length : Int) := by omega
                have hA1 : (A.length : Int) < (N : Int) := by omega
                clear hx hlx hpre hROL hNR hA hstep hrb hget hst hset hlA hkl
                go_wp2
                go_roundw
                case rel => exact ⟨k + 1, rest', by omega, by go_num, by rw [HLA.out]; go_num, HST, HNB⟩
                case measure => simp [intOf]; omega
              | some c =>
                have hrb : replB ps x = [92, c] := by unfold replB; rw [hrep]
                rw [hrb] at hstep
                have hlA : (replL ps (l.take (k + 1))).length = A.length + 2 := by rw [hstep]; simp
                have hAN : A.length + 2 ≤ N := by omega
                obtain ⟨v, c0, hv⟩ := (HBrr.out.tab x).2 c hrep
                obtain ⟨g2, cp2, rfl, hg2b, hg2, hcl⟩ := hv.cells
                simp only [byteVals_length, List.length_cons, List.length_nil, Nat.zero_add] at c0 hv hcl
                obtain ⟨cur, hcg, hcs, hos, _⟩ := own_splice (cs := byteVals [92, c]) (J := A.length) HO.out (by rw [byteVals_length]; simpa using hAN)
                have hxs : (byteVals A ++ rest).take A.length ++ byteVals [92, c] ++ (byteVals A ++ rest).drop (A.length + (byteVals [92, c]).length) = byteVals (A ++ [92, c]) ++ rest.drop 2 := by
                  have e1 : (byteVals A ++ rest).take A.length = byteVals A := by
                    have := @List.take_left _ (byteVals A) rest
                    rwa [byteVals_length] at this
                  have e2 : (byteVals A ++ rest).drop (A.length + (byteVals [92, c]).length) = rest.drop 2 := by
                    rw [List.drop_append, byteVals_length, byteVals_length, show (A.length + [92, c].length) - A.length = 2 by simp, List.drop_of_length_le (by rw [byteVals_length]; omega)]
                    rfl
                  rw [e1, e2, byteVals_append]
                rw [hxs, ← hstep] at hos
                have hcp := run_copy_row (P := Tryd.prog) wr.drew 24 24 3 5 g A.length (N - A.length) (N - A.length) ⟨g2, 0, none⟩ 2 cp2 cur 5 (byteVals [92, c]) Tryd.underlying24 info_u8RS hcg (by rw [byteVals_length]; exact (show 2 = Nat.min 2 (N - A.length) from (Nat.min_eq_left (show 2 ≤ N - A.length by omega)).symm)) (fun j u hj => by rw [Addr.add_lit, Nat.zero_add]; exact hcl j u hj) hcs (fun u hu => by simp [byteVals] at hu; rcases hu with rfl | rfl <;> rfl)
                have hgo : goInt (byteVals [92, c]).length = .int .i64 2 := rfl
                rw [hgo] at hcp
                obtain ⟨W2, hW2⟩ : ∃ z, wr.drew.setRow g (cur.toList.take A.length ++ byteVals [92, c] ++ cur.toList.drop (A.length + (byteVals [92, c]).length)).toArray = z := ⟨_, rfl⟩
                have HOS : Hid (W2.ownsRow g 5 1 (.slice (some ⟨g, 0, none⟩) N N) N (byteVals (replL ps (l.take (k + 1))) ++ rest.drop 2)) := by rw [← hW2]; exact hos
                have HNB : Hid (Below g wl W2) := by
                  rw [← hW2]
                  exact ⟨HBW.out.os, HBW.out.tape, HBW.out.output, by simpa using HBW.out.size, fun k hk => (setRow_other _ g k _ (by omega)).trans (HBW.out.block k hk)⟩
                have hgc : W2.cell? ⟨br, x.toNat, none⟩ = some (.slice (some ⟨g2, 0, none⟩) 2 cp2) := by
                  rw [← hW2]
                  exact (World.cell?_of_block (a := ⟨br, x.toNat, none⟩) (setRow_other wr.drew g br _ (by omega))).trans c0
                rw [hW2] at hcp
                have HLA := hid hlA
                have hA0 : (0 : Int) ≤ (A.length : Int) := by omega
                have hA1 : (A.length : Int) ≤ (N : Int) := by omega
                have hAne : ¬ N = A.length := by omega
                have hA2 : ¬ (N : Int) < (A.length : Int) := by omega
                clear hx hlx hpre hROL hNR hA hstep hrb hlA hkl hos hxs hgo hW2 hcs hcg hcl hv hg2b hg2
                go_wp2_with fail
                refine wp_region_held_drew (S := fun w' => w'.cell? ⟨br, x.toNat, none⟩ = some (.slice (some ⟨g2, 0, none⟩) 2 cp2)) (by kernel_rfl) ?_ (fun hHeld => ?_)
                · simp [*]
                refine wpAnyH_take (i := 0) (v := ?_) rfl (by kernel_rfl) (by kernel_rfl) (by kernel_rfl) (fun _ _ _ h => h) (Or.inl ⟨by rfl, ?_⟩) (by assumption) ?_
                rotate_left
                · (intro w' hSw; (try dsimp only at hSw); go_simp; try (with_reducible rfl))
                change wpAnyH _ _ _ _ _ _ _ (Act.put _ (some 102) _) _
                try simp only [Act.put, List.setIfInBounds_toArray, List.set_cons_zero, List.set_cons_succ]
                refine wpAnyH_take (i := 1) (v := ?_) rfl (by kernel_rfl) (by kernel_rfl) (by kernel_rfl) (fun _ _ _ h => h) (Or.inl ⟨by rfl, ?_⟩) (by assumption) ?_
                rotate_left
                · (intro w' hSw; (try dsimp only at hSw); go_simp; try (with_reducible rfl))
                change wpAnyH _ _ _ _ _ _ _ (Act.put _ (some 103) _) _
                try simp only [Act.put, List.setIfInBounds_toArray, List.set_cons_zero, List.set_cons_succ]
                refine wpAnyH_take (i := 2) (v := ?_) rfl (by kernel_rfl) (by kernel_rfl) (by kernel_rfl) (fun _ _ _ h => h) (Or.inl ⟨by rfl, ?_⟩) (by assumption) ?_
                rotate_left
                · (intro w' hSw; (try dsimp only at hSw); go_simp; try (with_reducible rfl))
                change wpAnyH _ _ _ _ _ _ _ (Act.put _ (some 104) _) _
                try simp only [Act.put, List.setIfInBounds_toArray, List.set_cons_zero, List.set_cons_succ]
                refine wpAnyH_take (i := 3) (v := ?_) rfl (by kernel_rfl) (by kernel_rfl) (by kernel_rfl) (fun _ _ _ h => h) (Or.inl ⟨by rfl, ?_⟩) (by assumption) ?_
                rotate_left
                · (intro w' hSw; (try dsimp only at hSw); go_simp; try (with_reducible rfl))
                change wpAnyH _ _ _ _ _ _ _ (Act.put _ (some 105) _) _
                try simp only [Act.put, List.setIfInBounds_toArray, List.set_cons_zero, List.set_cons_succ]
                refine wpAnyH_take (i := 4) (v := ?_) rfl (by kernel_rfl) (by kernel_rfl) (by kernel_rfl) (fun _ _ _ h => h) (Or.inl ⟨by rfl, ?_⟩) (by assumption) ?_
                rotate_left
                · (intro w' hSw; (try dsimp only at hSw); go_simp; try (with_reducible rfl))
                change wpAnyH _ _ _ _ _ _ _ (Act.put _ (some 106) _) _
                try simp only [Act.put, List.setIfInBounds_toArray, List.set_cons_zero, List.set_cons_succ]
                refine wpAnyH_take (i := 5) (v := ?_) rfl (by kernel_rfl) (by kernel_rfl) (by kernel_rfl) (fun _ _ _ h => h) (Or.inl ⟨by rfl, ?_⟩) (by assumption) ?_
                rotate_left
                · (intro w' hSw; (try dsimp only at hSw); go_simp; try (with_reducible rfl))
                change wpAnyH _ _ _ _ _ _ _ (Act.put _ (some 107) _) _
                try simp only [Act.put, List.setIfInBounds_toArray, List.set_cons_zero, List.set_cons_succ]
                refine wpAnyH_take (i := 6) (v := ?_) rfl (by kernel_rfl) (by kernel_rfl) (by kernel_rfl) (fun _ _ _ h => h) (Or.inl ⟨by rfl, ?_⟩) (by assumption) ?_
                rotate_left
                · (intro w' hSw; (try dsimp only at hSw); go_simp; try (with_reducible rfl))
                change wpAnyH _ _ _ _ _ _ _ (Act.put _ (some 108) _) _
                try simp only [Act.put, List.setIfInBounds_toArray, List.set_cons_zero, List.set_cons_succ]
                refine wpAnyH_take (i := 7) (v := ?_) rfl (by kernel_rfl) (by kernel_rfl) (by kernel_rfl) (fun _ _ _ h => h) (Or.inl ⟨by rfl, ?_⟩) (by assumption) ?_
                rotate_left
                · (intro w' hSw; (try dsimp only at hSw); go_simp; try (with_reducible rfl))
                change wpAnyH _ _ _ _ _ _ _ (Act.put _ (some 109) _) _
                try simp only [Act.put, List.setIfInBounds_toArray, List.set_cons_zero, List.set_cons_succ]
                refine wpAnyH_take (i := 8) (v := ?_) rfl (by kernel_rfl) (by kernel_rfl) (by kernel_rfl) (fun _ _ _ h => h) (Or.inl ⟨by rfl, ?_⟩) (by assumption) ?_
                rotate_left
                · (intro w' hSw; (try dsimp only at hSw); go_simp; try (with_reducible rfl))
                change wpAnyH _ _ _ _ _ _ _ (Act.put _ (some 110) _) _
                try simp only [Act.put, List.setIfInBounds_toArray, List.set_cons_zero, List.set_cons_succ]
                refine wpAnyH_take (i := 9) (v := ?_) rfl (by kernel_rfl) (by kernel_rfl) (by kernel_rfl) (fun _ _ _ h => h) (Or.inl ⟨by rfl, ?_⟩) (by assumption) ?_
                rotate_left
                · (intro w' hSw; (try dsimp only at hSw); go_simp; try (with_reducible rfl))
                change wpAnyH _ _ _ _ _ _ _ (Act.put _ (some 111) _) _
                try simp only [Act.put, List.setIfInBounds_toArray, List.set_cons_zero, List.set_cons_succ]
                refine wpAnyH_ready (rs := [10]) (by kernel_rfl) (by simp) ?_
                refine AllReadyH.cons (i := 10) rfl (fun K hK => ?_) AllReadyH.nil
                simp only [List.getElem_toArray, List.getElem_cons_succ, List.getElem_cons_zero]
                rw [if_pos (by rfl)]
                have hr := hcp
                refine oper_copy rfl rfl rfl hr ?_
                simp only [Act.put, List.setIfInBounds_toArray, List.set_cons_zero, List.set_cons_succ]
                have hOld := hHeld
                clear hHeld
                refine hK.out _ _ ?_ (fun hHeld => ?_)
                · (try dsimp only); simp [*]
                clear hK K hOld
                try simp only [Act.put, List.setIfInBounds_toArray, List.set_cons_zero, List.set_cons_succ]
                refine wpAnyH_take (i := 11) (v := ?_) rfl (by kernel_rfl) (by kernel_rfl) (by kernel_rfl) (fun _ _ _ h => h) (Or.inl ⟨by rfl, ?_⟩) (by assumption) ?_
                rotate_left
                · (intro w' hSw; (try dsimp only at hSw); go_simp; try (with_reducible rfl))
                change wpAnyH _ _ _ _ _ _ _ (Act.put _ (some 113) _) _
                try simp only [Act.put, List.setIfInBounds_toArray, List.set_cons_zero, List.set_cons_succ]
                refine wpAnyH_take (i := 12) (v := ?_) rfl (by kernel_rfl) (by kernel_rfl) (by kernel_rfl) (fun _ _ _ h => h) (Or.inl ⟨by rfl, ?_⟩) (by assumption) ?_
                rotate_left
                · (intro w' hSw; (try dsimp only at hSw); go_simp; try (with_reducible rfl))
                change wpAnyH _ _ _ _ _ _ _ (Act.put _ (some 13) _) _
                try simp only [Act.put, List.setIfInBounds_toArray, List.set_cons_zero, List.set_cons_succ]
                refine wpAnyH_done (by kernel_rfl) ?_ _
                go_wp2
                go_roundw
                case rel => exact ⟨k + 1, rest.drop 2, by omega, by go_num, by rw [HLA.out]; first | go_num | (rw [IntWalk.i64_in _ (by omega)]; go_num), HOS, HNB⟩
                case measure => simp [intOf]; omega
            · have hi2 : ¬ (k : Int) < (s.size : Int) := by omega
              obtain rfl : k = s.size := by omega
              have hfull : replL ps (l.take s.size) = R := by rw [HSL.out, List.take_length]; exact HR.out
              have hown := HO.out
              rw [hfull] at hown ⊢
              have hr0 : rest = [] := by
                have h1 := hown.1
                rw [List.length_append, byteVals_length, Nat.mul_one, HN.out] at h1
                exact List.eq_nil_of_length_eq_zero (by omega)
              rw [hr0, List.append_nil, ← HN.out] at hown
              have hcv := own_string (P := Tryd.prog) (src := 24) (dst := 9) hown Tryd.underlying24 Tryd.underlying5 Tryd.underlying9
              rw [HN.out] at hcv
              have HFB := hid (HBL.out.trans (HBW.out.mono hG1))
              clear hfull hown hr0 hlt hk
              go_wp2
              go_ret
              exact ⟨rfl, HFB.out⟩
  · have hr1 : ¬ (ps.length : Int) * 8 ≤ (s.size : Int) := by omega
    go_enter Tryd.func113, Tryd.ntmps113
    go_wp2
    go_loopw [5, 6, 10, 11] (fun ns any i _ wr => ∃ k D : Nat, k ≤ s.size ∧ i = .int .i64 (k : Int) ∧ Hid (D + k = (replL ps (l.take k)).length) ∧ ns = .int .i64 ((s.size + D : Nat) : Int) ∧ any = .bool (D != 0) ∧ Hid (Below w.heap.size w wr)) (fun _ _ i _ _ => s.size - (intOf i).toNat)
    case atStart => exact ⟨0, 0, Nat.zero_le _, rfl, hid rfl, rfl, rfl, hid (Below.refl _ _)⟩
    case round =>
      obtain ⟨k, D, hk, rfl, HD, rfl, rfl, HBL⟩ := hrel
      have hbL := HBL.out
      have HBr : Hid (Bsr n0 ps br wr) := hid (HB.out.later hbL)
      by_cases hlt : k < s.size
      · obtain ⟨x, hx⟩ : ∃ x, s[k] = x := ⟨_, rfl⟩
        have hkl : k < l.length := by rw [← HSL.out]; exact hlt
        have hlx : l[k] = x := by
          rw [← hx]
          have := get_list s k hlt
          rw [← this]
          congr 1
          exact HL.out.symm
        have hstep := replL_succ ps hkl
        rw [hlx] at hstep
        have hxt : (s[k] : UInt8).toNat = x.toNat := by rw [hx]
        have hi1 : (0 : Int) ≤ (k : Int) := by omega
        have hi2 : (k : Int) < (s.size : Int) := by omega
        have hb0 : (0 : Int) ≤ (x.toNat : Int) := by omega
        have hb1 : (x.toNat : Int) < 256 := by have := x.toNat_lt; omega
        have hDle : D ≤ 2000000 := by have h1 := HD.out; have h2 := HTK.out k; omega
        cases hrep : rep ps x with
        | none =>
          have hrb : replB ps x = [x] := by unfold replB; rw [hrep]
          rw [hrb] at hstep
          have HD1 := hid (show D + (k + 1) = (replL ps (l.take (k + 1))).length by rw [hstep, List.length_append, ← HD.out]; simp; omega)
          have c0 := (HBr.out.tab x).1 hrep
          clear hx hlx hstep hrb hkl
          go_wp2
          go_roundw
          case rel => exact ⟨k + 1, D, by omega, by go_num, HD1, by go_num, rfl, HBL⟩
          case measure => simp [intOf]; omega
        | some c =>
          have hrb : replB ps x = [92, c] := by unfold replB; rw [hrep]
          rw [hrb] at hstep
          have HD1 := hid (show (D + 1) + (k + 1) = (replL ps (l.take (k + 1))).length by rw [hstep, List.length_append, ← HD.out]; simp; omega)
          obtain ⟨v, c0, hv⟩ := (HBr.out.tab x).2 c hrep
          obtain ⟨g2, cp2, rfl, hg2b, hg2, hcl⟩ := hv.cells
          simp only [byteVals_length, List.length_cons, List.length_nil, Nat.zero_add] at c0 hv hcl
          clear hx hlx hstep hrb hkl hv hg2b hg2 hcl
          go_wp2
          go_roundw
          case rel => exact ⟨k + 1, D + 1, by omega, by go_num, HD1, by go_num, by simp, HBL⟩
          case measure => simp [intOf]; omega
      · have hi2 : ¬ (k : Int) < (s.size : Int) := by omega
        obtain rfl : k = s.size := by omega
        have hRl : D + s.size = R.length := by rw [HD.out, HSL.out, List.take_length, HR.out]
        have hsl := HSL.out
        clear hlt hk

        by_cases hch : R.length = s.size
        · have hany : (D != 0) = false := by simp; omega
          rw [hany]
          have hRe : R = l := HID.out (by rw [hch]; exact HSL.out)
          have HE := hid (show s = mkB R by rw [hRe, HS.out])
          clear hRe hch hany hRl hsl
          go_wp2
          go_ret
          exact ⟨by rw [← HE.out]; rfl, hbL⟩
        · have hany : (D != 0) = true := by simp; omega
          have hns : s.size + D = R.length := by omega
          rw [hany, hns]
          obtain ⟨N, hN⟩ : ∃ N, R.length = N := ⟨_, rfl⟩
          have HN := hid hN
          have hN2 : N ≤ 2000000 := by omega
          have hbL1 := HBL.out
          obtain ⟨wl, hwl⟩ : ∃ z, wr = z := ⟨_, rfl⟩
          rw [hwl] at hbL hbL1 HBL HBr ⊢
          obtain ⟨zc, hzl, hmk⟩ := make_cells (P := Tryd.prog) (t := 24) (e := 5) (n := 1) (bytes := 1) Tryd.underlying24 info_u8RR N (by omega) (by omega)
          rw [hN]
          clear hany hns hch hN hwl hRl hsl
          go_wp2
          obtain ⟨g, hg⟩ : ∃ g, wl.heap.size = g := ⟨_, rfl⟩
          have hOw : (wl.alloc (.cells zc.toArray 5)).ownsRow wl.heap.size 5 1 (.slice (some ⟨wl.heap.size, 0, none⟩) N N) N zc := by
            have := World.ownsRow_lit (base := wl.heap.size) (e := 5) (size := 1) wl zc.toArray N (Nat.le_refl _) (by unfold maxLen; omega) (by simpa using hzl)
            simpa using this
          have hBA : Below wl.heap.size wl (wl.alloc (.cells zc.toArray 5)) := ext_alloc _ _
          rw [hg] at hOw hBA ⊢
          have HG := hid hg
          have hG1 : w.heap.size ≤ g := by rw [← hg]; exact hbL1.size
          have hGb : br < g := by rw [← hg]; exact HBr.out.lt
          clear hmk hg hzl
          go_loopw [13, 14, 15] (fun j i _ wr => ∃ (k : Nat) (rest : List Value), k ≤ s.size ∧ i = .int .i64 (k : Int) ∧ j = .int .i64 ((replL ps (l.take k)).length : Int) ∧ Hid (wr.ownsRow g 5 1 (.slice (some ⟨g, 0, none⟩) N N) N (byteVals (replL ps (l.take k)) ++ rest)) ∧ Hid (Below g wl wr)) (fun _ i _ _ => s.size - (intOf i).toNat)
          case atStart => exact ⟨0, zc, Nat.zero_le _, rfl, rfl, hid hOw, hid hBA⟩
          case round =>
            obtain ⟨k, rest, hk, rfl, rfl, HO, HBW⟩ := hrel
            by_cases hlt : k < s.size
            · obtain ⟨x, hx⟩ : ∃ x, s[k] = x := ⟨_, rfl⟩
              have hkl : k < l.length := by rw [← HSL.out]; exact hlt
              have hlx : l[k] = x := by
                rw [← hx]
                have := get_list s k hlt
                rw [← this]
                congr 1
                exact HL.out.symm
              have hstep := replL_succ ps hkl
              rw [hlx] at hstep
              have hpre := HTK.out (k + 1)
              have hxt : (s[k] : UInt8).toNat = x.toNat := by rw [hx]
              have hi1 : (0 : Int) ≤ (k : Int) := by omega
              have hi2 : (k : Int) < (s.size : Int) := by omega
              have hb0 : (0 : Int) ≤ (x.toNat : Int) := by omega
              have hb1 : (x.toNat : Int) < 256 := by have := x.toNat_lt; omega
              have HBrr : Hid (Bsr n0 ps br wr) := hid (HBr.out.later (HG.out ▸ HBW.out))
              have hROL := HO.out.1
              have hNR := HN.out
              obtain ⟨A, hA⟩ : ∃ A, replL ps (l.take k) = A := ⟨_, rfl⟩
              rw [hA] at hstep HO hROL ⊢
              rw [List.length_append, byteVals_length, Nat.mul_one] at hROL
              cases hrep : rep ps x with
              | none =>
                have hrb : replB ps x = [x] := by unfold replB; rw [hrep]
                rw [hrb] at hstep
                have hlA : (replL ps (l.take (k + 1))).length = A.length + 1 := by rw [hstep]; simp
                have hAN : A.length < N := by omega
                have c0 := (HBrr.out.tab x).1 hrep
                have c1 := HO.out.cellAt A.length (by omega)
                have c2 := HO.out.frozenAt A.length
                obtain ⟨r0, rest', hre⟩ : ∃ r0 rest', rest = r0 :: rest' := by
                  cases rest with
                  | nil => simp at hROL; omega
                  | cons a b => exact ⟨a, b, rfl⟩
                subst hre
                have hget : (byteVals A ++ r0 :: rest')[A.length]? = some r0 := by
                  rw [List.getElem?_append_right (by rw [byteVals_length]; exact Nat.le_refl _), byteVals_length, Nat.sub_self]
                  rfl
                rw [hget] at c1
                have hst := (HO.out.stored A.length (.int .u8 (x.toNat : Int))).1
                have hset : (byteVals A ++ r0 :: rest').set A.length (.int .u8 (x.toNat : Int)) = byteVals (A ++ [x]) ++ rest' := by
                  rw [List.set_append_right _ _ (by rw [byteVals_length]; exact Nat.le_refl _), byteVals_length, Nat.sub_self, byteVals_append]
                  simp [byteVals]
                rw [hset, ← hstep] at hst
                have HST := hid hst
                have HNB := hid (HBW.out.setCell (p := ⟨g, A.length, none⟩) (Nat.le_refl _) (.int .u8 (x.toNat : Int)))
                have HLA := hid hlA
                have hA0 : (0 : Int) ≤ (A.length : Int) := by omega
                have hA1 : (A.length : Int) < (N : Int) := by omega
                clear hx hlx hpre hROL hNR hA hstep hrb hget hst hset hlA hkl
                go_wp2
                go_roundw
                case rel => exact ⟨k + 1, rest', by omega, by go_num, by rw [HLA.out]; go_num, HST, HNB⟩
                case measure => simp [intOf]; omega
              | some c =>
                have hrb : replB ps x = [92, c] := by unfold replB; rw [hrep]
                rw [hrb] at hstep
                have hlA : (replL ps (l.take (k + 1))).length = A.length + 2 := by rw [hstep]; simp
                have hAN : A.length + 2 ≤ N := by omega
                obtain ⟨v, c0, hv⟩ := (HBrr.out.tab x).2 c hrep
                obtain ⟨g2, cp2, rfl, hg2b, hg2, hcl⟩ := hv.cells
                simp only [byteVals_length, List.length_cons, List.length_nil, Nat.zero_add] at c0 hv hcl
                obtain ⟨cur, hcg, hcs, hos, _⟩ := own_splice (cs := byteVals [92, c]) (J := A.length) HO.out (by rw [byteVals_length]; simpa using hAN)
                have hxs : (byteVals A ++ rest).take A.length ++ byteVals [92, c] ++ (byteVals A ++ rest).drop (A.length + (byteVals [92, c]).length) = byteVals (A ++ [92, c]) ++ rest.drop 2 := by
                  have e1 : (byteVals A ++ rest).take A.length = byteVals A := by
                    have := @List.take_left _ (byteVals A) rest
                    rwa [byteVals_length] at this
                  have e2 : (byteVals A ++ rest).drop (A.length + (byteVals [92, c]).length) = rest.drop 2 := by
                    rw [List.drop_append, byteVals_length, byteVals_length, show (A.length + [92, c].length) - A.length = 2 by simp, List.drop_of_length_le (by rw [byteVals_length]; omega)]
                    rfl
                  rw [e1, e2, byteVals_append]
                rw [hxs, ← hstep] at hos
                have hcp := run_copy_row (P := Tryd.prog) wr.drew 24 24 3 5 g A.length (N - A.length) (N - A.length) ⟨g2, 0, none⟩ 2 cp2 cur 5 (byteVals [92, c]) Tryd.underlying24 info_u8RS hcg (by rw [byteVals_length]; exact (show 2 = Nat.min 2 (N - A.length) from (Nat.min_eq_left (show 2 ≤ N - A.length by omega)).symm)) (fun j u hj => by rw [Addr.add_lit, Nat.zero_add]; exact hcl j u hj) hcs (fun u hu => by simp [byteVals] at hu; rcases hu with rfl | rfl <;> rfl)
                have hgo : goInt (byteVals [92, c]).length = .int .i64 2 := rfl
                rw [hgo] at hcp
                obtain ⟨W2, hW2⟩ : ∃ z, wr.drew.setRow g (cur.toList.take A.length ++ byteVals [92, c] ++ cur.toList.drop (A.length + (byteVals [92, c]).length)).toArray = z := ⟨_, rfl⟩
                have HOS : Hid (W2.ownsRow g 5 1 (.slice (some ⟨g, 0, none⟩) N N) N (byteVals (replL ps (l.take (k + 1))) ++ rest.drop 2)) := by rw [← hW2]; exact hos
                have HNB : Hid (Below g wl W2) := by
                  rw [← hW2]
                  exact ⟨HBW.out.os, HBW.out.tape, HBW.out.output, by simpa using HBW.out.size, fun k hk => (setRow_other _ g k _ (by omega)).trans (HBW.out.block k hk)⟩
                have hgc : W2.cell? ⟨br, x.toNat, none⟩ = some (.slice (some ⟨g2, 0, none⟩) 2 cp2) := by
                  rw [← hW2]
                  exact (World.cell?_of_block (a := ⟨br, x.toNat, none⟩) (setRow_other wr.drew g br _ (by omega))).trans c0
                rw [hW2] at hcp
                have HLA := hid hlA
                have hA0 : (0 : Int) ≤ (A.length : Int) := by omega
                have hA1 : (A.length : Int) ≤ (N : Int) := by omega
                have hAne : ¬ N = A.length := by omega
                have hA2 : ¬ (N : Int) < (A.length : Int) := by omega
                clear hx hlx hpre hROL hNR hA hstep hrb hlA hkl hos hxs hgo hW2 hcs hcg hcl hv hg2b hg2
                go_wp2_with fail
                refine wp_region_held_drew (S := fun w' => w'.cell? ⟨br, x.toNat, none⟩ = some (.slice (some ⟨g2, 0, none⟩) 2 cp2)) (by kernel_rfl) ?_ (fun hHeld => ?_)
                · simp [*]
                refine wpAnyH_take (i := 0) (v := ?_) rfl (by kernel_rfl) (by kernel_rfl) (by kernel_rfl) (fun _ _ _ h => h) (Or.inl ⟨by rfl, ?_⟩) (by assumption) ?_
                rotate_left
                · (intro w' hSw; (try dsimp only at hSw); go_simp; try (with_reducible rfl))
                change wpAnyH _ _ _ _ _ _ _ (Act.put _ (some 102) _) _
                try simp only [Act.put, List.setIfInBounds_toArray, List.set_cons_zero, List.set_cons_succ]
                refine wpAnyH_take (i := 1) (v := ?_) rfl (by kernel_rfl) (by kernel_rfl) (by kernel_rfl) (fun _ _ _ h => h) (Or.inl ⟨by rfl, ?_⟩) (by assumption) ?_
                rotate_left
                · (intro w' hSw; (try dsimp only at hSw); go_simp; try (with_reducible rfl))
                change wpAnyH _ _ _ _ _ _ _ (Act.put _ (some 103) _) _
                try simp only [Act.put, List.setIfInBounds_toArray, List.set_cons_zero, List.set_cons_succ]
                refine wpAnyH_take (i := 2) (v := ?_) rfl (by kernel_rfl) (by kernel_rfl) (by kernel_rfl) (fun _ _ _ h => h) (Or.inl ⟨by rfl, ?_⟩) (by assumption) ?_
                rotate_left
                · (intro w' hSw; (try dsimp only at hSw); go_simp; try (with_reducible rfl))
                change wpAnyH _ _ _ _ _ _ _ (Act.put _ (some 104) _) _
                try simp only [Act.put, List.setIfInBounds_toArray, List.set_cons_zero, List.set_cons_succ]
                refine wpAnyH_take (i := 3) (v := ?_) rfl (by kernel_rfl) (by kernel_rfl) (by kernel_rfl) (fun _ _ _ h => h) (Or.inl ⟨by rfl, ?_⟩) (by assumption) ?_
                rotate_left
                · (intro w' hSw; (try dsimp only at hSw); go_simp; try (with_reducible rfl))
                change wpAnyH _ _ _ _ _ _ _ (Act.put _ (some 105) _) _
                try simp only [Act.put, List.setIfInBounds_toArray, List.set_cons_zero, List.set_cons_succ]
                refine wpAnyH_take (i := 4) (v := ?_) rfl (by kernel_rfl) (by kernel_rfl) (by kernel_rfl) (fun _ _ _ h => h) (Or.inl ⟨by rfl, ?_⟩) (by assumption) ?_
                rotate_left
                · (intro w' hSw; (try dsimp only at hSw); go_simp; try (with_reducible rfl))
                change wpAnyH _ _ _ _ _ _ _ (Act.put _ (some 106) _) _
                try simp only [Act.put, List.setIfInBounds_toArray, List.set_cons_zero, List.set_cons_succ]
                refine wpAnyH_take (i := 5) (v := ?_) rfl (by kernel_rfl) (by kernel_rfl) (by kernel_rfl) (fun _ _ _ h => h) (Or.inl ⟨by rfl, ?_⟩) (by assumption) ?_
                rotate_left
                · (intro w' hSw; (try dsimp only at hSw); go_simp; try (with_reducible rfl))
                change wpAnyH _ _ _ _ _ _ _ (Act.put _ (some 107) _) _
                try simp only [Act.put, List.setIfInBounds_toArray, List.set_cons_zero, List.set_cons_succ]
                refine wpAnyH_take (i := 6) (v := ?_) rfl (by kernel_rfl) (by kernel_rfl) (by kernel_rfl) (fun _ _ _ h => h) (Or.inl ⟨by rfl, ?_⟩) (by assumption) ?_
                rotate_left
                · (intro w' hSw; (try dsimp only at hSw); go_simp; try (with_reducible rfl))
                change wpAnyH _ _ _ _ _ _ _ (Act.put _ (some 108) _) _
                try simp only [Act.put, List.setIfInBounds_toArray, List.set_cons_zero, List.set_cons_succ]
                refine wpAnyH_take (i := 7) (v := ?_) rfl (by kernel_rfl) (by kernel_rfl) (by kernel_rfl) (fun _ _ _ h => h) (Or.inl ⟨by rfl, ?_⟩) (by assumption) ?_
                rotate_left
                · (intro w' hSw; (try dsimp only at hSw); go_simp; try (with_reducible rfl))
                change wpAnyH _ _ _ _ _ _ _ (Act.put _ (some 109) _) _
                try simp only [Act.put, List.setIfInBounds_toArray, List.set_cons_zero, List.set_cons_succ]
                refine wpAnyH_take (i := 8) (v := ?_) rfl (by kernel_rfl) (by kernel_rfl) (by kernel_rfl) (fun _ _ _ h => h) (Or.inl ⟨by rfl, ?_⟩) (by assumption) ?_
                rotate_left
                · (intro w' hSw; (try dsimp only at hSw); go_simp; try (with_reducible rfl))
                change wpAnyH _ _ _ _ _ _ _ (Act.put _ (some 110) _) _
                try simp only [Act.put, List.setIfInBounds_toArray, List.set_cons_zero, List.set_cons_succ]
                refine wpAnyH_take (i := 9) (v := ?_) rfl (by kernel_rfl) (by kernel_rfl) (by kernel_rfl) (fun _ _ _ h => h) (Or.inl ⟨by rfl, ?_⟩) (by assumption) ?_
                rotate_left
                · (intro w' hSw; (try dsimp only at hSw); go_simp; try (with_reducible rfl))
                change wpAnyH _ _ _ _ _ _ _ (Act.put _ (some 111) _) _
                try simp only [Act.put, List.setIfInBounds_toArray, List.set_cons_zero, List.set_cons_succ]
                refine wpAnyH_ready (rs := [10]) (by kernel_rfl) (by simp) ?_
                refine AllReadyH.cons (i := 10) rfl (fun K hK => ?_) AllReadyH.nil
                simp only [List.getElem_toArray, List.getElem_cons_succ, List.getElem_cons_zero]
                rw [if_pos (by rfl)]
                have hr := hcp
                refine oper_copy rfl rfl rfl hr ?_
                simp only [Act.put, List.setIfInBounds_toArray, List.set_cons_zero, List.set_cons_succ]
                have hOld := hHeld
                clear hHeld
                refine hK.out _ _ ?_ (fun hHeld => ?_)
                · (try dsimp only); simp [*]
                clear hK K hOld
                try simp only [Act.put, List.setIfInBounds_toArray, List.set_cons_zero, List.set_cons_succ]
                refine wpAnyH_take (i := 11) (v := ?_) rfl (by kernel_rfl) (by kernel_rfl) (by kernel_rfl) (fun _ _ _ h => h) (Or.inl ⟨by rfl, ?_⟩) (by assumption) ?_
                rotate_left
                · (intro w' hSw; (try dsimp only at hSw); go_simp; try (with_reducible rfl))
                change wpAnyH _ _ _ _ _ _ _ (Act.put _ (some 113) _) _
                try simp only [Act.put, List.setIfInBounds_toArray, List.set_cons_zero, List.set_cons_succ]
                refine wpAnyH_take (i := 12) (v := ?_) rfl (by kernel_rfl) (by kernel_rfl) (by kernel_rfl) (fun _ _ _ h => h) (Or.inl ⟨by rfl, ?_⟩) (by assumption) ?_
                rotate_left
                · (intro w' hSw; (try dsimp only at hSw); go_simp; try (with_reducible rfl))
                change wpAnyH _ _ _ _ _ _ _ (Act.put _ (some 13) _) _
                try simp only [Act.put, List.setIfInBounds_toArray, List.set_cons_zero, List.set_cons_succ]
                refine wpAnyH_done (by kernel_rfl) ?_ _
                go_wp2
                go_roundw
                case rel => exact ⟨k + 1, rest.drop 2, by omega, by go_num, by rw [HLA.out]; first | go_num | (rw [IntWalk.i64_in _ (by omega)]; go_num), HOS, HNB⟩
                case measure => simp [intOf]; omega
            · have hi2 : ¬ (k : Int) < (s.size : Int) := by omega
              obtain rfl : k = s.size := by omega
              have hfull : replL ps (l.take s.size) = R := by rw [HSL.out, List.take_length]; exact HR.out
              have hown := HO.out
              rw [hfull] at hown ⊢
              have hr0 : rest = [] := by
                have h1 := hown.1
                rw [List.length_append, byteVals_length, Nat.mul_one, HN.out] at h1
                exact List.eq_nil_of_length_eq_zero (by omega)
              rw [hr0, List.append_nil, ← HN.out] at hown
              have hcv := own_string (P := Tryd.prog) (src := 24) (dst := 9) hown Tryd.underlying24 Tryd.underlying5 Tryd.underlying9
              rw [HN.out] at hcv
              have HFB := hid (HBL.out.trans (HBW.out.mono hG1))
              clear hfull hown hr0 hlt hk
              go_wp2
              go_ret
              exact ⟨rfl, HFB.out⟩
end Go.Proofs.YtcebgmdcbdggeaaDoor
