/-
  What is proved here: the text of a code point, and the comparison of ints, in the reference. No condition.
-/
import Derived.Test.YtomcoilmpkpoeaaGreatDoorQRxTI2
import Derived.Test.YtomcoilmpkpoeaaGreatDoorQPartS
namespace Go.Proofs.YtomcoilmpkpoeaaGreatDoor
open Go.RowKit
set_option linter.unusedVariables false
set_option linter.unusedSimpArgs false

theorem hasB_mem {l : List UInt8} {k : Nat} (h : k < l.length) (h8 : l[k].toNat < 128) : hasB l ((l[k].toNat : Nat) : Int) = true := by
  rw [hasB_in ⟨by omega, by omega⟩, Int.toNat_natCast, List.contains_iff_mem]
  simp
theorem hasB_none {l : List UInt8} {c : Int} (h : ∀ k (hk : k < l.length), c ≠ ((l[k].toNat : Nat) : Int)) : hasB l c = false := by
  by_cases hc : 0 ≤ c ∧ c < 128
  · rw [hasB_in hc]
    cases hm : l.contains (UInt8.ofNat c.toNat) with
    | false => rfl
    | true =>
      obtain ⟨k, hk, he⟩ := List.mem_iff_getElem.1 (List.contains_iff_mem.1 hm)
      exfalso
      apply h k hk
      rw [he, UInt8.toNat_ofNat']
      omega
  · exact hasB_out hc
set_option maxHeartbeats 8000000 in
set_option maxRecDepth 100000 in
theorem specChar (c : Int) (s : ByteArray) (w : World) (hs : ∀ b ∈ s.data.toList, b.toNat < 128) (hsz : s.size ≤ 100) (hp : ptB c = true) :
    Calls Tryz.prog 72 #[.int .i64 c, .string s] w fun e w' => e = .returned (.string (mkB (charP s.data.toList c))) ∧ Below w.heap.size w w' := by
  obtain ⟨l, hl⟩ : ∃ l, s.data.toList = l := ⟨_, rfl⟩
  have hsl : s.size = l.length := by rw [Lib.size_eq, hl]
  rw [hl] at hs ⊢
  have HS := hid hs
  have HL := hid hl
  have HSL := hid hsl
  have HP := hid hp
  obtain ⟨hpt, hcn⟩ := pt_of hp
  have HPT := hid hpt
  obtain ⟨cn, hcc⟩ : ∃ cn, c.toNat = cn := ⟨_, rfl⟩
  rw [hcc] at HPT hcn
  have HCN := hid hcc
  clear hs hp hpt hcc hl hsl
  by_cases h10 : c = 10
  · subst h10
    go_enter Tryz.func72, Tryz.ntmps72
    go_wp2
    go_ret
    exact ⟨rfl, Below.refl _ _⟩
  by_cases h9 : c = 9
  · subst h9
    go_enter Tryz.func72, Tryz.ntmps72
    go_wp2
    go_ret
    exact ⟨rfl, Below.refl _ _⟩
  by_cases h13 : c = 13
  · subst h13
    go_enter Tryz.func72, Tryz.ntmps72
    go_wp2
    go_ret
    exact ⟨rfl, Below.refl _ _⟩
  have e1 : (c == 10) = false := by rw [beq_eq_false_iff_ne]; exact h10
  have e2 : (c == 9) = false := by rw [beq_eq_false_iff_ne]; exact h9
  have e3 : (c == 13) = false := by rw [beq_eq_false_iff_ne]; exact h13
  have HCH := hid (show charP l c = if hasB l c = true then 92 :: enc c.toNat else enc c.toNat by unfold charP; rw [if_neg h10, if_neg h9, if_neg h13])
  clear h10 h9 h13 hcn
  go_enter Tryz.func72, Tryz.ntmps72
  go_wp2
  go_loopw [5] (fun i wr => ∃ k : Nat, k ≤ s.size ∧ i = .int .i64 (k : Int) ∧ Hid (∀ j (hj : j < l.length), j < k → c ≠ ((l[j].toNat : Nat) : Int)) ∧ Below w.heap.size w wr) (fun i _ => s.size - (intOf i).toNat)
  case atStart => exact ⟨0, Nat.zero_le _, rfl, hid (fun j _ hj => absurd hj (Nat.not_lt_zero _)), Below.refl _ _⟩
  case round =>
    obtain ⟨k, hk, rfl, HA, hb⟩ := hrel
    by_cases hlt : k < s.size
    · have hkl : k < l.length := by rw [← HSL.out]; exact hlt
      obtain ⟨x, hx⟩ : ∃ x, s[k] = x := ⟨_, rfl⟩
      have hlx : l[k] = x := by
        rw [← hx]
        have := get_list s k hlt
        rw [← this]
        congr 1
        exact HL.out.symm
      have HLX := hid hlx
      have hx8 := HS.out l[k] (List.getElem_mem hkl)
      rw [hlx] at hx8
      have hki : (k : Int) < (s.size : Int) := by omega
      have hk0 : (0 : Int) ≤ (k : Int) := by omega
      have g1 : IntKind.i64.wrap ((k : Int) + 1) = (k : Int) + 1 := IntWalk.i64_in _ (by omega)
      have g2 : (0 : Int) ≤ (k : Int) + 1 := by omega
      have g3 : ((k : Int) + 1).toNat = k + 1 := by omega
      have g4 : (k : Int) + 1 ≤ (s.size : Int) := by omega
      have hix : (s[k]'hlt).toNat = x.toNat := by rw [hx]
      by_cases hc : c = (x.toNat : Int)
      · have f1 : (c == (x.toNat : Int)) = true := by rw [beq_iff_eq]; exact hc
        have HX := hid (show mkB (charP l c) = ⟨#[92]⟩ ++ s.extract k (k + 1) by
          rw [HCH.out, hc, ← hlx, if_pos (hasB_mem hkl (by rw [hlx]; exact hx8)), Int.toNat_natCast, hlx]
          apply ba_list
          rw [mkB_data, dat_app2, ByteArray.data_extract, Array.toList_extract, HL.out]
          have h1 : enc x.toNat = [x] := by unfold enc; rw [if_pos hx8]; simp
          rw [h1, List.extract_eq_take_drop]
          simp only [Nat.add_sub_cancel_left]
          rw [List.drop_eq_getElem_cons hkl, hlx]
          rfl)
        have hsx : (s.extract k (k + 1)).size = 1 := by rw [ByteArray.size_extract]; omega
        have q1 : ¬ 9223372036854775807 < 1 + (s.extract k (k + 1)).size := by rw [hsx]; decide
        clear hc hx hlx hsx
        go_wp2
        go_ret
        rw [HX.out]
        exact ⟨rfl, hb⟩
      · have f1 : (c == (x.toNat : Int)) = false := by rw [beq_eq_false_iff_ne]; exact hc
        have HC := hid hc
        clear hc hx hlx
        go_wp2
        go_roundw
        case rel =>
          refine ⟨k + 1, by omega, by go_num, hid (fun j hj hjk => ?_), hb⟩
          by_cases e : j = k
          · subst e; rw [HLX.out]; exact HC.out
          · exact HA.out j hj (by omega)
        case measure => simp [intOf]; omega
    · have hki : ¬ (k : Int) < (s.size : Int) := by omega
      have HX := hid (show mkB (charP l c) = mkB (texts [cn]) by
        rw [HCH.out, hasB_none (fun j hj => HA.out j hj (by rw [← HSL.out] at hj; omega)), HCN.out]
        simp [texts])
      have CT := hid (fun (W : World) => specText (v := .slice (some ⟨W.heap.size, 0, none⟩) 1 1) (B0 := W.heap.size) (rs := [cn]) (W.alloc (.cells #[.int .i64 (cn : Int)] 3)) (World.ownsRow_lit W #[.int .i64 (cn : Int)] 1 (Nat.le_refl _) (by decide) rfl) (fun q hq => by rw [List.mem_singleton] at hq; subst hq; exact HPT.out) (by simp))
      obtain ⟨cc, hcc⟩ : ∃ cc : Int, c = cc := ⟨_, rfl⟩
      have hcz : c = (cn : Int) := by
        have := (pt_of HP.out).2
        rw [HCN.out] at this
        exact this.symm
      clear hcc
      subst hcz
      go_wp2_with fail
      refine (CT.out _).mono ?_
      rintro e w2 ⟨rfl, hb2⟩
      go_wp2
      go_ret
      rw [HX.out]
      exact ⟨rfl, ext_trans hb (ext_trans (ext_alloc _ _) hb2)⟩
set_option maxHeartbeats 4000000 in
theorem specInts {v u : Value} {xs ys : List Int} (w : World) (h : Rd.rd (Old w) w [v] xs) (h' : Rd.rd (Old w) w [u] ys) :
    Calls Tryz.prog 74 #[v, u] w fun e w' => e = .returned (.bool (decide (xs = ys))) ∧ Below w.heap.size w w' := by
  obtain ⟨a, cap, rfl, h1, h2, hF⟩ := rdIntsL h
  obtain ⟨a', cap', rfl, h1', h2', hG⟩ := rdIntsL h'
  clear h h'
  by_cases hlen : xs.length = ys.length
  · have f1 : ((xs.length : Int) != (ys.length : Int)) = false := by simp [hlen]
    have HLEN := hid hlen
    obtain ⟨n, hn⟩ : ∃ n, xs.length = n := ⟨_, rfl⟩
    have HX := hid hn
    have HY := hid (show ys.length = n by rw [← hlen, hn])
    replace hF := fun (h0 : 0 < n) => hF (by omega)
    replace hG := fun (h0 : 0 < n) => hG (by omega)
    rw [HY.out, hn] at f1
    rw [hn] at h1
    rw [HY.out] at h1'
    rw [hn, HY.out]
    clear hn hlen
    go_enter Tryz.func74, Tryz.ntmps74
    go_wp2
    go_loopw [5] (fun i wr => ∃ k : Nat, k ≤ n ∧ i = .int .i64 (k : Int) ∧ Hid (∀ j (hj : j < xs.length) (hj' : j < ys.length), j < k → xs[j] = ys[j]) ∧ Below w.heap.size w wr) (fun i _ => n - (intOf i).toNat)
    case atStart => exact ⟨0, Nat.zero_le _, rfl, hid (fun j _ _ hj => absurd hj (Nat.not_lt_zero _)), Below.refl _ _⟩
    case round =>
      obtain ⟨k, hk, rfl, HA, hb⟩ := hrel
      by_cases hlt : k < n
      · obtain ⟨b, off, rfl, hB, hcell⟩ := hF (by omega)
        obtain ⟨b', off', rfl, hB', hcell'⟩ := hG (by omega)
        have hkx : k < xs.length := by rw [HX.out]; exact hlt
        have hky : k < ys.length := by rw [HY.out]; exact hlt
        have t0 : wr.cell? ⟨b, off + k, none⟩ = some (.int .i64 xs[k]) := (hb.cell (p := ⟨b, off + k, none⟩) hB).trans (hcell k hkx).1
        have t1 : wr.cell? ⟨b', off' + k, none⟩ = some (.int .i64 ys[k]) := (hb.cell (p := ⟨b', off' + k, none⟩) hB').trans (hcell' k hky).1
        obtain ⟨x, hx⟩ : ∃ x, xs[k] = x := ⟨_, rfl⟩
        obtain ⟨y, hy⟩ : ∃ y, ys[k] = y := ⟨_, rfl⟩
        rw [hx] at t0
        rw [hy] at t1
        have HXK := hid hx
        have HYK := hid hy
        have hki : (k : Int) < (n : Int) := by omega
        have hk0 : (0 : Int) ≤ (k : Int) := by omega
        clear hcell hcell' hx hy hF hG
        by_cases hxy : x = y
        · have g1 : (x != y) = false := by simp [hxy]
          have HXY := hid hxy
          clear hxy
          go_wp2
          go_quiet (fail)
          go_wp2
          go_roundw
          case rel =>
            refine ⟨k + 1, by omega, by go_num, hid (fun j hj hj' hjk => ?_), bel_dn2 hb _⟩
            by_cases e : j = k
            · subst e; rw [HXK.out, HYK.out]; exact HXY.out
            · exact HA.out j hj hj' (by omega)
          case measure => simp [intOf]; omega
        · have g1 : (x != y) = true := by rw [bne_iff_ne]; exact hxy
          have HXY := hid hxy
          clear hxy
          go_wp2
          go_quiet (fail)
          go_wp2
          go_ret
          exact ⟨end_bool (decide_eq_false (fun e => HXY.out (by rw [← HXK.out, ← HYK.out]; simp only [e]))).symm, bel_dn2 hb _⟩
      · have hki : ¬ (k : Int) < (n : Int) := by omega
        clear hF hG
        go_wp2
        go_ret
        exact ⟨end_bool (decide_eq_true (List.ext_getElem HLEN.out (fun j hj hj' => HA.out j hj hj' (by rw [HX.out] at hj; omega)))).symm, hb⟩
  · have f1 : ((xs.length : Int) != (ys.length : Int)) = true := by rw [bne_iff_ne]; omega
    have HNE := hid hlen
    clear hlen hF hG
    go_enter Tryz.func74, Tryz.ntmps74
    go_wp2
    go_ret
    exact ⟨end_bool (decide_eq_false (fun e => HNE.out (by rw [e]))).symm, Below.refl _ _⟩
end Go.Proofs.YtomcoilmpkpoeaaGreatDoor
