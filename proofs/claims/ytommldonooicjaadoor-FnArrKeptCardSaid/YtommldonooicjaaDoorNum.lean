/-
  What is proved here: spec.NumText and impl.NumText return the decimal numeral of an int. The condition 'PT' says that the library's table of powers of ten lies in the world.
-/
import Derived.Test.YtommldonooicjaaDoorPartS
import Derived.Test.YtommldonooicjaaDoorShelfA
import Derived.Lib.ItoaLen
import Derived.Lib.AppendIntMem
import Derived.Shelf.Unicode.PredsPay
namespace Go.Proofs.YtommldonooicjaaDoor
open Go.RowKit
set_option linter.unusedVariables false
set_option linter.unusedSimpArgs false

theorem ba_list {a b : ByteArray} (h : a.data.toList = b.data.toList) : a = b := ba_toList_inj (by rw [Lib.toList_data, Lib.toList_data]; exact h)
def numB (n : Int) : ByteArray := mkB (Lib.itoa n)
theorem numB_size {n : Int} (h : -9223372036854775808 ≤ n ∧ n ≤ 9223372036854775807) : (numB n).size ≤ 21 := by
  unfold numB
  rw [mkB_size]
  exact Lib.itoa_length_le n h.1 h.2
theorem info_u8M : (Tryd.prog.info? 5).map (fun i => (i.zero, i.size, i.bytes)) = some (some (.int .u8 0), 1, 1) := by kernel_rfl
/-- the digits ahead of those that are laid -/
def restD (m : Nat) : List UInt8 := if m = 0 then [] else Lib.decDigits m
theorem restD_step {m : Nat} (h : m ≠ 0) : restD m = restD (m / 10) ++ [UInt8.ofNat (48 + m % 10)] := by
  unfold restD
  rw [if_neg h, Lib.decDigits]
  by_cases h10 : m < 10
  · rw [dif_pos h10, if_pos (by omega), Nat.mod_eq_of_lt h10]; rfl
  · rw [dif_neg h10, if_neg (by omega)]
theorem own_some {w : World} {base : Nat} {e : TypeId} {size : Nat} {v : Value} {n : Nat} {xs : List Value} (h : w.ownsRow base e size v n xs) (hn : 0 < n) : ∃ g cap, v = .slice (some ⟨g, 0, none⟩) n cap ∧ v.ownBlock = some g := by
  rcases h.2 with ⟨rfl, h0⟩ | ⟨g, cap, cur, rfl, _⟩
  · omega
  · exact ⟨g, cap, rfl, rfl⟩
set_option maxHeartbeats 4000000 in
set_option maxRecDepth 100000 in
theorem specNumText (n : Int) (w : World) (hn : -9223372036854775808 ≤ n ∧ n ≤ 9223372036854775807) :
    Calls Tryd.prog 55 #[.int .i64 n] w fun e w' => e = .returned (.string (numB n)) ∧ Below w.heap.size w w' := by
  obtain ⟨i0, hi, hz0, hz1, hz2⟩ := info_parts info_u8M
  by_cases h0 : n = 0
  · subst h0
    have HR := hid (show numB 0 = ⟨#[48]⟩ by unfold numB Lib.itoa; rw [if_neg (by omega), Lib.decDigits]; rfl)
    clear hi hz0 hz1 hz2
    go_enter Tryd.func55, Tryd.ntmps55
    go_wp2
    go_ret
    rw [HR.out]
    exact ⟨rfl, Below.refl _ _⟩
  have g0 : (n == 0) = false := by rw [beq_eq_false_iff_ne]; exact h0
  have hnd : Lib.nDigits n.natAbs ≤ 20 := Lib.nDigits_le20 _ (by omega)
  have hst := hid (show Lib.decDigits n.natAbs = restD n.natAbs ++ [] by unfold restD; rw [if_neg (by omega), List.append_nil])
  have hdl : ∀ ds m, Lib.decDigits n.natAbs = restD m ++ ds → ds.length ≤ 20 := by
    intro ds m h
    have := congrArg List.length h
    rw [Lib.decDigits_length, List.length_append] at this
    omega
  have HDL := hid hdl
  clear hdl
  have HG := hid h0
  clear h0
  go_enter Tryd.func55, Tryd.ntmps55
  go_wp2
  go_loopw [3, 4] (fun out m wr => ∃ (mv : Int) (ds : List UInt8) (g cap : Nat), m = .int .i64 mv ∧ (-9223372036854775808 ≤ mv ∧ mv ≤ 9223372036854775807) ∧ Hid (Lib.decDigits n.natAbs = restD mv.natAbs ++ ds) ∧ out = .slice (some ⟨g, 0, none⟩) ds.length cap ∧ wr.ownsRow w.heap.size 5 1 out ds.length (byteVals ds) ∧ Below w.heap.size w wr) (fun _ m _ => (intOf m).natAbs)
  case atStart => exact ⟨n, [], w.heap.size, 0, rfl, hn, hst, rfl, own_none (Nat.le_refl _) _, ext_alloc _ _⟩
  case round =>
    obtain ⟨mv, ds, g, cap, rfl, hmv, HS, rfl, hown, hb⟩ := hrel
    have hdl := HDL.out ds _ HS.out
    by_cases hm : mv = 0
    · subst hm
      have HE := hid (show Lib.decDigits n.natAbs = ds by have := HS.out; unfold restD at this; simpa using this)
      clear HS
      by_cases hneg : n < 0
      · have HR := hid (show numB n = mkB (45 :: ds) by unfold numB Lib.itoa; rw [if_pos hneg, HE.out])
        have hlit : (wr.alloc (.cells #[.int .u8 (45)] 5)).ownsRow w.heap.size 5 1 (.slice (some ⟨wr.heap.size, 0, none⟩) 1 1) 1 [.int .u8 (45)] := World.ownsRow_lit wr #[.int .u8 (45)] 1 hb.size (by decide) rfl
        go_wp2_with ((at_builtin; refine wpList_append_own _ rfl _ _ 22 rfl w.heap.size 5 i0 (.int .u8 0) 1 1 Tryd.underlying22 hi hz0 hz1 hz2 rfl (by decide) _ _ _ rfl hlit ⟨g, 0, none⟩ ds.length cap (byteVals ds) rfl (by rw [byteVals_length, Nat.mul_one]) ?c1 ?c2 ?c3 ?c4 ?c5 ?_))
        case c1 => first | exact fun j u hu => (hown.alloc _).cells (g := g) rfl j u hu | (intro j u hu; have hcl := (hown.alloc (.cells #[.int .u8 (45)] 5)).cells (g := g) rfl j u hu; rw [Addr.add_lit, Nat.zero_add] at hcl; exact hcl)
        case c2 =>
          intro u hu
          unfold byteVals at hu
          obtain ⟨y, _, rfl⟩ := List.mem_map.1 hu
          rfl
        case c3 => unfold maxLen; omega
        case c4 => omega
        case c5 => first | (simp; exact Nat.le_trans hb.size (by omega)) | (exact Nat.le_trans hb.size (by omega))
        intro v' w2 hown2 hgrow _
        have hlt' := hlit.lt
        have hB2 : Below w.heap.size w w2 := (ext_trans hb (ext_alloc _ _)).grown hgrow (ext_trans hb (ext_alloc _ _)).size (fun q hq => (hlt' q hq).1)
        obtain ⟨g', cap', rfl, hob⟩ := own_some hown2 (by omega)
        clear hi hz0 hz1 hz2 hgrow hown hlt' hlit
        have hown3 : w2.ownsRow w.heap.size 5 1 (.slice (some ⟨g', 0, none⟩) (1 + ds.length) cap') (45 :: ds : List UInt8).length (byteVals (45 :: ds)) := by
          have e1 : (45 :: ds : List UInt8).length = 1 + ds.length := by rw [List.length_cons]; omega
          have e2 : byteVals (45 :: ds) = [.int .u8 45] ++ byteVals ds := rfl
          rw [e1, e2]
          exact hown2
        have hcv := own_string (P := Tryd.prog) (src := 22) (dst := 9) hown3 Tryd.underlying22 Tryd.underlying5 Tryd.underlying9
        clear hown2 hown3
        go_wp2
        go_ret
        rw [HR.out]
        exact ⟨rfl, hB2⟩
      · have HR := hid (show numB n = mkB ds by unfold numB Lib.itoa; rw [if_neg hneg, ← HE.out, show n.toNat = n.natAbs by omega])
        have hcv := own_string (P := Tryd.prog) (src := 22) (dst := 9) hown Tryd.underlying22 Tryd.underlying5 Tryd.underlying9
        clear hown hi hz0 hz1 hz2
        go_wp2
        go_ret
        rw [HR.out]
        exact ⟨rfl, hb⟩
    · have gm : (mv == 0) = false := by rw [beq_eq_false_iff_ne]; exact hm
      have hstep := restD_step (m := mv.natAbs) (by omega)
      obtain ⟨dg, hdg⟩ : ∃ dg, mv.natAbs % 10 = dg := ⟨_, rfl⟩
      rw [hdg] at hstep
      have hd10 : dg < 10 := by omega
      have hv1 : IntKind.u8.wrap (48 + (dg : Int)) = 48 + (dg : Int) := by simp [IntKind.wrap, IntKind.bits, IntKind.signed]; omega
      have hv2 : (48 + (dg : Int)) % 256 = 48 + (dg : Int) := by omega
      have gd : ¬ (dg : Int) < 0 := by omega
      by_cases hpos : 0 < mv
      · obtain ⟨q, hq⟩ : ∃ q, mv / 10 = q := ⟨_, rfl⟩
        have hq1 : mv.tdiv 10 = q := by rw [Int.tdiv_eq_ediv_of_nonneg (by omega)]; exact hq
        have hr : mv % 10 = (dg : Int) := by omega
        have hr1 : mv.tmod 10 = (dg : Int) := by rw [Int.tmod_eq_emod_of_nonneg (by omega)]; exact hr
        have hqa : q.natAbs = mv.natAbs / 10 := by omega
        have HN := hid (show Lib.decDigits n.natAbs = restD q.natAbs ++ (UInt8.ofNat (48 + dg) :: ds) by rw [HS.out, hstep, hqa]; simp)
        have hqb : -9223372036854775808 ≤ q ∧ q ≤ 9223372036854775807 := by omega
        have hqm : q.natAbs < mv.natAbs := by omega
        clear hstep hdg HS hqa hm
        have hlit : (wr.alloc (.cells #[.int .u8 (48 + (dg : Int))] 5)).ownsRow w.heap.size 5 1 (.slice (some ⟨wr.heap.size, 0, none⟩) 1 1) 1 [.int .u8 (48 + (dg : Int))] := World.ownsRow_lit wr #[.int .u8 (48 + (dg : Int))] 1 hb.size (by decide) rfl
        go_wp2_with ((at_builtin; refine wpList_append_own _ rfl _ _ 22 rfl w.heap.size 5 i0 (.int .u8 0) 1 1 Tryd.underlying22 hi hz0 hz1 hz2 rfl (by decide) _ _ _ rfl hlit ⟨g, 0, none⟩ ds.length cap (byteVals ds) rfl (by rw [byteVals_length, Nat.mul_one]) ?c1 ?c2 ?c3 ?c4 ?c5 ?_))
        case c1 => first | exact fun j u hu => (hown.alloc _).cells (g := g) rfl j u hu | (intro j u hu; have hcl := (hown.alloc (.cells #[.int .u8 (48 + (dg : Int))] 5)).cells (g := g) rfl j u hu; rw [Addr.add_lit, Nat.zero_add] at hcl; exact hcl)
        case c2 =>
          intro u hu
          unfold byteVals at hu
          obtain ⟨y, _, rfl⟩ := List.mem_map.1 hu
          rfl
        case c3 => unfold maxLen; omega
        case c4 => omega
        case c5 => first | (simp; exact Nat.le_trans hb.size (by omega)) | (exact Nat.le_trans hb.size (by omega))
        intro v' w2 hown2 hgrow _
        have hlt' := hlit.lt
        have hB2 : Below w.heap.size w w2 := (ext_trans hb (ext_alloc _ _)).grown hgrow (ext_trans hb (ext_alloc _ _)).size (fun q hq => (hlt' q hq).1)
        obtain ⟨g', cap', rfl, hob⟩ := own_some hown2 (by omega)
        clear hi hz0 hz1 hz2 hgrow hown hlt' hlit
        have hown3 : w2.ownsRow w.heap.size 5 1 (.slice (some ⟨g', 0, none⟩) (1 + ds.length) cap') (UInt8.ofNat (48 + dg) :: ds).length (byteVals (UInt8.ofNat (48 + dg) :: ds)) := by
          have e1 : (UInt8.ofNat (48 + dg) :: ds).length = 1 + ds.length := by rw [List.length_cons]; omega
          have e2 : byteVals (UInt8.ofNat (48 + dg) :: ds) = [.int .u8 (48 + (dg : Int))] ++ byteVals ds := by
            unfold byteVals
            rw [List.map_cons, u8_cast (show 48 + dg < 256 by omega)]
            rfl
          rw [e1, e2]
          exact hown2
        clear hown2
        go_wp2
        go_roundw
        case rel => exact ⟨q, UInt8.ofNat (48 + dg) :: ds, g', cap', rfl, by omega, HN, by rw [List.length_cons, Nat.add_comm], hown3, hB2⟩
        case measure => simp only [intOf]; omega
      · obtain ⟨q, hq⟩ : ∃ q, -((-mv) / 10) = q := ⟨_, rfl⟩
        have hq1 : mv.tdiv 10 = q := by
          rw [← hq, ← Int.tdiv_eq_ediv_of_nonneg (show 0 ≤ -mv by omega), ← Int.neg_tdiv, Int.neg_neg]
        have hr1 : mv.tmod 10 = -(dg : Int) := by
          have e : (-mv) % 10 = (dg : Int) := by omega
          rw [← e, ← Int.tmod_eq_emod_of_nonneg (show 0 ≤ -mv by omega), ← Int.neg_tmod, Int.neg_neg]
        have hqa : q.natAbs = mv.natAbs / 10 := by omega
        have HN := hid (show Lib.decDigits n.natAbs = restD q.natAbs ++ (UInt8.ofNat (48 + dg) :: ds) by rw [HS.out, hstep, hqa]; simp)
        have hqb : -9223372036854775808 ≤ q ∧ q ≤ 9223372036854775807 := by omega
        have hqm : q.natAbs < mv.natAbs := by omega
        clear hstep hdg HS hqa hm hq
        by_cases hdz : dg = 0
        · subst hdz
          have hr2 : mv.tmod 10 = 0 := by rw [hr1]; rfl
          clear hr1
          have hlit : (wr.alloc (.cells #[.int .u8 (48 + ((0 : Nat) : Int))] 5)).ownsRow w.heap.size 5 1 (.slice (some ⟨wr.heap.size, 0, none⟩) 1 1) 1 [.int .u8 (48 + ((0 : Nat) : Int))] := World.ownsRow_lit wr #[.int .u8 (48 + ((0 : Nat) : Int))] 1 hb.size (by decide) rfl
          go_wp2_with ((at_builtin; refine wpList_append_own _ rfl _ _ 22 rfl w.heap.size 5 i0 (.int .u8 0) 1 1 Tryd.underlying22 hi hz0 hz1 hz2 rfl (by decide) _ _ _ rfl hlit ⟨g, 0, none⟩ ds.length cap (byteVals ds) rfl (by rw [byteVals_length, Nat.mul_one]) ?c1 ?c2 ?c3 ?c4 ?c5 ?_))
          case c1 => first | exact fun j u hu => (hown.alloc _).cells (g := g) rfl j u hu | (intro j u hu; have hcl := (hown.alloc (.cells #[.int .u8 (48)] 5)).cells (g := g) rfl j u hu; rw [Addr.add_lit, Nat.zero_add] at hcl; exact hcl)
          case c2 =>
            intro u hu
            unfold byteVals at hu
            obtain ⟨y, _, rfl⟩ := List.mem_map.1 hu
            rfl
          case c3 => unfold maxLen; omega
          case c4 => omega
          case c5 => first | (simp; exact Nat.le_trans hb.size (by omega)) | (exact Nat.le_trans hb.size (by omega))
          intro v' w2 hown2 hgrow _
          have hlt' := hlit.lt
          have hB2 : Below w.heap.size w w2 := (ext_trans hb (ext_alloc _ _)).grown hgrow (ext_trans hb (ext_alloc _ _)).size (fun q hq => (hlt' q hq).1)
          obtain ⟨g', cap', rfl, hob⟩ := own_some hown2 (by omega)
          clear hi hz0 hz1 hz2 hgrow hown hlt' hlit
          have hown3 : w2.ownsRow w.heap.size 5 1 (.slice (some ⟨g', 0, none⟩) (1 + ds.length) cap') (UInt8.ofNat (48 + 0) :: ds).length (byteVals (UInt8.ofNat (48 + 0) :: ds)) := by
            have e1 : (UInt8.ofNat (48 + 0) :: ds).length = 1 + ds.length := by rw [List.length_cons]; omega
            have e2 : byteVals (UInt8.ofNat (48 + 0) :: ds) = [.int .u8 (48 + (0 : Int))] ++ byteVals ds := by
              unfold byteVals
              rw [List.map_cons, u8_cast (show 48 + 0 < 256 by omega)]
              rfl
            rw [e1, e2]
            exact hown2
          clear hown2
          go_wp2
          go_roundw
          case rel => exact ⟨q, UInt8.ofNat (48 + 0) :: ds, g', cap', rfl, by omega, HN, by rw [List.length_cons, Nat.add_comm], hown3, hB2⟩
          case measure => simp only [intOf]; omega
        · have gd2 : -(dg : Int) < 0 := by omega
          have hlit : (wr.alloc (.cells #[.int .u8 (48 + (dg : Int))] 5)).ownsRow w.heap.size 5 1 (.slice (some ⟨wr.heap.size, 0, none⟩) 1 1) 1 [.int .u8 (48 + (dg : Int))] := World.ownsRow_lit wr #[.int .u8 (48 + (dg : Int))] 1 hb.size (by decide) rfl
          go_wp2_with ((at_builtin; refine wpList_append_own _ rfl _ _ 22 rfl w.heap.size 5 i0 (.int .u8 0) 1 1 Tryd.underlying22 hi hz0 hz1 hz2 rfl (by decide) _ _ _ rfl hlit ⟨g, 0, none⟩ ds.length cap (byteVals ds) rfl (by rw [byteVals_length, Nat.mul_one]) ?c1 ?c2 ?c3 ?c4 ?c5 ?_))
          case c1 => first | exact fun j u hu => (hown.alloc _).cells (g := g) rfl j u hu | (intro j u hu; have hcl := (hown.alloc (.cells #[.int .u8 (48 + (dg : Int))] 5)).cells (g := g) rfl j u hu; rw [Addr.add_lit, Nat.zero_add] at hcl; exact hcl)
          case c2 =>
            intro u hu
            unfold byteVals at hu
            obtain ⟨y, _, rfl⟩ := List.mem_map.1 hu
            rfl
          case c3 => unfold maxLen; omega
          case c4 => omega
          case c5 => first | (simp; exact Nat.le_trans hb.size (by omega)) | (exact Nat.le_trans hb.size (by omega))
          intro v' w2 hown2 hgrow _
          have hlt' := hlit.lt
          have hB2 : Below w.heap.size w w2 := (ext_trans hb (ext_alloc _ _)).grown hgrow (ext_trans hb (ext_alloc _ _)).size (fun q hq => (hlt' q hq).1)
          obtain ⟨g', cap', rfl, hob⟩ := own_some hown2 (by omega)
          clear hi hz0 hz1 hz2 hgrow hown hlt' hlit
          have hown3 : w2.ownsRow w.heap.size 5 1 (.slice (some ⟨g', 0, none⟩) (1 + ds.length) cap') (UInt8.ofNat (48 + dg) :: ds).length (byteVals (UInt8.ofNat (48 + dg) :: ds)) := by
            have e1 : (UInt8.ofNat (48 + dg) :: ds).length = 1 + ds.length := by rw [List.length_cons]; omega
            have e2 : byteVals (UInt8.ofNat (48 + dg) :: ds) = [.int .u8 (48 + (dg : Int))] ++ byteVals ds := by
              unfold byteVals
              rw [List.map_cons, u8_cast (show 48 + dg < 256 by omega)]
              rfl
            rw [e1, e2]
            exact hown2
          clear hown2
          go_wp2
          go_roundw
          case rel => exact ⟨q, UInt8.ofNat (48 + dg) :: ds, g', cap', rfl, by omega, HN, by rw [List.length_cons, Nat.add_comm], hown3, hB2⟩
          case measure => simp only [intOf]; omega
end Go.Proofs.YtommldonooicjaaDoor
