/-
  What is proved here: spec.l02Sub and spec.l02Cmp: the difference and the comparison of two rows of digits. No condition but that the bytes are digits.
-/
import Derived.Test.YthfmhenphnllfaaGreatDoorCmpLaw
namespace Go.Proofs.YthfmhenphnllfaaGreatDoor
open Go.RowKit
set_option linter.unusedVariables false
set_option linter.unusedSimpArgs false

def sgn3 (a b : Nat) : Int := if a < b then -1 else if a = b then 0 else 1
theorem trim_eq {a b : List UInt8} (ha : digits a) (hb : digits b) (h : (trimL a).length = (trimL b).length) (hv : vD a = vD b) : trimL a = trimL b := by
  have key : ∀ (x y : List UInt8), digits x → digits y → x.length = y.length → vD x = vD y → x = y := by
    intro x
    induction x with
    | nil => intro y _ _ h _; exact (List.eq_nil_of_length_eq_zero h.symm).symm
    | cons c r ih =>
      intro y hx hy hl hv
      cases y with
      | nil => simp at hl
      | cons d t =>
        have hl' : r.length = t.length := by simpa using hl
        have hr : digits r := fun z hz => hx z (by simp [hz])
        have ht : digits t := fun z hz => hy z (by simp [hz])
        have h1 := vD_lt hr
        have h2 := vD_lt ht
        rw [vD_cons, vD_cons, hl'] at hv
        rw [hl'] at h1
        have hc := hx c (by simp)
        have hd := hy d (by simp)
        have e1 : c.toNat - 48 = d.toNat - 48 := by
          have a1 : ((c.toNat - 48) * 10 ^ t.length + vD r) / 10 ^ t.length = c.toNat - 48 := by
            rw [Nat.mul_comm, Nat.mul_add_div (Nat.pow_pos (by decide)), Nat.div_eq_of_lt h1, Nat.add_zero]
          have a2 : ((d.toNat - 48) * 10 ^ t.length + vD t) / 10 ^ t.length = d.toNat - 48 := by
            rw [Nat.mul_comm, Nat.mul_add_div (Nat.pow_pos (by decide)), Nat.div_eq_of_lt h2, Nat.add_zero]
          rw [← a1, hv, a2]
        rw [e1] at hv
        have e2 : c = d := UInt8.toNat.inj (by omega)
        rw [e2, ih t hr ht hl' (by omega)]
  exact key _ _ (digits_trim ha) (digits_trim hb) h (by rw [vD_trim, vD_trim]; exact hv)
theorem trim_short {a b : List UInt8} (ha : digits a) (hb : digits b) (h : (trimL a).length < (trimL b).length) : vD a < vD b := by
  rw [← vD_trim a, ← vD_trim b]
  have h1 := vD_lt (digits_trim ha)
  have hl := (trimL_len a).2
  rcases trimL_cases b with h2 | ⟨c, r, h2, h48⟩
  · rw [h2] at h
    simp only [List.length_cons, List.length_nil] at h
    omega
  · have h3 := vD_pos (c := c) (r := r) (by rw [← h2]; exact digits_trim hb) h48
    rw [h2] at h ⊢
    rw [List.length_cons] at h
    have : 10 ^ (trimL a).length ≤ 10 ^ r.length := Nat.pow_le_pow_right (by decide) (by omega)
    omega
set_option maxHeartbeats 4000000 in
theorem specNatCmp (a b : ByteArray) (w : World) (ha : digits a.data.toList) (hb : digits b.data.toList) (hsa : a.size ≤ 1000000) (hsb : b.size ≤ 1000000) :
    Calls Tryz.prog 118 #[.string a, .string b] w fun e w' => e = .returned (.int .i64 (sgn3 (vD a.data.toList) (vD b.data.toList))) ∧ w = w' := by
  have CA := hid (fun (w : World) => specTrim a w hsa)
  have CB := hid (fun (w : World) => specTrim b w hsb)
  obtain ⟨la, hla⟩ : ∃ l, a.data.toList = l := ⟨_, rfl⟩
  obtain ⟨lb, hlb⟩ : ∃ l, b.data.toList = l := ⟨_, rfl⟩
  obtain ⟨x, hx⟩ : ∃ x, trimB a = x := ⟨_, rfl⟩
  obtain ⟨y, hy⟩ : ∃ y, trimB b = y := ⟨_, rfl⟩
  rw [hx] at CA
  rw [hy] at CB
  have hxd : x.data.toList = trimL la := by rw [← hx]; unfold trimB; rw [mkB_data, hla]
  have hyd : y.data.toList = trimL lb := by rw [← hy]; unfold trimB; rw [mkB_data, hlb]
  have hxs : x.size = (trimL la).length := by rw [Lib.size_eq, hxd]
  have hys : y.size = (trimL lb).length := by rw [Lib.size_eq, hyd]
  rw [hla] at ha ⊢
  rw [hlb] at hb ⊢
  obtain ⟨R, hR⟩ : ∃ r, sgn3 (vD la) (vD lb) = r := ⟨_, rfl⟩
  rw [hR]
  unfold sgn3 at hR
  by_cases h1 : x.size < y.size
  · have HR := hid (show R = -1 by rw [← hR, if_pos (trim_short ha hb (by omega))])
    have g1 : (x.size : Int) < (y.size : Int) := by omega
    clear h1 hR hxs hys hx hy
    go_enter Tryz.func118, Tryz.ntmps118
    go_wp2_with fail
    refine (CA.out _).mono ?_
    rintro e w1 ⟨rfl, rfl⟩
    go_wp2_with fail
    refine (CB.out _).mono ?_
    rintro e w1 ⟨rfl, rfl⟩
    go_wp2
    go_ret
    rw [HR.out]
    exact ⟨rfl, by first | rfl | trivial⟩
  have g1 : ¬ (x.size : Int) < (y.size : Int) := by omega
  by_cases h2 : x.size = y.size
  · have g2 : ((x.size : Int) == (y.size : Int)) = true := by rw [beq_iff_eq]; omega
    have hless : Op.bytesLess x.toList y.toList = decide (vD la < vD lb) := by
      rw [Bool.eq_iff_iff, decide_eq_true_eq, Lib.toList_data, Lib.toList_data, hxd, hyd, less_iff (digits_trim ha) (digits_trim hb) (by omega), vD_trim, vD_trim]
    have hg2 : ((y.size : Int) == (y.size : Int)) = true := by rw [beq_iff_eq]
    by_cases h3 : vD la < vD lb
    · have HR := hid (show R = -1 by rw [← hR, if_pos h3])
      rw [decide_eq_true h3] at hless
      clear h1 h2 h3 hR hxs hys hx hy
      go_enter Tryz.func118, Tryz.ntmps118
      go_wp2_with fail
      refine (CA.out _).mono ?_
      rintro e w1 ⟨rfl, rfl⟩
      go_wp2_with fail
      refine (CB.out _).mono ?_
      rintro e w1 ⟨rfl, rfl⟩
      go_wp2
      go_ret
      rw [HR.out]
      exact ⟨rfl, by first | rfl | trivial⟩
    · rw [decide_eq_false h3] at hless
      by_cases h4 : vD la = vD lb
      · have HR := hid (show R = 0 by rw [← hR, if_neg h3, if_pos h4])
        have heq : (x.toList == y.toList) = true := by rw [beq_iff_eq, Lib.toList_data, Lib.toList_data, hxd, hyd, trim_eq ha hb (by omega) h4]
        clear h1 h2 h3 h4 hR hxs hys hx hy
        go_enter Tryz.func118, Tryz.ntmps118
        go_wp2_with fail
        refine (CA.out _).mono ?_
        rintro e w1 ⟨rfl, rfl⟩
        go_wp2_with fail
        refine (CB.out _).mono ?_
        rintro e w1 ⟨rfl, rfl⟩
        go_wp2
        go_ret
        rw [HR.out]
        exact ⟨rfl, by first | rfl | trivial⟩
      · have HR := hid (show R = 1 by rw [← hR, if_neg h3, if_neg h4])
        have heq : (x.toList == y.toList) = false := by
          rw [beq_eq_false_iff_ne, Lib.toList_data, Lib.toList_data, hxd, hyd]
          intro h5
          exact h4 (by rw [← vD_trim la, h5, vD_trim])
        clear h1 h2 h3 h4 hR hxs hys hx hy
        go_enter Tryz.func118, Tryz.ntmps118
        go_wp2_with fail
        refine (CA.out _).mono ?_
        rintro e w1 ⟨rfl, rfl⟩
        go_wp2_with fail
        refine (CB.out _).mono ?_
        rintro e w1 ⟨rfl, rfl⟩
        go_wp2
        go_ret
        rw [HR.out]
        exact ⟨rfl, by first | rfl | trivial⟩
  · have g2 : ((x.size : Int) == (y.size : Int)) = false := by rw [beq_eq_false_iff_ne]; omega
    have hgt := trim_short hb ha (by omega)
    have HR := hid (show R = 1 by rw [← hR, if_neg (by omega), if_neg (by omega)])
    have heq : (x.toList == y.toList) = false := by
      rw [beq_eq_false_iff_ne]
      intro h5
      exact h2 (by rw [ba_toList_inj h5])
    clear h1 h2 hR hxs hys hx hy
    go_enter Tryz.func118, Tryz.ntmps118
    go_wp2_with fail
    refine (CA.out _).mono ?_
    rintro e w1 ⟨rfl, rfl⟩
    go_wp2_with fail
    refine (CB.out _).mono ?_
    rintro e w1 ⟨rfl, rfl⟩
    go_wp2
    go_ret
    rw [HR.out]
    exact ⟨rfl, by first | rfl | trivial⟩
set_option maxHeartbeats 8000000 in
set_option maxRecDepth 100000 in
theorem specSub (a b : ByteArray) (w : World) (hda : digits a.data.toList) (hdb : digits b.data.toList) (ha : a.size ≤ 5000) (hb : b.size ≤ 5000) :
    Calls Tryz.prog 119 #[.string a, .string b] w fun e w' => e = .returned (.string (mkB (subL a.data.toList b.data.toList))) ∧ Below w.heap.size w w' := by
  obtain ⟨i0, hi, hz0, hz1, hz2⟩ := info_parts info_u8A
  obtain ⟨la, hla⟩ : ∃ l, a.data.toList = l := ⟨_, rfl⟩
  obtain ⟨lb, hlb⟩ : ∃ l, b.data.toList = l := ⟨_, rfl⟩
  have hsa : a.size = la.length := by rw [Lib.size_eq, hla]
  have CA := hid (fun (k : Nat) (w : World) (hk : k ≤ 1000000) => specDigit a k w hda (by omega) hk)
  have CB := hid (fun (k : Nat) (w : World) (hk : k ≤ 1000000) => specDigit b k w hdb (by omega) hk)
  rw [hla] at hda CA
  rw [hlb] at hdb CB
  rw [hla, hlb]
  have HDA := hid hda
  have HDB := hid hdb
  have HAL := hid (show subL la lb = trimL (outS la lb a.size) by unfold subL; rw [hsa])
  clear hda hdb hla hlb hsa
  go_enter Tryz.func119, Tryz.ntmps119
  go_wp2
  go_loopw [5, 6, 7] (fun out ow ki wr => ∃ (k g cap : Nat), k ≤ a.size ∧ ki = .int .i64 (k : Int) ∧ ow = .int .i64 (owS la lb k : Int) ∧ out = .slice (some ⟨g, 0, none⟩) k cap ∧ wr.ownsRow w.heap.size 5 1 out k (byteVals (outS la lb k)) ∧ Below w.heap.size w wr) (fun _ _ ki _ => a.size - (intOf ki).toNat)
  case atStart => exact ⟨0, w.heap.size, 0, Nat.zero_le _, rfl, by rw [owS]; rfl, rfl, own_none (Nat.le_refl _) _, ext_alloc _ _⟩
  case round =>
    obtain ⟨k, g, cap, hk, rfl, rfl, rfl, hown, hbl⟩ := hrel
    have HOL := hid (outS_len la lb k)
    by_cases hlt : k < a.size
    · have hcy := owS_le la lb k
      obtain ⟨hd10, hdf⟩ := dfS_le HDA.out HDB.out k
      have hda9 := dgA_le HDA.out k
      have hdb9 := dgA_le HDB.out k
      have HO := hid (show outS la lb (k + 1) = UInt8.ofNat (48 + dfS la lb k) :: outS la lb k by rw [outS])
      have hq0 : owS la lb (k + 1) = if dgA la k < dgA lb k + owS la lb k then 1 else 0 := by rw [owS]
      obtain ⟨c, hc⟩ : ∃ c, owS la lb k = c := ⟨_, rfl⟩
      obtain ⟨dg, hdg⟩ : ∃ m, dfS la lb k = m := ⟨_, rfl⟩
      obtain ⟨da, hdae⟩ : ∃ m, dgA la k = m := ⟨_, rfl⟩
      obtain ⟨db, hdbe⟩ : ∃ m, dgA lb k = m := ⟨_, rfl⟩
      obtain ⟨q, hq⟩ : ∃ m, owS la lb (k + 1) = m := ⟨_, rfl⟩
      have CAk := hid (CA.out k)
      have CBk := hid (CB.out k)
      rw [hdae] at CAk hda9
      rw [hdbe] at CBk hdb9
      rw [hdg, hdbe, hc, hdae, hq] at hdf
      rw [hdg] at HO hd10
      rw [hdae, hdbe, hc, hq] at hq0
      rw [hc] at hcy ⊢
      have HQ := hid hq
      have hv1 : IntKind.u8.wrap (48 + (dg : Int)) = 48 + (dg : Int) := by simp [IntKind.wrap, IntKind.bits, IntKind.signed]; omega
      have hv2 : (48 + (dg : Int)) % 256 = 48 + (dg : Int) := by omega
      have hw1 : IntKind.i64.wrap ((da : Int) - (db : Int)) = (da : Int) - (db : Int) := IntWalk.i64_in _ (by omega)
      have hw2 : IntKind.i64.wrap ((da : Int) - (db : Int) - (c : Int)) = (da : Int) - (db : Int) - (c : Int) := IntWalk.i64_in _ (by omega)
      have hi1 : (k : Int) < (a.size : Int) := by omega
      have hlit : (wr.alloc (.cells #[.int .u8 (48 + (dg : Int))] 5)).ownsRow w.heap.size 5 1 (.slice (some ⟨wr.heap.size, 0, none⟩) 1 1) 1 [.int .u8 (48 + (dg : Int))] := World.ownsRow_lit wr #[.int .u8 (48 + (dg : Int))] 1 hbl.size (by decide) rfl
      clear hc hdae hdbe hq hdg
      by_cases hneg : da < db + c
      · have hq1 : q = 1 := by rw [hq0, if_pos hneg]
        have g1 : (da : Int) - (db : Int) - (c : Int) < 0 := by omega
        have hsum : (da : Int) - (db : Int) - (c : Int) + 10 = (dg : Int) := by omega
        rw [hq1] at HQ
        clear hq0 hdf hneg hq1
        go_wp2_with fail
        refine (CAk.out _ (by omega)).mono ?_
        rintro e w1 ⟨rfl, rfl⟩
        go_wp2_with fail
        refine (CBk.out _ (by omega)).mono ?_
        rintro e w1 ⟨rfl, rfl⟩
        go_wp2_with ((at_builtin; refine wpList_append_own _ rfl _ _ 50 rfl w.heap.size 5 i0 (.int .u8 0) 1 1 Tryz.underlying50 hi hz0 hz1 hz2 rfl (by decide) _ _ _ rfl hlit ⟨g, 0, none⟩ k cap (byteVals (outS la lb k)) rfl (by rw [byteVals_length, Nat.mul_one, HOL.out]) ?c1 ?c2 ?c3 ?c4 ?c5 ?_))
        case c1 => first | exact fun j u hu => (hown.alloc _).cells (g := g) rfl j u hu | (intro j u hu; have hcl := (hown.alloc (.cells #[.int .u8 (48 + (dg : Int))] 5)).cells (g := g) rfl j u hu; rw [Addr.add_lit, Nat.zero_add] at hcl; exact hcl)
        case c2 =>
          intro u hu
          unfold byteVals at hu
          obtain ⟨y, _, rfl⟩ := List.mem_map.1 hu
          rfl
        case c3 => unfold maxLen; omega
        case c4 => omega
        case c5 => first | (simp; exact Nat.le_trans hbl.size (by omega)) | (exact Nat.le_trans hbl.size (by omega))
        intro v' w2 hown2 hgrow _
        have hlt' := hlit.lt
        have hB2 : Below w.heap.size w w2 := (ext_trans hbl (ext_alloc _ _)).grown hgrow (ext_trans hbl (ext_alloc _ _)).size (fun q hq => (hlt' q hq).1)
        obtain ⟨g', cap', rfl, hob⟩ := own_some hown2 (by omega)
        clear hi hz0 hz1 hz2 hgrow hown hlt' hlit
        have hown3 : w2.ownsRow w.heap.size 5 1 (.slice (some ⟨g', 0, none⟩) (1 + k) cap') (k + 1) (byteVals (outS la lb (k + 1))) := by
          have e2 : byteVals (outS la lb (k + 1)) = [.int .u8 (48 + (dg : Int))] ++ byteVals (outS la lb k) := by
            rw [HO.out]
            unfold byteVals
            rw [List.map_cons, u8_cast (show 48 + dg < 256 by omega)]
            rfl
          rw [e2, Nat.add_comm k 1]
          exact hown2
        clear hown2
        go_wp2
        go_roundw
        case rel => exact ⟨k + 1, g', cap', by omega, by go_num, by rw [HQ.out]; first | rfl | go_num, by rw [Nat.add_comm k 1], by rw [Nat.add_comm 1 k] at hown3 ⊢; exact hown3, hB2⟩
        case measure => simp [intOf]; omega
      · have hq1 : q = 0 := by rw [hq0, if_neg hneg]
        have g1 : ¬ (da : Int) - (db : Int) - (c : Int) < 0 := by omega
        have hsum : (da : Int) - (db : Int) - (c : Int) = (dg : Int) := by omega
        have g2 : ¬ (dg : Int) < 0 := by omega
        rw [hq1] at HQ
        clear hq0 hdf hneg hq1
        go_wp2_with fail
        refine (CAk.out _ (by omega)).mono ?_
        rintro e w1 ⟨rfl, rfl⟩
        go_wp2_with fail
        refine (CBk.out _ (by omega)).mono ?_
        rintro e w1 ⟨rfl, rfl⟩
        go_wp2_with ((at_builtin; refine wpList_append_own _ rfl _ _ 50 rfl w.heap.size 5 i0 (.int .u8 0) 1 1 Tryz.underlying50 hi hz0 hz1 hz2 rfl (by decide) _ _ _ rfl hlit ⟨g, 0, none⟩ k cap (byteVals (outS la lb k)) rfl (by rw [byteVals_length, Nat.mul_one, HOL.out]) ?c1 ?c2 ?c3 ?c4 ?c5 ?_))
        case c1 => first | exact fun j u hu => (hown.alloc _).cells (g := g) rfl j u hu | (intro j u hu; have hcl := (hown.alloc (.cells #[.int .u8 (48 + (dg : Int))] 5)).cells (g := g) rfl j u hu; rw [Addr.add_lit, Nat.zero_add] at hcl; exact hcl)
        case c2 =>
          intro u hu
          unfold byteVals at hu
          obtain ⟨y, _, rfl⟩ := List.mem_map.1 hu
          rfl
        case c3 => unfold maxLen; omega
        case c4 => omega
        case c5 => first | (simp; exact Nat.le_trans hbl.size (by omega)) | (exact Nat.le_trans hbl.size (by omega))
        intro v' w2 hown2 hgrow _
        have hlt' := hlit.lt
        have hB2 : Below w.heap.size w w2 := (ext_trans hbl (ext_alloc _ _)).grown hgrow (ext_trans hbl (ext_alloc _ _)).size (fun q hq => (hlt' q hq).1)
        obtain ⟨g', cap', rfl, hob⟩ := own_some hown2 (by omega)
        clear hi hz0 hz1 hz2 hgrow hown hlt' hlit
        have hown3 : w2.ownsRow w.heap.size 5 1 (.slice (some ⟨g', 0, none⟩) (1 + k) cap') (k + 1) (byteVals (outS la lb (k + 1))) := by
          have e2 : byteVals (outS la lb (k + 1)) = [.int .u8 (48 + (dg : Int))] ++ byteVals (outS la lb k) := by
            rw [HO.out]
            unfold byteVals
            rw [List.map_cons, u8_cast (show 48 + dg < 256 by omega)]
            rfl
          rw [e2, Nat.add_comm k 1]
          exact hown2
        clear hown2
        go_wp2
        go_roundw
        case rel => exact ⟨k + 1, g', cap', by omega, by go_num, by rw [HQ.out]; first | rfl | go_num, by rw [Nat.add_comm k 1], by rw [Nat.add_comm 1 k] at hown3 ⊢; exact hown3, hB2⟩
        case measure => simp [intOf]; omega
    · obtain rfl : k = a.size := by omega
      have hi1 : ¬ (a.size : Int) < (a.size : Int) := by omega
      have hcv := own_string (P := Tryz.prog) (src := 50) (dst := 9) (l := outS la lb a.size) (by rw [HOL.out]; exact hown) Tryz.underlying50 Tryz.underlying5 Tryz.underlying9
      have hsz : (mkB (outS la lb a.size)).size ≤ 1000000 := by rw [mkB_size, HOL.out]; omega
      clear hi hz0 hz1 hz2 hown
      go_wp2_with fail
      refine (specTrim (mkB (outS la lb a.size)) _ hsz).mono ?_
      rintro e w2 ⟨rfl, rfl⟩
      go_wp2
      go_ret
      rw [HAL.out]
      exact ⟨rfl, hbl⟩
end Go.Proofs.YthfmhenphnllfaaGreatDoor
