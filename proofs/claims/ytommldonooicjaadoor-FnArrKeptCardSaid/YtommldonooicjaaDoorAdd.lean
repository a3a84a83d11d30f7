/-
  What is proved here: spec.l02Digit, spec.l02Add, impl.digitAt, impl.natAdd: the sum of two rows of digits. No condition but that the bytes are digits.
-/
import Derived.Test.YtommldonooicjaaDoorTrim
import Derived.Test.YtommldonooicjaaDoorNum
namespace Go.Proofs.YtommldonooicjaaDoor
open Go.RowKit
set_option linter.unusedVariables false
set_option linter.unusedSimpArgs false

def digits (l : List UInt8) : Prop := ∀ c ∈ l, 48 ≤ c.toNat ∧ c.toNat ≤ 57
/-- the digit at a place from the end -/
def dgA (l : List UInt8) (k : Nat) : Nat := match l.reverse[k]? with | some c => c.toNat - 48 | none => 0
theorem dgA_le {l : List UInt8} (h : digits l) (k : Nat) : dgA l k ≤ 9 := by
  unfold dgA
  cases hk : l.reverse[k]? with
  | none => exact Nat.zero_le _
  | some c =>
    have := h c (List.mem_reverse.1 (List.mem_of_getElem? hk))
    show c.toNat - 48 ≤ 9
    omega
theorem dgA_far {l : List UInt8} {k : Nat} (h : l.length ≤ k) : dgA l k = 0 := by
  unfold dgA
  rw [List.getElem?_eq_none (by rw [List.length_reverse]; exact h)]
theorem dgA_at {s : ByteArray} {k : Nat} (h : k < s.size) : dgA s.data.toList k = (s[s.size - 1 - k]'(by omega)).toNat - 48 := by
  have hl : s.data.toList.length = s.size := (Lib.size_eq s).symm
  unfold dgA
  rw [List.getElem?_reverse (by rw [hl]; exact h), hl, List.getElem?_eq_getElem (by rw [hl]; omega)]
  rfl

/-- the carry into a place -/
def cyA (a b : List UInt8) : Nat → Nat
  | 0 => 0
  | k + 1 => (dgA a k + dgA b k + cyA a b k) / 10
def smA (a b : List UInt8) (k : Nat) : Nat := dgA a k + dgA b k + cyA a b k
theorem cyA_succ (a b : List UInt8) (k : Nat) : cyA a b (k + 1) = smA a b k / 10 := by rw [cyA]; rfl
theorem cyA_le {a b : List UInt8} (ha : digits a) (hb : digits b) : ∀ k, cyA a b k ≤ 1
  | 0 => by rw [cyA]; exact Nat.zero_le _
  | k + 1 => by
    have h1 := dgA_le ha k
    have h2 := dgA_le hb k
    have h3 := cyA_le ha hb k
    rw [cyA]
    omega
theorem smA_le {a b : List UInt8} (ha : digits a) (hb : digits b) (k : Nat) : smA a b k ≤ 19 := by
  have h1 := dgA_le ha k
  have h2 := dgA_le hb k
  have h3 := cyA_le ha hb k
  unfold smA
  omega
/-- the first k digits of the sum, from the end -/
def outA (a b : List UInt8) : Nat → List UInt8
  | 0 => []
  | k + 1 => UInt8.ofNat (48 + smA a b k % 10) :: outA a b k
theorem outA_len (a b : List UInt8) : ∀ k, (outA a b k).length = k
  | 0 => rfl
  | k + 1 => by show (outA a b k).length + 1 = k + 1; rw [outA_len a b k]
def addL (a b : List UInt8) : List UInt8 := trimL (outA a b (max a.length b.length + 1))
/-- where nothing is carried, one place less does -/
theorem addL_short {a b : List UInt8} (h : cyA a b (max a.length b.length) = 0) : trimL (outA a b (max a.length b.length)) = addL a b := by
  unfold addL
  rw [outA]
  have e : smA a b (max a.length b.length) = 0 := by
    unfold smA
    rw [dgA_far (by omega), dgA_far (by omega), h]
  rw [e]
  show _ = trimL (48 :: _)
  rw [trimL_zero]
theorem cyA_end {a b : List UInt8} (ha : digits a) (hb : digits b) : cyA a b (max a.length b.length + 1) = 0 := by
  have := cyA_le ha hb (max a.length b.length)
  rw [cyA, dgA_far (by omega), dgA_far (by omega)]
  omega
set_option maxHeartbeats 1000000 in
theorem specDigit (s : ByteArray) (k : Nat) (w : World) (hd : digits s.data.toList) (hs : s.size ≤ 1000000) (hk : k ≤ 1000000) :
    Calls Tryd.prog 116 #[.string s, .int .i64 (k : Int)] w fun e w' => e = .returned (.int .i64 (dgA s.data.toList k : Int)) ∧ w = w' := by
  by_cases h : k < s.size
  · have hD := dgA_at h
    obtain ⟨c, hc⟩ : ∃ c : UInt8, s[s.size - 1 - k]'(by omega) = c := ⟨_, rfl⟩
    have hcd : 48 ≤ c.toNat ∧ c.toNat ≤ 57 := by
      rw [← hc]
      exact hd _ (by rw [← get_list s _ (by omega)]; exact List.getElem_mem _)
    rw [hc] at hD
    have HD := hid hD
    have hi1 : (s.size : Int) - 1 - (k : Int) = ((s.size - 1 - k : Nat) : Int) := by omega
    have hlt : s.size - 1 - k < s.size := by omega
    have hgt : ¬ (s.size : Int) ≤ (k : Int) := by omega
    have hix : (s[s.size - 1 - k]'hlt : UInt8).toNat = c.toNat := by rw [hc]
    have hw1 : IntKind.u8.wrap ((c.toNat : Int) - 48) = (c.toNat : Int) - 48 := by simp [IntKind.wrap, IntKind.bits, IntKind.signed]; omega
    have hw2 : IntKind.i64.wrap ((c.toNat : Int) - 48) = (c.toNat : Int) - 48 := IntWalk.i64_in _ (by omega)
    have he : ((c.toNat - 48 : Nat) : Int) = (c.toNat : Int) - 48 := by omega
    clear hD hc
    go_enter Tryd.func116, Tryd.ntmps116
    go_wp2
    go_ret
    rw [HD.out, he]
    exact ⟨rfl, rfl⟩
  · have HD := hid (dgA_far (l := s.data.toList) (k := k) (by rw [← Lib.size_eq]; omega))
    have hge : (s.size : Int) ≤ (k : Int) := by omega
    go_enter Tryd.func116, Tryd.ntmps116
    go_wp2
    go_ret
    rw [HD.out]
    exact ⟨rfl, rfl⟩
theorem info_u8A : (Tryd.prog.info? 5).map (fun i => (i.zero, i.size, i.bytes)) = some (some (.int .u8 0), 1, 1) := by kernel_rfl
set_option maxHeartbeats 8000000 in
set_option maxRecDepth 100000 in
theorem specAdd (a b : ByteArray) (w : World) (hda : digits a.data.toList) (hdb : digits b.data.toList) (ha : a.size ≤ 5000) (hb : b.size ≤ 5000) :
    Calls Tryd.prog 117 #[.string a, .string b] w fun e w' => e = .returned (.string (mkB (addL a.data.toList b.data.toList))) ∧ Below w.heap.size w w' := by
  obtain ⟨i0, hi, hz0, hz1, hz2⟩ := info_parts info_u8A
  obtain ⟨la, hla⟩ : ∃ l, a.data.toList = l := ⟨_, rfl⟩
  obtain ⟨lb, hlb⟩ : ∃ l, b.data.toList = l := ⟨_, rfl⟩
  have hsa : a.size = la.length := by rw [Lib.size_eq, hla]
  have hsb : b.size = lb.length := by rw [Lib.size_eq, hlb]
  have CA := hid (fun (k : Nat) (w : World) (hk : k ≤ 1000000) => specDigit a k w hda (by omega) hk)
  have CB := hid (fun (k : Nat) (w : World) (hk : k ≤ 1000000) => specDigit b k w hdb (by omega) hk)
  rw [hla] at hda CA
  rw [hlb] at hdb CB
  rw [hla, hlb]
  have HDA := hid hda
  have HDB := hid hdb
  have HSA := hid hsa
  have HSB := hid hsb
  have hmx : max la.length lb.length ≤ 5000 := by omega
  have HMX := hid (show ∀ n, max la.length lb.length ≤ n ↔ la.length ≤ n ∧ lb.length ≤ n from fun n => by omega)
  have HM2 := hid (show max la.length lb.length = la.length ∨ max la.length lb.length = lb.length by omega)
  obtain ⟨mx, hm⟩ : ∃ m, max la.length lb.length = m := ⟨_, rfl⟩
  have HS := hid (addL_short (a := la) (b := lb))
  have HE := hid (cyA_end hda hdb)
  have HAL := hid (show addL la lb = trimL (outA la lb (mx + 1)) by unfold addL; rw [hm])
  rw [hm] at hmx HMX HM2 HS HE
  clear hda hdb hla hlb hsa hsb hm
  go_enter Tryd.func117, Tryd.ntmps117
  go_wp2
  go_loopw [5, 6, 7] (fun out cy ki wr => ∃ (k g cap : Nat), k ≤ mx + 1 ∧ ki = .int .i64 (k : Int) ∧ cy = .int .i64 (cyA la lb k : Int) ∧ out = .slice (some ⟨g, 0, none⟩) k cap ∧ wr.ownsRow w.heap.size 5 1 out k (byteVals (outA la lb k)) ∧ Below w.heap.size w wr) (fun _ cy ki _ => 2 * (mx + 1 - (intOf ki).toNat))
  case atStart => exact ⟨0, w.heap.size, 0, Nat.zero_le _, rfl, by rw [cyA]; rfl, rfl, own_none (Nat.le_refl _) _, ext_alloc _ _⟩
  case round =>
    obtain ⟨k, g, cap, hk, rfl, rfl, rfl, hown, hbl⟩ := hrel
    have hcy := cyA_le HDA.out HDB.out k
    have hcs := cyA_succ la lb k
    have hsm := smA_le HDA.out HDB.out k
    have HSM := hid (show smA la lb k = dgA la k + dgA lb k + cyA la lb k from rfl)
    have HO := hid (show outA la lb (k + 1) = UInt8.ofNat (48 + smA la lb k % 10) :: outA la lb k by rw [outA])
    have HOL := hid (outA_len la lb k)
    by_cases hgo : (k : Int) < (a.size : Int) ∨ (k : Int) < (b.size : Int) ∨ 0 < cyA la lb k
    · have hk1 : k ≤ mx := by
        rcases hgo with h | h | h
        · have := (HMX.out mx).1 (Nat.le_refl _); have := HSA.out; omega
        · have := (HMX.out mx).1 (Nat.le_refl _); have := HSB.out; omega
        · rcases Nat.lt_or_ge mx k with h' | h'
          · have : k = mx + 1 := by omega
            subst this
            have := HE.out
            omega
          · exact h'
      obtain ⟨c, hc⟩ : ∃ c, cyA la lb k = c := ⟨_, rfl⟩
      obtain ⟨sm, hsme⟩ : ∃ m, smA la lb k = m := ⟨_, rfl⟩
      obtain ⟨da, hdae⟩ : ∃ m, dgA la k = m := ⟨_, rfl⟩
      obtain ⟨db, hdbe⟩ : ∃ m, dgA lb k = m := ⟨_, rfl⟩
      obtain ⟨q, hq⟩ : ∃ m, cyA la lb (k + 1) = m := ⟨_, rfl⟩
      have CAk := hid (CA.out k)
      have CBk := hid (CB.out k)
      rw [hc, hsme, hdae, hdbe] at HSM
      rw [hsme] at HO hsm hcs
      rw [hq] at hcs
      rw [hc] at hcy hgo ⊢
      rw [hdae] at CAk
      rw [hdbe] at CBk
      obtain ⟨dg, hdg⟩ : ∃ m, sm % 10 = m := ⟨_, rfl⟩
      rw [hdg] at HO
      have hd10 : dg < 10 := by omega
      have hsum : (da : Int) + (db : Int) + (c : Int) = (sm : Int) := by have := HSM.out; omega
      have hr1 : (sm : Int).tmod 10 = (dg : Int) := by rw [Int.tmod_eq_emod_of_nonneg (by omega)]; omega
      have hr2 : (sm : Int) % 10 = (dg : Int) := by omega
      have hq1 : (sm : Int).tdiv 10 = (q : Int) := by rw [Int.tdiv_eq_ediv_of_nonneg (by omega)]; omega
      have hq2 : (sm : Int) / 10 = (q : Int) := by omega
      have hda9 : da ≤ 19 := by have := HSM.out; omega
      have hdb9 : db ≤ 19 := by have := HSM.out; omega
      have hv1 : IntKind.u8.wrap (48 + (dg : Int)) = 48 + (dg : Int) := by simp [IntKind.wrap, IntKind.bits, IntKind.signed]; omega
      have hv2 : (48 + (dg : Int)) % 256 = 48 + (dg : Int) := by omega
      have HQ := hid hq
      have HC := hid hc
      clear hc hsme hdae hdbe hq hcs hdg HSM
      have hlit : (wr.alloc (.cells #[.int .u8 (48 + (dg : Int))] 5)).ownsRow w.heap.size 5 1 (.slice (some ⟨wr.heap.size, 0, none⟩) 1 1) 1 [.int .u8 (48 + (dg : Int))] := World.ownsRow_lit wr #[.int .u8 (48 + (dg : Int))] 1 hbl.size (by decide) rfl
      have hge1 : ¬ (k : Int) < (a.size : Int) → (a.size : Int) ≤ (k : Int) := by omega
      by_cases h1 : (k : Int) < (a.size : Int)
      · go_wp2_with fail
        refine (CAk.out _ (by omega)).mono ?_
        rintro e w1 ⟨rfl, rfl⟩
        go_wp2_with fail
        refine (CBk.out _ (by omega)).mono ?_
        rintro e w1 ⟨rfl, rfl⟩
        go_wp2_with ((at_builtin; refine wpList_append_own _ rfl _ _ 22 rfl w.heap.size 5 i0 (.int .u8 0) 1 1 Tryd.underlying22 hi hz0 hz1 hz2 rfl (by decide) _ _ _ rfl hlit ⟨g, 0, none⟩ k cap (byteVals (outA la lb k)) rfl (by rw [byteVals_length, Nat.mul_one, HOL.out]) ?c1 ?c2 ?c3 ?c4 ?c5 ?_))
        case c1 => first | exact fun j u hu => (hown.alloc _).cells (g := g) rfl j u hu | (intro j u hu; have hcl := (hown.alloc (.cells #[.int .u8 (48 + (dg : Int))] 5)).cells (g := g) rfl j u hu; rw [Addr.add_lit, Nat.zero_add] at hcl; exact hcl)
        case c2 =>
          intro u hu
          unfold byteVals at hu
          obtain ⟨y, _, rfl⟩ := List.mem_map.1 hu
          rfl
        case c3 => unfold maxLen; omega
        case c4 => omega
        case c5 => first | (simp; exact Nat.le_trans hbl.size (by omega)) | (exact Nat.le_trans hbl.size (by omega))
        intro v' w2 hown2 hgrow _
        have hlt' := hlit.lt
        have hB2 : Below w.heap.size w w2 := (ext_trans hbl (ext_alloc _ _)).grown hgrow (ext_trans hbl (ext_alloc _ _)).size (fun q hq => (hlt' q hq).1)
        obtain ⟨g', cap', rfl, hob⟩ := own_some hown2 (by omega)
        clear hi hz0 hz1 hz2 hgrow hown hlt' hlit
        have hown3 : w2.ownsRow w.heap.size 5 1 (.slice (some ⟨g', 0, none⟩) (1 + k) cap') (k + 1) (byteVals (outA la lb (k + 1))) := by
          have e2 : byteVals (outA la lb (k + 1)) = [.int .u8 (48 + (dg : Int))] ++ byteVals (outA la lb k) := by
            rw [HO.out]
            unfold byteVals
            rw [List.map_cons, u8_cast (show 48 + dg < 256 by omega)]
            rfl
          rw [e2, Nat.add_comm k 1]
          exact hown2
        clear hown2
        go_wp2
        go_roundw
        case rel => exact ⟨k + 1, g', cap', by omega, by go_num, by rw [HQ.out], by rw [Nat.add_comm k 1], by rw [Nat.add_comm 1 k] at hown3 ⊢; exact hown3, hB2⟩
        case measure => simp [intOf]; omega
      · by_cases h2 : (k : Int) < (b.size : Int)
        · go_wp2_with fail
          refine (CAk.out _ (by omega)).mono ?_
          rintro e w1 ⟨rfl, rfl⟩
          go_wp2_with fail
          refine (CBk.out _ (by omega)).mono ?_
          rintro e w1 ⟨rfl, rfl⟩
          go_wp2_with ((at_builtin; refine wpList_append_own _ rfl _ _ 22 rfl w.heap.size 5 i0 (.int .u8 0) 1 1 Tryd.underlying22 hi hz0 hz1 hz2 rfl (by decide) _ _ _ rfl hlit ⟨g, 0, none⟩ k cap (byteVals (outA la lb k)) rfl (by rw [byteVals_length, Nat.mul_one, HOL.out]) ?c1 ?c2 ?c3 ?c4 ?c5 ?_))
          case c1 => first | exact fun j u hu => (hown.alloc _).cells (g := g) rfl j u hu | (intro j u hu; have hcl := (hown.alloc (.cells #[.int .u8 (48 + (dg : Int))] 5)).cells (g := g) rfl j u hu; rw [Addr.add_lit, Nat.zero_add] at hcl; exact hcl)
          case c2 =>
            intro u hu
            unfold byteVals at hu
            obtain ⟨y, _, rfl⟩ := List.mem_map.1 hu
            rfl
          case c3 => unfold maxLen; omega
          case c4 => omega
          case c5 => first | (simp; exact Nat.le_trans hbl.size (by omega)) | (exact Nat.le_trans hbl.size (by omega))
          intro v' w2 hown2 hgrow _
          have hlt' := hlit.lt
          have hB2 : Below w.heap.size w w2 := (ext_trans hbl (ext_alloc _ _)).grown hgrow (ext_trans hbl (ext_alloc _ _)).size (fun q hq => (hlt' q hq).1)
          obtain ⟨g', cap', rfl, hob⟩ := own_some hown2 (by omega)
          clear hi hz0 hz1 hz2 hgrow hown hlt' hlit
          have hown3 : w2.ownsRow w.heap.size 5 1 (.slice (some ⟨g', 0, none⟩) (1 + k) cap') (k + 1) (byteVals (outA la lb (k + 1))) := by
            have e2 : byteVals (outA la lb (k + 1)) = [.int .u8 (48 + (dg : Int))] ++ byteVals (outA la lb k) := by
              rw [HO.out]
              unfold byteVals
              rw [List.map_cons, u8_cast (show 48 + dg < 256 by omega)]
              rfl
            rw [e2, Nat.add_comm k 1]
            exact hown2
          clear hown2
          go_wp2
          go_roundw
          case rel => exact ⟨k + 1, g', cap', by omega, by go_num, by rw [HQ.out], by rw [Nat.add_comm k 1], by rw [Nat.add_comm 1 k] at hown3 ⊢; exact hown3, hB2⟩
          case measure => simp [intOf]; omega
        · have h3 : (0 : Int) < (c : Int) := by omega
          go_wp2_with fail
          refine (CAk.out _ (by omega)).mono ?_
          rintro e w1 ⟨rfl, rfl⟩
          go_wp2_with fail
          refine (CBk.out _ (by omega)).mono ?_
          rintro e w1 ⟨rfl, rfl⟩
          go_wp2_with ((at_builtin; refine wpList_append_own _ rfl _ _ 22 rfl w.heap.size 5 i0 (.int .u8 0) 1 1 Tryd.underlying22 hi hz0 hz1 hz2 rfl (by decide) _ _ _ rfl hlit ⟨g, 0, none⟩ k cap (byteVals (outA la lb k)) rfl (by rw [byteVals_length, Nat.mul_one, HOL.out]) ?c1 ?c2 ?c3 ?c4 ?c5 ?_))
          case c1 => first | exact fun j u hu => (hown.alloc _).cells (g := g) rfl j u hu | (intro j u hu; have hcl := (hown.alloc (.cells #[.int .u8 (48 + (dg : Int))] 5)).cells (g := g) rfl j u hu; rw [Addr.add_lit, Nat.zero_add] at hcl; exact hcl)
          case c2 =>
            intro u hu
            unfold byteVals at hu
            obtain ⟨y, _, rfl⟩ := List.mem_map.1 hu
            rfl
          case c3 => unfold maxLen; omega
          case c4 => omega
          case c5 => first | (simp; exact Nat.le_trans hbl.size (by omega)) | (exact Nat.le_trans hbl.size (by omega))
          intro v' w2 hown2 hgrow _
          have hlt' := hlit.lt
          have hB2 : Below w.heap.size w w2 := (ext_trans hbl (ext_alloc _ _)).grown hgrow (ext_trans hbl (ext_alloc _ _)).size (fun q hq => (hlt' q hq).1)
          obtain ⟨g', cap', rfl, hob⟩ := own_some hown2 (by omega)
          clear hi hz0 hz1 hz2 hgrow hown hlt' hlit
          have hown3 : w2.ownsRow w.heap.size 5 1 (.slice (some ⟨g', 0, none⟩) (1 + k) cap') (k + 1) (byteVals (outA la lb (k + 1))) := by
            have e2 : byteVals (outA la lb (k + 1)) = [.int .u8 (48 + (dg : Int))] ++ byteVals (outA la lb k) := by
              rw [HO.out]
              unfold byteVals
              rw [List.map_cons, u8_cast (show 48 + dg < 256 by omega)]
              rfl
            rw [e2, Nat.add_comm k 1]
            exact hown2
          clear hown2
          go_wp2
          go_roundw
          case rel => exact ⟨k + 1, g', cap', by omega, by go_num, by rw [HQ.out], by rw [Nat.add_comm k 1], by rw [Nat.add_comm 1 k] at hown3 ⊢; exact hown3, hB2⟩
          case measure => simp [intOf]; omega
    · have h1 : ¬ (k : Int) < (a.size : Int) := fun h => hgo (Or.inl h)
      have h2 : ¬ (k : Int) < (b.size : Int) := fun h => hgo (Or.inr (Or.inl h))
      have h3 : cyA la lb k = 0 := by omega
      have HR := hid (show trimL (outA la lb k) = addL la lb by
        have hkm : mx ≤ k := (HMX.out k).2 ⟨by have := HSA.out; omega, by have := HSB.out; omega⟩
        by_cases he : k = mx
        · subst he; exact HS.out h3
        · have he2 : k = mx + 1 := by omega
          rw [HAL.out, he2])
      rw [h3] at *
      clear hgo
      have hcv := own_string (P := Tryd.prog) (src := 22) (dst := 9) (l := outA la lb k) (by rw [HOL.out]; exact hown) Tryd.underlying22 Tryd.underlying5 Tryd.underlying9
      have hsz : (mkB (outA la lb k)).size ≤ 1000000 := by rw [mkB_size, HOL.out]; omega
      clear hi hz0 hz1 hz2 hown
      go_wp2_with fail
      refine (specTrim (mkB (outA la lb k)) _ hsz).mono ?_
      rintro e w2 ⟨rfl, rfl⟩
      go_wp2
      go_ret
      rw [← HR.out]
      exact ⟨rfl, hbl⟩
theorem row_end {w : World} {g m : Nat} {Z C : List Value} {e : TypeId} (c : Value) (hg : w.heap[g]? = some (.cells (Z ++ C).toArray e (0, 0))) (hZ : Z.length = m + 1) :
    ∃ Z', Z'.length = m ∧ (w.setCell ⟨g, m, none⟩ c).heap[g]? = some (.cells (Z' ++ c :: C).toArray e (0, 0)) := by
  have hsp : Z = Z.take m ++ Z.drop m := (List.take_append_drop m Z).symm
  obtain ⟨h1, _⟩ := setAll_block [c] w g m 0 (Z.take m) (Z.drop m) C e (by rw [← hsp]; exact hg) (by rw [List.length_take]; omega) (by rw [List.length_drop]; simp; omega)
  rw [List.append_assoc] at h1
  exact ⟨Z.take m, by rw [List.length_take]; omega, h1⟩
end Go.Proofs.YtommldonooicjaaDoor
