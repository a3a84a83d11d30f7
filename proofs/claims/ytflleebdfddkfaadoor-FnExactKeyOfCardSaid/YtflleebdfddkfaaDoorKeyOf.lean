/-
  What is proved here: spec.KeyOf and impl.KeyOf return the key of a list of values. The condition 'TP' says that the library's tables lie in the world.
-/
import Derived.Test.YtflleebdfddkfaaDoorValCat
import Derived.Test.YtflleebdfddkfaaDoorShelfB
import Derived.Lib.AppendStr
import Derived.Lib.Join
namespace Go.Proofs.YtflleebdfddkfaaDoor
open Go.RowKit
set_option linter.unusedVariables false
set_option linter.unusedSimpArgs false

/-- the first k texts, joined -/
def keyP (ts : List (List UInt8)) (k : Nat) : List UInt8 := Lib.join (ts.take k) [28]
theorem join_snoc : ∀ (l : List (List UInt8)) (y : List UInt8), Lib.join (l ++ [y]) [28] = if l = [] then y else Lib.join l [28] ++ [28] ++ y
  | [], y => Lib.join_one y [28]
  | x :: r, y => by
    rw [if_neg (by simp), List.cons_append, Lib.join_cons, Lib.join_cons]
    unfold Lib.joinTail
    simp
theorem keyP_zero (ts : List (List UInt8)) : keyP ts 0 = [] := Lib.join_nil _
theorem keyP_one {ts : List (List UInt8)} (h : 0 < ts.length) : keyP ts 1 = keyP ts 0 ++ ts[0] := by
  rw [keyP_zero]
  unfold keyP
  rw [List.take_add_one, List.getElem?_eq_getElem h]
  simpa using Lib.join_one ts[0] [28]
theorem keyP_succ {ts : List (List UInt8)} {k : Nat} (h : k < ts.length) (h0 : 0 < k) : keyP ts (k + 1) = keyP ts k ++ [28] ++ ts[k] := by
  unfold keyP
  rw [List.take_add_one, List.getElem?_eq_getElem h]
  show Lib.join (ts.take k ++ [ts[k]]) [28] = _
  rw [join_snoc, if_neg]
  intro h'
  have := congrArg List.length h'
  rw [List.length_take] at this
  simp only [List.length_nil] at this
  omega
theorem keyP_step_len {ts : List (List UInt8)} {k : Nat} (h : k < ts.length) : (keyP ts (k + 1)).length ≤ (keyP ts k).length + 1 + ts[k].length ∧ (keyP ts k).length ≤ (keyP ts (k + 1)).length := by
  by_cases h0 : 0 < k
  · rw [keyP_succ h h0]
    simp only [List.length_append, List.length_cons, List.length_nil]
    omega
  · obtain rfl : k = 0 := by omega
    rw [keyP_one h]
    simp only [List.length_append]
    omega
theorem keyP_len {ts : List (List UInt8)} {m : Nat} (hb : ∀ t ∈ ts, t.length ≤ m) : ∀ k, k ≤ ts.length → (keyP ts k).length ≤ k * (m + 1)
  | 0, _ => by rw [keyP_zero]; exact Nat.zero_le _
  | k + 1, h => by
    have ih := keyP_len hb k (by omega)
    have h1 := (keyP_step_len (ts := ts) (k := k) (by omega)).1
    have h2 := hb ts[k] (List.getElem_mem _)
    rw [Nat.add_mul]
    omega
theorem keyP_mono {ts : List (List UInt8)} {j : Nat} : ∀ k, j ≤ k → k ≤ ts.length → (keyP ts j).length ≤ (keyP ts k).length
  | 0, h, _ => by rw [show j = 0 by omega]; exact Nat.le_refl _
  | k + 1, h, hk => by
    by_cases he : j = k + 1
    · rw [he]; exact Nat.le_refl _
    · have := keyP_mono (ts := ts) (j := j) k (by omega) (by omega)
      have := (keyP_step_len (ts := ts) (k := k) (by omega)).2
      omega
def keyTs (xs : List Val) : List (List UInt8) := xs.map fun x => (valT x).data.toList
theorem keyTs_len (xs : List Val) : (keyTs xs).length = xs.length := List.length_map ..
theorem keyTs_get {xs : List Val} {k : Nat} (h : k < xs.length) : (keyTs xs)[k]'(by rw [keyTs_len]; exact h) = (valT xs[k]).data.toList := by unfold keyTs; rw [List.getElem_map]
theorem keyTs_le (xs : List Val) : ∀ t ∈ keyTs xs, t.length ≤ 1000 := by
  intro t h
  unfold keyTs at h
  obtain ⟨x, _, rfl⟩ := List.mem_map.1 h
  have := valT_size x
  rw [Lib.size_eq] at this
  exact this
def keyL (xs : List Val) : List UInt8 := keyP (keyTs xs) xs.length
def keyB (xs : List Val) : Bool := !decide (xs.length = 0) && okText (mkB (keyL xs))
def keyS (xs : List Val) : ByteArray := if keyB xs then mkB (keyL xs) else ⟨#[]⟩
theorem key_no {xs : List Val} (h : keyB xs = false) : keyS xs = ⟨#[]⟩ := by unfold keyS; rw [h]; rfl
theorem key_yes {xs : List Val} (h : keyB xs = true) : keyS xs = mkB (keyL xs) := by unfold keyS; rw [h]; rfl
theorem ok_long {l : List UInt8} (h : 1000 < l.length) : okText (mkB l) = false := by
  cases ho : okText (mkB l) with
  | false => rfl
  | true =>
    have := ok_size ho
    rw [mkB_size] at this
    omega
theorem strCells_byte (s : ByteArray) : Lib.strCells s = byteVals s.data.toList := by
  unfold Lib.strCells byteVals
  rfl
theorem info_u8K : (Tryd.prog.info? 5).map (fun i => (i.zero, i.size, i.bytes)) = some (some (.int .u8 0), 1, 1) := by kernel_rfl
set_option maxHeartbeats 8000000 in
set_option maxRecDepth 100000 in
theorem specKeyOf {v : Value} {xs : List Val} (w : World) (h : Rd.rd (Old w) w [v] xs) (hs : Sz.sz xs ≤ 1048576) :
    Calls Tryd.prog 30 #[v] w fun e w' => e = .returned (.tuple #[.string (keyS xs), .bool (keyB xs)]) ∧ Below w.heap.size w w' := by
  obtain ⟨a, cap, hv, h1, h2, hc⟩ := h
  obtain rfl : v = .slice a xs.length cap := by simpa using hv
  clear hv
  have hn : xs.length ≤ 1048576 := Nat.le_trans (sz_len xs) hs
  clear hs
  obtain ⟨i0, hi, hz0, hz1, hz2⟩ := info_parts info_u8K
  obtain ⟨ts, hts⟩ : ∃ ts, keyTs xs = ts := ⟨_, rfl⟩
  have htl : ts.length = xs.length := by rw [← hts, keyTs_len]
  have HL := hid (keyP_len (ts := ts) (m := 1000) (by rw [← hts]; exact keyTs_le xs))
  have HM := hid (fun j k => keyP_mono (ts := ts) (j := j) k)
  have HG := hid (fun k (h : k < xs.length) => show ts[k]? = some (valT xs[k]).data.toList by subst hts; rw [List.getElem?_eq_getElem (by rw [keyTs_len]; exact h)]; exact congrArg some (keyTs_get h))
  have HK := hid (show keyL xs = keyP ts xs.length by unfold keyL; rw [hts])
  have HTL := hid htl
  clear hts htl
  go_enter Tryd.func30, Tryd.ntmps30
  go_wp2
  go_loopw [4, 5] (fun out i wr => ∃ k : Nat, k ≤ xs.length ∧ i = .int .i64 (k : Int) ∧ wr.ownsRow w.heap.size 5 1 out (keyP ts k).length (byteVals (keyP ts k)) ∧ Below w.heap.size w wr) (fun _ i _ => xs.length - (intOf i).toNat)
  case atStart => exact ⟨0, Nat.zero_le _, rfl, by rw [keyP_zero]; exact own_none (Nat.le_refl _) _, ext_alloc _ _⟩
  case round =>
    obtain ⟨k, hk, rfl, hown, hb⟩ := hrel
    have hlen : (keyP ts k).length ≤ k * 1001 := HL.out k (by rw [HTL.out]; exact hk)
    obtain ⟨m, hm⟩ : ∃ m, (keyP ts k).length = m := ⟨_, rfl⟩
    have hm2 : m ≤ 1050000000 := by omega
    have HMM := hid hm
    rw [hm] at hown
    clear hm hlen
    obtain ⟨oa, oc, rfl⟩ := own_slice hown
    by_cases hgo : k < xs.length ∧ m ≤ 1000
    · obtain ⟨hlt, hm3⟩ := hgo
      have hm4 : (m : Int) ≤ 1000 := by omega
      obtain ⟨b, off, rfl, hB, hrow⟩ := hc (by omega)
      obtain ⟨cs, hcell, hx⟩ := hrow k hlt
      obtain ⟨hcs, f0, f2, f3, f4⟩ := rdVal hx
      subst hcs
      have u0 := hcell 0 (by decide)
      have t0 : wr.cell? ⟨b, off + k * 5, none⟩ = some (.int .i64 xs[k].kind) := (hb.cell (p := ⟨b, off + k * 5, none⟩) hB).trans u0
      have u1 := hcell 1 (by decide)
      have t1 : wr.cell? ⟨b, off + k * 5 + 1, none⟩ = some (.bool xs[k].num.neg) := (hb.cell (p := ⟨b, off + k * 5 + 1, none⟩) hB).trans u1
      have u2 := hcell 2 (by decide)
      have t2 : wr.cell? ⟨b, off + k * 5 + 2, none⟩ = some (.string xs[k].num.dig) := (hb.cell (p := ⟨b, off + k * 5 + 2, none⟩) hB).trans u2
      have u3 := hcell 3 (by decide)
      have t3 : wr.cell? ⟨b, off + k * 5 + 3, none⟩ = some (.int .i64 xs[k].num.exp) := (hb.cell (p := ⟨b, off + k * 5 + 3, none⟩) hB).trans u3
      have u4 := hcell 4 (by decide)
      have t4 : wr.cell? ⟨b, off + k * 5 + 4, none⟩ = some (.string xs[k].text) := (hb.cell (p := ⟨b, off + k * 5 + 4, none⟩) hB).trans u4
      clear hrow hcell hc hx
      obtain ⟨y, hy⟩ : ∃ y, xs[k] = y := ⟨_, rfl⟩
      rw [hy] at f0 f2 f3 f4 t0 t1 t2 t3 t4
      have U := hid (And.intro u0 (And.intro u1 (And.intro u2 (And.intro u3 u4))))
      clear u0 u1 u2 u3 u4
      have hgk := HG.out k hlt
      rw [hy] at hgk
      have hsz := valT_size y
      have hgk2 : ts[k]'(by rw [HTL.out]; exact hlt) = (valT y).data.toList := by
        rw [List.getElem?_eq_getElem (by rw [HTL.out]; exact hlt)] at hgk
        exact Option.some.inj hgk
      have HSTEP := hid (show (0 < k → keyP ts (k + 1) = keyP ts k ++ [28] ++ (valT y).data.toList) ∧ (k = 0 → keyP ts (k + 1) = keyP ts k ++ (valT y).data.toList) from
        ⟨fun h0 => by rw [keyP_succ (by rw [HTL.out]; exact hlt) h0, hgk2], fun h0 => by subst h0; rw [keyP_one (by rw [HTL.out]; exact hlt), hgk2]⟩)
      have HY := hid hy
      clear hy hgk hgk2
      obtain ⟨tx, htx⟩ : ∃ t, valT y = t := ⟨_, rfl⟩
      rw [htx] at HSTEP hsz
      have HTX := hid htx
      clear htx
      by_cases h0 : 0 < k
      · have hpos : (0 : Int) < (k : Int) := by omega
        have HS := hid (HSTEP.out.1 h0)
        clear HSTEP
        go_wp2_with ((at_builtin; refine wpList_append_own _ rfl _ _ 75 rfl w.heap.size 5 i0 (.int .u8 0) 1 1 Tryd.underlying75 hi hz0 hz1 hz2 rfl (by decide) _ _ _ rfl (hown.alloc _) ⟨wr.heap.size, 0, none⟩ 1 1 [.int .u8 28] rfl rfl ?c1 ?c2 ?c3 ?c4 ?c5 ?_))
        case c1 => exact cells_new wr #[.int .u8 28] _
        case c2 => intro u hu; simp at hu; subst hu; rfl
        case c3 => unfold maxLen; omega
        case c4 => omega
        case c5 => simp; exact Nat.le_trans hb.size (by omega)
        intro v' w2 hown2 hgrow _
        have hlt' := (hown.alloc (.cells #[.int .u8 28] 5)).lt
        have hB2 : Below w.heap.size w w2 := (ext_trans hb (ext_alloc _ _)).grown hgrow (ext_trans hb (ext_alloc _ _)).size (fun q hq => (hlt' q hq).1)
        have s0 : w2.cell? ⟨b, off + k * 5, none⟩ = some (.int .i64 y.kind) := (hB2.cell (p := ⟨b, off + k * 5, none⟩) hB).trans (by rw [← HY.out]; exact U.out.1)
        have s1 : w2.cell? ⟨b, off + k * 5 + 1, none⟩ = some (.bool y.num.neg) := (hB2.cell (p := ⟨b, off + k * 5 + 1, none⟩) hB).trans (by rw [← HY.out]; exact U.out.2.1)
        have s2 : w2.cell? ⟨b, off + k * 5 + 2, none⟩ = some (.string y.num.dig) := (hB2.cell (p := ⟨b, off + k * 5 + 2, none⟩) hB).trans (by rw [← HY.out]; exact U.out.2.2.1)
        have s3 : w2.cell? ⟨b, off + k * 5 + 3, none⟩ = some (.int .i64 y.num.exp) := (hB2.cell (p := ⟨b, off + k * 5 + 3, none⟩) hB).trans (by rw [← HY.out]; exact U.out.2.2.2.1)
        have s4 : w2.cell? ⟨b, off + k * 5 + 4, none⟩ = some (.string y.text) := (hB2.cell (p := ⟨b, off + k * 5 + 4, none⟩) hB).trans (by rw [← HY.out]; exact U.out.2.2.2.2)
        obtain ⟨ob, od, rfl⟩ := own_slice hown2
        clear hgrow hown hlt'
        go_wp2_with fail
        refine (specValText (x := y) _ (by exact rdVal_mk f0 f2 f3 f4)).mono ?_
        rintro e w3 ⟨rfl, hb3⟩
        rw [HTX.out]
        have hown3 := own_later hown2 hb3
        have hB3 := ext_trans hB2 hb3
        clear hown2
        go_wp2_with ((at_builtin; refine Lib.wpList_append_own_string _ rfl _ _ 75 9 rfl w.heap.size 5 i0 Tryd.underlying75 Tryd.underlying9 hi hz0 hz1 hz2 _ _ _ rfl hown3 tx rfl ?c3 ?c4 ?c5 ?_))
        case c3 => unfold maxLen; omega
        case c4 => omega
        case c5 => exact hB3.size
        intro v'' w4 hown4 hgrow4 _
        have hlt4 := hown3.lt
        have hB4 : Below w.heap.size w w4 := hB3.grown hgrow4 hB3.size (fun q hq => (hlt4 q hq).1)
        clear hi hz0 hz1 hz2 hgrow4 hown3 hlt4
        go_wp2
        go_roundw
        case rel => exact ⟨k + 1, by omega, by go_num, by rw [HS.out, List.length_append, List.length_append, byteVals_append, byteVals_append, HMM.out, ← Lib.size_eq, ← strCells_byte, List.append_assoc]; exact hown4, hB4⟩
        case measure => simp [intOf]; omega
      · obtain rfl : k = 0 := by omega
        have HS := hid (HSTEP.out.2 rfl)
        clear HSTEP h0
        simp only [Nat.zero_mul, Nat.add_zero] at t0 t1 t2 t3 t4
        go_wp2_with fail
        refine (specValText (x := y) _ (by exact rdVal_mk f0 f2 f3 f4)).mono ?_
        rintro e w3 ⟨rfl, hb3⟩
        rw [HTX.out]
        have hown3 := own_later hown hb3
        have hB3 := ext_trans hb hb3
        clear hown
        go_wp2_with ((at_builtin; refine Lib.wpList_append_own_string _ rfl _ _ 75 9 rfl w.heap.size 5 i0 Tryd.underlying75 Tryd.underlying9 hi hz0 hz1 hz2 _ _ _ rfl hown3 tx rfl ?c3 ?c4 ?c5 ?_))
        case c3 => unfold maxLen; omega
        case c4 => omega
        case c5 => exact hB3.size
        intro v'' w4 hown4 hgrow4 _
        have hlt4 := hown3.lt
        have hB4 : Below w.heap.size w w4 := hB3.grown hgrow4 hB3.size (fun q hq => (hlt4 q hq).1)
        clear hi hz0 hz1 hz2 hgrow4 hown3 hlt4
        go_wp2
        go_roundw
        case rel => exact ⟨1, by omega, by go_num, by rw [HS.out, List.length_append, byteVals_append, HMM.out, ← Lib.size_eq, ← strCells_byte]; exact hown4, hB4⟩
        case measure => simp [intOf]; omega
    · have hcv := own_string (P := Tryd.prog) (src := 75) (dst := 9) (l := keyP ts k) (by rw [HMM.out]; exact hown) Tryd.underlying75 Tryd.underlying5 Tryd.underlying9
      clear hi hz0 hz1 hz2 hc
      by_cases hz : xs.length = 0
      · have hk0 : k = 0 := by omega
        have HB := hid (show keyB xs = false by unfold keyB; rw [decide_eq_true hz]; rfl)
        have hzi : (xs.length : Int) = 0 := by omega
        subst hk0
        have hgo2 : ¬ 0 < xs.length := by omega
        clear hgo
        go_wp2
        go_ret2
        rw [key_no HB.out, HB.out]
        exact ⟨rfl, hb⟩
      · have hzi : ((xs.length : Int) == 0) = false := by rw [beq_eq_false_iff_ne]; omega
        have HB := hid (show keyB xs = okText (mkB (keyP ts k)) by
          unfold keyB
          rw [decide_eq_false hz, HK.out]
          show okText _ = _
          by_cases hke : k = xs.length
          · rw [hke]
          · have hm5 : 1000 < m := by omega
            have h1 := HM.out k xs.length (by omega) (by rw [HTL.out]; exact Nat.le_refl _)
            rw [ok_long (l := keyP ts xs.length) (by have := HMM.out; omega), ok_long (l := keyP ts k) (by rw [HMM.out]; exact hm5)])
        have HE := hid (show okText (mkB (keyP ts k)) = true → mkB (keyL xs) = mkB (keyP ts k) by
          intro ho
          rw [HK.out]
          by_cases hke : k = xs.length
          · rw [hke]
          · have hm5 : 1000 < m := by omega
            rw [ok_long (by rw [HMM.out]; exact hm5)] at ho
            cases ho)
        obtain ⟨st, hst⟩ : ∃ st, mkB (keyP ts k) = st := ⟨_, rfl⟩
        rw [hst] at HB HE hcv
        obtain ⟨ok, hok⟩ : ∃ ok, okText st = ok := ⟨_, rfl⟩
        rw [hok] at HB HE
        have HO := hid hok
        have HST := hid hst
        clear hst hok
        have hge : ¬ (k < xs.length ∧ (m : Int) ≤ 1000) := by omega
        by_cases hke : k < xs.length
        · have hm6 : ¬ (m : Int) ≤ 1000 := by omega
          clear hgo hge
          cases ok
          · go_wp2_with fail
            refine (specTextOk st _).mono ?_
            rintro e w3 ⟨rfl, hb3⟩
            rw [HO.out]
            go_wp2
            go_ret2
            rw [key_no HB.out, HB.out]
            exact ⟨rfl, ext_trans hb hb3⟩
          · go_wp2_with fail
            refine (specTextOk st _).mono ?_
            rintro e w3 ⟨rfl, hb3⟩
            rw [HO.out]
            have hcv2 := own_string (P := Tryd.prog) (src := 75) (dst := 9) (l := keyP ts k) (by rw [HMM.out]; exact own_later hown hb3) Tryd.underlying75 Tryd.underlying5 Tryd.underlying9
            go_wp2
            go_ret2
            rw [key_yes HB.out, HB.out, HE.out (by simp), ← HST.out]
            exact ⟨rfl, ext_trans hb hb3⟩
        · clear hgo hge
          cases ok
          · go_wp2_with fail
            refine (specTextOk st _).mono ?_
            rintro e w3 ⟨rfl, hb3⟩
            rw [HO.out]
            go_wp2
            go_ret2
            rw [key_no HB.out, HB.out]
            exact ⟨rfl, ext_trans hb hb3⟩
          · go_wp2_with fail
            refine (specTextOk st _).mono ?_
            rintro e w3 ⟨rfl, hb3⟩
            rw [HO.out]
            have hcv2 := own_string (P := Tryd.prog) (src := 75) (dst := 9) (l := keyP ts k) (by rw [HMM.out]; exact own_later hown hb3) Tryd.underlying75 Tryd.underlying5 Tryd.underlying9
            go_wp2
            go_ret2
            rw [key_yes HB.out, HB.out, HE.out (by simp), ← HST.out]
            exact ⟨rfl, ext_trans hb hb3⟩
theorem row_put {w : World} {g k : Nat} {A rest : List Value} {e : TypeId} (c : Value) (hg : w.heap[g]? = some (.cells (A ++ rest).toArray e (0, 0))) (hA : A.length = k) (hr : 0 < rest.length) :
    ∃ rest', (w.setCell ⟨g, k, none⟩ c).heap[g]? = some (.cells (A ++ [c] ++ rest').toArray e (0, 0)) ∧ rest'.length + 1 = rest.length := by
  cases rest with
  | nil => exact absurd hr (by simp)
  | cons b r =>
    obtain ⟨h1, _⟩ := setAll_block [c] w g k 0 A [b] r e (by rw [List.append_assoc]; exact hg) (by simpa using hA) rfl
    exact ⟨r, h1, rfl⟩
def strV (xs : List Val) : List Value := xs.map fun x => Value.string (valT x)
theorem strV_take {xs : List Val} {k : Nat} (h : k < xs.length) : strV (xs.take (k + 1)) = strV (xs.take k) ++ [.string (valT xs[k])] := by
  unfold strV
  rw [List.take_add_one, List.getElem?_eq_getElem h, List.map_append]
  rfl
theorem strV_len (xs : List Val) {k : Nat} (h : k ≤ xs.length) : (strV (xs.take k)).length = k := by
  unfold strV
  rw [List.length_map, List.length_take]
  omega
theorem info_strK : (Tryd.prog.info? 9).map (fun i => (i.zero.isSome, i.size, i.bytes)) = some (true, 1, 16) := by kernel_rfl
set_option maxHeartbeats 8000000 in
set_option maxRecDepth 100000 in
theorem implKeyOf {v : Value} {xs : List Val} (w : World) (h : Rd.rd (Old w) w [v] xs) (hs : Sz.sz xs ≤ 1048576) (hT : TP w) :
    Calls Tryd.prog 32 #[v] w fun e w' => e = .returned (.tuple #[.string (keyS xs), .bool (keyB xs)]) ∧ Below w.heap.size w w' := by
  obtain ⟨a, cap, hv, h1, h2, hc⟩ := h
  obtain rfl : v = .slice a xs.length cap := by simpa using hv
  clear hv
  have hn : xs.length ≤ 1048576 := Nat.le_trans (sz_len xs) hs
  clear hs
  obtain ⟨zc, hzl, hmk⟩ := make_cells (P := Tryd.prog) (t := 84) (e := 9) (n := 1) (bytes := 16) Tryd.underlying84 info_strK xs.length (by omega) (by omega)
  go_enter Tryd.func32, Tryd.ntmps32
  go_wp2
  clear hmk
  go_loopw [13] (fun i wr => ∃ (k : Nat) (rest : List Value), k ≤ xs.length ∧ i = .int .i64 (k : Int) ∧ Below w.heap.size w wr ∧ w.heap.size < wr.heap.size ∧ wr.heap[w.heap.size]? = some (.cells (strV (xs.take k) ++ rest).toArray 9 (0, 0)) ∧ rest.length = xs.length - k) (fun i _ => xs.length - (intOf i).toNat)
  case atStart => exact ⟨0, zc, Nat.zero_le _, rfl, ext_alloc _ _, by simp, by simpa [strV] using heap_alloc_new w _, by simpa using hzl⟩
  case round =>
    obtain ⟨k, rest, hk, rfl, hb, hsz, hg, hrl⟩ := hrel
    by_cases hlt : k < xs.length
    · obtain ⟨b, off, rfl, hB, hrow⟩ := hc (by omega)
      obtain ⟨cs, hcell, hx⟩ := hrow k hlt
      obtain ⟨hcs, f0, f2, f3, f4⟩ := rdVal hx
      subst hcs
      have t0 : wr.cell? ⟨b, off + k * 5, none⟩ = some (.int .i64 xs[k].kind) := (hb.cell (p := ⟨b, off + k * 5, none⟩) hB).trans (hcell 0 (by decide))
      have t1 : wr.cell? ⟨b, off + k * 5 + 1, none⟩ = some (.bool xs[k].num.neg) := (hb.cell (p := ⟨b, off + k * 5 + 1, none⟩) hB).trans (hcell 1 (by decide))
      have t2 : wr.cell? ⟨b, off + k * 5 + 2, none⟩ = some (.string xs[k].num.dig) := (hb.cell (p := ⟨b, off + k * 5 + 2, none⟩) hB).trans (hcell 2 (by decide))
      have t3 : wr.cell? ⟨b, off + k * 5 + 3, none⟩ = some (.int .i64 xs[k].num.exp) := (hb.cell (p := ⟨b, off + k * 5 + 3, none⟩) hB).trans (hcell 3 (by decide))
      have t4 : wr.cell? ⟨b, off + k * 5 + 4, none⟩ = some (.string xs[k].text) := (hb.cell (p := ⟨b, off + k * 5 + 4, none⟩) hB).trans (hcell 4 (by decide))
      have HST := hid (strV_take hlt)
      clear hrow hcell hc hx
      obtain ⟨y, hy⟩ : ∃ y, xs[k] = y := ⟨_, rfl⟩
      rw [hy] at f0 f2 f3 f4 t0 t1 t2 t3 t4 HST
      clear hy
      obtain ⟨tx, htx⟩ : ∃ t, valT y = t := ⟨_, rfl⟩
      rw [htx] at HST
      have HTX := hid htx
      have HG := hid hg
      have HRL := hid hrl
      have hrp : 0 < rest.length := by omega
      clear htx hg hrl
      go_wp2_with fail
      refine (implValText0 (x := y) _ (by exact rdVal_mk f0 f2 f3 f4) (tp_below hT (by repeat' (first | (with_reducible exact hb) | (with_reducible refine Below.setCell ?_ ?_ _) | (with_reducible refine ext_trans ?_ (ext_alloc _ _)) | (simp; done) | (simp; omega) | omega)))).mono ?_
      rintro e w1 ⟨rfl, hb1⟩
      rw [HTX.out]
      have hB1 : Below wr.heap.size wr w1 := ext_trans (by repeat' (first | (with_reducible exact Below.refl _ _) | (with_reducible refine Below.setCell ?_ ?_ _) | (with_reducible refine ext_trans ?_ (ext_alloc _ _)) | (simp; done) | (simp; omega) | omega)) hb1
      have HG1 := hid ((hB1.block _ hsz).trans HG.out)
      have hl1 : w.heap.size < w1.heap.size := by have := hB1.size; omega
      obtain ⟨o0, s0⟩ : ∃ u, w1.cell? ⟨w.heap.size, k, none⟩ = some u := by
        rw [cell_of_block HG1.out, List.getElem?_append_right (by rw [strV_len xs hk]; exact Nat.le_refl _), strV_len xs hk, Nat.sub_self, List.getElem?_eq_getElem hrp]
        exact ⟨_, rfl⟩
      have z0 : w1.frozen? ⟨w.heap.size, k, none⟩ = false := frozen_of_row w1 w.heap.size _ _ _ HG1.out
      have HP := hid (row_put (Value.string tx) HG1.out (strV_len xs hk) hrp)
      go_wp2
      go_roundw
      case rel =>
        obtain ⟨rest', hg', hrl'⟩ := HP.out
        exact ⟨k + 1, rest', by omega, by go_num, (ext_trans hb hB1).setCell (Nat.le_refl _) _, by simp; omega, by rw [HST.out]; exact hg', by have := HRL.out; omega⟩
      case measure => simp [intOf]; omega
    · have hke : k = xs.length := by omega
      subst hke
      have HCE := hid (show ∀ (j : Nat) x, (xs.map valT)[j]? = some x → wr.cell? ⟨w.heap.size, 0 + j, none⟩ = some (.string x) by
        intro j x hx
        rw [List.getElem?_map] at hx
        obtain ⟨y, hy, rfl⟩ := Option.map_eq_some_iff.1 hx
        have hj := (List.getElem?_eq_some_iff.1 hy).1
        rw [cell_of_block hg, Nat.zero_add, List.take_length, List.getElem?_append_left (by unfold strV; rw [List.length_map]; exact hj)]
        unfold strV
        rw [List.getElem?_map, hy]
        rfl)
      have hjoin : Lib.join ((xs.map valT).map (·.data.toList)) [28] = keyL xs := by
        unfold keyL keyP
        rw [← keyTs_len xs, List.take_length, List.map_map]
        rfl
      have hjl : (keyL xs).length ≤ 140737488355328 := by
        have := keyP_len (keyTs_le xs) xs.length (by rw [keyTs_len]; exact Nat.le_refl _)
        show (keyP (keyTs xs) xs.length).length ≤ _
        omega
      have CJ : Calls Tryd.prog 60 #[.slice (some ⟨w.heap.size, 0, none⟩) xs.length xs.length, .string ⟨#[28]⟩] wr fun e w' => e = .returned (.string (mkB (keyL xs))) ∧ Below wr.heap.size wr w' := by
        have := Tryd.strings_Join w.heap.size 0 xs.length (xs.map valT) ⟨#[28]⟩ wr HCE.out hsz (by rw [List.length_map]; omega) (by rw [List.length_map]; exact Nat.le_refl _) (by show (Lib.join _ [28]).length ≤ _; rw [hjoin]; exact hjl)
        rw [List.length_map] at this
        refine this.mono ?_
        rintro e w' ⟨rfl, hb⟩
        exact ⟨end_string (by show mkB (Lib.join _ [28]) = _; rw [hjoin]), hb⟩
      clear hc hg hrl hjoin hjl
      obtain ⟨st, hst⟩ : ∃ st, mkB (keyL xs) = st := ⟨_, rfl⟩
      rw [hst] at CJ
      have HJ := hid CJ
      obtain ⟨ok, hok⟩ : ∃ ok, okText st = ok := ⟨_, rfl⟩
      have HO := hid hok
      have HS := hid hst
      clear CJ hok hst
      by_cases hz : xs.length = 0
      · have HB := hid (show keyB xs = false by unfold keyB; rw [decide_eq_true hz]; rfl)
        have hzi : ((xs.length : Int) == 0) = true := by rw [hz]; rfl
        clear hz hk
        go_wp2_with fail
        refine HJ.out.mono ?_
        rintro e w2 ⟨rfl, hb2⟩
        go_wp2
        go_ret2
        rw [key_no HB.out, HB.out]
        exact ⟨rfl, ext_trans hb hb2⟩
      · have hzi : ((xs.length : Int) == 0) = false := by rw [beq_eq_false_iff_ne]; omega
        have HB := hid (show keyB xs = ok by unfold keyB; rw [decide_eq_false hz, HS.out, HO.out]; rfl)
        clear hz hk
        cases ok
        · go_wp2_with fail
          refine HJ.out.mono ?_
          rintro e w2 ⟨rfl, hb2⟩
          go_wp2_with fail
          refine (implTextOk st _ (tabs_below hT.1 (ext_trans hb hb2))).mono ?_
          rintro e w3 ⟨rfl, hb3⟩
          rw [HO.out]
          go_wp2
          go_ret2
          rw [key_no HB.out, HB.out]
          exact ⟨rfl, ext_trans (ext_trans hb hb2) hb3⟩
        · go_wp2_with fail
          refine HJ.out.mono ?_
          rintro e w2 ⟨rfl, hb2⟩
          go_wp2_with fail
          refine (implTextOk st _ (tabs_below hT.1 (ext_trans hb hb2))).mono ?_
          rintro e w3 ⟨rfl, hb3⟩
          rw [HO.out]
          go_wp2
          go_ret2
          rw [key_yes HB.out, HB.out, HS.out]
          exact ⟨rfl, ext_trans (ext_trans hb hb2) hb3⟩
end Go.Proofs.YtflleebdfddkfaaDoor
