/-
  What is proved here: spec.Joined: where it says yes, all are texts and it returns what is joined. No condition.
-/
import Derived.Test.YtibbkddncjohkaaDoorSplitJ
import Derived.Test.YtibbkddncjohkaaDoorPartS
import Derived.Test.YtibbkddncjohkaaDoorValOk
import Derived.Laws.AppendOwn
import Derived.Laws.Build
import Derived.Lib.AppendStr
import Derived.Lib.ConvBytes
import Derived.Laws.IdiomStrings
import Derived.Laws.Slices
import Derived.Laws.Concat
namespace Go.Proofs.YtibbkddncjohkaaDoor
open Go.RowKit
set_option linter.unusedVariables false
set_option linter.unusedSimpArgs false

theorem join_take_succ (L : List (List UInt8)) (sep : List UInt8) (k : Nat) (hk : k < L.length) : Lib.join (L.take (k + 1)) sep = (if k = 0 then [] else Lib.join (L.take k) sep ++ sep) ++ L[k] := by
  cases L with
  | nil => simp at hk
  | cons x r =>
    cases k with
    | zero => rw [if_pos rfl, List.take_succ_cons, List.take_zero, Lib.join_one]; rfl
    | succ k =>
      have hk' : k < r.length := by simpa using hk
      rw [if_neg (by omega), List.take_succ_cons, List.take_succ_cons, Lib.join_cons, Lib.join_cons, Lib.joinTail_take_succ sep r k r[k] (List.getElem?_eq_getElem hk')]
      simp [List.append_assoc]
def joinS (xs : List ByteArray) (sep : ByteArray) : ByteArray := mkB (Lib.join (xs.map (·.data.toList)) sep.data.toList)
/-- what spec.Joined says -/
def JoinRes (xs : List ByteArray) (sep : ByteArray) (e : Ending) : Prop :=
  ∃ (s : ByteArray) (ok : Bool), e = .returned (.tuple #[.string s, .bool ok]) ∧ (ok = true → s = joinS xs sep ∧ okText sep = true ∧ (∀ x ∈ xs, okText x = true) ∧ s.size ≤ 1000)
theorem byteJ_app (a b : List UInt8) : byteVals (a ++ b) = byteVals a ++ byteVals b := by simp [byteVals]
theorem strCells_bj (l : List UInt8) : Lib.strCells (mkB l) = byteVals l := by
  unfold Lib.strCells byteVals
  simp [mkB]
theorem info_u8J : (Tryd.prog.info? 5).map (fun i => (i.zero, i.size, i.bytes)) = some (some (.int .u8 0), 1, 1) := by kernel_rfl
set_option maxHeartbeats 8000000 in
set_option maxRecDepth 100000 in
theorem specJoined {v : Value} {xs : List ByteArray} {sep : ByteArray} (w : World) (h : Rd.rd (Old w) w [v] xs) (hn : xs.length ≤ 1000) :
    Calls Tryd.prog 10 #[v, .string sep] w fun e w' => JoinRes xs sep e ∧ Below w.heap.size w w' := by
  obtain ⟨i0, hi, hz0, hz1, hz2⟩ := info_parts info_u8J
  obtain ⟨a, cap, rfl, h1, h2, hc⟩ := rdStrs h
  have HC := hid hc
  clear hc h h1 h2
  have CS := hid (specTextOk sep w)
  obtain ⟨q, hq⟩ : ∃ q, okText sep = q := ⟨_, rfl⟩
  rw [hq] at CS
  have HQ := hid hq
  clear hq
  cases q with
  | false =>
    go_enter Tryd.func10, Tryd.ntmps10
    go_wp2_with fail
    refine CS.out.mono ?_
    rintro e w1 ⟨rfl, hb⟩
    go_wp2
    go_ret2
    exact ⟨⟨_, _, rfl, fun h => by cases h⟩, hb⟩
  | true =>
    have hsep := ok_size HQ.out
    go_enter Tryd.func10, Tryd.ntmps10
    go_wp2_with fail
    refine CS.out.mono ?_
    rintro e w1 ⟨rfl, hb1⟩
    have HB := hid hb1
    clear hb1 CS
    obtain ⟨L, hL⟩ : ∃ L, xs.map (·.data.toList) = L := ⟨_, rfl⟩
    have hLn : L.length = xs.length := by rw [← hL, List.length_map]
    have HLN := hid hLn
    have HLK := hid (show ∀ (k : Nat) (hk : k < xs.length) (hk2 : k < L.length), L[k] = xs[k].data.toList by subst hL; intro k hk hk2; rw [List.getElem_map])
    have HJ := hid (show joinS xs sep = mkB (Lib.join L sep.data.toList) by unfold joinS; rw [hL])
    clear hL hLn
    go_wp2
    go_loopw [6, 7] (fun out i wr => ∃ k : Nat, k ≤ xs.length ∧ i = .int .i64 (k : Int) ∧ wr.ownsRow w.heap.size 5 1 out (Lib.join (L.take k) sep.data.toList).length (byteVals (Lib.join (L.take k) sep.data.toList)) ∧ Below w.heap.size w wr ∧ (Lib.join (L.take k) sep.data.toList).length ≤ 1000 ∧ Hid (∀ j (hj : j < xs.length), j < k → okText xs[j] = true)) (fun _ i _ => xs.length - (intOf i).toNat)
    case atStart => exact ⟨0, Nat.zero_le _, rfl, World.ownsRow_lit w1 #[] 0 HB.out.size (by decide) rfl, ext_trans HB.out (ext_alloc _ _), Nat.zero_le _, hid (fun j _ hj => absurd hj (Nat.not_lt_zero _))⟩
    case round =>
      obtain ⟨k, hk, rfl, hown, hb, hle, HA⟩ := hrel
      by_cases hlt : k < xs.length
      · obtain ⟨b, off, rfl, hB, hcell⟩ := HC.out (by omega)
        have hce : wr.cell? ⟨b, off + k, none⟩ = some (.string xs[k]) := (hb.cell (p := ⟨b, off + k, none⟩) hB).trans (hcell k hlt).1
        have hcw : w.cell? ⟨b, off + k, none⟩ = some (.string xs[k]) := (hcell k hlt).1
        have HBB := hid hB
        have hkL : k < L.length := by rw [HLN.out]; exact hlt
        have HST := hid (show Lib.join (L.take (k + 1)) sep.data.toList = (if k = 0 then [] else Lib.join (L.take k) sep.data.toList ++ sep.data.toList) ++ xs[k].data.toList by rw [join_take_succ L _ k hkL, HLK.out k hlt hkL])
        obtain ⟨x, hx⟩ : ∃ x, xs[k] = x := ⟨_, rfl⟩
        rw [hx] at hce hcw HST
        have HX := hid hx
        have HCW := hid hcw
        have hki : (k : Int) < (xs.length : Int) := by omega
        have hk0 : (0 : Int) ≤ (k : Int) := by omega
        obtain ⟨B0, hB0⟩ : ∃ z, Lib.join (L.take k) sep.data.toList = z := ⟨_, rfl⟩
        rw [hB0] at hown hle HST
        have HB0 := hid hB0
        have CT := hid (specTextOk x wr)
        obtain ⟨q, hq⟩ : ∃ q, okText x = q := ⟨_, rfl⟩
        rw [hq] at CT
        have HQX := hid hq
        clear hcell hx hcw hB0 hq hkL hB
        cases q with
        | false =>
          go_wp2_with fail
          refine CT.out.mono ?_
          rintro e w2 ⟨rfl, hb2⟩
          go_wp2
          go_ret2
          exact ⟨⟨_, _, rfl, fun h => by cases h⟩, hb.trans (hb2.mono hb.size)⟩
        | true =>
          have hxs := ok_size HQX.out
          go_wp2_with fail
          refine CT.out.mono ?_
          rintro e w2 ⟨rfl, hb2⟩
          have hown2 := own_later hown hb2
          have hB2 := hb.trans (hb2.mono hb.size)
          clear hown hb hb2 hce
          have hce : w2.cell? ⟨b, off + k, none⟩ = some (.string x) := (hB2.cell (p := ⟨b, off + k, none⟩) HBB.out).trans HCW.out
          have hxl : x.data.toList.length = x.size := (Lib.size_eq x).symm
          have hsl : sep.data.toList.length = sep.size := (Lib.size_eq sep).symm
          by_cases hk00 : k = 0
          · have hkz : ¬ (0 : Int) < (k : Int) := by omega
            have hB0e : B0 = [] := by rw [← HB0.out, hk00, List.take_zero]; rfl
            subst hB0e
            have HS1 := hid (show Lib.join (L.take (k + 1)) sep.data.toList = x.data.toList by rw [HST.out, if_pos hk00]; rfl)
            clear hk00
            go_wp2_with ((at_builtin; refine Lib.wpList_append_own_string _ rfl _ _ 24 9 rfl w.heap.size 5 i0 Tryd.underlying24 Tryd.underlying9 hi hz0 hz1 hz2 _ _ _ rfl hown2 x rfl ?a3 ?a4 ?a5 ?_))
            case a3 => unfold maxLen; omega
            case a4 => omega
            case a5 => exact hB2.size
            intro v4 w4 hownW hgrow _
            have hlt4 := hown2.lt
            have hBW : Below w.heap.size w w4 := hB2.grown hgrow hB2.size (fun q hq => (hlt4 q hq).1)
            have hownX : w4.ownsRow w.heap.size 5 1 v4 x.data.toList.length (byteVals x.data.toList) := by
              rw [show x = mkB x.data.toList from (mkB_of x).symm, strCells_bj] at hownW
              simpa [mkB_size, byteVals] using hownW
            clear hownW hgrow hlt4 hown2
            obtain ⟨J1, hJ1⟩ : ∃ z, Lib.join (L.take (k + 1)) sep.data.toList = z := ⟨_, rfl⟩
            have HJ1 := hid hJ1
            have hJX : x.data.toList = J1 := by rw [← HS1.out, hJ1]
            rw [hJX] at hownX
            clear hJX hJ1
            obtain ⟨ja, jc, rfl⟩ := own_slice hownX
            by_cases hbig : 1000 < J1.length
            · have hbi : (1000 : Int) < (J1.length : Int) := by omega
              go_wp2
              go_ret2
              exact ⟨⟨_, _, rfl, fun h => by cases h⟩, hBW⟩
            · have hbi : ¬ (1000 : Int) < (J1.length : Int) := by omega
              go_wp2
              go_roundw
              case rel => exact ⟨k + 1, by omega, by go_num, by rw [HJ1.out]; exact hownX, hBW, by rw [HJ1.out]; omega, hid (fun j hj hjk => by
                by_cases e : j = k
                · subst e; rw [HX.out]; exact HQX.out
                · exact HA.out j hj (by omega))⟩
              case measure => simp [intOf]; omega
          · have hkz : (0 : Int) < (k : Int) := by omega
            have HS1 := hid (show Lib.join (L.take (k + 1)) sep.data.toList = B0 ++ sep.data.toList ++ x.data.toList by rw [HST.out, if_neg hk00])
            go_wp2_with ((at_builtin; refine Lib.wpList_append_own_string _ rfl _ _ 24 9 rfl w.heap.size 5 i0 Tryd.underlying24 Tryd.underlying9 hi hz0 hz1 hz2 _ _ _ rfl hown2 sep rfl ?b3 ?b4 ?b5 ?_))
            case b3 => unfold maxLen; omega
            case b4 => omega
            case b5 => exact hB2.size
            intro v4 w4 hownW hgrow _
            have hlt4 := hown2.lt
            have hBW : Below w.heap.size w w4 := hB2.grown hgrow hB2.size (fun q hq => (hlt4 q hq).1)
            have hown3 : w4.ownsRow w.heap.size 5 1 v4 (B0 ++ sep.data.toList).length (byteVals (B0 ++ sep.data.toList)) := by
              rw [List.length_append, byteJ_app, hsl]
              have := hownW
              rw [show Lib.strCells sep = byteVals sep.data.toList by rw [← strCells_bj, mkB_of]] at this
              exact this
            have hce4 : w4.cell? ⟨b, off + k, none⟩ = some (.string x) := (hBW.cell (p := ⟨b, off + k, none⟩) HBB.out).trans HCW.out
            have hl3 : (B0 ++ sep.data.toList).length ≤ 2000 := by rw [List.length_append]; omega
            obtain ⟨B1, hB1⟩ : ∃ z, B0 ++ sep.data.toList = z := ⟨_, rfl⟩
            rw [hB1] at hown3 hl3 HS1
            clear hownW hgrow hlt4 hown2 hB1 hce
            have hB4 := hBW
            clear hBW
            go_wp2_with ((at_builtin; refine Lib.wpList_append_own_string _ rfl _ _ 24 9 rfl w.heap.size 5 i0 Tryd.underlying24 Tryd.underlying9 hi hz0 hz1 hz2 _ _ _ rfl hown3 x rfl ?d3 ?d4 ?d5 ?_))
            case d3 => unfold maxLen; omega
            case d4 => omega
            case d5 => exact hB4.size
            intro v5 w5 hownW hgrow _
            have hlt4 := hown3.lt
            have hBW : Below w.heap.size w w5 := hB4.grown hgrow hB4.size (fun q hq => (hlt4 q hq).1)
            have hownX : w5.ownsRow w.heap.size 5 1 v5 (B1 ++ x.data.toList).length (byteVals (B1 ++ x.data.toList)) := by
              rw [List.length_append, byteJ_app, hxl]
              have := hownW
              rw [show Lib.strCells x = byteVals x.data.toList by rw [← strCells_bj, mkB_of]] at this
              exact this
            clear hownW hgrow hlt4 hown3
            obtain ⟨J1, hJ1⟩ : ∃ z, Lib.join (L.take (k + 1)) sep.data.toList = z := ⟨_, rfl⟩
            have HJ1 := hid hJ1
            have hJX : B1 ++ x.data.toList = J1 := by rw [← HS1.out, hJ1]
            rw [hJX] at hownX
            clear hJX hJ1
            obtain ⟨ja, jc, rfl⟩ := own_slice hownX
            by_cases hbig : 1000 < J1.length
            · have hbi : (1000 : Int) < (J1.length : Int) := by omega
              go_wp2
              go_ret2
              exact ⟨⟨_, _, rfl, fun h => by cases h⟩, hBW⟩
            · have hbi : ¬ (1000 : Int) < (J1.length : Int) := by omega
              go_wp2
              go_roundw
              case rel => exact ⟨k + 1, by omega, by go_num, by rw [HJ1.out]; exact hownX, hBW, by rw [HJ1.out]; omega, hid (fun j hj hjk => by
                by_cases e : j = k
                · subst e; rw [HX.out]; exact HQX.out
                · exact HA.out j hj (by omega))⟩
              case measure => simp [intOf]; omega
      · have hki : ¬ (k : Int) < (xs.length : Int) := by omega
        obtain rfl : k = xs.length := by omega
        have hall : ∀ y ∈ xs, okText y = true := fun y hy => by
          obtain ⟨j, hj, rfl⟩ := List.getElem_of_mem hy
          exact HA.out j hj hj
        have HT2 := hid (show Lib.join (L.take xs.length) sep.data.toList = Lib.join L sep.data.toList by rw [← HLN.out, List.take_length])
        rw [HT2.out] at hown hle
        obtain ⟨J, hJ⟩ : ∃ z, Lib.join L sep.data.toList = z := ⟨_, rfl⟩
        rw [hJ] at hown hle HJ
        clear hJ HT2
        have hki : ¬ (xs.length : Int) < (xs.length : Int) := by omega
        have hcv := own_string (P := Tryd.prog) (src := 24) (dst := 9) hown Tryd.underlying24 Tryd.underlying5 Tryd.underlying9
        obtain ⟨ja, jc, rfl⟩ := own_slice hown
        have HLE := hid hle
        clear hlt hown hi hz0 hz1 hz2 hle
        go_wp2
        go_ret2
        exact ⟨⟨_, _, rfl, fun _ => ⟨HJ.out.symm, HQ.out, hall, by first | exact HLE.out | (rw [mkB_size]; exact HLE.out)⟩⟩, hb⟩
end Go.Proofs.YtibbkddncjohkaaDoor
