/-
  What is proved here: impl's JSON reader: four hexadecimal digits, pairs of surrogates, escapes. No condition but that the reader lies in memory, and sizes.
-/
import Derived.Test.YtlfkfofeenakhaaDoorJsI2
import Derived.Test.YtlfkfofeenakhaaDoorJsL2
import Derived.Test.YtlfkfofeenakhaaDoorShelfA
import Derived.Test.YtlfkfofeenakhaaDoorTextOf
import Derived.Test.YtlfkfofeenakhaaDoorRunesI
namespace Go.Proofs.YtlfkfofeenakhaaDoor
open Go.RowKit
set_option linter.unusedVariables false
set_option linter.unusedSimpArgs false

def hexL : List UInt8 := [48, 49, 50, 51, 52, 53, 54, 55, 56, 57, 97, 98, 99, 100, 101, 102, 65, 66, 67, 68, 69, 70]
def hexX (c : Nat) : Int := match hexV c with | none => -1 | some d => if 65 ≤ c ∧ c ≤ 70 then (d : Int) + 6 else (d : Int)
set_option maxRecDepth 100000 in
theorem hexX_256 : ∀ c, c < 256 → Lib.indexByte hexL (UInt8.ofNat c) = hexX c := by decide
theorem ofNat_u8 (c : Nat) : ((c : Int).toNat).toUInt8 = UInt8.ofNat c := rfl
theorem implHexIdx (c : Nat) (hc : c < 256) (w : World) : Calls Tryd.prog 72 #[.string ⟨#[48, 49, 50, 51, 52, 53, 54, 55, 56, 57, 97, 98, 99, 100, 101, 102, 65, 66, 67, 68, 69, 70]⟩, .int .u8 (c : Int)] w fun e w' => e = .returned (.int .i64 (hexX c)) ∧ w = w' := by
  have h := Tryd.strings_IndexByte ⟨#[48, 49, 50, 51, 52, 53, 54, 55, 56, 57, 97, 98, 99, 100, 101, 102, 65, 66, 67, 68, 69, 70]⟩ (c : Int) w
  refine h.mono ?_
  rintro e w' ⟨rfl, rfl⟩
  refine ⟨?_, rfl⟩
  rw [ofNat_u8, ← hexX_256 c hc]
  rfl
theorem fourG_len {L : List UInt8} : ∀ (k p n : Nat), p ≤ L.length → (fourG L k p n).2.2 ≤ L.length := fun k p n h => (fourG_in L k p n).2.2.1 h
set_option maxHeartbeats 16000000 in
set_option maxRecDepth 100000 in
theorem implJUnit {g : Nat} {s : ByteArray} {p b : Nat} {nv : Value} (w : World) (h : JI w g s p b nv) (hp : p + 1 ≤ s.size) (hs : s.size ≤ 5000) :
    Calls Tryd.prog 138 #[.pointer (some ⟨g, 0, none⟩)] w fun e w' => e = .returned (.tuple #[.int .i64 (((fourP s.data.toList (p + 1)).2.1 : Nat) : Int), .bool (fourP s.data.toList (p + 1)).1]) ∧ JI w' g s (fourP s.data.toList (p + 1)).2.2 b nv ∧ Kp g none w w' := by
  obtain ⟨L, hL⟩ : ∃ L, s.data.toList = L := ⟨_, rfl⟩
  have hsl : s.size = L.length := by rw [← hL, Lib.size_eq]
  have CP := hid (fun (q : Nat) (w : World) (h : JI w g s q b nv) (hq : q ≤ s.size) => implJNext w h hq)
  rw [hL] at CP ⊢
  obtain ⟨R, hR⟩ : ∃ R, fourP L (p + 1) = R := ⟨_, rfl⟩
  have HR := hid (show fourG L 4 (p + 1) 0 = R from hR)
  rw [hR]
  have HH := hid h
  have HSL := hid hsl
  obtain ⟨c0, c1, c2, c3, y1, y2, y3, hl⟩ := h.cells
  obtain ⟨p1, hp1⟩ : ∃ x, p + 1 = x := ⟨_, rfl⟩
  have hw' : (p : Int) + 1 = (p1 : Int) := by omega
  have hw : IntKind.i64.wrap (p1 : Int) = (p1 : Int) := IntWalk.i64_in _ (by omega)
  rw [hp1] at HR hp
  have HP := hid hp
  have HJ1 := hid (h.setP p1)
  have HK1 := hid ((Kp.refl g none w).set 1 (.int .i64 (p1 : Int)))
  clear hL hsl hR h c2 c3 hp1 hp
  go_enter Tryd.func138, Tryd.ntmps138
  go_wp2_with fail
  go_loopw [4, 14] (fun v4 v14 wr => ∃ i q n : Nat, i ≤ 4 ∧ v14 = .int .i64 (i : Int) ∧ v4 = .int .i64 (n : Int) ∧ q ≤ s.size ∧ n + 1 ≤ 16 ^ i ∧ JI wr g s q b nv ∧ Kp g none w wr ∧ Hid (fourG L (4 - i) q n = R)) (fun _ v14 _ => 4 - (intOf v14).toNat)
  case atStart => exact ⟨0, p1, 0, by omega, rfl, rfl, HP.out, by decide, HJ1.out, HK1.out, HR⟩
  case round =>
    obtain ⟨i, q, n, hi, rfl, rfl, hq, hn, hj, hk, HQ⟩ := hrel
    have HJ := hid hj
    have HK := hid hk
    clear hj hk c0 c1 y1 y2 y3 hl hw hw'
    have hn9 : n ≤ 65535 := by
      have h1 : (16 : Nat) ^ i ≤ 16 ^ 4 := Nat.pow_le_pow_right (by decide) hi
      have h2 : (16 : Nat) ^ 4 = 65536 := rfl
      omega
    by_cases hi4 : i < 4
    · have hi4i : (i : Int) < 4 := by omega
      obtain ⟨k, hk⟩ : ∃ k, 4 - i = k + 1 := ⟨3 - i, by omega⟩
      have HFG := hid (show (match hexV (gB L q) with | none => (false, 0, q) | some d => fourG L k (q + 1) (16 * n + d)) = R by rw [← HQ.out, hk, fourG]; cases hexV (gB L q) <;> rfl)
      have HKK := hid hk
      have HN16 := hid hn
      clear hk hn
      have CPQ := hid (CP.out q wr HJ.out hq)
      by_cases hend : q = L.length
      · have e : nxI L q = -1 := if_pos hend
        have HRE := hid (show R = (false, 0, q) by rw [← HFG.out, gB_end (by omega)]; rfl)
        rw [e] at CPQ
        clear hend e
        go_wp2_with fail
        refine CPQ.out.mono ?_
        rintro e w3 ⟨rfl, hqt⟩
        have HJ3 := hid (HJ.out.qt hqt)
        have HK3 := hid (HK.out.trans hqt.kp (RowOn.refl _ _))
        clear hqt
        go_wp2
        go_ret2
        rw [HRE.out]
        exact ⟨rfl, HJ3.out, HK3.out⟩
      · have e : nxI L q = ((gB L q : Nat) : Int) := if_neg hend
        have hle := gB_le L q
        have HLT := hid (show q < L.length by have := HSL.out; omega)
        obtain ⟨G, hG⟩ : ∃ G, gB L q = G := ⟨_, rfl⟩
        rw [e, hG] at CPQ
        rw [hG] at HFG hle
        have hwb : IntKind.u8.wrap (G : Int) = (G : Int) := by rw [IntKind.wrap_u8]; omega
        have CX := hid (fun w => implHexIdx G (by omega) w)
        have hg0 : (0 : Int) ≤ (G : Int) := by omega
        cases hx : hexV G with
        | none =>
          have ex : hexX G = -1 := by unfold hexX; rw [hx]
          rw [ex] at CX
          have HRE := hid (show R = (false, 0, q) by rw [← HFG.out, hx])
          clear hend e hG hx ex
          go_wp2_with fail
          refine CPQ.out.mono ?_
          rintro e w3 ⟨rfl, hqt⟩
          have HJ3 := hid (HJ.out.qt hqt)
          have HK3 := hid (HK.out.trans hqt.kp (RowOn.refl _ _))
          clear hqt
          go_wp2_with fail
          refine (CX.out _).mono ?_
          rintro e w4 ⟨rfl, rfl⟩
          go_wp2
          go_ret2
          rw [HRE.out]
          exact ⟨rfl, HJ3.out, HK3.out⟩
        | some d =>
          have hd := hexV_le hx
          have HRE := hid (show fourG L k (q + 1) (16 * n + d) = R by rw [← HFG.out, hx])
          obtain ⟨X, hX⟩ : ∃ X, hexX G = X := ⟨_, rfl⟩
          have hX2 : (X = (d : Int)) ∨ (X = (d : Int) + 6 ∧ 10 ≤ d) := by
            rw [← hX]
            unfold hexX
            rw [hx]
            dsimp only
            split
            · rename_i h65
              refine Or.inr ⟨rfl, ?_⟩
              unfold hexV at hx
              rw [if_neg (by omega), if_neg (by omega), if_pos h65] at hx
              injection hx with hx
              omega
            · exact Or.inl rfl
          rw [hX] at CX
          obtain ⟨q1, hq1⟩ : ∃ x, q + 1 = x := ⟨_, rfl⟩
          obtain ⟨n1, hn1⟩ : ∃ x, 16 * n + d = x := ⟨_, rfl⟩
          have hqw' : (q : Int) + 1 = (q1 : Int) := by omega
          have hqw : IntKind.i64.wrap (q1 : Int) = (q1 : Int) := IntWalk.i64_in _ (by omega)
          have hnw' : 16 * (n : Int) + (d : Int) = (n1 : Int) := by omega
          have hnw : IntKind.i64.wrap (n1 : Int) = (n1 : Int) := IntWalk.i64_in _ (by omega)
          have hmw : IntKind.i64.wrap (16 * (n : Int)) = 16 * (n : Int) := IntWalk.i64_in _ (by omega)
          have hiw : IntKind.i64.wrap ((i : Int) + 1) = (i : Int) + 1 := IntWalk.i64_in _ (by omega)
          rw [hq1, hn1] at HRE
          have HQ1 := hid hq1
          have HN1 := hid (show n1 + 1 ≤ 16 ^ (i + 1) by
            have h3 := HN16.out
            have h4 : (16 : Nat) ^ (i + 1) = 16 * 16 ^ i := by rw [Nat.pow_succ, Nat.mul_comm]
            omega)
          have HI1 := hid (show 4 - (i + 1) = k by have := HKK.out; omega)
          clear hend e hG hx hX hq1 hn1 hle
          rcases hX2 with rfl | ⟨rfl, hd10⟩
          · have hx0 : ¬ (d : Int) < 0 := by omega
            have hx15 : ¬ (15 : Int) < (d : Int) := by omega
            go_wp2_with fail
            refine CPQ.out.mono ?_
            rintro e w3 ⟨rfl, hqt⟩
            have HJ3 := hid (HJ.out.qt hqt)
            have HK3 := hid (HK.out.trans hqt.kp (RowOn.refl _ _))
            clear hqt
            go_wp2_with fail
            refine (CX.out _).mono ?_
            rintro e w4 ⟨rfl, rfl⟩
            obtain ⟨c0, c1, c2, c3, y1, y2, y3, hl⟩ := HJ3.out.cells
            clear c2 c3
            have HJ5 := hid (HJ3.out.setP q1)
            have HK5 := hid (HK3.out.set 1 (.int .i64 (q1 : Int)))
            go_wp2
            go_roundw
            case rel => exact ⟨i + 1, q1, n1, by omega, by go_num, rfl, by have := HQ1.out; have := HLT.out; have := HSL.out; omega, HN1.out, HJ5.out, HK5.out, by rw [HI1.out]; exact HRE⟩
            case measure => simp [intOf]; omega
          · have hx0 : ¬ (d : Int) + 6 < 0 := by omega
            have hx15 : (15 : Int) < (d : Int) + 6 := by omega
            have hx6 : (d : Int) + 6 - 6 = (d : Int) := by omega
            have hdw : IntKind.i64.wrap (d : Int) = (d : Int) := IntWalk.i64_in _ (by omega)
            go_wp2_with fail
            refine CPQ.out.mono ?_
            rintro e w3 ⟨rfl, hqt⟩
            have HJ3 := hid (HJ.out.qt hqt)
            have HK3 := hid (HK.out.trans hqt.kp (RowOn.refl _ _))
            clear hqt
            go_wp2_with fail
            refine (CX.out _).mono ?_
            rintro e w4 ⟨rfl, rfl⟩
            obtain ⟨c0, c1, c2, c3, y1, y2, y3, hl⟩ := HJ3.out.cells
            clear c2 c3
            have HJ5 := hid (HJ3.out.setP q1)
            have HK5 := hid (HK3.out.set 1 (.int .i64 (q1 : Int)))
            go_wp2
            go_roundw
            case rel => exact ⟨i + 1, q1, n1, by omega, by go_num, rfl, by have := HQ1.out; have := HLT.out; have := HSL.out; omega, HN1.out, HJ5.out, HK5.out, by rw [HI1.out]; exact HRE⟩
            case measure => simp [intOf]; omega
    · have hi4i : ¬ (i : Int) < 4 := by omega
      have HRE := hid (show R = (true, n, q) by rw [← HQ.out, show 4 - i = 0 by omega]; rfl)
      go_wp2
      go_ret2
      rw [HRE.out]
      exact ⟨rfl, HJ.out, HK.out⟩
/-- the code of an answer -/
def cdI (ok : Bool) : Nat := if ok = true then 0 else 2
theorem Kp.onB {g B : Nat} {r : Option Nat} {w w1 w2 : World} (h : Kp g r w w1) (k : Below B w1 w2) (hB : w.heap.size ≤ B) : Kp g r w w2 :=
  ⟨k.os.trans h.os, k.tape.trans h.tape, k.output.trans h.output, Nat.le_trans h.size k.size, fun b hb hg hr => (k.block b (by omega)).trans (h.block b hb hg hr)⟩
theorem dec_92 : Utf8.decode ⟨#[92, 117]⟩ 0 = (92, 1) := by decide
theorem dec_117 : Utf8.decode ⟨#[92, 117]⟩ 1 = (117, 1) := by decide
set_option maxHeartbeats 16000000 in
set_option maxRecDepth 100000 in
theorem implJPair {g : Nat} {s : ByteArray} {q b n a : Nat} {nv : Value} (w : World) (h : JI w g s q b nv) (hn : 55296 ≤ n ∧ n ≤ 56319) (hq : q ≤ s.size) (ha : a ≤ s.size) (hs : s.size ≤ 5000) :
    Calls Tryd.prog 139 #[.pointer (some ⟨g, 0, none⟩), .int .i64 (a : Int), .int .i64 (n : Int)] w fun e w' => e = .returned (.tuple #[.int .i64 (((pairS s.data.toList n q a).2.1 : Nat) : Int), .int .i64 ((cdI (pairS s.data.toList n q a).1 : Nat) : Int)]) ∧ JI w' g s (pairS s.data.toList n q a).2.2 b nv ∧ Kp g none w w' := by
  obtain ⟨L, hL⟩ : ∃ L, s.data.toList = L := ⟨_, rfl⟩
  have hsl : s.size = L.length := by rw [← hL, Lib.size_eq]
  have CP := hid (fun (q : Nat) (w : World) (h : JI w g s q b nv) (hq : q ≤ s.size) => implJNext w h hq)
  have CU := hid (fun (q : Nat) (w : World) (h : JI w g s q b nv) (hq : q + 1 ≤ s.size) => implJUnit w h hq hs)
  rw [hL] at CP CU ⊢
  obtain ⟨R, hR⟩ : ∃ R, pairS L n q a = R := ⟨_, rfl⟩
  have HR := hid hR
  rw [hR]
  have HSL := hid hsl
  have HH := hid h
  have hg : g < w.heap.size := h.cells.2.2.2.2.2.2.2
  have hJ0 : JI (w.alloc (.stringIter ⟨#[92, 117]⟩ 0)) g s q b nv := ((ext_alloc w _).block g hg).trans h
  have HJ0 := hid hJ0
  have HG := hid hg
  have HQ := hid hq
  clear hL hsl hR h hJ0
  go_enter Tryd.func139, Tryd.ntmps139
  go_wp2_with fail
  go_loopw [9] (fun v9 wr => ∃ k : Nat, wr.heap[w.heap.size]? = some (.stringIter ⟨#[92, 117]⟩ k) ∧ Kp g none w wr ∧ ((k = 0 ∧ JI wr g s q b nv) ∨ (k = 1 ∧ gB L q = 92 ∧ JI wr g s (q + 1) b nv) ∨ (k = 2 ∧ gB L q = 92 ∧ gB L (q + 1) = 117 ∧ JI wr g s (q + 1) b nv))) (fun _ wr => 2 - wr.iterPos w.heap.size)
  case atStart => exact ⟨0, World.iter_heap w ⟨#[92, 117]⟩ 0, (Kp.refl g none w).alloc _, Or.inl ⟨rfl, HJ0.out⟩⟩
  case round =>
    obtain ⟨k, hit, hk, hc⟩ := hrel
    have HK := hid hk
    have hgi : ∀ (v : Nat) (wx : World), wx.heap[w.heap.size]? = some (.stringIter ⟨#[92, 117]⟩ v) → wx.iterPos w.heap.size = v := fun v wx hx => by simp [World.iterPos, hx]
    have HGI := hid hgi
    have hp0 := hgi k wr hit
    clear hk hgi
    rcases hc with ⟨rfl, hj⟩ | ⟨rfl, h92, hj⟩ | ⟨rfl, h92, h117, hj⟩
    · have hnx : ∀ ty, (Instr.next (.pointer (some ⟨w.heap.size, 0, none⟩)) true ty).run Tryd.prog wr = _ := fun ty => Lib.run_next_any_at wr w.heap.size ⟨#[92, 117]⟩ 0 ty hit (by decide)
      rw [dec_92] at hnx
      have hit2 := Lib.iterAt_heap wr w.heap.size ⟨#[92, 117]⟩ 0 (0 + 1) hit
      have hB2 : Below w.heap.size wr (wr.iterAt w.heap.size ⟨#[92, 117]⟩ (0 + 1)) := Lib.below_iterAt (Below.refl _ _) (k := w.heap.size) (Nat.le_refl _) ⟨#[92, 117]⟩ (0 + 1)
      obtain ⟨W, hWd⟩ : ∃ W, wr.iterAt w.heap.size ⟨#[92, 117]⟩ (0 + 1) = W := ⟨_, rfl⟩
      rw [hWd] at hnx hit2 hB2
      have HJW := hid (show JI W g s q b nv from (hB2.block g HG.out).trans hj)
      have HKW := hid (HK.out.onB hB2 (Nat.le_refl _))
      have HIT := hid hit2
      have CPQ := hid (fun w1 (hqt : Qt W w1) => CP.out q w1 (HJW.out.qt hqt) HQ.out)
      clear hit hB2 hWd hit2 hj
      by_cases hend : q = L.length
      · have e : nxI L q = -1 := if_pos hend
        have HRE := hid (show R = (false, 0, q) by rw [← HR.out]; unfold pairS; rw [if_neg (by omega), gB_end (by omega), if_pos (by decide)])
        rw [e] at CPQ
        clear hend e
        go_wp2_with fail
        refine (CPQ.out _ (Qt.refl _)).mono ?_
        rintro e w3 ⟨rfl, hqt⟩
        have HJ3 := hid (HJW.out.qt hqt)
        have HK3 := hid (HKW.out.trans hqt.kp (RowOn.refl _ _))
        clear hqt
        go_wp2
        go_ret2
        rw [HRE.out]
        exact ⟨rfl, HJ3.out, HK3.out⟩
      · have e : nxI L q = ((gB L q : Nat) : Int) := if_neg hend
        have hlt : q < L.length := by have := HSL.out; omega
        have HLT := hid hlt
        obtain ⟨G, hG⟩ : ∃ G, gB L q = G := ⟨_, rfl⟩
        rw [e, hG] at CPQ
        have hg0 : ¬ (G : Int) < 0 := by omega
        by_cases h92 : G = 92
        · have e1 : ((G : Int) != 92) = false := by rw [bne_eq_false_iff_eq]; omega
          have e2 : (G : Int) = 92 := by omega
          obtain ⟨q1, hq1⟩ : ∃ x, q + 1 = x := ⟨_, rfl⟩
          have hqw' : (q : Int) + 1 = (q1 : Int) := by omega
          have hqw : IntKind.i64.wrap (q1 : Int) = (q1 : Int) := IntWalk.i64_in _ (by have := HSL.out; omega)
          have HQ1 := hid hq1
          have H92 := hid (show gB L q = 92 by omega)
          clear hend e hG hlt hq1 h92
          go_wp2_with fail
          refine (CPQ.out _ (Qt.refl _)).mono ?_
          rintro e w3 ⟨rfl, hqt⟩
          have HQ3 := hid hqt
          clear hqt
          go_wp2_with fail
          refine (CPQ.out _ HQ3.out).mono ?_
          rintro e w4 ⟨rfl, hqt⟩
          have HJ4 := hid (HJW.out.qt (HQ3.out.trans hqt))
          have HK4 := hid (HKW.out.trans (HQ3.out.trans hqt).kp (RowOn.refl _ _))
          have HIT4 := hid ((HQ3.out.trans hqt).at HIT.out)
          obtain ⟨c0, c1, c2, c3, y1, y2, y3, hl⟩ := HJ4.out.cells
          clear hqt c2 c3
          have HJ5 := hid (HJ4.out.setP q1)
          have HK5 := hid (HK4.out.set 1 (.int .i64 (q1 : Int)))
          have HIT5 := hid (show (w4.setCell ⟨g, 1, none⟩ (.int .i64 (q1 : Int))).heap[w.heap.size]? = some (.stringIter ⟨#[92, 117]⟩ (0 + 1)) from (Below.heap_setCell w4 ⟨g, 1, none⟩ _ w.heap.size (fun e => by have e1 : w.heap.size = g := e; have := HG.out; omega)).trans HIT4.out)
          go_wp2
          go_roundw
          case rel => exact ⟨1, HIT5.out, HK5.out, Or.inr (Or.inl ⟨rfl, H92.out, by rw [HQ1.out]; exact HJ5.out⟩)⟩
          case measure => rw [HGI.out _ _ HIT5.out, hp0]; omega
        · have e1 : ((G : Int) != 92) = true := by rw [bne_iff_ne]; omega
          have e2 : ¬ (G : Int) = 92 := by omega
          have HRE := hid (show R = (false, 0, a) by rw [← HR.out]; unfold pairS; rw [if_pos ⟨hlt, Or.inl (by omega)⟩])
          clear hend e hG hlt h92
          go_wp2_with fail
          refine (CPQ.out _ (Qt.refl _)).mono ?_
          rintro e w3 ⟨rfl, hqt⟩
          have HQ3 := hid hqt
          clear hqt
          go_wp2_with fail
          refine (CPQ.out _ HQ3.out).mono ?_
          rintro e w4 ⟨rfl, hqt⟩
          have HJ4 := hid (HJW.out.qt (HQ3.out.trans hqt))
          have HK4 := hid (HKW.out.trans (HQ3.out.trans hqt).kp (RowOn.refl _ _))
          obtain ⟨c0, c1, c2, c3, y1, y2, y3, hl⟩ := HJ4.out.cells
          clear hqt c2 c3
          have HJ5 := hid (HJ4.out.setP a)
          have HK5 := hid (HK4.out.set 1 (.int .i64 (a : Int)))
          go_wp2
          go_ret2
          rw [HRE.out]
          exact ⟨rfl, HJ5.out, HK5.out⟩
    · have hnx : ∀ ty, (Instr.next (.pointer (some ⟨w.heap.size, 0, none⟩)) true ty).run Tryd.prog wr = _ := fun ty => Lib.run_next_any_at wr w.heap.size ⟨#[92, 117]⟩ 1 ty hit (by decide)
      rw [dec_117] at hnx
      have hit2 := Lib.iterAt_heap wr w.heap.size ⟨#[92, 117]⟩ 1 (1 + 1) hit
      have hB2 : Below w.heap.size wr (wr.iterAt w.heap.size ⟨#[92, 117]⟩ (1 + 1)) := Lib.below_iterAt (Below.refl _ _) (k := w.heap.size) (Nat.le_refl _) ⟨#[92, 117]⟩ (1 + 1)
      obtain ⟨W, hWd⟩ : ∃ W, wr.iterAt w.heap.size ⟨#[92, 117]⟩ (1 + 1) = W := ⟨_, rfl⟩
      rw [hWd] at hnx hit2 hB2
      have hlt : q < L.length := gB_lt (by omega)
      obtain ⟨q1, hq1⟩ : ∃ x, q + 1 = x := ⟨_, rfl⟩
      rw [hq1] at hj
      have hq1s : q1 ≤ s.size := by have := HSL.out; omega
      have HJW := hid (show JI W g s q1 b nv from (hB2.block g HG.out).trans hj)
      have HKW := hid (HK.out.onB hB2 (Nat.le_refl _))
      have HIT := hid hit2
      have CPQ := hid (fun w1 (hqt : Qt W w1) => CP.out q1 w1 (HJW.out.qt hqt) hq1s)
      have H92 := hid h92
      have HQ1 := hid hq1
      clear hit hB2 hWd hit2 hj
      by_cases hend : q1 = L.length
      · have e : nxI L q1 = -1 := if_pos hend
        have HRE := hid (show R = (false, 0, q1) by rw [← HR.out]; unfold pairS; rw [if_neg (by omega), if_neg (by omega), hq1, gB_end (by omega), if_pos (by decide)])
        rw [e] at CPQ
        clear hend e h92 hq1 hlt
        go_wp2_with fail
        refine (CPQ.out _ (Qt.refl _)).mono ?_
        rintro e w3 ⟨rfl, hqt⟩
        have HJ3 := hid (HJW.out.qt hqt)
        have HK3 := hid (HKW.out.trans hqt.kp (RowOn.refl _ _))
        clear hqt
        go_wp2
        go_ret2
        rw [HRE.out]
        exact ⟨rfl, HJ3.out, HK3.out⟩
      · have e : nxI L q1 = ((gB L q1 : Nat) : Int) := if_neg hend
        obtain ⟨G, hG⟩ : ∃ G, gB L q1 = G := ⟨_, rfl⟩
        rw [e, hG] at CPQ
        have hg0 : ¬ (G : Int) < 0 := by omega
        by_cases h117 : G = 117
        · have e1 : ((G : Int) != 117) = false := by rw [bne_eq_false_iff_eq]; omega
          have e2 : (G : Int) = 117 := by omega
          have H117 := hid (show gB L (q + 1) = 117 by rw [hq1]; omega)
          clear hend e hG hlt hq1 h92 h117
          go_wp2_with fail
          refine (CPQ.out _ (Qt.refl _)).mono ?_
          rintro e w3 ⟨rfl, hqt⟩
          have HQ3 := hid hqt
          clear hqt
          go_wp2_with fail
          refine (CPQ.out _ HQ3.out).mono ?_
          rintro e w4 ⟨rfl, hqt⟩
          have HJ4 := hid (HJW.out.qt (HQ3.out.trans hqt))
          have HK4 := hid (HKW.out.trans (HQ3.out.trans hqt).kp (RowOn.refl _ _))
          have HIT4 := hid ((HQ3.out.trans hqt).at HIT.out)
          clear hqt
          go_wp2
          go_roundw
          case rel => exact ⟨2, HIT4.out, HK4.out, Or.inr (Or.inr ⟨rfl, H92.out, H117.out, by rw [HQ1.out]; exact HJ4.out⟩)⟩
          case measure => rw [HGI.out _ _ HIT4.out, hp0]; omega
        · have e1 : ((G : Int) != 117) = true := by rw [bne_iff_ne]; omega
          have e2 : ¬ (G : Int) = 117 := by omega
          have HRE := hid (show R = (false, 0, a) by rw [← HR.out]; unfold pairS; rw [if_pos ⟨hlt, Or.inr (by rw [hq1]; have := HSL.out; omega)⟩])
          clear hend e hG hlt h92 h117 hq1
          go_wp2_with fail
          refine (CPQ.out _ (Qt.refl _)).mono ?_
          rintro e w3 ⟨rfl, hqt⟩
          have HQ3 := hid hqt
          clear hqt
          go_wp2_with fail
          refine (CPQ.out _ HQ3.out).mono ?_
          rintro e w4 ⟨rfl, hqt⟩
          have HJ4 := hid (HJW.out.qt (HQ3.out.trans hqt))
          have HK4 := hid (HKW.out.trans (HQ3.out.trans hqt).kp (RowOn.refl _ _))
          obtain ⟨c0, c1, c2, c3, y1, y2, y3, hl⟩ := HJ4.out.cells
          clear hqt c2 c3
          have HJ5 := hid (HJ4.out.setP a)
          have HK5 := hid (HK4.out.set 1 (.int .i64 (a : Int)))
          go_wp2
          go_ret2
          rw [HRE.out]
          exact ⟨rfl, HJ5.out, HK5.out⟩
    · have hnx : ∀ ty, (Instr.next (.pointer (some ⟨w.heap.size, 0, none⟩)) true ty).run Tryd.prog wr = _ := fun ty => Lib.run_next_end_at wr w.heap.size ⟨#[92, 117]⟩ 2 ty hit (by decide)
      have hlt2 : q + 1 < L.length := gB_lt (by omega)
      have CUQ := CU.out (q + 1) wr hj (by have := HSL.out; omega)
      rw [show q + 1 + 1 = q + 2 from rfl] at CUQ
      obtain ⟨F, hF⟩ : ∃ F, fourP L (q + 2) = F := ⟨_, rfl⟩
      have hF9 := (fourP_in L (q + 2)).2.2.2
      have HRE := hid (show R = if F.1 = false then (false, 0, F.2.2) else if 56320 ≤ F.2.1 ∧ F.2.1 ≤ 57343 then (true, 65536 + 1024 * (n - 55296) + F.2.1 - 56320, F.2.2) else (false, 0, a) by rw [← HR.out, ← hF]; unfold pairS; rw [if_neg (by omega), if_neg (by omega), if_neg (by omega)])
      rw [hF] at CUQ hF9
      obtain ⟨f1, f2, f3⟩ := F
      dsimp only at CUQ hF9 HRE
      have CUU := hid CUQ
      clear hit hj hF CUQ h92 h117 hlt2
      go_wp2_with fail
      refine CUU.out.mono ?_
      rintro e w5 ⟨rfl, hj5, hk5⟩
      have HJ5 := hid hj5
      have HK5 := hid (HK.out.trans hk5 (RowOn.refl _ _))
      clear hj5 hk5
      cases f1 with
      | false =>
        have HRF := hid (show R = (false, 0, f3) by rw [HRE.out, if_pos rfl])
        go_wp2
        go_ret2
        rw [HRF.out]
        exact ⟨rfl, HJ5.out, HK5.out⟩
      | true =>
        by_cases hin : 56320 ≤ f2 ∧ f2 ≤ 57343
        · have CW := hid (fun w => within_any (f2 : Int) 56320 57343 w)
          rw [inB_true (show (56320 : Int) ≤ (f2 : Int) ∧ (f2 : Int) ≤ 57343 by omega)] at CW
          obtain ⟨v, hv⟩ : ∃ v, 65536 + 1024 * (n - 55296) + f2 - 56320 = v := ⟨_, rfl⟩
          have HV := hid (show 65536 + ((n : Int) - 55296) * 1024 + (f2 : Int) - 56320 = (v : Int) by omega)
          have HRF := hid (show R = (true, v, f3) by rw [HRE.out, if_neg (by decide), if_pos hin, hv])
          go_wp2_with fail
          refine (CW.out _).mono ?_
          rintro e w6 ⟨rfl, rfl⟩
          go_wp2
          go_ret2
          rw [HRF.out]
          exact ⟨by rw [HV.out]; rfl, HJ5.out, HK5.out⟩
        · have CW := hid (fun w => within_any (f2 : Int) 56320 57343 w)
          rw [inB_false (show ¬ ((56320 : Int) ≤ (f2 : Int) ∧ (f2 : Int) ≤ 57343) by omega)] at CW
          have HRF := hid (show R = (false, 0, a) by rw [HRE.out, if_neg (by decide), if_neg hin])
          obtain ⟨c0, c1, c2, c3, y1, y2, y3, hl⟩ := HJ5.out.cells
          clear c2 c3 hin
          have HJ6 := hid (HJ5.out.setP a)
          have HK6 := hid (HK5.out.set 1 (.int .i64 (a : Int)))
          go_wp2_with fail
          refine (CW.out _).mono ?_
          rintro e w6 ⟨rfl, rfl⟩
          go_wp2
          go_ret2
          rw [HRF.out]
          exact ⟨rfl, HJ6.out, HK6.out⟩
def escL : List UInt8 := [34, 92, 47, 98, 102, 110, 114, 116]
def escB : ByteArray := ⟨#[34, 92, 47, 8, 12, 10, 13, 9]⟩
def escI (c : Nat) : Int := Lib.indexByte escL (UInt8.ofNat c)
def escChk (c : Nat) : Bool := match escV c with | none => escI c == -1 | some v => (List.range 8).any fun j => escI c == (j : Int) && ([34, 92, 47, 8, 12, 10, 13, 9] : List Nat)[j]? == some v
set_option maxRecDepth 100000 in
theorem escChk_256 : ∀ c, c < 256 → escChk c = true := by decide
theorem escI_none {c : Nat} (hc : c < 256) (h : escV c = none) : escI c = -1 := by
  have h1 := escChk_256 c hc
  unfold escChk at h1
  rw [h] at h1
  simpa using h1
theorem escI_some {c v : Nat} (hc : c < 256) (h : escV c = some v) : ∃ j : Nat, j < 8 ∧ escI c = (j : Int) ∧ ([34, 92, 47, 8, 12, 10, 13, 9] : List Nat)[j]? = some v := by
  have h1 := escChk_256 c hc
  unfold escChk at h1
  rw [h] at h1
  simp only [List.any_eq_true, List.mem_range, Bool.and_eq_true, beq_iff_eq] at h1
  obtain ⟨j, h2, h3, h4⟩ := h1
  exact ⟨j, h2, h3, h4⟩
theorem smallW {v : Nat} (h : v ≤ 92) : wrap64 (v : Int) = (v : Int) ∧ IntKind.i64.wrap (v : Int) = (v : Int) := ⟨IntWalk.wrap64_in _ (by omega), IntWalk.i64_in _ (by omega)⟩
theorem eightF {J : Nat} (h : J < 8) : (0 : Int) ≤ (J : Int) ∧ (J : Int) < 8 := ⟨by omega, by omega⟩
theorem implEscIdx (c : Nat) (w : World) : Calls Tryd.prog 72 #[.string ⟨#[34, 92, 47, 98, 102, 110, 114, 116]⟩, .int .u8 (c : Int)] w fun e w' => e = .returned (.int .i64 (escI c)) ∧ w = w' := by
  have h := Tryd.strings_IndexByte ⟨#[34, 92, 47, 98, 102, 110, 114, 116]⟩ (c : Int) w
  refine h.mono ?_
  rintro e w' ⟨rfl, rfl⟩
  exact ⟨rfl, rfl⟩
theorem escB_at {j : Nat} (hj : j < 8) {v : Nat} (h : ([34, 92, 47, 8, 12, 10, 13, 9] : List Nat)[j]? = some v) : ∃ hj : j < (⟨#[34, 92, 47, 8, 12, 10, 13, 9]⟩ : ByteArray).size, (((⟨#[34, 92, 47, 8, 12, 10, 13, 9]⟩ : ByteArray)[j]'hj).toNat : Nat) = v := by
  refine ⟨hj, ?_⟩
  have key : ∀ j : Fin 8, ([34, 92, 47, 8, 12, 10, 13, 9] : List Nat)[j.val]? = some (((⟨#[34, 92, 47, 8, 12, 10, 13, 9]⟩ : ByteArray)[j.val]'(show j.val < 8 from j.isLt)).toNat) := by decide
  rw [key ⟨j, hj⟩] at h
  injection h
theorem escV_le {c v : Nat} (h : escV c = some v) : v ≤ 92 := by
  unfold escV at h
  repeat' split at h
  all_goals first | (injection h with h; omega) | cases h
set_option maxHeartbeats 16000000 in
set_option maxRecDepth 100000 in
theorem implJEscape {g : Nat} {s : ByteArray} {a b : Nat} {nv : Value} (w : World) (h : JI w g s a b nv) (ha : a + 1 ≤ s.size) (hs : s.size ≤ 5000) :
    Calls Tryd.prog 110 #[.pointer (some ⟨g, 0, none⟩)] w fun e w' => e = .returned (.tuple #[.int .i64 (((escS s.data.toList (a + 1) a).2.1 : Nat) : Int), .int .i64 ((cdI (escS s.data.toList (a + 1) a).1 : Nat) : Int)]) ∧ JI w' g s (escS s.data.toList (a + 1) a).2.2 b nv ∧ Kp g none w w' := by
  obtain ⟨L, hL⟩ : ∃ L, s.data.toList = L := ⟨_, rfl⟩
  have hsl : s.size = L.length := by rw [← hL, Lib.size_eq]
  have CP := hid (fun (q : Nat) (w : World) (h : JI w g s q b nv) (hq : q ≤ s.size) => implJNext w h hq)
  have CU := hid (fun (q : Nat) (w : World) (h : JI w g s q b nv) (hq : q + 1 ≤ s.size) => implJUnit w h hq hs)
  have CPR := hid (fun (q n : Nat) (w : World) (h : JI w g s q b nv) (hn : 55296 ≤ n ∧ n ≤ 56319) (hq : q ≤ s.size) => implJPair (a := a) w h hn hq (by omega) hs)
  rw [hL] at CP CU CPR ⊢
  obtain ⟨R, hR⟩ : ∃ R, escS L (a + 1) a = R := ⟨_, rfl⟩
  obtain ⟨p1, hp1⟩ : ∃ x, a + 1 = x := ⟨_, rfl⟩
  rw [hR]
  have HR := hid (show (match escV (gB L p1) with | some v => (true, v, p1 + 1) | none => if gB L p1 = 117 then uniS L (p1 + 1) a else if L.length < p1 + 1 then (false, 0, L.length) else (false, 0, a)) = R by rw [← hR, ← hp1]; rfl)
  have HSL := hid hsl
  have hw' : (a : Int) + 1 = (p1 : Int) := by omega
  have hw : IntKind.i64.wrap (p1 : Int) = (p1 : Int) := IntWalk.i64_in _ (by omega)
  obtain ⟨c0, c1, c2, c3, y1, y2, y3, hl⟩ := h.cells
  have HJ1 := hid (h.setP p1)
  have HK1 := hid ((Kp.refl g none w).set 1 (.int .i64 (p1 : Int)))
  have hp1s : p1 ≤ s.size := by omega
  have HA := hid (show a + 1 ≤ s.size from ha)
  obtain ⟨w1, hw1⟩ : ∃ x, w.setCell ⟨g, 1, none⟩ (.int .i64 (p1 : Int)) = x := ⟨_, rfl⟩
  rw [hw1] at HJ1 HK1
  have CPQ := hid (CP.out p1 w1 HJ1.out hp1s)
  have HW1 := hid hw1
  clear hL hsl hR h c2 c3 hp1 hw1 ha
  by_cases hend : p1 = L.length
  · have e : nxI L p1 = -1 := if_pos hend
    have HRE := hid (show R = (false, 0, p1) by rw [← HR.out, gB_end (by omega)]; show (if (0 : Nat) = 117 then _ else _) = _; rw [if_neg (by decide), if_pos (by omega), hend])
    rw [e] at CPQ
    clear hend e
    go_enter Tryd.func110, Tryd.ntmps110
    go_wp2_with fail
    rw [HW1.out]
    refine CPQ.out.mono ?_
    rintro e w3 ⟨rfl, hqt⟩
    have HJ3 := hid (HJ1.out.qt hqt)
    have HK3 := hid (HK1.out.trans hqt.kp (RowOn.refl _ _))
    clear hqt
    go_wp2
    go_ret2
    rw [HRE.out]
    exact ⟨rfl, HJ3.out, HK3.out⟩
  · have e : nxI L p1 = ((gB L p1 : Nat) : Int) := if_neg hend
    have hle := gB_le L p1
    have HLT := hid (show p1 < L.length by have := HSL.out; omega)
    obtain ⟨G, hG⟩ : ∃ G, gB L p1 = G := ⟨_, rfl⟩
    rw [e, hG] at CPQ
    rw [hG] at HR hle
    have hwb : IntKind.u8.wrap (G : Int) = (G : Int) := by rw [IntKind.wrap_u8]; omega
    have CX := hid (fun w => implEscIdx G w)
    have hg0 : ¬ (G : Int) < 0 := by omega
    have hx1 := hid (fun v (h : escV G = some v) => escI_some (by omega) h)
    have hx2 := hid (fun (h : escV G = none) => escI_none (by omega) h)
    obtain ⟨X, hX⟩ : ∃ X, escI G = X := ⟨_, rfl⟩
    rw [hX] at CX hx1 hx2
    have HGE := hid hG
    clear hend e hX hG hle
    cases hv : escV G with
    | some v =>
      obtain ⟨J, hjlt2, rfl, hjv⟩ := hx1.out v hv
      obtain ⟨q1, hq1⟩ : ∃ x, p1 + 1 = x := ⟨_, rfl⟩
      have HRE := hid (show R = (true, v, q1) by rw [← HR.out, hv, hq1])
      have hqw' : (p1 : Int) + 1 = (q1 : Int) := by omega
      have hqw : IntKind.i64.wrap (q1 : Int) = (q1 : Int) := IntWalk.i64_in _ (by omega)
      obtain ⟨hwv, hwv2⟩ := smallW (escV_le hv)
      obtain ⟨hj0, hjlt⟩ := eightF hjlt2
      obtain ⟨hj8, hjx⟩ := escB_at hjlt2 hjv
      have hix : ((((⟨#[34, 92, 47, 8, 12, 10, 13, 9]⟩ : ByteArray)[J]'hj8).toNat : Nat) : Int) = (v : Int) := congrArg Nat.cast hjx
      clear hv hjv hq1 hjx hx1 hx2
      go_enter Tryd.func110, Tryd.ntmps110
      go_wp2_with fail
      rw [HW1.out]
      refine CPQ.out.mono ?_
      rintro e w3 ⟨rfl, hqt⟩
      have HJ3 := hid (HJ1.out.qt hqt)
      have HK3 := hid (HK1.out.trans hqt.kp (RowOn.refl _ _))
      clear hqt
      go_wp2_with fail
      refine (CX.out _).mono ?_
      rintro e w4 ⟨rfl, rfl⟩
      obtain ⟨d0, d1, d2, d3, z1, z2, z3, zl⟩ := HJ3.out.cells
      clear d2 d3 c0 c1 y1 y2 y3 hl
      have HJ5 := hid (HJ3.out.setP q1)
      have HK5 := hid (HK3.out.set 1 (.int .i64 (q1 : Int)))
      go_wp2
      go_ret2
      rw [HRE.out]
      exact ⟨rfl, HJ5.out, HK5.out⟩
    | none =>
      obtain rfl := hx2.out hv
      clear hx1 hx2
      by_cases h117 : G = 117
      · have e1 : ((G : Int) != 117) = false := by rw [bne_eq_false_iff_eq]; omega
        have E2 := hid (show (G : Int) = 117 by omega)
        have CUQ := hid (fun w (h : JI w g s p1 b nv) => CU.out p1 w h (by have := HLT.out; have := HSL.out; omega))
        have hF9 := fourP_in L (p1 + 1)
        have HFL := hid (show p1 + 1 ≤ L.length from HLT.out)
        have HRU := hid (show R = uniS L (p1 + 1) a by rw [← HR.out, hv]; show (if G = 117 then _ else _) = _; rw [if_pos h117])
        obtain ⟨F, hF⟩ : ∃ F, fourP L (p1 + 1) = F := ⟨_, rfl⟩
        have HRE := hid (show R = if F.1 = false then (false, 0, F.2.2) else if 55296 ≤ F.2.1 ∧ F.2.1 ≤ 56319 then pairS L F.2.1 F.2.2 a else if ptB (F.2.1 : Int) = true then (true, F.2.1, F.2.2) else (false, 0, a) by rw [HRU.out, ← hF]; rfl)
        rw [hF] at CUQ hF9
        obtain ⟨f1, f2, f3⟩ := F
        dsimp only at CUQ hF9 HRE
        have HF3 := hid (show f3 ≤ s.size by have := hF9.2.2.1 HFL.out; have := HSL.out; omega)
        clear hv h117 hF HRU hF9
        go_enter Tryd.func110, Tryd.ntmps110
        go_wp2_with fail
        rw [HW1.out]
        refine CPQ.out.mono ?_
        rintro e w3 ⟨rfl, hqt⟩
        have HJ3 := hid (HJ1.out.qt hqt)
        have HK3 := hid (HK1.out.trans hqt.kp (RowOn.refl _ _))
        clear hqt c0 c1 y1 y2 y3 hl
        go_wp2_with fail
        refine (CX.out _).mono ?_
        rintro e w4 ⟨rfl, rfl⟩
        have e2 := E2.out
        go_wp2_with fail
        refine (CUQ.out _ HJ3.out).mono ?_
        rintro e w5 ⟨rfl, hj5, hk5⟩
        have HJ5 := hid hj5
        have HK5 := hid (HK3.out.trans hk5 (RowOn.refl _ _))
        clear hj5 hk5
        cases f1 with
        | false =>
          have HRF := hid (show R = (false, 0, f3) by rw [HRE.out, if_pos rfl])
          go_wp2
          go_ret2
          rw [HRF.out]
          exact ⟨rfl, HJ5.out, HK5.out⟩
        | true =>
          have CW := hid (fun w => within_any (f2 : Int) 55296 56319 w)
          by_cases hin : 55296 ≤ f2 ∧ f2 ≤ 56319
          · rw [inB_true (show (55296 : Int) ≤ (f2 : Int) ∧ (f2 : Int) ≤ 56319 by omega)] at CW
            have HRF := hid (show R = pairS L f2 f3 a by rw [HRE.out, if_neg (by decide), if_pos hin])
            have CPP := hid (fun w (h : JI w g s f3 b nv) => CPR.out f3 f2 w h hin HF3.out)
            clear hin
            go_wp2_with fail
            refine (CW.out _).mono ?_
            rintro e w6 ⟨rfl, rfl⟩
            go_wp2_with fail
            refine (CPP.out _ HJ5.out).mono ?_
            rintro e w7 ⟨rfl, hj7, hk7⟩
            have HJ7 := hid hj7
            have HK7 := hid (HK5.out.trans hk7 (RowOn.refl _ _))
            clear hj7 hk7
            go_wp2
            go_ret2
            rw [HRF.out]
            exact ⟨rfl, HJ7.out, HK7.out⟩
          · rw [inB_false (show ¬ ((55296 : Int) ≤ (f2 : Int) ∧ (f2 : Int) ≤ 56319) by omega)] at CW
            have CPT := hid (fun w => implPoint (f2 : Int) w)
            cases hpt : ptB (f2 : Int) with
            | true =>
              rw [hpt] at CPT
              have HRF := hid (show R = (true, f2, f3) by rw [HRE.out, if_neg (by decide), if_neg hin, if_pos hpt])
              clear hin hpt
              go_wp2_with fail
              refine (CW.out _).mono ?_
              rintro e w6 ⟨rfl, rfl⟩
              go_wp2_with fail
              refine (CPT.out _).mono ?_
              rintro e w7 ⟨rfl, rfl⟩
              go_wp2
              go_ret2
              rw [HRF.out]
              exact ⟨rfl, HJ5.out, HK5.out⟩
            | false =>
              rw [hpt] at CPT
              have HRF := hid (show R = (false, 0, a) by rw [HRE.out, if_neg (by decide), if_neg hin, if_neg (by rw [hpt]; decide)])
              clear hin hpt
              obtain ⟨d0, d1, d2, d3, z1, z2, z3, zl⟩ := HJ5.out.cells
              clear d2 d3
              have HJ6 := hid (HJ5.out.setP a)
              have HK6 := hid (HK5.out.set 1 (.int .i64 (a : Int)))
              go_wp2_with fail
              refine (CW.out _).mono ?_
              rintro e w6 ⟨rfl, rfl⟩
              go_wp2_with fail
              refine (CPT.out _).mono ?_
              rintro e w7 ⟨rfl, rfl⟩
              go_wp2
              go_ret2
              rw [HRF.out]
              exact ⟨rfl, HJ6.out, HK6.out⟩
      · have e1 : ((G : Int) != 117) = true := by rw [bne_iff_ne]; omega
        have e2 : ¬ (G : Int) = 117 := by omega
        have HRE := hid (show R = (false, 0, a) by rw [← HR.out, hv]; show (if G = 117 then _ else _) = _; rw [if_neg h117, if_neg (by have := HLT.out; omega)])
        clear hv h117
        go_enter Tryd.func110, Tryd.ntmps110
        go_wp2_with fail
        rw [HW1.out]
        refine CPQ.out.mono ?_
        rintro e w3 ⟨rfl, hqt⟩
        have HJ3 := hid (HJ1.out.qt hqt)
        have HK3 := hid (HK1.out.trans hqt.kp (RowOn.refl _ _))
        clear hqt
        go_wp2_with fail
        refine (CX.out _).mono ?_
        rintro e w4 ⟨rfl, rfl⟩
        obtain ⟨d0, d1, d2, d3, z1, z2, z3, zl⟩ := HJ3.out.cells
        clear d2 d3 c0 c1 y1 y2 y3 hl
        have HJ5 := hid (HJ3.out.setP a)
        have HK5 := hid (HK3.out.set 1 (.int .i64 (a : Int)))
        go_wp2
        go_ret2
        rw [HRE.out]
        exact ⟨rfl, HJ5.out, HK5.out⟩
end Go.Proofs.YtlfkfofeenakhaaDoor
