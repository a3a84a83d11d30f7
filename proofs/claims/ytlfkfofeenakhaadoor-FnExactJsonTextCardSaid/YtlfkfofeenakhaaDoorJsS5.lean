/-
  What is proved here: the reference's JSON reader: a value, its lists and objects by contract. No condition but that the reader lies in memory.
-/
import Derived.Test.YtlfkfofeenakhaaDoorJsS3
import Derived.Test.YtlfkfofeenakhaaDoorJsS4
import Derived.Test.YtlfkfofeenakhaaDoorJsL4
namespace Go.Proofs.YtlfkfofeenakhaaDoor
open Go.RowKit
set_option linter.unusedVariables false
set_option linter.unusedSimpArgs false

theorem rdJN_mk {S : Nat → Prop} {w : World} {n : JNode} {u v : Value} (hk : -9223372036854775808 ≤ n.kind ∧ n.kind ≤ 9223372036854775807) (ht : n.text.size ≤ 9223372036854775807) (hs : Rd.rd S w [u] n.keys) (hd : Rd.rd S w [v] n.kids) : Rd.rd S w [.int .i64 n.kind, .string n.text, u, v] n :=
  ⟨[.int .i64 n.kind], _, rfl, ⟨rfl, hk⟩, [.string n.text], _, rfl, ⟨rfl, ht⟩, [u], [v], rfl, hs, hd⟩
theorem rd_noStr {S : Nat → Prop} {w : World} : Rd.rd S w [.slice none 0 0] ([] : List ByteArray) := ⟨none, 0, rfl, Nat.le_refl _, by omega, fun h => absurd h (by simp)⟩
theorem rd_noInt {S : Nat → Prop} {w : World} : Rd.rd S w [.slice none 0 0] ([] : List Int) := ⟨none, 0, rfl, Nat.le_refl _, by omega, fun h => absurd h (by simp)⟩
theorem putLeaf {X : Nat → Prop} {g : Nat} {s : ByteArray} {p cd bd d b : Nat} {nv : Value} {ns : List JNode} (k : Int) (t : ByteArray) (hk : 0 ≤ k ∧ k ≤ 100) (ht : t.size ≤ 1000000) (w : World) (hb : JS w g s p cd bd d b nv) (hn : JNs X g nv w ns) (hlen : ns.length ≤ 100000) :
    Calls Tryd.prog 66 #[.pointer (some ⟨g, 0, none⟩), .agg #[.int .i64 k, .string t, .slice none 0 0, .slice none 0 0]] w fun e w' => PutJ X g s p cd bd d b nv w w' ns ⟨k, t, [], []⟩ e :=
  specJPut (n := ⟨k, t, [], []⟩) w hb hn (rdJN_mk (by dsimp only; omega) (by dsimp only; omega) rd_noStr rd_noInt) hlen
theorem RowOn.upJ {w w1 : World} {r r' : Option Nat} (h : RowOn w1 r r') (hs : w.heap.size ≤ w1.heap.size) : RowOn w r r' := by
  rcases h with h | ⟨b, h1, h2⟩
  · exact Or.inl h
  · exact Or.inr ⟨b, h1, Nat.le_trans hs h2⟩
/-- what a value leaves -/
def ValJ (X : Nat → Prop) (w w' : World) (g : Nat) (s : ByteArray) (d : Nat) (nv : Value) (r : JR) (e : Ending) : Prop :=
  (∃ kid j b' ns' nv', r = .ok kid j b' ns' ∧ e = .returned (.int .i64 ((kid : Nat) : Int)) ∧ JS w' g s j 0 0 d b' nv' ∧ JNs X g nv' w' ns' ∧ RowOn w nv.ownBlock nv'.ownBlock)
  ∨ (∃ (c q x j d' b' : Nat) (nv' : Value), r = .er c q ∧ c ≠ 0 ∧ e = .returned (.int .i64 (x : Int)) ∧ JS w' g s j c q d' b' nv' ∧ RowOn w nv.ownBlock nv'.ownBlock ∧ j ≤ 5100 ∧ x ≤ 100000)
def GrpC (s : ByteArray) (g d : Nat) (grp : Nat → Nat → Nat → List JNode → JR) : Prop :=
  ∀ (X : Nat → Prop) (w : World) (o p b : Nat) (nv : Value) (ns : List JNode), (∀ b, X b → b < w.heap.size) → (o = 91 ∨ o = 123) → JS w g s p 0 0 d b nv → p < s.size → b ≤ 200 → ns.length + 1 ≤ b → JNs X g nv w ns →
    Calls Tryd.prog 68 #[.pointer (some ⟨g, 0, none⟩), .int .i64 (o : Int)] w fun e w' => ValJ X w w' g s d nv (grp o p b ns) e ∧ Kp g nv.ownBlock w w'
def ValC (s : ByteArray) (g d : Nat) (val : Nat → Nat → List JNode → JR) : Prop :=
  ∀ (X : Nat → Prop) (w : World) (p b : Nat) (nv : Value) (ns : List JNode), (∀ b, X b → b < w.heap.size) → JS w g s p 0 0 d b nv → p ≤ s.size → b ≤ 200 → ns.length ≤ b → JNs X g nv w ns →
    Calls Tryd.prog 29 #[.pointer (some ⟨g, 0, none⟩)] w fun e w' => ValJ X w w' g s d nv (val p b ns) e ∧ Kp g nv.ownBlock w w'
theorem ext_take {s : ByteArray} {p q : Nat} : s.extract p q = mkB ((s.data.toList.drop p).take (q - p)) := by
  have e : (s.extract p q).data.toList = (s.data.toList.drop p).take (q - p) := by rw [ByteArray.data_extract, Array.toList_extract, List.extract_eq_take_drop]
  rw [← e, mkB_of]
theorem numJ_in {L : List UInt8} {p : Nat} (hp : p < L.length) : p ≤ (numJ L p).2 ∧ ((numJ L p).1 = true → (numJ L p).2 ≤ L.length) ∧ (numJ L p).2 ≤ L.length + 3 := by
  have hrun : ∀ q, q ≤ dgE L q ∧ (q ≤ L.length → dgE L q ≤ L.length) ∧ (L.length < q → dgE L q = q) := fun q => ⟨runE_le _ _ _, runE_len, fun h => runE_far (by omega)⟩
  have hat : ∀ q, gB L q ≠ 0 → q < L.length := fun q h => gB_lt h
  have h1 : p ≤ sgP L p ∧ sgP L p ≤ L.length := by
    unfold sgP
    split
    · omega
    · omega
  have h2 : sgP L p ≤ (intP L (sgP L p)).2 ∧ (intP L (sgP L p)).2 ≤ L.length := by
    obtain ⟨r1, r2, r3⟩ := hrun (sgP L p)
    unfold intP
    split
    · rename_i h
      have := hat (sgP L p) (by omega)
      exact ⟨by show sgP L p ≤ sgP L p + 1; omega, by show sgP L p + 1 ≤ _; omega⟩
    · split
      · exact ⟨Nat.le_refl _, h1.2⟩
      · exact ⟨r1, r2 h1.2⟩
  obtain ⟨a, ha⟩ : ∃ a, (intP L (sgP L p)).2 = a := ⟨_, rfl⟩
  have h3 : a ≤ (frP L a).2 ∧ (frP L a).2 ≤ L.length := by
    obtain ⟨r1, r2, r3⟩ := hrun (a + 1)
    unfold frP
    split
    · rename_i h
      have := hat a (by omega)
      split
      · exact ⟨by show a ≤ a + 1; omega, by show a + 1 ≤ _; omega⟩
      · exact ⟨by show a ≤ dgE L (a + 1); omega, r2 (by omega)⟩
    · exact ⟨Nat.le_refl _, by show a ≤ _; omega⟩
  obtain ⟨c, hc⟩ : ∃ c, (frP L a).2 = c := ⟨_, rfl⟩
  have h4 : c ≤ (exP L c).2 ∧ (exP L c).2 ≤ L.length := by
    unfold exP
    split
    · rename_i h
      have hcl := hat c (by omega)
      have hsg : c + 1 ≤ sg2 L (c + 1) ∧ sg2 L (c + 1) ≤ L.length := by
        unfold sg2
        split
        · rename_i h5
          have := hat (c + 1) (by omega)
          omega
        · omega
      obtain ⟨r1, r2, r3⟩ := hrun (sg2 L (c + 1))
      split
      · exact ⟨by show c ≤ sg2 L (c + 1); omega, hsg.2⟩
      · exact ⟨by show c ≤ dgE L (sg2 L (c + 1)); omega, r2 hsg.2⟩
    · exact ⟨Nat.le_refl _, by show c ≤ _; omega⟩
  unfold numJ
  rw [ha, hc]
  split
  · rw [ha]; exact ⟨by omega, fun _ => by omega, by omega⟩
  · split
    · rw [hc]; exact ⟨by omega, fun _ => by omega, by omega⟩
    · exact ⟨by omega, fun _ => by omega, by omega⟩
set_option maxHeartbeats 64000000 in
set_option maxRecDepth 100000 in
theorem specJValue {g d : Nat} {s : ByteArray} {grp : Nat → Nat → Nat → List JNode → JR} (hs : s.size ≤ 5000) (HG : GrpC s g d grp) : ValC s g d (valG s.data.toList grp) := by
  intro X w p b nv ns hX h hp hb hnb hn
  obtain ⟨L, hL⟩ : ∃ L, s.data.toList = L := ⟨_, rfl⟩
  have hsl : s.size = L.length := by rw [← hL, Lib.size_eq]
  have CP := hid (specJPeek w h)
  have CF := hid (fun (c e b : Nat) (w : World) (h : JS w g s p 0 0 d b nv) => specJFail c e w h)
  have CDg := hid (fun (c : Nat) (w : World) => specJDigit c w)
  have CW := hid (fun (c q b : Nat) (w : World) (h : JS w g s q 0 0 d b nv) (hq : q ≤ 10000) => specJWant c w h hq)
  have CST := hid (fun (b : Nat) (w : World) (h : JS w g s p 0 0 d b nv) (hp : p < s.size) => specJStr w h hp hs)
  have CNM := hid (fun (b : Nat) (w : World) (h : JS w g s p 0 0 d b nv) => specJNumber w h hp hs)
  have CPU := hid (fun (k : Int) (t : ByteArray) (hk : 0 ≤ k ∧ k ≤ 100) (ht : t.size ≤ 1000000) (q cd bd b : Nat) (w : World) (h : JS w g s q cd bd d b nv) (hn : JNs X g nv w ns) => putLeaf (X := X) (ns := ns) k t hk ht w h hn (by omega))
  have CGR := hid (fun (o b : Nat) (w : World) (hX : ∀ b, X b → b < w.heap.size) (ho : o = 91 ∨ o = 123) (h : JS w g s p 0 0 d b nv) (hp : p < s.size) (hb : b ≤ 200) (hnb : ns.length + 1 ≤ b) (hn : JNs X g nv w ns) => HG X w o p b nv ns hX ho h hp hb hnb hn)
  have HXT := hid (show s.extract p (numJ L p).2 = mkB ((L.drop p).take ((numJ L p).2 - p)) by rw [← hL]; exact ext_take)
  rw [hL] at CP CST CNM CW ⊢
  obtain ⟨R, hR⟩ : ∃ R, valG L grp p b ns = R := ⟨_, rfl⟩
  have HR := hid hR
  rw [hR]
  obtain ⟨G, hG⟩ : ∃ G, gB L p = G := ⟨_, rfl⟩
  have HGv := hid hG
  rw [hG] at CP
  have hG255 : G ≤ 255 := by rw [← hG]; exact gB_le L p
  have HPL := hid (show G ≠ 0 → p < s.size from fun h => by rw [hsl]; exact gB_lt (by rw [hG]; exact h))
  have HNI := hid (fun (h : p < s.size) => numJ_in (L := L) (p := p) (by rw [← hsl]; exact h))
  have HSI := hid (fun (h : p < s.size) => strP_in (L := L) (p := p) (by rw [← hsl]; exact h))
  have HSL := hid hsl
  have HH := hid h
  have HN := hid hn
  have HX := hid hX
  have hpi : p ≤ 5000 := by omega
  clear hL hsl hR h hG hn hX
  go_enter Tryd.func29, Tryd.ntmps29
  obtain ⟨c0, c1, c2, c3, c4, c5, c6, y1, y2, y3, y4, y5, y6, hl⟩ := HH.out.cells
  clear c0 c2 c3 c4 c5 c6
  go_wp2_with fail
  refine CP.out.mono ?_
  rintro e w1 ⟨rfl, hq⟩
  have HJ1 := hid (HH.out.qt hq)
  have HK1 := hid (hq.kp (g := g) (r := none))
  have HN1 := hid (HN.out.kp HK1.out)
  have HX1 := hid (show ∀ b, X b → b < w1.heap.size by rw [hq.heap]; exact HX.out)
  clear hq c1 y1 y2 y3 y4 y5 y6 hl
  obtain ⟨c0, c1, c2, c3, c4, c5, c6, y1, y2, y3, y4, y5, y6, hl⟩ := HJ1.out.cells
  clear c0 c3 c4 c6
  by_cases hiv : isVal G = false
  · as_aux_lemma =>
    have hx : G ≠ 110 ∧ G ≠ 116 ∧ G ≠ 102 ∧ G ≠ 34 ∧ G ≠ 45 ∧ dgB G = false ∧ G ≠ 91 ∧ G ≠ 123 := by
      unfold isVal at hiv
      simp only [Bool.or_eq_false_iff, beq_eq_false_iff_ne] at hiv
      obtain ⟨⟨⟨⟨⟨⟨⟨a1, a2⟩, a3⟩, a4⟩, a5⟩, a6⟩, a7⟩, a8⟩ := hiv
      exact ⟨a1, a2, a3, a4, a5, a6, a7, a8⟩
    obtain ⟨a1, a2, a3, a4, a5, a6, a7, a8⟩ := hx
    have e1 : ((G : Int) == 110) = false := by rw [beq_eq_false_iff_ne]; omega
    have e2 : ((G : Int) == 116) = false := by rw [beq_eq_false_iff_ne]; omega
    have e3 : ((G : Int) == 102) = false := by rw [beq_eq_false_iff_ne]; omega
    have e4 : ((G : Int) == 34) = false := by rw [beq_eq_false_iff_ne]; omega
    have e5 : ((G : Int) == 45) = false := by rw [beq_eq_false_iff_ne]; omega
    have e7 : ((G : Int) == 91) = false := by rw [beq_eq_false_iff_ne]; omega
    have e8 : ((G : Int) == 123) = false := by rw [beq_eq_false_iff_ne]; omega
    have hwb : IntKind.u8.wrap (G : Int) = (G : Int) := by rw [IntKind.wrap_u8]; omega
    have CDB := hid (fun w => CDg.out G w)
    rw [a6] at CDB
    have HRE := hid (show R = .er 2 p by rw [← HR.out]; unfold valG; rw [HGv.out, if_pos hiv])
    clear hiv a1 a2 a3 a4 a5 a6 a7 a8 c1 c2 c5
    go_wp2_with fail
    refine (CDB.out _).mono ?_
    rintro e w2 ⟨rfl, rfl⟩
    go_wp2_with fail
    refine (CF.out 2 p b _ HJ1.out).mono ?_
    rintro e w3 ⟨rfl, hj, hk⟩
    have HJ3 := hid hj
    have HK3 := hid (HK1.out.trans hk (RowOn.refl _ _))
    clear hj hk
    go_wp2
    go_ret
    rw [HRE.out]
    exact ⟨Or.inr ⟨2, p, 0, p, d, b, nv, rfl, by decide, rfl, HJ3.out, RowOn.refl _ _, by omega, by decide⟩, KpweakJ HK3.out _⟩
  by_cases h110 : G = 110
  · as_aux_lemma =>
    subst h110
    have hps := HPL.out (by decide)
    have HRB := hid (show b = 200 → R = .er 5 p from fun hb => by rw [← HR.out]; unfold valG; rw [HGv.out, if_neg (by decide), if_pos hb])
    have HRC := hid (show b ≠ 200 → R = wordR L p [110, 117, 108, 108] 1 (b + 1) ns from fun hb => by rw [← HR.out]; unfold valG; rw [HGv.out, if_neg (by decide), if_neg hb, if_pos rfl])
    go_upto_region 17 with fail
    by_cases hb2 : b = 200
    · have HRE := hid (HRB.out hb2)
      have eb : ((b : Int) == 200) = true := by rw [hb2]; rfl
      have eb2 : (b : Int) = 200 := by omega
      clear hb2 c1 c2
      go_wp2_with fail
      refine (CF.out 5 p b _ HJ1.out).mono ?_
      rintro e w3 ⟨rfl, hj, hk⟩
      have HJ3 := hid hj
      have HK3 := hid (HK1.out.trans hk (RowOn.refl _ _))
      clear hj hk
      go_wp2
      go_ret
      rw [HRE.out]
      exact ⟨Or.inr ⟨5, p, 0, p, d, b, nv, rfl, by decide, rfl, HJ3.out, RowOn.refl _ _, by omega, by decide⟩, KpweakJ HK3.out _⟩
    have HRE0 := hid (HRC.out hb2)
    have eb : ((b : Int) == 200) = false := by rw [beq_eq_false_iff_ne]; omega
    have eb2 : ¬ (b : Int) = 200 := by omega
    have hb3 : b + 1 ≤ 200 := by omega
    obtain ⟨b1, hb1⟩ : ∃ x, b + 1 = x := ⟨_, rfl⟩
    have hvb' : (b : Int) + 1 = (b1 : Int) := by omega
    have hvb : IntKind.i64.wrap (b1 : Int) = (b1 : Int) := IntWalk.i64_in _ (by omega)
    rw [hb1] at HRE0 hb3
    obtain ⟨w2, hw2⟩ : ∃ x, w1.setCell ⟨g, 5, none⟩ (.int .i64 (b1 : Int)) = x := ⟨_, rfl⟩
    have HJ2 := hid (show JS w2 g s p 0 0 d b1 nv by rw [← hw2]; exact HJ1.out.setB b1)
    have HK2 := hid (show Kp g none w w2 by rw [← hw2]; exact HK1.out.set 5 _)
    have HN2 := hid (HN.out.kp HK2.out)
    have HX2 := hid (show ∀ b, X b → b < w2.heap.size from fun b hb => Nat.lt_of_lt_of_le (HX.out b hb) HK2.out.size)
    have HB1 := hid hb1
    go_upto_region 20 with fail
    try rw [hw2]
    clear hw2 hb2 eb eb2 hvb hvb' hb1 c1 c2 c5 y1 y2 y3 y4 y5 y6 hl
    obtain ⟨WD, hWD⟩ : ∃ WD : List Nat, [110, 117, 108, 108] = WD := ⟨_, rfl⟩
    obtain ⟨WB, hWB⟩ : ∃ WB, (⟨#[110, 117, 108, 108]⟩ : ByteArray) = WB := ⟨_, rfl⟩
    have hws : WB.size = WD.length := by rw [← hWB, ← hWD]; rfl
    have hws9 : WB.size ≤ 9 := by rw [← hWB]; decide
    have HWS := hid hws
    have HWV := hid (show ∀ k (h : k < WB.size) (h2 : k < WD.length), ((WB[k]'h : UInt8).toNat) = WD[k]'h2 by
      subst hWB; subst hWD
      intro k h h2
      have h3 : k = 0 ∨ k = 1 ∨ k = 2 ∨ k = 3 := by have h4 : k < 4 := h2; omega
      rcases h3 with rfl | rfl | rfl | rfl <;> rfl)
    obtain ⟨RW, hRW⟩ : ∃ RW, wordE L WD p = RW := ⟨_, rfl⟩
    have HRW := hid hRW
    have HRE1 := hid (show R = if RW.1 = true then putN ⟨1, ⟨#[]⟩, [], []⟩ RW.2 b1 ns else .er 2 RW.2 by rw [HRE0.out]; unfold wordR; rw [hWD, hRW])
    go_wp2
    rw [hWB]
    clear hWB hWD hRW hws HRE0
    go_loopw [7] (fun v7 wr => ∃ k q cd bd : Nat, k ≤ WB.size ∧ v7 = .int .i64 (k : Int) ∧ q ≤ 5010 ∧ JS wr g s q cd bd d b1 nv ∧ Kp g none w wr ∧ ((cd = 0 ∧ bd = 0 ∧ q = p + k ∧ Hid (wordE L (WD.drop k) q = RW)) ∨ (cd = 2 ∧ Hid (RW = (false, bd))))) (fun v7 _ => WB.size - (intOf v7).toNat)
    case atStart => exact ⟨0, p, 0, 0, Nat.zero_le _, rfl, by omega, HJ2.out, HK2.out, Or.inl ⟨rfl, rfl, rfl, hid HRW.out⟩⟩
    case round =>
      obtain ⟨k, q, cd, bd, hk, rfl, hq, hj, hkp, hst⟩ := hrel
      rcases hst with ⟨rfl, rfl, hqk, HQ⟩ | ⟨rfl, HRF⟩
      · have HJr := hid hj
        have HKr := hid hkp
        have HQK := hid hqk
        have HNr := hid (HN.out.kp hkp)
        obtain ⟨c0, c1, c2, c3, c4, c5, c6, y1, y2, y3, y4, y5, y6, hl⟩ := hj.cells
        clear hj hkp hqk c0 c1 c3 c4 c5 c6
        by_cases hlt : k < WB.size
        · have hki : (k : Int) < (WB.size : Int) := by omega
          have hk0 : (0 : Int) ≤ (k : Int) := by omega
          have hkd : k < WD.length := by rw [← HWS.out]; exact hlt
          have hv := HWV.out k hlt hkd
          have HSTEP := hid (show (if gB L q = WD[k]'hkd then wordE L (WD.drop (k + 1)) (q + 1) else (false, q)) = RW by rw [← HQ.out, List.drop_eq_getElem_cons hkd]; rfl)
          obtain ⟨c, hc⟩ : ∃ c, WD[k]'hkd = c := ⟨_, rfl⟩
          rw [hc] at hv HSTEP
          have h255 := (WB[k]'hlt).toNat_lt
          have hix : ((WB[k]'hlt : UInt8).toNat : Int) = (c : Int) := by rw [hv]
          have hwr : wrap64 (((WB[k]'hlt).toNat : Nat) : Int) = (((WB[k]'hlt).toNat : Nat) : Int) := IntWalk.wrap64_in _ (by omega)
          have hwc : wrap64 (c : Int) = (c : Int) := by rw [← hix]; exact hwr
          clear hc hv h255
          go_wp2_with fail
          refine (CW.out c q b1 _ HJr.out (by omega)).mono ?_
          rintro e w4 ⟨rfl, hj, hkk⟩
          have HK4 := hid (HKr.out.trans hkk (RowOn.refl _ _))
          by_cases hm : gB L q = c
          · rw [if_pos hm, if_pos hm, if_pos hm] at hj
            have HJ4 := hid hj
            have HQ4 := hid (show wordE L (WD.drop (k + 1)) (q + 1) = RW by rw [← HSTEP.out, if_pos hm])
            clear hj hkk hm c2
            go_wp2
            go_roundw
            case rel => exact ⟨k + 1, q + 1, 0, 0, hlt, by go_num, by have := HQK.out; omega, HJ4.out, HK4.out, Or.inl ⟨rfl, rfl, by have := HQK.out; omega, HQ4⟩⟩
            case measure => simp [intOf]; omega
          · rw [if_neg hm, if_neg hm, if_neg hm] at hj
            have HJ4 := hid (show JS w4 g s q 2 q d b1 nv from hj)
            have HQ4 := hid (show RW = (false, q) by rw [← HSTEP.out, if_neg hm])
            clear hj hkk hm c2
            go_wp2
            go_roundw
            case rel => exact ⟨k + 1, q, 2, q, hlt, by go_num, hq, HJ4.out, HK4.out, Or.inr ⟨rfl, HQ4⟩⟩
            case measure => simp [intOf]; omega
        · have hki : ¬ (k : Int) < (WB.size : Int) := by omega
          have HRE := hid (show R = putN ⟨1, ⟨#[]⟩, [], []⟩ q b1 ns by
            have h1 := HQ.out
            rw [List.drop_eq_nil_of_le (by have := HWS.out; omega), wordE] at h1
            rw [HRE1.out, ← h1]
            rfl)
          go_wp2_with fail
          refine (CPU.out 1 ⟨#[]⟩ (by decide) (by decide) q 0 0 b1 _ HJr.out HNr.out).mono ?_
          rintro e w5 ⟨nv', rfl, hj5, hn5, hro5, hk5⟩
          have HJ5 := hid hj5
          have HN5 := hid hn5
          have HRO := hid (hro5.upJ HKr.out.size)
          have HK5 := hid ((KpweakJ HKr.out nv.ownBlock).trans hk5 (RowOn.refl _ _))
          clear hj5 hn5 hro5 hk5 c2
          go_wp2
          go_ret
          rw [HRE.out]
          exact ⟨Or.inl ⟨_, _, _, _, nv', rfl, rfl, HJ5.out, HN5.out, HRO.out⟩, HK5.out⟩
      · have HJr := hid hj
        have HKr := hid hkp
        have HNr := hid (HN.out.kp hkp)
        have HRE := hid (show R = .er 2 bd by rw [HRE1.out, HRF.out]; rfl)
        obtain ⟨c0, c1, c2, c3, c4, c5, c6, y1, y2, y3, y4, y5, y6, hl⟩ := hj.cells
        clear hj hkp c0 c1 c3 c4 c5 c6
        have fin : ∀ (w5 : World) (e : Ending), PutJ X g s q 2 bd d b1 nv wr w5 ns ⟨1, ⟨#[]⟩, [], []⟩ e → ValJ X w w5 g s d nv R e ∧ Kp g nv.ownBlock w w5 := by
          rintro w5 e ⟨nv', rfl, hj5, hn5, hro5, hk5⟩
          rw [HRE.out]
          exact ⟨Or.inr ⟨2, bd, ns.length, q, d, b1, nv', rfl, by decide, rfl, hj5, hro5.upJ HKr.out.size, by omega, by omega⟩, (KpweakJ HKr.out nv.ownBlock).trans hk5 (RowOn.refl _ _)⟩
        have FIN := hid fin
        clear fin
        by_cases hlt : k < WB.size
        · have hki : (k : Int) < (WB.size : Int) := by omega
          go_wp2_with fail
          refine (CPU.out 1 ⟨#[]⟩ (by decide) (by decide) q 2 bd b1 _ HJr.out HNr.out).mono ?_
          rintro e w5 hput
          have HP := hid hput
          obtain ⟨nv', rfl, _⟩ := hput
          go_wp2
          go_ret
          exact FIN.out _ _ HP.out
        · have hki : ¬ (k : Int) < (WB.size : Int) := by omega
          go_wp2_with fail
          refine (CPU.out 1 ⟨#[]⟩ (by decide) (by decide) q 2 bd b1 _ HJr.out HNr.out).mono ?_
          rintro e w5 hput
          have HP := hid hput
          obtain ⟨nv', rfl, _⟩ := hput
          go_wp2
          go_ret
          exact FIN.out _ _ HP.out
  have e110 : ((G : Int) == 110) = false := by rw [beq_eq_false_iff_ne]; omega
  by_cases h116 : G = 116
  · as_aux_lemma =>
    subst h116
    have hps := HPL.out (by decide)
    have HRB := hid (show b = 200 → R = .er 5 p from fun hb => by rw [← HR.out]; unfold valG; rw [HGv.out, if_neg (by decide), if_pos hb])
    have HRC := hid (show b ≠ 200 → R = wordR L p [116, 114, 117, 101] 2 (b + 1) ns from fun hb => by rw [← HR.out]; unfold valG; rw [HGv.out, if_neg (by decide), if_neg hb, if_neg (by decide), if_pos rfl])
    go_upto_region 17 with fail
    by_cases hb2 : b = 200
    · have HRE := hid (HRB.out hb2)
      have eb : ((b : Int) == 200) = true := by rw [hb2]; rfl
      have eb2 : (b : Int) = 200 := by omega
      clear hb2 c1 c2
      go_wp2_with fail
      refine (CF.out 5 p b _ HJ1.out).mono ?_
      rintro e w3 ⟨rfl, hj, hk⟩
      have HJ3 := hid hj
      have HK3 := hid (HK1.out.trans hk (RowOn.refl _ _))
      clear hj hk
      go_wp2
      go_ret
      rw [HRE.out]
      exact ⟨Or.inr ⟨5, p, 0, p, d, b, nv, rfl, by decide, rfl, HJ3.out, RowOn.refl _ _, by omega, by decide⟩, KpweakJ HK3.out _⟩
    have HRE0 := hid (HRC.out hb2)
    have eb : ((b : Int) == 200) = false := by rw [beq_eq_false_iff_ne]; omega
    have eb2 : ¬ (b : Int) = 200 := by omega
    have hb3 : b + 1 ≤ 200 := by omega
    obtain ⟨b1, hb1⟩ : ∃ x, b + 1 = x := ⟨_, rfl⟩
    have hvb' : (b : Int) + 1 = (b1 : Int) := by omega
    have hvb : IntKind.i64.wrap (b1 : Int) = (b1 : Int) := IntWalk.i64_in _ (by omega)
    rw [hb1] at HRE0 hb3
    obtain ⟨w2, hw2⟩ : ∃ x, w1.setCell ⟨g, 5, none⟩ (.int .i64 (b1 : Int)) = x := ⟨_, rfl⟩
    have HJ2 := hid (show JS w2 g s p 0 0 d b1 nv by rw [← hw2]; exact HJ1.out.setB b1)
    have HK2 := hid (show Kp g none w w2 by rw [← hw2]; exact HK1.out.set 5 _)
    have HN2 := hid (HN.out.kp HK2.out)
    have HX2 := hid (show ∀ b, X b → b < w2.heap.size from fun b hb => Nat.lt_of_lt_of_le (HX.out b hb) HK2.out.size)
    have HB1 := hid hb1
    go_upto_region 20 with fail
    try rw [hw2]
    clear hw2 hb2 eb eb2 hvb hvb' hb1 c1 c2 c5 y1 y2 y3 y4 y5 y6 hl
    obtain ⟨WD, hWD⟩ : ∃ WD : List Nat, [116, 114, 117, 101] = WD := ⟨_, rfl⟩
    obtain ⟨WB, hWB⟩ : ∃ WB, (⟨#[116, 114, 117, 101]⟩ : ByteArray) = WB := ⟨_, rfl⟩
    have hws : WB.size = WD.length := by rw [← hWB, ← hWD]; rfl
    have hws9 : WB.size ≤ 9 := by rw [← hWB]; decide
    have HWS := hid hws
    have HWV := hid (show ∀ k (h : k < WB.size) (h2 : k < WD.length), ((WB[k]'h : UInt8).toNat) = WD[k]'h2 by
      subst hWB; subst hWD
      intro k h h2
      have h3 : k = 0 ∨ k = 1 ∨ k = 2 ∨ k = 3 := by have h4 : k < 4 := h2; omega
      rcases h3 with rfl | rfl | rfl | rfl <;> rfl)
    obtain ⟨RW, hRW⟩ : ∃ RW, wordE L WD p = RW := ⟨_, rfl⟩
    have HRW := hid hRW
    have HRE1 := hid (show R = if RW.1 = true then putN ⟨2, ⟨#[]⟩, [], []⟩ RW.2 b1 ns else .er 2 RW.2 by rw [HRE0.out]; unfold wordR; rw [hWD, hRW])
    go_wp2
    rw [hWB]
    clear hWB hWD hRW hws HRE0
    go_loopw [7] (fun v7 wr => ∃ k q cd bd : Nat, k ≤ WB.size ∧ v7 = .int .i64 (k : Int) ∧ q ≤ 5010 ∧ JS wr g s q cd bd d b1 nv ∧ Kp g none w wr ∧ ((cd = 0 ∧ bd = 0 ∧ q = p + k ∧ Hid (wordE L (WD.drop k) q = RW)) ∨ (cd = 2 ∧ Hid (RW = (false, bd))))) (fun v7 _ => WB.size - (intOf v7).toNat)
    case atStart => exact ⟨0, p, 0, 0, Nat.zero_le _, rfl, by omega, HJ2.out, HK2.out, Or.inl ⟨rfl, rfl, rfl, hid HRW.out⟩⟩
    case round =>
      obtain ⟨k, q, cd, bd, hk, rfl, hq, hj, hkp, hst⟩ := hrel
      rcases hst with ⟨rfl, rfl, hqk, HQ⟩ | ⟨rfl, HRF⟩
      · have HJr := hid hj
        have HKr := hid hkp
        have HQK := hid hqk
        have HNr := hid (HN.out.kp hkp)
        obtain ⟨c0, c1, c2, c3, c4, c5, c6, y1, y2, y3, y4, y5, y6, hl⟩ := hj.cells
        clear hj hkp hqk c0 c1 c3 c4 c5 c6
        by_cases hlt : k < WB.size
        · have hki : (k : Int) < (WB.size : Int) := by omega
          have hk0 : (0 : Int) ≤ (k : Int) := by omega
          have hkd : k < WD.length := by rw [← HWS.out]; exact hlt
          have hv := HWV.out k hlt hkd
          have HSTEP := hid (show (if gB L q = WD[k]'hkd then wordE L (WD.drop (k + 1)) (q + 1) else (false, q)) = RW by rw [← HQ.out, List.drop_eq_getElem_cons hkd]; rfl)
          obtain ⟨c, hc⟩ : ∃ c, WD[k]'hkd = c := ⟨_, rfl⟩
          rw [hc] at hv HSTEP
          have h255 := (WB[k]'hlt).toNat_lt
          have hix : ((WB[k]'hlt : UInt8).toNat : Int) = (c : Int) := by rw [hv]
          have hwr : wrap64 (((WB[k]'hlt).toNat : Nat) : Int) = (((WB[k]'hlt).toNat : Nat) : Int) := IntWalk.wrap64_in _ (by omega)
          have hwc : wrap64 (c : Int) = (c : Int) := by rw [← hix]; exact hwr
          clear hc hv h255
          go_wp2_with fail
          refine (CW.out c q b1 _ HJr.out (by omega)).mono ?_
          rintro e w4 ⟨rfl, hj, hkk⟩
          have HK4 := hid (HKr.out.trans hkk (RowOn.refl _ _))
          by_cases hm : gB L q = c
          · rw [if_pos hm, if_pos hm, if_pos hm] at hj
            have HJ4 := hid hj
            have HQ4 := hid (show wordE L (WD.drop (k + 1)) (q + 1) = RW by rw [← HSTEP.out, if_pos hm])
            clear hj hkk hm c2
            go_wp2
            go_roundw
            case rel => exact ⟨k + 1, q + 1, 0, 0, hlt, by go_num, by have := HQK.out; omega, HJ4.out, HK4.out, Or.inl ⟨rfl, rfl, by have := HQK.out; omega, HQ4⟩⟩
            case measure => simp [intOf]; omega
          · rw [if_neg hm, if_neg hm, if_neg hm] at hj
            have HJ4 := hid (show JS w4 g s q 2 q d b1 nv from hj)
            have HQ4 := hid (show RW = (false, q) by rw [← HSTEP.out, if_neg hm])
            clear hj hkk hm c2
            go_wp2
            go_roundw
            case rel => exact ⟨k + 1, q, 2, q, hlt, by go_num, hq, HJ4.out, HK4.out, Or.inr ⟨rfl, HQ4⟩⟩
            case measure => simp [intOf]; omega
        · have hki : ¬ (k : Int) < (WB.size : Int) := by omega
          have HRE := hid (show R = putN ⟨2, ⟨#[]⟩, [], []⟩ q b1 ns by
            have h1 := HQ.out
            rw [List.drop_eq_nil_of_le (by have := HWS.out; omega), wordE] at h1
            rw [HRE1.out, ← h1]
            rfl)
          go_wp2_with fail
          refine (CPU.out 2 ⟨#[]⟩ (by decide) (by decide) q 0 0 b1 _ HJr.out HNr.out).mono ?_
          rintro e w5 ⟨nv', rfl, hj5, hn5, hro5, hk5⟩
          have HJ5 := hid hj5
          have HN5 := hid hn5
          have HRO := hid (hro5.upJ HKr.out.size)
          have HK5 := hid ((KpweakJ HKr.out nv.ownBlock).trans hk5 (RowOn.refl _ _))
          clear hj5 hn5 hro5 hk5 c2
          go_wp2
          go_ret
          rw [HRE.out]
          exact ⟨Or.inl ⟨_, _, _, _, nv', rfl, rfl, HJ5.out, HN5.out, HRO.out⟩, HK5.out⟩
      · have HJr := hid hj
        have HKr := hid hkp
        have HNr := hid (HN.out.kp hkp)
        have HRE := hid (show R = .er 2 bd by rw [HRE1.out, HRF.out]; rfl)
        obtain ⟨c0, c1, c2, c3, c4, c5, c6, y1, y2, y3, y4, y5, y6, hl⟩ := hj.cells
        clear hj hkp c0 c1 c3 c4 c5 c6
        have fin : ∀ (w5 : World) (e : Ending), PutJ X g s q 2 bd d b1 nv wr w5 ns ⟨2, ⟨#[]⟩, [], []⟩ e → ValJ X w w5 g s d nv R e ∧ Kp g nv.ownBlock w w5 := by
          rintro w5 e ⟨nv', rfl, hj5, hn5, hro5, hk5⟩
          rw [HRE.out]
          exact ⟨Or.inr ⟨2, bd, ns.length, q, d, b1, nv', rfl, by decide, rfl, hj5, hro5.upJ HKr.out.size, by omega, by omega⟩, (KpweakJ HKr.out nv.ownBlock).trans hk5 (RowOn.refl _ _)⟩
        have FIN := hid fin
        clear fin
        by_cases hlt : k < WB.size
        · have hki : (k : Int) < (WB.size : Int) := by omega
          go_wp2_with fail
          refine (CPU.out 2 ⟨#[]⟩ (by decide) (by decide) q 2 bd b1 _ HJr.out HNr.out).mono ?_
          rintro e w5 hput
          have HP := hid hput
          obtain ⟨nv', rfl, _⟩ := hput
          go_wp2
          go_ret
          exact FIN.out _ _ HP.out
        · have hki : ¬ (k : Int) < (WB.size : Int) := by omega
          go_wp2_with fail
          refine (CPU.out 2 ⟨#[]⟩ (by decide) (by decide) q 2 bd b1 _ HJr.out HNr.out).mono ?_
          rintro e w5 hput
          have HP := hid hput
          obtain ⟨nv', rfl, _⟩ := hput
          go_wp2
          go_ret
          exact FIN.out _ _ HP.out
  have e116 : ((G : Int) == 116) = false := by rw [beq_eq_false_iff_ne]; omega
  by_cases h102 : G = 102
  · as_aux_lemma =>
    subst h102
    have hps := HPL.out (by decide)
    have HRB := hid (show b = 200 → R = .er 5 p from fun hb => by rw [← HR.out]; unfold valG; rw [HGv.out, if_neg (by decide), if_pos hb])
    have HRC := hid (show b ≠ 200 → R = wordR L p [102, 97, 108, 115, 101] 3 (b + 1) ns from fun hb => by rw [← HR.out]; unfold valG; rw [HGv.out, if_neg (by decide), if_neg hb, if_neg (by decide), if_neg (by decide), if_pos rfl])
    go_upto_region 17 with fail
    by_cases hb2 : b = 200
    · have HRE := hid (HRB.out hb2)
      have eb : ((b : Int) == 200) = true := by rw [hb2]; rfl
      have eb2 : (b : Int) = 200 := by omega
      clear hb2 c1 c2
      go_wp2_with fail
      refine (CF.out 5 p b _ HJ1.out).mono ?_
      rintro e w3 ⟨rfl, hj, hk⟩
      have HJ3 := hid hj
      have HK3 := hid (HK1.out.trans hk (RowOn.refl _ _))
      clear hj hk
      go_wp2
      go_ret
      rw [HRE.out]
      exact ⟨Or.inr ⟨5, p, 0, p, d, b, nv, rfl, by decide, rfl, HJ3.out, RowOn.refl _ _, by omega, by decide⟩, KpweakJ HK3.out _⟩
    have HRE0 := hid (HRC.out hb2)
    have eb : ((b : Int) == 200) = false := by rw [beq_eq_false_iff_ne]; omega
    have eb2 : ¬ (b : Int) = 200 := by omega
    have hb3 : b + 1 ≤ 200 := by omega
    obtain ⟨b1, hb1⟩ : ∃ x, b + 1 = x := ⟨_, rfl⟩
    have hvb' : (b : Int) + 1 = (b1 : Int) := by omega
    have hvb : IntKind.i64.wrap (b1 : Int) = (b1 : Int) := IntWalk.i64_in _ (by omega)
    rw [hb1] at HRE0 hb3
    obtain ⟨w2, hw2⟩ : ∃ x, w1.setCell ⟨g, 5, none⟩ (.int .i64 (b1 : Int)) = x := ⟨_, rfl⟩
    have HJ2 := hid (show JS w2 g s p 0 0 d b1 nv by rw [← hw2]; exact HJ1.out.setB b1)
    have HK2 := hid (show Kp g none w w2 by rw [← hw2]; exact HK1.out.set 5 _)
    have HN2 := hid (HN.out.kp HK2.out)
    have HX2 := hid (show ∀ b, X b → b < w2.heap.size from fun b hb => Nat.lt_of_lt_of_le (HX.out b hb) HK2.out.size)
    have HB1 := hid hb1
    go_upto_region 20 with fail
    try rw [hw2]
    clear hw2 hb2 eb eb2 hvb hvb' hb1 c1 c2 c5 y1 y2 y3 y4 y5 y6 hl
    obtain ⟨WD, hWD⟩ : ∃ WD : List Nat, [102, 97, 108, 115, 101] = WD := ⟨_, rfl⟩
    obtain ⟨WB, hWB⟩ : ∃ WB, (⟨#[102, 97, 108, 115, 101]⟩ : ByteArray) = WB := ⟨_, rfl⟩
    have hws : WB.size = WD.length := by rw [← hWB, ← hWD]; rfl
    have hws9 : WB.size ≤ 9 := by rw [← hWB]; decide
    have HWS := hid hws
    have HWV := hid (show ∀ k (h : k < WB.size) (h2 : k < WD.length), ((WB[k]'h : UInt8).toNat) = WD[k]'h2 by
      subst hWB; subst hWD
      intro k h h2
      have h3 : k = 0 ∨ k = 1 ∨ k = 2 ∨ k = 3 ∨ k = 4 := by have h4 : k < 5 := h2; omega
      rcases h3 with rfl | rfl | rfl | rfl | rfl <;> rfl)
    obtain ⟨RW, hRW⟩ : ∃ RW, wordE L WD p = RW := ⟨_, rfl⟩
    have HRW := hid hRW
    have HRE1 := hid (show R = if RW.1 = true then putN ⟨3, ⟨#[]⟩, [], []⟩ RW.2 b1 ns else .er 2 RW.2 by rw [HRE0.out]; unfold wordR; rw [hWD, hRW])
    go_wp2
    rw [hWB]
    clear hWB hWD hRW hws HRE0
    go_loopw [7] (fun v7 wr => ∃ k q cd bd : Nat, k ≤ WB.size ∧ v7 = .int .i64 (k : Int) ∧ q ≤ 5010 ∧ JS wr g s q cd bd d b1 nv ∧ Kp g none w wr ∧ ((cd = 0 ∧ bd = 0 ∧ q = p + k ∧ Hid (wordE L (WD.drop k) q = RW)) ∨ (cd = 2 ∧ Hid (RW = (false, bd))))) (fun v7 _ => WB.size - (intOf v7).toNat)
    case atStart => exact ⟨0, p, 0, 0, Nat.zero_le _, rfl, by omega, HJ2.out, HK2.out, Or.inl ⟨rfl, rfl, rfl, hid HRW.out⟩⟩
    case round =>
      obtain ⟨k, q, cd, bd, hk, rfl, hq, hj, hkp, hst⟩ := hrel
      rcases hst with ⟨rfl, rfl, hqk, HQ⟩ | ⟨rfl, HRF⟩
      · have HJr := hid hj
        have HKr := hid hkp
        have HQK := hid hqk
        have HNr := hid (HN.out.kp hkp)
        obtain ⟨c0, c1, c2, c3, c4, c5, c6, y1, y2, y3, y4, y5, y6, hl⟩ := hj.cells
        clear hj hkp hqk c0 c1 c3 c4 c5 c6
        by_cases hlt : k < WB.size
        · have hki : (k : Int) < (WB.size : Int) := by omega
          have hk0 : (0 : Int) ≤ (k : Int) := by omega
          have hkd : k < WD.length := by rw [← HWS.out]; exact hlt
          have hv := HWV.out k hlt hkd
          have HSTEP := hid (show (if gB L q = WD[k]'hkd then wordE L (WD.drop (k + 1)) (q + 1) else (false, q)) = RW by rw [← HQ.out, List.drop_eq_getElem_cons hkd]; rfl)
          obtain ⟨c, hc⟩ : ∃ c, WD[k]'hkd = c := ⟨_, rfl⟩
          rw [hc] at hv HSTEP
          have h255 := (WB[k]'hlt).toNat_lt
          have hix : ((WB[k]'hlt : UInt8).toNat : Int) = (c : Int) := by rw [hv]
          have hwr : wrap64 (((WB[k]'hlt).toNat : Nat) : Int) = (((WB[k]'hlt).toNat : Nat) : Int) := IntWalk.wrap64_in _ (by omega)
          have hwc : wrap64 (c : Int) = (c : Int) := by rw [← hix]; exact hwr
          clear hc hv h255
          go_wp2_with fail
          refine (CW.out c q b1 _ HJr.out (by omega)).mono ?_
          rintro e w4 ⟨rfl, hj, hkk⟩
          have HK4 := hid (HKr.out.trans hkk (RowOn.refl _ _))
          by_cases hm : gB L q = c
          · rw [if_pos hm, if_pos hm, if_pos hm] at hj
            have HJ4 := hid hj
            have HQ4 := hid (show wordE L (WD.drop (k + 1)) (q + 1) = RW by rw [← HSTEP.out, if_pos hm])
            clear hj hkk hm c2
            go_wp2
            go_roundw
            case rel => exact ⟨k + 1, q + 1, 0, 0, hlt, by go_num, by have := HQK.out; omega, HJ4.out, HK4.out, Or.inl ⟨rfl, rfl, by have := HQK.out; omega, HQ4⟩⟩
            case measure => simp [intOf]; omega
          · rw [if_neg hm, if_neg hm, if_neg hm] at hj
            have HJ4 := hid (show JS w4 g s q 2 q d b1 nv from hj)
            have HQ4 := hid (show RW = (false, q) by rw [← HSTEP.out, if_neg hm])
            clear hj hkk hm c2
            go_wp2
            go_roundw
            case rel => exact ⟨k + 1, q, 2, q, hlt, by go_num, hq, HJ4.out, HK4.out, Or.inr ⟨rfl, HQ4⟩⟩
            case measure => simp [intOf]; omega
        · have hki : ¬ (k : Int) < (WB.size : Int) := by omega
          have HRE := hid (show R = putN ⟨3, ⟨#[]⟩, [], []⟩ q b1 ns by
            have h1 := HQ.out
            rw [List.drop_eq_nil_of_le (by have := HWS.out; omega), wordE] at h1
            rw [HRE1.out, ← h1]
            rfl)
          go_wp2_with fail
          refine (CPU.out 3 ⟨#[]⟩ (by decide) (by decide) q 0 0 b1 _ HJr.out HNr.out).mono ?_
          rintro e w5 ⟨nv', rfl, hj5, hn5, hro5, hk5⟩
          have HJ5 := hid hj5
          have HN5 := hid hn5
          have HRO := hid (hro5.upJ HKr.out.size)
          have HK5 := hid ((KpweakJ HKr.out nv.ownBlock).trans hk5 (RowOn.refl _ _))
          clear hj5 hn5 hro5 hk5 c2
          go_wp2
          go_ret
          rw [HRE.out]
          exact ⟨Or.inl ⟨_, _, _, _, nv', rfl, rfl, HJ5.out, HN5.out, HRO.out⟩, HK5.out⟩
      · have HJr := hid hj
        have HKr := hid hkp
        have HNr := hid (HN.out.kp hkp)
        have HRE := hid (show R = .er 2 bd by rw [HRE1.out, HRF.out]; rfl)
        obtain ⟨c0, c1, c2, c3, c4, c5, c6, y1, y2, y3, y4, y5, y6, hl⟩ := hj.cells
        clear hj hkp c0 c1 c3 c4 c5 c6
        have fin : ∀ (w5 : World) (e : Ending), PutJ X g s q 2 bd d b1 nv wr w5 ns ⟨3, ⟨#[]⟩, [], []⟩ e → ValJ X w w5 g s d nv R e ∧ Kp g nv.ownBlock w w5 := by
          rintro w5 e ⟨nv', rfl, hj5, hn5, hro5, hk5⟩
          rw [HRE.out]
          exact ⟨Or.inr ⟨2, bd, ns.length, q, d, b1, nv', rfl, by decide, rfl, hj5, hro5.upJ HKr.out.size, by omega, by omega⟩, (KpweakJ HKr.out nv.ownBlock).trans hk5 (RowOn.refl _ _)⟩
        have FIN := hid fin
        clear fin
        by_cases hlt : k < WB.size
        · have hki : (k : Int) < (WB.size : Int) := by omega
          go_wp2_with fail
          refine (CPU.out 3 ⟨#[]⟩ (by decide) (by decide) q 2 bd b1 _ HJr.out HNr.out).mono ?_
          rintro e w5 hput
          have HP := hid hput
          obtain ⟨nv', rfl, _⟩ := hput
          go_wp2
          go_ret
          exact FIN.out _ _ HP.out
        · have hki : ¬ (k : Int) < (WB.size : Int) := by omega
          go_wp2_with fail
          refine (CPU.out 3 ⟨#[]⟩ (by decide) (by decide) q 2 bd b1 _ HJr.out HNr.out).mono ?_
          rintro e w5 hput
          have HP := hid hput
          obtain ⟨nv', rfl, _⟩ := hput
          go_wp2
          go_ret
          exact FIN.out _ _ HP.out
  have e102 : ((G : Int) == 102) = false := by rw [beq_eq_false_iff_ne]; omega
  by_cases h34 : G = 34
  · as_aux_lemma =>
    subst h34
    have hps := HPL.out (by decide)
    have HRB := hid (show b = 200 → R = .er 5 p from fun hb => by rw [← HR.out]; unfold valG; rw [HGv.out, if_neg (by decide), if_pos hb])
    have HRC := hid (show b ≠ 200 → R = if (strP L p).1 = true then putN ⟨5, mkB (strP L p).2.2, [], []⟩ (strP L p).2.1 (b + 1) ns else .er 2 (strP L p).2.1 from fun hb => by rw [← HR.out]; unfold valG; rw [HGv.out, if_neg (by decide), if_neg hb, if_neg (by decide), if_neg (by decide), if_neg (by decide), if_pos rfl])
    go_upto_region 17 with fail
    by_cases hb2 : b = 200
    · have HRE := hid (HRB.out hb2)
      have eb : ((b : Int) == 200) = true := by rw [hb2]; rfl
      have eb2 : (b : Int) = 200 := by omega
      clear hb2 c1 c2
      go_wp2_with fail
      refine (CF.out 5 p b _ HJ1.out).mono ?_
      rintro e w3 ⟨rfl, hj, hk⟩
      have HJ3 := hid hj
      have HK3 := hid (HK1.out.trans hk (RowOn.refl _ _))
      clear hj hk
      go_wp2
      go_ret
      rw [HRE.out]
      exact ⟨Or.inr ⟨5, p, 0, p, d, b, nv, rfl, by decide, rfl, HJ3.out, RowOn.refl _ _, by omega, by decide⟩, KpweakJ HK3.out _⟩
    have HRE0 := hid (HRC.out hb2)
    have eb : ((b : Int) == 200) = false := by rw [beq_eq_false_iff_ne]; omega
    have eb2 : ¬ (b : Int) = 200 := by omega
    have hb3 : b + 1 ≤ 200 := by omega
    obtain ⟨b1, hb1⟩ : ∃ x, b + 1 = x := ⟨_, rfl⟩
    have hvb' : (b : Int) + 1 = (b1 : Int) := by omega
    have hvb : IntKind.i64.wrap (b1 : Int) = (b1 : Int) := IntWalk.i64_in _ (by omega)
    rw [hb1] at HRE0 hb3
    obtain ⟨w2, hw2⟩ : ∃ x, w1.setCell ⟨g, 5, none⟩ (.int .i64 (b1 : Int)) = x := ⟨_, rfl⟩
    have HJ2 := hid (show JS w2 g s p 0 0 d b1 nv by rw [← hw2]; exact HJ1.out.setB b1)
    have HK2 := hid (show Kp g none w w2 by rw [← hw2]; exact HK1.out.set 5 _)
    have HN2 := hid (HN.out.kp HK2.out)
    have HX2 := hid (show ∀ b, X b → b < w2.heap.size from fun b hb => Nat.lt_of_lt_of_le (HX.out b hb) HK2.out.size)
    have HB1 := hid hb1
    go_upto_region 20 with fail
    try rw [hw2]
    clear hw2 hb2 eb eb2 hvb hvb' hb1 c1 c2 c5 y1 y2 y3 y4 y5 y6 hl
    have CSTP := hid (CST.out b1 w2 HJ2.out hps)
    have hsi := HSI.out hps
    obtain ⟨⟨sok, sp, st⟩, hS⟩ : ∃ S, strP L p = S := ⟨_, rfl⟩
    rw [hS] at CSTP HRE0 hsi
    dsimp only at HRE0 hsi
    have HSI2 := hid hsi
    clear hS hsi
    go_wp2_with fail
    refine CSTP.out.mono ?_
    rintro e w3 ⟨hst, hk3⟩
    have HK3 := hid (HK2.out.trans hk3 (RowOn.refl _ _))
    have HN3 := hid (HN.out.kp HK3.out)
    clear hk3
    rcases hst with ⟨hok, he, hj3⟩ | ⟨hok, he, q9, hq9, hj3⟩
    · try dsimp only at hok he hj3
      subst hok
      obtain rfl : e = _ := he
      have HJ3 := hid hj3
      have HRE := hid (show R = putN ⟨5, mkB st, [], []⟩ sp b1 ns from HRE0.out)
      have htz : (mkB st).size ≤ 1000000 := by rw [mkB_size]; have h1 := (HSI2.out.2 rfl).2; have := HSL.out; omega
      have HTZ := hid htz
      clear hj3 htz
      go_wp2_with fail
      refine (CPU.out 5 (mkB st) (by decide) HTZ.out sp 0 0 b1 _ HJ3.out HN3.out).mono ?_
      rintro e w5 ⟨nv', rfl, hj5, hn5, hro5, hk5⟩
      have HJ5 := hid hj5
      have HN5 := hid hn5
      have HRO := hid (hro5.upJ HK3.out.size)
      have HK5 := hid ((KpweakJ HK3.out nv.ownBlock).trans hk5 (RowOn.refl _ _))
      clear hj5 hn5 hro5 hk5
      go_wp2
      go_ret
      rw [HRE.out]
      exact ⟨Or.inl ⟨_, _, _, _, nv', rfl, rfl, HJ5.out, HN5.out, HRO.out⟩, HK5.out⟩
    · try dsimp only at hok hj3
      subst hok
      obtain rfl : e = _ := he
      have HJ3 := hid hj3
      have HRE := hid (show R = .er 2 sp from HRE0.out)
      clear hj3
      go_wp2_with fail
      refine (CPU.out 5 ⟨#[]⟩ (by decide) (by decide) q9 2 sp b1 _ HJ3.out HN3.out).mono ?_
      rintro e w5 ⟨nv', rfl, hj5, hn5, hro5, hk5⟩
      have HJ5 := hid hj5
      have HRO := hid (hro5.upJ HK3.out.size)
      have HK5 := hid ((KpweakJ HK3.out nv.ownBlock).trans hk5 (RowOn.refl _ _))
      clear hj5 hn5 hro5 hk5
      go_wp2
      go_ret
      rw [HRE.out]
      exact ⟨Or.inr ⟨2, sp, ns.length, q9, d, b1, nv', rfl, by decide, rfl, HJ5.out, HRO.out, hq9, by omega⟩, HK5.out⟩
  have e34 : ((G : Int) == 34) = false := by rw [beq_eq_false_iff_ne]; omega
  by_cases h91 : G = 91
  · as_aux_lemma =>
    subst h91
    have hps := HPL.out (by decide)
    have HRB := hid (show b = 200 → R = .er 5 p from fun hb => by rw [← HR.out]; unfold valG; rw [HGv.out, if_neg (by decide), if_pos hb])
    have HRC := hid (show b ≠ 200 → R = grp 91 p (b + 1) ns from fun hb => by rw [← HR.out]; unfold valG; rw [HGv.out, if_neg (by decide), if_neg hb, if_neg (by decide), if_neg (by decide), if_neg (by decide), if_neg (by decide), if_pos (by decide)])
    have hwb : IntKind.u8.wrap (91 : Int) = 91 := by decide
    have CDB := hid (fun w => CDg.out 91 w)
    rw [show dgB 91 = false from rfl] at CDB
    go_upto_region 17 with (go_at_call 64; refine (CDB.out _).mono ?_; rintro e w9 ⟨rfl, rfl⟩)
    by_cases hb2 : b = 200
    · have HRE := hid (HRB.out hb2)
      have eb : ((b : Int) == 200) = true := by rw [hb2]; rfl
      have eb2 : (b : Int) = 200 := by omega
      clear hb2 c1 c2
      go_wp2_with fail
      refine (CF.out 5 p b _ HJ1.out).mono ?_
      rintro e w3 ⟨rfl, hj, hk⟩
      have HJ3 := hid hj
      have HK3 := hid (HK1.out.trans hk (RowOn.refl _ _))
      clear hj hk
      go_wp2
      go_ret
      rw [HRE.out]
      exact ⟨Or.inr ⟨5, p, 0, p, d, b, nv, rfl, by decide, rfl, HJ3.out, RowOn.refl _ _, by omega, by decide⟩, KpweakJ HK3.out _⟩
    have HRE0 := hid (HRC.out hb2)
    have eb : ((b : Int) == 200) = false := by rw [beq_eq_false_iff_ne]; omega
    have eb2 : ¬ (b : Int) = 200 := by omega
    have hb3 : b + 1 ≤ 200 := by omega
    obtain ⟨b1, hb1⟩ : ∃ x, b + 1 = x := ⟨_, rfl⟩
    have hvb' : (b : Int) + 1 = (b1 : Int) := by omega
    have hvb : IntKind.i64.wrap (b1 : Int) = (b1 : Int) := IntWalk.i64_in _ (by omega)
    rw [hb1] at HRE0 hb3
    obtain ⟨w2, hw2⟩ : ∃ x, w1.setCell ⟨g, 5, none⟩ (.int .i64 (b1 : Int)) = x := ⟨_, rfl⟩
    have HJ2 := hid (show JS w2 g s p 0 0 d b1 nv by rw [← hw2]; exact HJ1.out.setB b1)
    have HK2 := hid (show Kp g none w w2 by rw [← hw2]; exact HK1.out.set 5 _)
    have HN2 := hid (HN.out.kp HK2.out)
    have HX2 := hid (show ∀ b, X b → b < w2.heap.size from fun b hb => Nat.lt_of_lt_of_le (HX.out b hb) HK2.out.size)
    have HB1 := hid hb1
    go_upto_region 20 with fail
    try rw [hw2]
    clear hw2 hb2 eb eb2 hvb hvb' hb1 c1 c2 c5 y1 y2 y3 y4 y5 y6 hl
    go_wp2_with fail
    refine (CGR.out 91 b1 _ HX2.out (by decide) HJ2.out hps hb3 (by have := HB1.out; omega) HN2.out).mono ?_
    rintro e w3 ⟨hv, hk3⟩
    have HK3 := hid ((KpweakJ HK2.out nv.ownBlock).trans hk3 (RowOn.refl _ _))
    have HS2 := hid HK2.out.size
    clear hk3
    rcases hv with ⟨kid, j, b', ns', nv', hr, rfl, hj, hnn, hro⟩ | ⟨cc, q, x, j, d', b', nv', hr, hc0, rfl, hj, hro, hj5, hx5⟩
    · have HJ3 := hid hj
      have HN3 := hid hnn
      have HRO := hid (hro.upJ HS2.out)
      have HRR := hid hr
      clear hj hnn hro hr
      go_wp2
      go_ret
      rw [HRE0.out]
      exact ⟨Or.inl ⟨kid, j, b', ns', nv', HRR.out, rfl, HJ3.out, HN3.out, HRO.out⟩, HK3.out⟩
    · have HJ3 := hid hj
      have HRO := hid (hro.upJ HS2.out)
      have HRR := hid hr
      clear hj hro hr
      go_wp2
      go_ret
      rw [HRE0.out]
      exact ⟨Or.inr ⟨cc, q, x, j, d', b', nv', HRR.out, hc0, rfl, HJ3.out, HRO.out, hj5, hx5⟩, HK3.out⟩
  have e91 : ((G : Int) == 91) = false := by rw [beq_eq_false_iff_ne]; omega
  by_cases h123 : G = 123
  · as_aux_lemma =>
    subst h123
    have hps := HPL.out (by decide)
    have HRB := hid (show b = 200 → R = .er 5 p from fun hb => by rw [← HR.out]; unfold valG; rw [HGv.out, if_neg (by decide), if_pos hb])
    have HRC := hid (show b ≠ 200 → R = grp 123 p (b + 1) ns from fun hb => by rw [← HR.out]; unfold valG; rw [HGv.out, if_neg (by decide), if_neg hb, if_neg (by decide), if_neg (by decide), if_neg (by decide), if_neg (by decide), if_pos (by decide)])
    have hwb : IntKind.u8.wrap (123 : Int) = 123 := by decide
    have CDB := hid (fun w => CDg.out 123 w)
    rw [show dgB 123 = false from rfl] at CDB
    go_upto_region 17 with (go_at_call 64; refine (CDB.out _).mono ?_; rintro e w9 ⟨rfl, rfl⟩)
    by_cases hb2 : b = 200
    · have HRE := hid (HRB.out hb2)
      have eb : ((b : Int) == 200) = true := by rw [hb2]; rfl
      have eb2 : (b : Int) = 200 := by omega
      clear hb2 c1 c2
      go_wp2_with fail
      refine (CF.out 5 p b _ HJ1.out).mono ?_
      rintro e w3 ⟨rfl, hj, hk⟩
      have HJ3 := hid hj
      have HK3 := hid (HK1.out.trans hk (RowOn.refl _ _))
      clear hj hk
      go_wp2
      go_ret
      rw [HRE.out]
      exact ⟨Or.inr ⟨5, p, 0, p, d, b, nv, rfl, by decide, rfl, HJ3.out, RowOn.refl _ _, by omega, by decide⟩, KpweakJ HK3.out _⟩
    have HRE0 := hid (HRC.out hb2)
    have eb : ((b : Int) == 200) = false := by rw [beq_eq_false_iff_ne]; omega
    have eb2 : ¬ (b : Int) = 200 := by omega
    have hb3 : b + 1 ≤ 200 := by omega
    obtain ⟨b1, hb1⟩ : ∃ x, b + 1 = x := ⟨_, rfl⟩
    have hvb' : (b : Int) + 1 = (b1 : Int) := by omega
    have hvb : IntKind.i64.wrap (b1 : Int) = (b1 : Int) := IntWalk.i64_in _ (by omega)
    rw [hb1] at HRE0 hb3
    obtain ⟨w2, hw2⟩ : ∃ x, w1.setCell ⟨g, 5, none⟩ (.int .i64 (b1 : Int)) = x := ⟨_, rfl⟩
    have HJ2 := hid (show JS w2 g s p 0 0 d b1 nv by rw [← hw2]; exact HJ1.out.setB b1)
    have HK2 := hid (show Kp g none w w2 by rw [← hw2]; exact HK1.out.set 5 _)
    have HN2 := hid (HN.out.kp HK2.out)
    have HX2 := hid (show ∀ b, X b → b < w2.heap.size from fun b hb => Nat.lt_of_lt_of_le (HX.out b hb) HK2.out.size)
    have HB1 := hid hb1
    go_upto_region 20 with fail
    try rw [hw2]
    clear hw2 hb2 eb eb2 hvb hvb' hb1 c1 c2 c5 y1 y2 y3 y4 y5 y6 hl
    go_wp2_with fail
    refine (CGR.out 123 b1 _ HX2.out (by decide) HJ2.out hps hb3 (by have := HB1.out; omega) HN2.out).mono ?_
    rintro e w3 ⟨hv, hk3⟩
    have HK3 := hid ((KpweakJ HK2.out nv.ownBlock).trans hk3 (RowOn.refl _ _))
    have HS2 := hid HK2.out.size
    clear hk3
    rcases hv with ⟨kid, j, b', ns', nv', hr, rfl, hj, hnn, hro⟩ | ⟨cc, q, x, j, d', b', nv', hr, hc0, rfl, hj, hro, hj5, hx5⟩
    · have HJ3 := hid hj
      have HN3 := hid hnn
      have HRO := hid (hro.upJ HS2.out)
      have HRR := hid hr
      clear hj hnn hro hr
      go_wp2
      go_ret
      rw [HRE0.out]
      exact ⟨Or.inl ⟨kid, j, b', ns', nv', HRR.out, rfl, HJ3.out, HN3.out, HRO.out⟩, HK3.out⟩
    · have HJ3 := hid hj
      have HRO := hid (hro.upJ HS2.out)
      have HRR := hid hr
      clear hj hro hr
      go_wp2
      go_ret
      rw [HRE0.out]
      exact ⟨Or.inr ⟨cc, q, x, j, d', b', nv', HRR.out, hc0, rfl, HJ3.out, HRO.out, hj5, hx5⟩, HK3.out⟩
  have e123 : ((G : Int) == 123) = false := by rw [beq_eq_false_iff_ne]; omega
  by_cases h45 : G = 45
  · as_aux_lemma =>
    subst h45
    have hps := HPL.out (by decide)
    have HRB := hid (show b = 200 → R = .er 5 p from fun hb => by rw [← HR.out]; unfold valG; rw [HGv.out, if_neg (by decide), if_pos hb])
    have HRC := hid (show b ≠ 200 → R = if (numJ L p).1 = true then putN ⟨4, mkB ((L.drop p).take ((numJ L p).2 - p)), [], []⟩ (numJ L p).2 (b + 1) ns else .er 2 (numJ L p).2 from fun hb => by rw [← HR.out]; unfold valG; rw [HGv.out, if_neg (by decide), if_neg hb, if_neg (by decide), if_neg (by decide), if_neg (by decide), if_neg (by decide), if_neg (by decide)])
    go_upto_region 17 with fail
    by_cases hb2 : b = 200
    · have HRE := hid (HRB.out hb2)
      have eb : ((b : Int) == 200) = true := by rw [hb2]; rfl
      have eb2 : (b : Int) = 200 := by omega
      clear hb2 c1 c2
      go_wp2_with fail
      refine (CF.out 5 p b _ HJ1.out).mono ?_
      rintro e w3 ⟨rfl, hj, hk⟩
      have HJ3 := hid hj
      have HK3 := hid (HK1.out.trans hk (RowOn.refl _ _))
      clear hj hk
      go_wp2
      go_ret
      rw [HRE.out]
      exact ⟨Or.inr ⟨5, p, 0, p, d, b, nv, rfl, by decide, rfl, HJ3.out, RowOn.refl _ _, by omega, by decide⟩, KpweakJ HK3.out _⟩
    have HRE0 := hid (HRC.out hb2)
    have eb : ((b : Int) == 200) = false := by rw [beq_eq_false_iff_ne]; omega
    have eb2 : ¬ (b : Int) = 200 := by omega
    have hb3 : b + 1 ≤ 200 := by omega
    obtain ⟨b1, hb1⟩ : ∃ x, b + 1 = x := ⟨_, rfl⟩
    have hvb' : (b : Int) + 1 = (b1 : Int) := by omega
    have hvb : IntKind.i64.wrap (b1 : Int) = (b1 : Int) := IntWalk.i64_in _ (by omega)
    rw [hb1] at HRE0 hb3
    obtain ⟨w2, hw2⟩ : ∃ x, w1.setCell ⟨g, 5, none⟩ (.int .i64 (b1 : Int)) = x := ⟨_, rfl⟩
    have HJ2 := hid (show JS w2 g s p 0 0 d b1 nv by rw [← hw2]; exact HJ1.out.setB b1)
    have HK2 := hid (show Kp g none w w2 by rw [← hw2]; exact HK1.out.set 5 _)
    have HN2 := hid (HN.out.kp HK2.out)
    have HX2 := hid (show ∀ b, X b → b < w2.heap.size from fun b hb => Nat.lt_of_lt_of_le (HX.out b hb) HK2.out.size)
    have HB1 := hid hb1
    go_upto_region 20 with fail
    try rw [hw2]
    clear hw2 hb2 eb eb2 hvb hvb' hb1 c1 c2 c5 y1 y2 y3 y4 y5 y6 hl
    have CNMP := hid (CNM.out b1 w2 HJ2.out)
    have hni := HNI.out hps
    obtain ⟨⟨nok, np⟩, hM⟩ : ∃ S, numJ L p = S := ⟨_, rfl⟩
    have HXT2 := hid (show s.extract p np = mkB ((L.drop p).take (np - p)) by have h1 := HXT.out; rw [hM] at h1; exact h1)
    rw [hM] at CNMP HRE0 hni
    dsimp only at CNMP HRE0 hni
    clear hM
    go_wp2_with fail
    refine CNMP.out.mono ?_
    rintro e w3 ⟨rfl, hj3, hk3⟩
    have HK3 := hid (HK2.out.trans hk3 (RowOn.refl _ _))
    have HN3 := hid (HN.out.kp HK3.out)
    clear hk3
    cases nok with
    | false =>
      have HJ3 := hid (show JS w3 g s np 2 np d b1 nv from hj3)
      have HRE := hid (show R = .er 2 np from HRE0.out)
      have hnp := hni.2.2
      obtain ⟨c0, c1, c2, c3, c4, c5, c6, y1, y2, y3, y4, y5, y6, hl⟩ := HJ3.out.cells
      clear hj3 hni c0 c1 c3 c4 c5 c6
      go_wp2
      go_ret
      rw [HRE.out]
      exact ⟨Or.inr ⟨2, np, 0, np, d, b1, nv, rfl, by decide, rfl, HJ3.out, RowOn.refl _ _, by have := HSL.out; omega, by decide⟩, KpweakJ HK3.out _⟩
    | true =>
      have HJ3 := hid (show JS w3 g s np 0 0 d b1 nv from hj3)
      have HRE := hid (show R = putN ⟨4, mkB ((L.drop p).take (np - p)), [], []⟩ np b1 ns from HRE0.out)
      have hnp : np ≤ s.size := by have := hni.2.1 rfl; have := HSL.out; omega
      have hnp2 : p ≤ np := hni.1
      have k1 : (np : Int) ≤ (s.size : Int) := by omega
      have k2 : (p : Int) ≤ (np : Int) := by omega
      have k3 : (0 : Int) ≤ (p : Int) := by omega
      have htz : (s.extract p np).size ≤ 1000000 := by rw [ByteArray.size_extract]; omega
      have HTZ := hid htz
      obtain ⟨c0, c1, c2, c3, c4, c5, c6, y1, y2, y3, y4, y5, y6, hl⟩ := HJ3.out.cells
      clear hj3 hni c3 c4 c5 c6 htz
      go_upto_region 34 with fail
      refine wp_region_held_drew (S := fun w' => w'.cell? ⟨g, 0, none⟩ = some (.string s) ∧ w'.cell? ⟨g, 1, none⟩ = some (.int .i64 (np : Int))) (by kernel_rfl) ?_ (fun hHeld => ?_)
      · exact ⟨c0, c1⟩
      refine wpAnyH_take (i := 0) (v := ?_) rfl (by kernel_rfl) (by kernel_rfl) (by kernel_rfl) (fun _ _ _ h => h) (Or.inl ⟨by rfl, ?_⟩) (by assumption) ?_
      rotate_left
      · (intro w' hSw; (try dsimp only at hSw); go_simp; try (with_reducible rfl))
      change wpAnyH _ _ _ _ _ _ _ (Act.put _ (some 106) _) _
      try simp only [Act.put, List.setIfInBounds_toArray, List.set_cons_zero, List.set_cons_succ]
      refine wpAnyH_take (i := 1) (v := ?_) rfl (by kernel_rfl) (by kernel_rfl) (by kernel_rfl) (fun _ _ _ h => h) (Or.inl ⟨by rfl, ?_⟩) (by assumption) ?_
      rotate_left
      · (intro w' hSw; (try dsimp only at hSw); go_simp; try (with_reducible rfl))
      change wpAnyH _ _ _ _ _ _ _ (Act.put _ (some 107) _) _
      try simp only [Act.put, List.setIfInBounds_toArray, List.set_cons_zero, List.set_cons_succ]
      refine wpAnyH_take (i := 2) (v := ?_) rfl (by kernel_rfl) (by kernel_rfl) (by kernel_rfl) (fun _ _ _ h => h) (Or.inl ⟨by rfl, ?_⟩) (by assumption) ?_
      rotate_left
      · (intro w' hSw; (try dsimp only at hSw); go_simp; try (with_reducible rfl))
      change wpAnyH _ _ _ _ _ _ _ (Act.put _ (some 108) _) _
      try simp only [Act.put, List.setIfInBounds_toArray, List.set_cons_zero, List.set_cons_succ]
      refine wpAnyH_take (i := 3) (v := ?_) rfl (by kernel_rfl) (by kernel_rfl) (by kernel_rfl) (fun _ _ _ h => h) (Or.inl ⟨by rfl, ?_⟩) (by assumption) ?_
      rotate_left
      · (intro w' hSw; (try dsimp only at hSw); go_simp; try (with_reducible rfl))
      change wpAnyH _ _ _ _ _ _ _ (Act.put _ (some 109) _) _
      try simp only [Act.put, List.setIfInBounds_toArray, List.set_cons_zero, List.set_cons_succ]
      refine wpAnyH_take (i := 4) (v := ?_) rfl (by kernel_rfl) (by kernel_rfl) (by kernel_rfl) (fun _ _ _ h => h) (Or.inl ⟨by rfl, ?_⟩) (by assumption) ?_
      rotate_left
      · (intro w' hSw; (try dsimp only at hSw); go_simp; try (with_reducible rfl))
      change wpAnyH _ _ _ _ _ _ _ (Act.put _ (some 110) _) _
      try simp only [Act.put, List.setIfInBounds_toArray, List.set_cons_zero, List.set_cons_succ]
      refine wpAnyH_take (i := 5) (v := ?_) rfl (by kernel_rfl) (by kernel_rfl) (by kernel_rfl) (fun _ _ _ h => h) (Or.inl ⟨by rfl, ?_⟩) (by assumption) ?_
      rotate_left
      · (intro w' hSw; (try dsimp only at hSw); go_simp; try (with_reducible rfl))
      change wpAnyH _ _ _ _ _ _ _ (Act.put _ (some 111) _) _
      try simp only [Act.put, List.setIfInBounds_toArray, List.set_cons_zero, List.set_cons_succ]
      refine wpAnyH_take (i := 6) (v := ?_) rfl (by kernel_rfl) (by kernel_rfl) (by kernel_rfl) (fun _ _ _ h => h) (Or.inl ⟨by rfl, ?_⟩) (by assumption) ?_
      rotate_left
      · (intro w' hSw; (try dsimp only at hSw); go_simp; try (with_reducible rfl))
      change wpAnyH _ _ _ _ _ _ _ (Act.put _ (some 112) _) _
      try simp only [Act.put, List.setIfInBounds_toArray, List.set_cons_zero, List.set_cons_succ]
      refine wpAnyH_take (i := 7) (v := ?_) rfl (by kernel_rfl) (by kernel_rfl) (by kernel_rfl) (fun _ _ _ h => h) (Or.inl ⟨by rfl, ?_⟩) (by assumption) ?_
      rotate_left
      · (intro w' hSw; (try dsimp only at hSw); go_simp; try (with_reducible rfl))
      change wpAnyH _ _ _ _ _ _ _ (Act.put _ (some 113) _) _
      try simp only [Act.put, List.setIfInBounds_toArray, List.set_cons_zero, List.set_cons_succ]
      refine wpAnyH_take (i := 8) (v := ?_) rfl (by kernel_rfl) (by kernel_rfl) (by kernel_rfl) (fun _ _ _ h => h) (Or.inl ⟨by rfl, ?_⟩) (by assumption) ?_
      rotate_left
      · (intro w' hSw; (try dsimp only at hSw); go_simp; try (with_reducible rfl))
      change wpAnyH _ _ _ _ _ _ _ (Act.put _ (some 114) _) _
      try simp only [Act.put, List.setIfInBounds_toArray, List.set_cons_zero, List.set_cons_succ]
      refine wpAnyH_take (i := 9) (v := ?_) rfl (by kernel_rfl) (by kernel_rfl) (by kernel_rfl) (fun _ _ _ h => h) (Or.inl ⟨by rfl, ?_⟩) (by assumption) ?_
      rotate_left
      · (intro w' hSw; (try dsimp only at hSw); go_simp; try (with_reducible rfl))
      change wpAnyH _ _ _ _ _ _ _ (Act.put _ (some 115) _) _
      try simp only [Act.put, List.setIfInBounds_toArray, List.set_cons_zero, List.set_cons_succ]
      refine wpAnyH_take (i := 10) (v := ?_) rfl (by kernel_rfl) (by kernel_rfl) (by kernel_rfl) (fun _ _ _ h => h) (Or.inl ⟨by rfl, ?_⟩) (by assumption) ?_
      rotate_left
      · (intro w' hSw; (try dsimp only at hSw); go_simp; try (with_reducible rfl))
      change wpAnyH _ _ _ _ _ _ _ (Act.put _ (some 116) _) _
      try simp only [Act.put, List.setIfInBounds_toArray, List.set_cons_zero, List.set_cons_succ]
      refine wpAnyH_take (i := 11) (v := ?_) rfl (by kernel_rfl) (by kernel_rfl) (by kernel_rfl) (fun _ _ _ h => h) (Or.inl ⟨by rfl, ?_⟩) (by assumption) ?_
      rotate_left
      · (intro w' hSw; (try dsimp only at hSw); go_simp; try (with_reducible rfl))
      change wpAnyH _ _ _ _ _ _ _ (Act.put _ (some 117) _) _
      try simp only [Act.put, List.setIfInBounds_toArray, List.set_cons_zero, List.set_cons_succ]
      refine wpAnyH_ready (rs := [12]) (by kernel_rfl) (by simp) ?_
      refine AllReadyH.cons (i := 12) rfl (fun K hK => ?_) AllReadyH.nil
      simp only [List.getElem_toArray, List.getElem_cons_succ, List.getElem_cons_zero]
      rw [if_pos (by rfl)]
      go_simp
      (go_at_call 66; refine (CPU.out 4 (s.extract p np) (by decide) HTZ.out np 0 0 b1 w3.drew HJ3.out HN3.out).mono ?_; rintro e w5 ⟨nv', rfl, hj5, hn5, hro5, hk5⟩; have HJ5 := hid hj5; have HN5 := hid hn5; have HRO := hid (hro5.upJ (show w.heap.size ≤ w3.drew.heap.size from HK3.out.size)); have HK5 := hid ((KpweakJ HK3.out.drew nv.ownBlock).trans hk5 (RowOn.refl _ _)); have hS5 : w5.cell? ⟨g, 0, none⟩ = some (.string s) ∧ w5.cell? ⟨g, 1, none⟩ = some (.int .i64 (np : Int)) := ⟨HJ5.out.cells.1, HJ5.out.cells.2.1⟩; clear hj5 hn5 hro5 hk5; go_wp2_with fail)
      have hOld := hHeld
      clear hHeld
      refine hK.out _ _ ?_ (fun hHeld => ?_)
      · (try dsimp only); first | exact hS5 | exact hHeld | (refine ⟨?_, ?_⟩ <;> go_simp)
      clear hK K hOld
      try simp only [Act.put, List.setIfInBounds_toArray, List.set_cons_zero, List.set_cons_succ]
      refine wpAnyH_take (i := 13) (v := ?_) rfl (by kernel_rfl) (by kernel_rfl) (by kernel_rfl) (fun _ _ _ h => h) (Or.inl ⟨by rfl, ?_⟩) (by assumption) ?_
      rotate_left
      · (intro w' hSw; (try dsimp only at hSw); go_simp; try (with_reducible rfl))
      change wpAnyH _ _ _ _ _ _ _ (Act.put _ (some 2) _) _
      try simp only [Act.put, List.setIfInBounds_toArray, List.set_cons_zero, List.set_cons_succ]
      refine wpAnyH_done (by kernel_rfl) ?_ _
      rw [HXT2.out] at HN5
      go_wp2
      go_ret
      rw [HRE.out]
      exact ⟨Or.inl ⟨_, _, _, _, nv', rfl, rfl, HJ5.out, HN5.out, HRO.out⟩, HK5.out⟩
  have e45 : ((G : Int) == 45) = false := by rw [beq_eq_false_iff_ne]; omega
  as_aux_lemma =>
    have hdg : dgB G = true := by
      cases hd : dgB G with
      | true => rfl
      | false => exact absurd (show isVal G = false by unfold isVal; simp [h110, h116, h102, h34, h45, hd, h91, h123]) hiv
    have HDG := hid hdg
    have hps := HPL.out (fun e => by rw [e] at hdg; revert hdg; decide)
    have HRB := hid (show b = 200 → R = .er 5 p from fun hb => by rw [← HR.out]; unfold valG; rw [HGv.out, if_neg hiv, if_pos hb])
    have HRC := hid (show b ≠ 200 → R = if (numJ L p).1 = true then putN ⟨4, mkB ((L.drop p).take ((numJ L p).2 - p)), [], []⟩ (numJ L p).2 (b + 1) ns else .er 2 (numJ L p).2 from fun hb => by rw [← HR.out]; unfold valG; rw [HGv.out, if_neg hiv, if_neg hb, if_neg h110, if_neg h116, if_neg h102, if_neg h34, if_neg (by rintro (h | h); exact h91 h; exact h123 h)])
    have hwb : IntKind.u8.wrap (G : Int) = (G : Int) := by rw [IntKind.wrap_u8]; omega
    have CDB := hid (fun w => CDg.out G w)
    rw [hdg] at CDB
    clear hdg hiv h110 h116 h102 h34 h45 h91 h123
    go_upto_region 17 with (go_at_call 64; refine (CDB.out _).mono ?_; rintro e w9 ⟨rfl, rfl⟩)
    by_cases hb2 : b = 200
    · have HRE := hid (HRB.out hb2)
      have eb : ((b : Int) == 200) = true := by rw [hb2]; rfl
      have eb2 : (b : Int) = 200 := by omega
      clear hb2 c1 c2
      go_wp2_with fail
      refine (CF.out 5 p b _ HJ1.out).mono ?_
      rintro e w3 ⟨rfl, hj, hk⟩
      have HJ3 := hid hj
      have HK3 := hid (HK1.out.trans hk (RowOn.refl _ _))
      clear hj hk
      go_wp2
      go_ret
      rw [HRE.out]
      exact ⟨Or.inr ⟨5, p, 0, p, d, b, nv, rfl, by decide, rfl, HJ3.out, RowOn.refl _ _, by omega, by decide⟩, KpweakJ HK3.out _⟩
    have HRE0 := hid (HRC.out hb2)
    have eb : ((b : Int) == 200) = false := by rw [beq_eq_false_iff_ne]; omega
    have eb2 : ¬ (b : Int) = 200 := by omega
    have hb3 : b + 1 ≤ 200 := by omega
    obtain ⟨b1, hb1⟩ : ∃ x, b + 1 = x := ⟨_, rfl⟩
    have hvb' : (b : Int) + 1 = (b1 : Int) := by omega
    have hvb : IntKind.i64.wrap (b1 : Int) = (b1 : Int) := IntWalk.i64_in _ (by omega)
    rw [hb1] at HRE0 hb3
    obtain ⟨w2, hw2⟩ : ∃ x, w1.setCell ⟨g, 5, none⟩ (.int .i64 (b1 : Int)) = x := ⟨_, rfl⟩
    have HJ2 := hid (show JS w2 g s p 0 0 d b1 nv by rw [← hw2]; exact HJ1.out.setB b1)
    have HK2 := hid (show Kp g none w w2 by rw [← hw2]; exact HK1.out.set 5 _)
    have HN2 := hid (HN.out.kp HK2.out)
    have HX2 := hid (show ∀ b, X b → b < w2.heap.size from fun b hb => Nat.lt_of_lt_of_le (HX.out b hb) HK2.out.size)
    have HB1 := hid hb1
    go_upto_region 20 with fail
    try rw [hw2]
    clear hw2 hb2 eb eb2 hvb hvb' hb1 c1 c2 c5 y1 y2 y3 y4 y5 y6 hl
    have CNMP := hid (CNM.out b1 w2 HJ2.out)
    have hni := HNI.out hps
    obtain ⟨⟨nok, np⟩, hM⟩ : ∃ S, numJ L p = S := ⟨_, rfl⟩
    have HXT2 := hid (show s.extract p np = mkB ((L.drop p).take (np - p)) by have h1 := HXT.out; rw [hM] at h1; exact h1)
    rw [hM] at CNMP HRE0 hni
    dsimp only at CNMP HRE0 hni
    clear hM
    go_wp2_with fail
    refine CNMP.out.mono ?_
    rintro e w3 ⟨rfl, hj3, hk3⟩
    have HK3 := hid (HK2.out.trans hk3 (RowOn.refl _ _))
    have HN3 := hid (HN.out.kp HK3.out)
    clear hk3
    cases nok with
    | false =>
      have HJ3 := hid (show JS w3 g s np 2 np d b1 nv from hj3)
      have HRE := hid (show R = .er 2 np from HRE0.out)
      have hnp := hni.2.2
      obtain ⟨c0, c1, c2, c3, c4, c5, c6, y1, y2, y3, y4, y5, y6, hl⟩ := HJ3.out.cells
      clear hj3 hni c0 c1 c3 c4 c5 c6
      go_wp2
      go_ret
      rw [HRE.out]
      exact ⟨Or.inr ⟨2, np, 0, np, d, b1, nv, rfl, by decide, rfl, HJ3.out, RowOn.refl _ _, by have := HSL.out; omega, by decide⟩, KpweakJ HK3.out _⟩
    | true =>
      have HJ3 := hid (show JS w3 g s np 0 0 d b1 nv from hj3)
      have HRE := hid (show R = putN ⟨4, mkB ((L.drop p).take (np - p)), [], []⟩ np b1 ns from HRE0.out)
      have hnp : np ≤ s.size := by have := hni.2.1 rfl; have := HSL.out; omega
      have hnp2 : p ≤ np := hni.1
      have k1 : (np : Int) ≤ (s.size : Int) := by omega
      have k2 : (p : Int) ≤ (np : Int) := by omega
      have k3 : (0 : Int) ≤ (p : Int) := by omega
      have htz : (s.extract p np).size ≤ 1000000 := by rw [ByteArray.size_extract]; omega
      have HTZ := hid htz
      obtain ⟨c0, c1, c2, c3, c4, c5, c6, y1, y2, y3, y4, y5, y6, hl⟩ := HJ3.out.cells
      clear hj3 hni c3 c4 c5 c6 htz
      go_upto_region 34 with fail
      refine wp_region_held_drew (S := fun w' => w'.cell? ⟨g, 0, none⟩ = some (.string s) ∧ w'.cell? ⟨g, 1, none⟩ = some (.int .i64 (np : Int))) (by kernel_rfl) ?_ (fun hHeld => ?_)
      · exact ⟨c0, c1⟩
      refine wpAnyH_take (i := 0) (v := ?_) rfl (by kernel_rfl) (by kernel_rfl) (by kernel_rfl) (fun _ _ _ h => h) (Or.inl ⟨by rfl, ?_⟩) (by assumption) ?_
      rotate_left
      · (intro w' hSw; (try dsimp only at hSw); go_simp; try (with_reducible rfl))
      change wpAnyH _ _ _ _ _ _ _ (Act.put _ (some 106) _) _
      try simp only [Act.put, List.setIfInBounds_toArray, List.set_cons_zero, List.set_cons_succ]
      refine wpAnyH_take (i := 1) (v := ?_) rfl (by kernel_rfl) (by kernel_rfl) (by kernel_rfl) (fun _ _ _ h => h) (Or.inl ⟨by rfl, ?_⟩) (by assumption) ?_
      rotate_left
      · (intro w' hSw; (try dsimp only at hSw); go_simp; try (with_reducible rfl))
      change wpAnyH _ _ _ _ _ _ _ (Act.put _ (some 107) _) _
      try simp only [Act.put, List.setIfInBounds_toArray, List.set_cons_zero, List.set_cons_succ]
      refine wpAnyH_take (i := 2) (v := ?_) rfl (by kernel_rfl) (by kernel_rfl) (by kernel_rfl) (fun _ _ _ h => h) (Or.inl ⟨by rfl, ?_⟩) (by assumption) ?_
      rotate_left
      · (intro w' hSw; (try dsimp only at hSw); go_simp; try (with_reducible rfl))
      change wpAnyH _ _ _ _ _ _ _ (Act.put _ (some 108) _) _
      try simp only [Act.put, List.setIfInBounds_toArray, List.set_cons_zero, List.set_cons_succ]
      refine wpAnyH_take (i := 3) (v := ?_) rfl (by kernel_rfl) (by kernel_rfl) (by kernel_rfl) (fun _ _ _ h => h) (Or.inl ⟨by rfl, ?_⟩) (by assumption) ?_
      rotate_left
      · (intro w' hSw; (try dsimp only at hSw); go_simp; try (with_reducible rfl))
      change wpAnyH _ _ _ _ _ _ _ (Act.put _ (some 109) _) _
      try simp only [Act.put, List.setIfInBounds_toArray, List.set_cons_zero, List.set_cons_succ]
      refine wpAnyH_take (i := 4) (v := ?_) rfl (by kernel_rfl) (by kernel_rfl) (by kernel_rfl) (fun _ _ _ h => h) (Or.inl ⟨by rfl, ?_⟩) (by assumption) ?_
      rotate_left
      · (intro w' hSw; (try dsimp only at hSw); go_simp; try (with_reducible rfl))
      change wpAnyH _ _ _ _ _ _ _ (Act.put _ (some 110) _) _
      try simp only [Act.put, List.setIfInBounds_toArray, List.set_cons_zero, List.set_cons_succ]
      refine wpAnyH_take (i := 5) (v := ?_) rfl (by kernel_rfl) (by kernel_rfl) (by kernel_rfl) (fun _ _ _ h => h) (Or.inl ⟨by rfl, ?_⟩) (by assumption) ?_
      rotate_left
      · (intro w' hSw; (try dsimp only at hSw); go_simp; try (with_reducible rfl))
      change wpAnyH _ _ _ _ _ _ _ (Act.put _ (some 111) _) _
      try simp only [Act.put, List.setIfInBounds_toArray, List.set_cons_zero, List.set_cons_succ]
      refine wpAnyH_take (i := 6) (v := ?_) rfl (by kernel_rfl) (by kernel_rfl) (by kernel_rfl) (fun _ _ _ h => h) (Or.inl ⟨by rfl, ?_⟩) (by assumption) ?_
      rotate_left
      · (intro w' hSw; (try dsimp only at hSw); go_simp; try (with_reducible rfl))
      change wpAnyH _ _ _ _ _ _ _ (Act.put _ (some 112) _) _
      try simp only [Act.put, List.setIfInBounds_toArray, List.set_cons_zero, List.set_cons_succ]
      refine wpAnyH_take (i := 7) (v := ?_) rfl (by kernel_rfl) (by kernel_rfl) (by kernel_rfl) (fun _ _ _ h => h) (Or.inl ⟨by rfl, ?_⟩) (by assumption) ?_
      rotate_left
      · (intro w' hSw; (try dsimp only at hSw); go_simp; try (with_reducible rfl))
      change wpAnyH _ _ _ _ _ _ _ (Act.put _ (some 113) _) _
      try simp only [Act.put, List.setIfInBounds_toArray, List.set_cons_zero, List.set_cons_succ]
      refine wpAnyH_take (i := 8) (v := ?_) rfl (by kernel_rfl) (by kernel_rfl) (by kernel_rfl) (fun _ _ _ h => h) (Or.inl ⟨by rfl, ?_⟩) (by assumption) ?_
      rotate_left
      · (intro w' hSw; (try dsimp only at hSw); go_simp; try (with_reducible rfl))
      change wpAnyH _ _ _ _ _ _ _ (Act.put _ (some 114) _) _
      try simp only [Act.put, List.setIfInBounds_toArray, List.set_cons_zero, List.set_cons_succ]
      refine wpAnyH_take (i := 9) (v := ?_) rfl (by kernel_rfl) (by kernel_rfl) (by kernel_rfl) (fun _ _ _ h => h) (Or.inl ⟨by rfl, ?_⟩) (by assumption) ?_
      rotate_left
      · (intro w' hSw; (try dsimp only at hSw); go_simp; try (with_reducible rfl))
      change wpAnyH _ _ _ _ _ _ _ (Act.put _ (some 115) _) _
      try simp only [Act.put, List.setIfInBounds_toArray, List.set_cons_zero, List.set_cons_succ]
      refine wpAnyH_take (i := 10) (v := ?_) rfl (by kernel_rfl) (by kernel_rfl) (by kernel_rfl) (fun _ _ _ h => h) (Or.inl ⟨by rfl, ?_⟩) (by assumption) ?_
      rotate_left
      · (intro w' hSw; (try dsimp only at hSw); go_simp; try (with_reducible rfl))
      change wpAnyH _ _ _ _ _ _ _ (Act.put _ (some 116) _) _
      try simp only [Act.put, List.setIfInBounds_toArray, List.set_cons_zero, List.set_cons_succ]
      refine wpAnyH_take (i := 11) (v := ?_) rfl (by kernel_rfl) (by kernel_rfl) (by kernel_rfl) (fun _ _ _ h => h) (Or.inl ⟨by rfl, ?_⟩) (by assumption) ?_
      rotate_left
      · (intro w' hSw; (try dsimp only at hSw); go_simp; try (with_reducible rfl))
      change wpAnyH _ _ _ _ _ _ _ (Act.put _ (some 117) _) _
      try simp only [Act.put, List.setIfInBounds_toArray, List.set_cons_zero, List.set_cons_succ]
      refine wpAnyH_ready (rs := [12]) (by kernel_rfl) (by simp) ?_
      refine AllReadyH.cons (i := 12) rfl (fun K hK => ?_) AllReadyH.nil
      simp only [List.getElem_toArray, List.getElem_cons_succ, List.getElem_cons_zero]
      rw [if_pos (by rfl)]
      go_simp
      (go_at_call 66; refine (CPU.out 4 (s.extract p np) (by decide) HTZ.out np 0 0 b1 w3.drew HJ3.out HN3.out).mono ?_; rintro e w5 ⟨nv', rfl, hj5, hn5, hro5, hk5⟩; have HJ5 := hid hj5; have HN5 := hid hn5; have HRO := hid (hro5.upJ (show w.heap.size ≤ w3.drew.heap.size from HK3.out.size)); have HK5 := hid ((KpweakJ HK3.out.drew nv.ownBlock).trans hk5 (RowOn.refl _ _)); have hS5 : w5.cell? ⟨g, 0, none⟩ = some (.string s) ∧ w5.cell? ⟨g, 1, none⟩ = some (.int .i64 (np : Int)) := ⟨HJ5.out.cells.1, HJ5.out.cells.2.1⟩; clear hj5 hn5 hro5 hk5; go_wp2_with fail)
      have hOld := hHeld
      clear hHeld
      refine hK.out _ _ ?_ (fun hHeld => ?_)
      · (try dsimp only); first | exact hS5 | exact hHeld | (refine ⟨?_, ?_⟩ <;> go_simp)
      clear hK K hOld
      try simp only [Act.put, List.setIfInBounds_toArray, List.set_cons_zero, List.set_cons_succ]
      refine wpAnyH_take (i := 13) (v := ?_) rfl (by kernel_rfl) (by kernel_rfl) (by kernel_rfl) (fun _ _ _ h => h) (Or.inl ⟨by rfl, ?_⟩) (by assumption) ?_
      rotate_left
      · (intro w' hSw; (try dsimp only at hSw); go_simp; try (with_reducible rfl))
      change wpAnyH _ _ _ _ _ _ _ (Act.put _ (some 2) _) _
      try simp only [Act.put, List.setIfInBounds_toArray, List.set_cons_zero, List.set_cons_succ]
      refine wpAnyH_done (by kernel_rfl) ?_ _
      rw [HXT2.out] at HN5
      go_wp2
      go_ret
      rw [HRE.out]
      exact ⟨Or.inl ⟨_, _, _, _, nv', rfl, rfl, HJ5.out, HN5.out, HRO.out⟩, HK5.out⟩
end Go.Proofs.YtlfkfofeenakhaaDoor
