/-
  What is proved here: impl's JSON reader: a value; its lists and objects by contract. No condition but that the reader lies in memory, and sizes.
-/
import Derived.Test.YtlfkfofeenakhaaDoorJsI4
import Derived.Test.YtlfkfofeenakhaaDoorJsS6a
namespace Go.Proofs.YtlfkfofeenakhaaDoor
open Go.RowKit
set_option linter.unusedVariables false
set_option linter.unusedSimpArgs false

def valL : List UInt8 := [110, 116, 102, 45, 48, 49, 50, 51, 52, 53, 54, 55, 56, 57, 34, 91, 123]
set_option maxRecDepth 100000 in
theorem valX_256 : ∀ c, c < 256 → decide (Lib.indexByte valL (UInt8.ofNat c) < 0) = !isVal c := by decide
theorem implValIdx (c : Nat) (w : World) : Calls Tryd.prog 72 #[.string ⟨#[110, 116, 102, 45, 48, 49, 50, 51, 52, 53, 54, 55, 56, 57, 34, 91, 123]⟩, .int .u8 (c : Int)] w fun e w' => e = .returned (.int .i64 (Lib.indexByte valL (UInt8.ofNat c))) ∧ w = w' := by
  have h := Tryd.strings_IndexByte ⟨#[110, 116, 102, 45, 48, 49, 50, 51, 52, 53, 54, 55, 56, 57, 34, 91, 123]⟩ (c : Int) w
  refine h.mono ?_
  rintro e w' ⟨rfl, rfl⟩
  exact ⟨rfl, rfl⟩
/-- a list or an object from its first place on -/
def lstR (L : List UInt8) (val : Nat → Nat → List JNode → JR) (o q b : Nat) (ns : List JNode) : JR :=
  if gB L q = endOf o then putN ⟨kindO o, ⟨#[]⟩, [], []⟩ (q + 1) b ns else grpG L val o (endOf o) (L.length + 1) q b ns [] []
theorem grpB_lst (L : List UInt8) (val : Nat → Nat → List JNode → JR) (o p b : Nat) (ns : List JNode) : grpB L val o p b ns = lstR L val o (skB L (p + 1)) b ns := rfl
def LstC (s : ByteArray) (g d : Nat) (val : Nat → Nat → List JNode → JR) : Prop :=
  ∀ (X : Nat → Prop) (w : World) (q b : Nat) (nv : Value) (ns : List JNode), (∀ b, X b → b < w.heap.size) → JI w g s q b nv → q ≤ s.size → b ≤ 200 → ns.length + 1 ≤ b → JNo X g nv w ns →
    Calls Tryd.prog 73 #[.pointer (some ⟨g, 0, none⟩), .int .i64 (d : Int)] w fun e w' => ValI X w w' g s nv (lstR s.data.toList val 91 q b ns) e ∧ Kp g nv.ownBlock w w'
def ObjC (s : ByteArray) (g d : Nat) (val : Nat → Nat → List JNode → JR) : Prop :=
  ∀ (X : Nat → Prop) (w : World) (q b : Nat) (nv : Value) (ns : List JNode), (∀ b, X b → b < w.heap.size) → JI w g s q b nv → q ≤ s.size → b ≤ 200 → ns.length + 1 ≤ b → JNo X g nv w ns →
    Calls Tryd.prog 74 #[.pointer (some ⟨g, 0, none⟩), .int .i64 (d : Int)] w fun e w' => ValI X w w' g s nv (lstR s.data.toList val 123 q b ns) e ∧ Kp g nv.ownBlock w w'
def ValIC (s : ByteArray) (g d : Nat) (val : Nat → Nat → List JNode → JR) : Prop :=
  ∀ (X : Nat → Prop) (w : World) (p b : Nat) (nv : Value) (ns : List JNode), (∀ b, X b → b < w.heap.size) → JI w g s p b nv → p ≤ s.size → b ≤ 200 → ns.length ≤ b → JNo X g nv w ns →
    Calls Tryd.prog 33 #[.pointer (some ⟨g, 0, none⟩), .int .i64 (d : Int)] w fun e w' => ValI X w w' g s nv (val p b ns) e ∧ Kp g nv.ownBlock w w'
theorem ValI.up {X : Nat → Prop} {w w1 w' : World} {g : Nat} {s : ByteArray} {nv : Value} {r : JR} {e : Ending} (h : ValI X w1 w' g s nv r e) (hs : w.heap.size ≤ w1.heap.size) : ValI X w w' g s nv r e := by
  rcases h with ⟨kid, j, b', ns', nv', h1, h2, h3, h4, h5⟩ | ⟨c, q, b', nv', h1, h2, h3, h4, h5⟩
  · exact Or.inl ⟨kid, j, b', ns', nv', h1, h2, h3, h4, h5.upJ hs⟩
  · exact Or.inr ⟨c, q, b', nv', h1, h2, h3, h4, h5.upJ hs⟩
theorem ValI.tup {X : Nat → Prop} {w w' : World} {g : Nat} {s : ByteArray} {nv : Value} {r : JR} {e : Ending} (h : ValI X w w' g s nv r e) : ∃ x c : Nat, e = .returned (.tuple #[.int .i64 (x : Int), .int .i64 (c : Int)]) := by
  rcases h with ⟨kid, j, b', ns', nv', h1, h2, h3, h4, h5⟩ | ⟨c, q, b', nv', h1, h2, h3, h4, h5⟩
  · exact ⟨kid, 0, h2⟩
  · exact ⟨0, c, h3⟩
theorem ext_takeI {s : ByteArray} {p q : Nat} : s.extract p q = mkB ((s.data.toList.drop p).take (q - p)) := ext_take
set_option maxHeartbeats 64000000 in
set_option maxRecDepth 100000 in
theorem implJValue {g d : Nat} {s : ByteArray} {grp : Nat → Nat → Nat → List JNode → JR} (hs : s.size ≤ 5000) (hd : d ≤ 8)
    (HG : (d = 8 ∧ ∀ o p b ns, grp o p b ns = .er 3 p) ∨ (d < 8 ∧ ∃ val, (∀ o p b ns, grp o p b ns = lstR s.data.toList val o (skB s.data.toList (p + 1)) b ns) ∧ LstC s g (d + 1) val ∧ ObjC s g (d + 1) val)) : ValIC s g d (valG s.data.toList grp) := by
  intro X w p b nv ns hX h hp hb hnb hn
  obtain ⟨L, hL⟩ : ∃ L, s.data.toList = L := ⟨_, rfl⟩
  have hsl : s.size = L.length := by rw [← hL, Lib.size_eq]
  have CP := hid (implJNext w h hp)
  have CS := hid (fun (q b : Nat) (w : World) (h : JI w g s q b nv) (hq : q ≤ s.size) => implJSkip w h hq hs)
  have CT := hid (fun (b : Nat) (w : World) (h : JI w g s p b nv) (hp : p < s.size) => implJText w h hp hs)
  have CN := hid (fun (b : Nat) (w : World) (h : JI w g s p b nv) => implJNum w h hp hs)
  have CA := hid (fun (k : Int) (t : ByteArray) (hk : 0 ≤ k ∧ k ≤ 100) (ht : t.size ≤ 1000000) (q b : Nat) (w : World) (h : JI w g s q b nv) (hn : JNo X g nv w ns) => leafI (X := X) (ns := ns) k t hk ht w h hn (by omega))
  have CW := hid (fun (c : Nat) (W : ByteArray) (k : Int) (hc : (c = 110 ∧ W = ⟨#[110, 117, 108, 108]⟩ ∧ k = 1) ∨ (c = 116 ∧ W = ⟨#[116, 114, 117, 101]⟩ ∧ k = 2) ∨ (c = 102 ∧ W = ⟨#[102, 97, 108, 115, 101]⟩ ∧ k = 3)) (b : Nat) (w : World) (h : JI w g s p b nv) (hn : JNo X g nv w ns) => implJWord (X := X) (ns := ns) c W k hc w h hp hs (by omega) hn)
  have HGG := hid HG
  have HXT := hid (show ∀ q, s.extract p q = mkB ((L.drop p).take (q - p)) by rw [← hL]; exact fun q => ext_takeI)
  rw [hL] at CP CS CT CN CW HGG ⊢
  obtain ⟨R, hR⟩ : ∃ R, valG L grp p b ns = R := ⟨_, rfl⟩
  have HR := hid hR
  rw [hR]
  obtain ⟨G, hG⟩ : ∃ G, gB L p = G := ⟨_, rfl⟩
  have HGv := hid hG
  have hG255 : G ≤ 255 := by rw [← hG]; exact gB_le L p
  have HPL := hid (show G ≠ 0 → p < s.size from fun h => by rw [hsl]; exact gB_lt (by rw [hG]; exact h))
  have HNF := hid (fun (h : (numJ L p).1 = true) => numJ_fw (L := L) (p := p) h)
  have HST := hid (fun (h : p < s.size) => strP_in (L := L) (p := p) (by rw [← hsl]; exact h))
  have HSL := hid hsl
  have HSLL := hid hL
  have HH := hid h
  have HN := hid hn
  have HX := hid hX
  have hpi : p ≤ 5000 := by omega
  have hd0 : (0 : Int) ≤ (d : Int) := by omega
  clear hL hsl hR h HG hn hX
  go_enter Tryd.func33, Tryd.ntmps33
  by_cases hend : p = L.length
  · have e : nxI L p = -1 := if_pos hend
    have hG0 : G = 0 := by rw [← hG]; exact gB_end (by omega)
    have HRE := hid (show R = .er 2 p by rw [← HR.out]; unfold valG; rw [HGv.out, hG0, if_pos (by decide)])
    rw [e] at CP
    clear hend e hG0 hG
    go_wp2_with fail
    refine CP.out.mono ?_
    rintro e w1 ⟨rfl, hq⟩
    have HJ1 := hid (HH.out.qt hq)
    have HK1 := hid (hq.kp (g := g) (r := none))
    clear hq
    go_wp2
    go_ret2
    rw [HRE.out]
    exact ⟨Or.inr ⟨2, p, b, nv, rfl, by decide, rfl, HJ1.out, RowOn.refl _ _⟩, KpweakO HK1.out _⟩
  have e : nxI L p = ((gB L p : Nat) : Int) := if_neg hend
  rw [e, hG] at CP
  have HPS := hid (show p < s.size by have := HSL.out; omega)
  have hgn : ¬ (G : Int) < 0 := by omega
  have hwb : IntKind.u8.wrap (G : Int) = (G : Int) := by rw [IntKind.wrap_u8]; omega
  have CX := hid (fun w => implValIdx G w)
  have HVX := hid (valX_256 G (by omega))
  obtain ⟨V, hV⟩ : ∃ V, Lib.indexByte valL (UInt8.ofNat G) = V := ⟨_, rfl⟩
  rw [hV] at CX HVX
  clear hend e hG hV
  go_wp2_with fail
  refine CP.out.mono ?_
  rintro e w1 ⟨rfl, hq⟩
  have HJ1 := hid (HH.out.qt hq)
  have HK1 := hid (hq.kp (g := g) (r := none))
  have HN1 := hid (HN.out.kp HK1.out)
  have HX1 := hid (show ∀ b, X b → b < w1.heap.size by rw [hq.heap]; exact HX.out)
  clear hq
  go_wp2_with fail
  refine (CX.out _).mono ?_
  rintro e w2 ⟨rfl, rfl⟩
  cases hiv : isVal G with
  | false =>
    have hv0 : V < 0 := by have h1 := HVX.out; rw [hiv] at h1; exact of_decide_eq_true h1
    have HRE := hid (show R = .er 2 p by rw [← HR.out]; unfold valG; rw [HGv.out, if_pos hiv])
    clear hiv
    go_wp2
    go_ret2
    rw [HRE.out]
    exact ⟨Or.inr ⟨2, p, b, nv, rfl, by decide, rfl, HJ1.out, RowOn.refl _ _⟩, KpweakO HK1.out _⟩
  | true =>
  have hv0 : ¬ V < 0 := by have h1 := HVX.out; rw [hiv] at h1; exact of_decide_eq_false h1
  have hG0 : G ≠ 0 := fun e => by rw [e] at hiv; exact absurd hiv (by decide)
  have HRV := hid (show R = if b = 200 then .er 5 p else if G = 110 then wordR L p [110, 117, 108, 108] 1 (b + 1) ns else if G = 116 then wordR L p [116, 114, 117, 101] 2 (b + 1) ns else if G = 102 then wordR L p [102, 97, 108, 115, 101] 3 (b + 1) ns else if G = 34 then (if (strP L p).1 = true then putN ⟨5, mkB (strP L p).2.2, [], []⟩ (strP L p).2.1 (b + 1) ns else .er 2 (strP L p).2.1) else if G = 91 ∨ G = 123 then grp G p (b + 1) ns else if (numJ L p).1 = true then putN ⟨4, mkB ((L.drop p).take ((numJ L p).2 - p)), [], []⟩ (numJ L p).2 (b + 1) ns else .er 2 (numJ L p).2 by rw [← HR.out]; unfold valG; rw [HGv.out, if_neg (by rw [hiv]; decide)])
  clear hiv
  obtain ⟨c0, c1, c2, c3, y1, y2, y3, hl⟩ := HJ1.out.cells
  clear c0 c1 c3 y1 y3
  obtain ⟨b1, hb1⟩ : ∃ x, b + 1 = x := ⟨_, rfl⟩
  have hvb' : (b : Int) + 1 = (b1 : Int) := by omega
  have hvb : IntKind.i64.wrap (b1 : Int) = (b1 : Int) := IntWalk.i64_in _ (by omega)
  obtain ⟨w2, hw2⟩ : ∃ x, w1.setCell ⟨g, 2, none⟩ (.int .i64 (b1 : Int)) = x := ⟨_, rfl⟩
  have HJ2 := hid (show JI w2 g s p b1 nv by rw [← hw2]; exact HJ1.out.setB b1)
  have HK2 := hid (show Kp g none w w2 by rw [← hw2]; exact HK1.out.set 2 _)
  have HN2 := hid (HN.out.kp HK2.out)
  have HX2 := hid (show ∀ b, X b → b < w2.heap.size from fun b hb => Nat.lt_of_lt_of_le (HX.out b hb) HK2.out.size)
  rw [hb1] at HRV
  have HB1 := hid hb1
  go_upto_region 5 with fail
  try rw [hw2]
  clear hw2 c2 y2 hl hvb hvb' hv0 hgn hwb
  obtain ⟨c0, c1, c2, c3, y1, y2, y3, hl⟩ := HJ2.out.cells
  clear c3 y2 y3
  by_cases hb2 : b = 200
  · have HRE := hid (show R = .er 5 p by rw [HRV.out, if_pos hb2])
    have eb : (200 : Int) < (b1 : Int) := by omega
    clear hb2 hb1
    go_wp2
    go_ret2
    rw [HRE.out]
    exact ⟨Or.inr ⟨5, p, b1, nv, rfl, by decide, rfl, HJ2.out, RowOn.refl _ _⟩, KpweakO HK2.out _⟩
  have HRW := hid (show R = if G = 110 then wordR L p [110, 117, 108, 108] 1 b1 ns else if G = 116 then wordR L p [116, 114, 117, 101] 2 b1 ns else if G = 102 then wordR L p [102, 97, 108, 115, 101] 3 b1 ns else if G = 34 then (if (strP L p).1 = true then putN ⟨5, mkB (strP L p).2.2, [], []⟩ (strP L p).2.1 b1 ns else .er 2 (strP L p).2.1) else if G = 91 ∨ G = 123 then grp G p b1 ns else if (numJ L p).1 = true then putN ⟨4, mkB ((L.drop p).take ((numJ L p).2 - p)), [], []⟩ (numJ L p).2 b1 ns else .er 2 (numJ L p).2 by rw [HRV.out, if_neg hb2])
  have eb : ¬ (200 : Int) < (b1 : Int) := by omega
  have HB2 := hid (show b1 ≤ 200 by omega)
  clear hb2 HRV hb1
  go_upto_region 7 with fail
  clear eb c2
  by_cases hc : G = 110
  · as_aux_lemma =>
    have e91 : ((G : Int) == 91) = false := by rw [beq_eq_false_iff_ne]; omega
    have e123 : ((G : Int) == 123) = false := by rw [beq_eq_false_iff_ne]; omega
    have e34 : ((G : Int) == 34) = false := by rw [beq_eq_false_iff_ne]; omega
    have e110 : ((G : Int) == 110) = true := by rw [hc]; rfl
    have e116 : ((G : Int) == 116) = false := by rw [beq_eq_false_iff_ne]; omega
    have e102 : ((G : Int) == 102) = false := by rw [beq_eq_false_iff_ne]; omega
    have HRE := hid (show R = wordR L p [110, 117, 108, 108] 1 b1 ns by rw [HRW.out, if_pos hc])
    have CWQ := hid (CW.out G ⟨#[110, 117, 108, 108]⟩ 1 (Or.inl ⟨hc, rfl, rfl⟩) b1 w2 HJ2.out HN2.out)
    clear hc
    go_wp2_with fail
    refine CWQ.out.mono ?_
    rintro e w3 ⟨hv, hk⟩
    have HK3 := hid ((KpweakO HK2.out nv.ownBlock).trans hk (RowOn.refl _ _))
    have HV3 := hid (hv.up HK2.out.size)
    obtain ⟨x, cx, rfl⟩ := hv.tup
    clear hv hk
    go_wp2
    go_ret2
    rw [HRE.out]
    exact ⟨HV3.out, HK3.out⟩
  have n110 : G ≠ 110 := hc
  clear hc
  by_cases hc : G = 116
  · as_aux_lemma =>
    have e91 : ((G : Int) == 91) = false := by rw [beq_eq_false_iff_ne]; omega
    have e123 : ((G : Int) == 123) = false := by rw [beq_eq_false_iff_ne]; omega
    have e34 : ((G : Int) == 34) = false := by rw [beq_eq_false_iff_ne]; omega
    have e110 : ((G : Int) == 110) = false := by rw [beq_eq_false_iff_ne]; omega
    have e116 : ((G : Int) == 116) = true := by rw [hc]; rfl
    have e102 : ((G : Int) == 102) = false := by rw [beq_eq_false_iff_ne]; omega
    have HRE := hid (show R = wordR L p [116, 114, 117, 101] 2 b1 ns by rw [HRW.out, if_neg (by omega), if_pos hc])
    have CWQ := hid (CW.out G ⟨#[116, 114, 117, 101]⟩ 2 (Or.inr (Or.inl ⟨hc, rfl, rfl⟩)) b1 w2 HJ2.out HN2.out)
    clear hc
    go_wp2_with fail
    refine CWQ.out.mono ?_
    rintro e w3 ⟨hv, hk⟩
    have HK3 := hid ((KpweakO HK2.out nv.ownBlock).trans hk (RowOn.refl _ _))
    have HV3 := hid (hv.up HK2.out.size)
    obtain ⟨x, cx, rfl⟩ := hv.tup
    clear hv hk
    go_wp2
    go_ret2
    rw [HRE.out]
    exact ⟨HV3.out, HK3.out⟩
  have n116 : G ≠ 116 := hc
  clear hc
  by_cases hc : G = 102
  · as_aux_lemma =>
    have e91 : ((G : Int) == 91) = false := by rw [beq_eq_false_iff_ne]; omega
    have e123 : ((G : Int) == 123) = false := by rw [beq_eq_false_iff_ne]; omega
    have e34 : ((G : Int) == 34) = false := by rw [beq_eq_false_iff_ne]; omega
    have e110 : ((G : Int) == 110) = false := by rw [beq_eq_false_iff_ne]; omega
    have e116 : ((G : Int) == 116) = false := by rw [beq_eq_false_iff_ne]; omega
    have e102 : ((G : Int) == 102) = true := by rw [hc]; rfl
    have HRE := hid (show R = wordR L p [102, 97, 108, 115, 101] 3 b1 ns by rw [HRW.out, if_neg (by omega), if_neg (by omega), if_pos hc])
    have CWQ := hid (CW.out G ⟨#[102, 97, 108, 115, 101]⟩ 3 (Or.inr (Or.inr ⟨hc, rfl, rfl⟩)) b1 w2 HJ2.out HN2.out)
    clear hc
    go_wp2_with fail
    refine CWQ.out.mono ?_
    rintro e w3 ⟨hv, hk⟩
    have HK3 := hid ((KpweakO HK2.out nv.ownBlock).trans hk (RowOn.refl _ _))
    have HV3 := hid (hv.up HK2.out.size)
    obtain ⟨x, cx, rfl⟩ := hv.tup
    clear hv hk
    go_wp2
    go_ret2
    rw [HRE.out]
    exact ⟨HV3.out, HK3.out⟩
  have n102 : G ≠ 102 := hc
  clear hc
  by_cases hc : G = 34
  · as_aux_lemma =>
    have e91 : ((G : Int) == 91) = false := by rw [beq_eq_false_iff_ne]; omega
    have e123 : ((G : Int) == 123) = false := by rw [beq_eq_false_iff_ne]; omega
    have e34 : ((G : Int) == 34) = true := by rw [hc]; rfl
    have e110 : ((G : Int) == 110) = false := by rw [beq_eq_false_iff_ne]; omega
    have e116 : ((G : Int) == 116) = false := by rw [beq_eq_false_iff_ne]; omega
    have e102 : ((G : Int) == 102) = false := by rw [beq_eq_false_iff_ne]; omega
    have HRE := hid (show R = if (strP L p).1 = true then putN ⟨5, mkB (strP L p).2.2, [], []⟩ (strP L p).2.1 b1 ns else .er 2 (strP L p).2.1 by rw [HRW.out, if_neg n110, if_neg n116, if_neg n102, if_pos hc])
    have CTQ := hid (CT.out b1 w2 HJ2.out HPS.out)
    have hsi := HST.out HPS.out
    obtain ⟨⟨f1, f2, f3⟩, hF⟩ : ∃ S, strP L p = S := ⟨_, rfl⟩
    rw [hF] at CTQ HRE hsi
    dsimp only at CTQ HRE hsi
    clear hc hF
    go_wp2_with fail
    refine CTQ.out.mono ?_
    rintro e w3 ⟨rfl, hj, hk⟩
    have HJ3 := hid hj
    have HK3 := hid (HK2.out.trans hk (RowOn.refl _ _))
    have HN3 := hid (HN.out.kp HK3.out)
    clear hj hk
    cases f1 with
    | false =>
      have HRF := hid (show R = .er 2 f2 by rw [HRE.out, if_neg (by decide)])
      go_wp2
      go_ret2
      rw [HRF.out]
      exact ⟨Or.inr ⟨2, f2, b1, nv, rfl, by decide, rfl, HJ3.out, RowOn.refl _ _⟩, KpweakO HK3.out _⟩
    | true =>
      have HRF := hid (show R = putN ⟨5, mkB f3, [], []⟩ f2 b1 ns by rw [HRE.out, if_pos rfl])
      have htz : (mkB f3).size ≤ 1000000 := by rw [mkB_size]; have := (hsi.2 rfl).2; have := HSL.out; omega
      have CAQ := hid (CA.out 5 (mkB f3) (by decide) htz f2 b1 w3 HJ3.out HN3.out)
      obtain ⟨TX, hTX⟩ : ∃ TX, mkB f3 = TX := ⟨_, rfl⟩
      rw [hTX] at CAQ HRF ⊢
      clear hsi htz hTX
      go_wp2_with fail
      refine CAQ.out.mono ?_
      rintro e w4 ⟨nv4, rfl, hj4, hn4, hro4, hk4⟩
      have HJ4 := hid hj4
      have HN4 := hid hn4
      have HRO := hid (hro4.upJ HK3.out.size)
      have HK4 := hid ((KpweakO HK3.out nv.ownBlock).trans hk4 (RowOn.refl _ _))
      clear hj4 hn4 hro4 hk4
      go_wp2
      go_ret2
      rw [HRF.out]
      exact ⟨Or.inl ⟨_, _, _, _, nv4, rfl, rfl, HJ4.out, HN4.out, HRO.out⟩, HK4.out⟩
  have n34 : G ≠ 34 := hc
  clear hc
  by_cases hc : G = 91
  · as_aux_lemma =>
    have e91 : ((G : Int) == 91) = true := by rw [hc]; rfl
    have e123 : ((G : Int) == 123) = false := by rw [beq_eq_false_iff_ne]; omega
    have e34 : ((G : Int) == 34) = false := by rw [beq_eq_false_iff_ne]; omega
    have e110 : ((G : Int) == 110) = false := by rw [beq_eq_false_iff_ne]; omega
    have e116 : ((G : Int) == 116) = false := by rw [beq_eq_false_iff_ne]; omega
    have e102 : ((G : Int) == 102) = false := by rw [beq_eq_false_iff_ne]; omega
    have HRE := hid (show R = grp 91 p b1 ns by rw [HRW.out, if_neg n110, if_neg n116, if_neg n102, if_neg n34, if_pos (Or.inl hc), hc])
    rcases HGG.out with ⟨h8, hg8⟩ | ⟨h8, val, hgl, hlst, hobj⟩
    · have HRF := hid (show R = .er 3 p by rw [HRE.out, hg8])
      have ed : ((d : Int) == 8) = true := by rw [h8]; rfl
      clear hc h8 hg8
      go_wp2
      go_ret2
      rw [HRF.out]
      exact ⟨Or.inr ⟨3, p, b1, nv, rfl, by decide, rfl, HJ2.out, RowOn.refl _ _⟩, KpweakO HK2.out _⟩
    · have ed : ((d : Int) == 8) = false := by rw [beq_eq_false_iff_ne]; omega
      obtain ⟨p1, hp1⟩ : ∃ x, p + 1 = x := ⟨_, rfl⟩
      obtain ⟨d1, hd1⟩ : ∃ x, d + 1 = x := ⟨_, rfl⟩
      have hw1' : (d : Int) + 1 = (d1 : Int) := by omega
      have hw1 : IntKind.i64.wrap (d1 : Int) = (d1 : Int) := IntWalk.i64_in _ (by omega)
      have hw2' : (p : Int) + 1 = (p1 : Int) := by omega
      have hw2 : IntKind.i64.wrap (p1 : Int) = (p1 : Int) := IntWalk.i64_in _ (by omega)
      have hp1s : p1 ≤ s.size := by have := HPS.out; omega
      have hq := skB_in L (p := p1) (by have := HSL.out; omega)
      have HRF0 := hid (show R = lstR L val 91 (skB L p1) b1 ns by rw [HRE.out, hgl, hp1])
      obtain ⟨w3, hw3⟩ : ∃ x, w2.setCell ⟨g, 1, none⟩ (.int .i64 (p1 : Int)) = x := ⟨_, rfl⟩
      have HJ3 := hid (show JI w3 g s p1 b1 nv by rw [← hw3]; exact HJ2.out.setP p1)
      have HK3 := hid (show Kp g none w w3 by rw [← hw3]; exact HK2.out.set 1 _)
      have CSQ := hid (CS.out p1 b1 w3 HJ3.out hp1s)
      obtain ⟨q0, hq0⟩ : ∃ x, skB L p1 = x := ⟨_, rfl⟩
      rw [hq0] at CSQ hq HRF0
      have hl0 := hlst
      rw [hd1] at hl0
      have HRF := hid (show R = lstR s.data.toList val 91 q0 b1 ns by rw [HRF0.out, HSLL.out])
      have HQS := hid (show q0 ≤ s.size by have := HSL.out; omega)
      have CLQ := hid (fun (w : World) (h : JI w g s q0 b1 nv) (hX : ∀ b, X b → b < w.heap.size) (hn : JNo X g nv w ns) => hl0 X w q0 b1 nv ns hX h HQS.out HB2.out (by have := HB1.out; omega) hn)
      have HW3 := hid hw3
      clear hc h8 hgl hlst hobj hp1 hd1 hw3 hq hq0 hl0 hp1s
      go_wp2_with fail
      try rw [HW3.out]
      refine CSQ.out.mono ?_
      rintro e w4 ⟨rfl, hj4, hk4⟩
      have HJ4 := hid hj4
      have HK4 := hid (HK3.out.trans hk4 (RowOn.refl _ _))
      have HN4 := hid (HN.out.kp HK4.out)
      have HX4 := hid (show ∀ b, X b → b < w4.heap.size from fun b hb => Nat.lt_of_lt_of_le (HX.out b hb) HK4.out.size)
      clear hj4 hk4 c0 c1 y1 hl
      go_wp2_with fail
      refine (CLQ.out _ HJ4.out HX4.out HN4.out).mono ?_
      rintro e w5 ⟨hv, hk⟩
      have HK5 := hid ((KpweakO HK4.out nv.ownBlock).trans hk (RowOn.refl _ _))
      have HV5 := hid (hv.up HK4.out.size)
      obtain ⟨x, cx, rfl⟩ := hv.tup
      clear hv hk
      go_wp2
      go_ret2
      rw [HRF.out]
      exact ⟨HV5.out, HK5.out⟩
  have n91 : G ≠ 91 := hc
  clear hc
  by_cases hc : G = 123
  · as_aux_lemma =>
    have e91 : ((G : Int) == 91) = false := by rw [beq_eq_false_iff_ne]; omega
    have e123 : ((G : Int) == 123) = true := by rw [hc]; rfl
    have e34 : ((G : Int) == 34) = false := by rw [beq_eq_false_iff_ne]; omega
    have e110 : ((G : Int) == 110) = false := by rw [beq_eq_false_iff_ne]; omega
    have e116 : ((G : Int) == 116) = false := by rw [beq_eq_false_iff_ne]; omega
    have e102 : ((G : Int) == 102) = false := by rw [beq_eq_false_iff_ne]; omega
    have HRE := hid (show R = grp 123 p b1 ns by rw [HRW.out, if_neg n110, if_neg n116, if_neg n102, if_neg n34, if_pos (Or.inr hc), hc])
    rcases HGG.out with ⟨h8, hg8⟩ | ⟨h8, val, hgl, hlst, hobj⟩
    · have HRF := hid (show R = .er 3 p by rw [HRE.out, hg8])
      have ed : ((d : Int) == 8) = true := by rw [h8]; rfl
      clear hc h8 hg8
      go_wp2
      go_ret2
      rw [HRF.out]
      exact ⟨Or.inr ⟨3, p, b1, nv, rfl, by decide, rfl, HJ2.out, RowOn.refl _ _⟩, KpweakO HK2.out _⟩
    · have ed : ((d : Int) == 8) = false := by rw [beq_eq_false_iff_ne]; omega
      obtain ⟨p1, hp1⟩ : ∃ x, p + 1 = x := ⟨_, rfl⟩
      obtain ⟨d1, hd1⟩ : ∃ x, d + 1 = x := ⟨_, rfl⟩
      have hw1' : (d : Int) + 1 = (d1 : Int) := by omega
      have hw1 : IntKind.i64.wrap (d1 : Int) = (d1 : Int) := IntWalk.i64_in _ (by omega)
      have hw2' : (p : Int) + 1 = (p1 : Int) := by omega
      have hw2 : IntKind.i64.wrap (p1 : Int) = (p1 : Int) := IntWalk.i64_in _ (by omega)
      have hp1s : p1 ≤ s.size := by have := HPS.out; omega
      have hq := skB_in L (p := p1) (by have := HSL.out; omega)
      have HRF0 := hid (show R = lstR L val 123 (skB L p1) b1 ns by rw [HRE.out, hgl, hp1])
      obtain ⟨w3, hw3⟩ : ∃ x, w2.setCell ⟨g, 1, none⟩ (.int .i64 (p1 : Int)) = x := ⟨_, rfl⟩
      have HJ3 := hid (show JI w3 g s p1 b1 nv by rw [← hw3]; exact HJ2.out.setP p1)
      have HK3 := hid (show Kp g none w w3 by rw [← hw3]; exact HK2.out.set 1 _)
      have CSQ := hid (CS.out p1 b1 w3 HJ3.out hp1s)
      obtain ⟨q0, hq0⟩ : ∃ x, skB L p1 = x := ⟨_, rfl⟩
      rw [hq0] at CSQ hq HRF0
      have hl0 := hobj
      rw [hd1] at hl0
      have HRF := hid (show R = lstR s.data.toList val 123 q0 b1 ns by rw [HRF0.out, HSLL.out])
      have HQS := hid (show q0 ≤ s.size by have := HSL.out; omega)
      have CLQ := hid (fun (w : World) (h : JI w g s q0 b1 nv) (hX : ∀ b, X b → b < w.heap.size) (hn : JNo X g nv w ns) => hl0 X w q0 b1 nv ns hX h HQS.out HB2.out (by have := HB1.out; omega) hn)
      have HW3 := hid hw3
      clear hc h8 hgl hlst hobj hp1 hd1 hw3 hq hq0 hl0 hp1s
      go_wp2_with fail
      try rw [HW3.out]
      refine CSQ.out.mono ?_
      rintro e w4 ⟨rfl, hj4, hk4⟩
      have HJ4 := hid hj4
      have HK4 := hid (HK3.out.trans hk4 (RowOn.refl _ _))
      have HN4 := hid (HN.out.kp HK4.out)
      have HX4 := hid (show ∀ b, X b → b < w4.heap.size from fun b hb => Nat.lt_of_lt_of_le (HX.out b hb) HK4.out.size)
      clear hj4 hk4 c0 c1 y1 hl
      go_wp2_with fail
      refine (CLQ.out _ HJ4.out HX4.out HN4.out).mono ?_
      rintro e w5 ⟨hv, hk⟩
      have HK5 := hid ((KpweakO HK4.out nv.ownBlock).trans hk (RowOn.refl _ _))
      have HV5 := hid (hv.up HK4.out.size)
      obtain ⟨x, cx, rfl⟩ := hv.tup
      clear hv hk
      go_wp2
      go_ret2
      rw [HRF.out]
      exact ⟨HV5.out, HK5.out⟩
  have n123 : G ≠ 123 := hc
  clear hc
  as_aux_lemma =>
    have e91 : ((G : Int) == 91) = false := by rw [beq_eq_false_iff_ne]; omega
    have e123 : ((G : Int) == 123) = false := by rw [beq_eq_false_iff_ne]; omega
    have e34 : ((G : Int) == 34) = false := by rw [beq_eq_false_iff_ne]; omega
    have e110 : ((G : Int) == 110) = false := by rw [beq_eq_false_iff_ne]; omega
    have e116 : ((G : Int) == 116) = false := by rw [beq_eq_false_iff_ne]; omega
    have e102 : ((G : Int) == 102) = false := by rw [beq_eq_false_iff_ne]; omega
    have HRE := hid (show R = if (numJ L p).1 = true then putN ⟨4, mkB ((L.drop p).take ((numJ L p).2 - p)), [], []⟩ (numJ L p).2 b1 ns else .er 2 (numJ L p).2 by rw [HRW.out, if_neg n110, if_neg n116, if_neg n102, if_neg n34, if_neg (fun h => h.elim n91 n123)])
    have CNQ := hid (CN.out b1 w2 HJ2.out)
    have hni := HNF.out
    obtain ⟨⟨nok, np⟩, hM⟩ : ∃ S, numJ L p = S := ⟨_, rfl⟩
    rw [hM] at CNQ HRE hni
    dsimp only at CNQ HRE hni
    have HXT2 := hid (HXT.out np)
    clear hM n110 n116 n102 n34 n91 n123
    go_wp2_with fail
    refine CNQ.out.mono ?_
    rintro e w3 ⟨rfl, hj, hk, hle⟩
    have HJ3 := hid hj
    have HK3 := hid (HK2.out.trans hk (RowOn.refl _ _))
    have HN3 := hid (HN.out.kp HK3.out)
    clear hj hk c0 c1 y1 hl
    cases nok with
    | false =>
      have HRF := hid (show R = .er 2 np by rw [HRE.out, if_neg (by decide)])
      go_wp2
      go_ret2
      rw [HRF.out]
      exact ⟨Or.inr ⟨2, np, b1, nv, rfl, by decide, rfl, HJ3.out, RowOn.refl _ _⟩, KpweakO HK3.out _⟩
    | true =>
      have HRF := hid (show R = putN ⟨4, mkB ((L.drop p).take (np - p)), [], []⟩ np b1 ns by rw [HRE.out, if_pos rfl])
      have hnp2 : p ≤ np := Nat.le_of_lt (hni rfl).1
      have k1 : (np : Int) ≤ (s.size : Int) := by omega
      have k2 : (p : Int) ≤ (np : Int) := by omega
      have k3 : (0 : Int) ≤ (p : Int) := by omega
      have HTZ := hid (show (s.extract p np).size ≤ 1000000 by rw [ByteArray.size_extract]; omega)
      obtain ⟨c0, c1, c2, c3, y1, y2, y3, hl⟩ := HJ3.out.cells
      clear hni c2 c3
      go_upto_region 30 with fail
      refine wp_region_held_drew (S := fun w' => w'.cell? ⟨g, 0, none⟩ = some (.string s) ∧ w'.cell? ⟨g, 1, none⟩ = some (.int .i64 (np : Int))) (by kernel_rfl) ?_ (fun hHeld => ?_)
      · exact ⟨c0, c1⟩
      refine wpAnyH_take (i := 0) (v := ?_) rfl (by kernel_rfl) (by kernel_rfl) (by kernel_rfl) (fun _ _ _ h => h) (Or.inl ⟨by rfl, ?_⟩) (by assumption) ?_
      rotate_left
      · (intro w' hSw; (try dsimp only at hSw); go_simp; try (with_reducible rfl))
      change wpAnyH _ _ _ _ _ _ _ (Act.put _ (some 96) _) _
      try simp only [Act.put, List.setIfInBounds_toArray, List.set_cons_zero, List.set_cons_succ]
      refine wpAnyH_take (i := 1) (v := ?_) rfl (by kernel_rfl) (by kernel_rfl) (by kernel_rfl) (fun _ _ _ h => h) (Or.inl ⟨by rfl, ?_⟩) (by assumption) ?_
      rotate_left
      · (intro w' hSw; (try dsimp only at hSw); go_simp; try (with_reducible rfl))
      change wpAnyH _ _ _ _ _ _ _ (Act.put _ (some 97) _) _
      try simp only [Act.put, List.setIfInBounds_toArray, List.set_cons_zero, List.set_cons_succ]
      refine wpAnyH_take (i := 2) (v := ?_) rfl (by kernel_rfl) (by kernel_rfl) (by kernel_rfl) (fun _ _ _ h => h) (Or.inl ⟨by rfl, ?_⟩) (by assumption) ?_
      rotate_left
      · (intro w' hSw; (try dsimp only at hSw); go_simp; try (with_reducible rfl))
      change wpAnyH _ _ _ _ _ _ _ (Act.put _ (some 98) _) _
      try simp only [Act.put, List.setIfInBounds_toArray, List.set_cons_zero, List.set_cons_succ]
      refine wpAnyH_take (i := 3) (v := ?_) rfl (by kernel_rfl) (by kernel_rfl) (by kernel_rfl) (fun _ _ _ h => h) (Or.inl ⟨by rfl, ?_⟩) (by assumption) ?_
      rotate_left
      · (intro w' hSw; (try dsimp only at hSw); go_simp; try (with_reducible rfl))
      change wpAnyH _ _ _ _ _ _ _ (Act.put _ (some 99) _) _
      try simp only [Act.put, List.setIfInBounds_toArray, List.set_cons_zero, List.set_cons_succ]
      refine wpAnyH_take (i := 4) (v := ?_) rfl (by kernel_rfl) (by kernel_rfl) (by kernel_rfl) (fun _ _ _ h => h) (Or.inl ⟨by rfl, ?_⟩) (by assumption) ?_
      rotate_left
      · (intro w' hSw; (try dsimp only at hSw); go_simp; try (with_reducible rfl))
      change wpAnyH _ _ _ _ _ _ _ (Act.put _ (some 100) _) _
      try simp only [Act.put, List.setIfInBounds_toArray, List.set_cons_zero, List.set_cons_succ]
      refine wpAnyH_take (i := 5) (v := ?_) rfl (by kernel_rfl) (by kernel_rfl) (by kernel_rfl) (fun _ _ _ h => h) (Or.inl ⟨by rfl, ?_⟩) (by assumption) ?_
      rotate_left
      · (intro w' hSw; (try dsimp only at hSw); go_simp; try (with_reducible rfl))
      change wpAnyH _ _ _ _ _ _ _ (Act.put _ (some 101) _) _
      try simp only [Act.put, List.setIfInBounds_toArray, List.set_cons_zero, List.set_cons_succ]
      refine wpAnyH_take (i := 6) (v := ?_) rfl (by kernel_rfl) (by kernel_rfl) (by kernel_rfl) (fun _ _ _ h => h) (Or.inl ⟨by rfl, ?_⟩) (by assumption) ?_
      rotate_left
      · (intro w' hSw; (try dsimp only at hSw); go_simp; try (with_reducible rfl))
      change wpAnyH _ _ _ _ _ _ _ (Act.put _ (some 102) _) _
      try simp only [Act.put, List.setIfInBounds_toArray, List.set_cons_zero, List.set_cons_succ]
      refine wpAnyH_take (i := 7) (v := ?_) rfl (by kernel_rfl) (by kernel_rfl) (by kernel_rfl) (fun _ _ _ h => h) (Or.inl ⟨by rfl, ?_⟩) (by assumption) ?_
      rotate_left
      · (intro w' hSw; (try dsimp only at hSw); go_simp; try (with_reducible rfl))
      change wpAnyH _ _ _ _ _ _ _ (Act.put _ (some 103) _) _
      try simp only [Act.put, List.setIfInBounds_toArray, List.set_cons_zero, List.set_cons_succ]
      refine wpAnyH_take (i := 8) (v := ?_) rfl (by kernel_rfl) (by kernel_rfl) (by kernel_rfl) (fun _ _ _ h => h) (Or.inl ⟨by rfl, ?_⟩) (by assumption) ?_
      rotate_left
      · (intro w' hSw; (try dsimp only at hSw); go_simp; try (with_reducible rfl))
      change wpAnyH _ _ _ _ _ _ _ (Act.put _ (some 104) _) _
      try simp only [Act.put, List.setIfInBounds_toArray, List.set_cons_zero, List.set_cons_succ]
      refine wpAnyH_take (i := 9) (v := ?_) rfl (by kernel_rfl) (by kernel_rfl) (by kernel_rfl) (fun _ _ _ h => h) (Or.inl ⟨by rfl, ?_⟩) (by assumption) ?_
      rotate_left
      · (intro w' hSw; (try dsimp only at hSw); go_simp; try (with_reducible rfl))
      change wpAnyH _ _ _ _ _ _ _ (Act.put _ (some 105) _) _
      try simp only [Act.put, List.setIfInBounds_toArray, List.set_cons_zero, List.set_cons_succ]
      refine wpAnyH_take (i := 10) (v := ?_) rfl (by kernel_rfl) (by kernel_rfl) (by kernel_rfl) (fun _ _ _ h => h) (Or.inl ⟨by rfl, ?_⟩) (by assumption) ?_
      rotate_left
      · (intro w' hSw; (try dsimp only at hSw); go_simp; try (with_reducible rfl))
      change wpAnyH _ _ _ _ _ _ _ (Act.put _ (some 106) _) _
      try simp only [Act.put, List.setIfInBounds_toArray, List.set_cons_zero, List.set_cons_succ]
      refine wpAnyH_take (i := 11) (v := ?_) rfl (by kernel_rfl) (by kernel_rfl) (by kernel_rfl) (fun _ _ _ h => h) (Or.inl ⟨by rfl, ?_⟩) (by assumption) ?_
      rotate_left
      · (intro w' hSw; (try dsimp only at hSw); go_simp; try (with_reducible rfl))
      change wpAnyH _ _ _ _ _ _ _ (Act.put _ (some 107) _) _
      try simp only [Act.put, List.setIfInBounds_toArray, List.set_cons_zero, List.set_cons_succ]
      refine wpAnyH_ready (rs := [12]) (by kernel_rfl) (by simp) ?_
      refine AllReadyH.cons (i := 12) rfl (fun K hK => ?_) AllReadyH.nil
      simp only [List.getElem_toArray, List.getElem_cons_succ, List.getElem_cons_zero]
      rw [if_pos (by rfl)]
      go_simp
      (go_at_call 76; refine (CA.out 4 (s.extract p np) (by decide) HTZ.out np b1 w3.drew HJ3.out HN3.out).mono ?_; rintro e w5 ⟨nv5, rfl, hj5, hn5, hro5, hk5⟩; have HJ5 := hid hj5; have HN5 := hid hn5; have HRO := hid (hro5.upJ (show w.heap.size ≤ w3.drew.heap.size from HK3.out.size)); have HK5 := hid ((KpweakO HK3.out.drew nv.ownBlock).trans hk5 (RowOn.refl _ _)); have hS5 : w5.cell? ⟨g, 0, none⟩ = some (.string s) ∧ w5.cell? ⟨g, 1, none⟩ = some (.int .i64 (np : Int)) := ⟨HJ5.out.cells.1, HJ5.out.cells.2.1⟩; clear hj5 hn5 hro5 hk5; go_wp2_with fail)
      have hOld := hHeld
      clear hHeld
      refine hK.out _ _ ?_ (fun hHeld => ?_)
      · (try dsimp only); first | exact hS5 | exact hHeld | (refine ⟨?_, ?_⟩ <;> go_simp)
      clear hK K hOld
      try simp only [Act.put, List.setIfInBounds_toArray, List.set_cons_zero, List.set_cons_succ]
      refine wpAnyH_take (i := 13) (v := ?_) rfl (by kernel_rfl) (by kernel_rfl) (by kernel_rfl) (fun _ _ _ h => h) (Or.inl ⟨by rfl, ?_⟩) (by assumption) ?_
      rotate_left
      · (intro w' hSw; (try dsimp only at hSw); go_simp; try (with_reducible rfl))
      change wpAnyH _ _ _ _ _ _ _ (Act.put _ (some 109) _) _
      try simp only [Act.put, List.setIfInBounds_toArray, List.set_cons_zero, List.set_cons_succ]
      refine wpAnyH_take (i := 14) (v := ?_) rfl (by kernel_rfl) (by kernel_rfl) (by kernel_rfl) (fun _ _ _ h => h) (Or.inl ⟨by rfl, ?_⟩) (by assumption) ?_
      rotate_left
      · (intro w' hSw; (try dsimp only at hSw); go_simp; try (with_reducible rfl))
      change wpAnyH _ _ _ _ _ _ _ (Act.put _ (some 110) _) _
      try simp only [Act.put, List.setIfInBounds_toArray, List.set_cons_zero, List.set_cons_succ]
      refine wpAnyH_take (i := 15) (v := ?_) rfl (by kernel_rfl) (by kernel_rfl) (by kernel_rfl) (fun _ _ _ h => h) (Or.inl ⟨by rfl, ?_⟩) (by assumption) ?_
      rotate_left
      · (intro w' hSw; (try dsimp only at hSw); go_simp; try (with_reducible rfl))
      change wpAnyH _ _ _ _ _ _ _ (Act.put _ (some 4) _) _
      try simp only [Act.put, List.setIfInBounds_toArray, List.set_cons_zero, List.set_cons_succ]
      refine wpAnyH_take (i := 16) (v := ?_) rfl (by kernel_rfl) (by kernel_rfl) (by kernel_rfl) (fun _ _ _ h => h) (Or.inl ⟨by rfl, ?_⟩) (by assumption) ?_
      rotate_left
      · (intro w' hSw; (try dsimp only at hSw); go_simp; try (with_reducible rfl))
      change wpAnyH _ _ _ _ _ _ _ (Act.put _ (some 5) _) _
      try simp only [Act.put, List.setIfInBounds_toArray, List.set_cons_zero, List.set_cons_succ]
      refine wpAnyH_done (by kernel_rfl) ?_ _
      rw [HXT2.out] at HN5
      go_wp2
      go_ret2
      rw [HRF.out]
      exact ⟨Or.inl ⟨_, _, _, _, nv5, rfl, rfl, HJ5.out, HN5.out, HRO.out⟩, HK5.out⟩
end Go.Proofs.YtlfkfofeenakhaaDoor
