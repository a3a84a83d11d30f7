/-
  What is proved here: the reference's JSON reader: a list or an object, its values by contract. No condition but that the reader lies in memory.
-/
import Derived.Test.YtlfkfofeenakhaaDoorJsS6a
namespace Go.Proofs.YtlfkfofeenakhaaDoor
open Go.RowKit
set_option linter.unusedVariables false
set_option linter.unusedSimpArgs false

theorem info_strJ : (Tryd.prog.info? 9).map (fun i => (i.zero, i.size, i.bytes)) = some (some (.string ⟨#[]⟩), 1, 16) := by kernel_rfl
theorem info_intJ : (Tryd.prog.info? 3).map (fun i => (i.zero, i.size, i.bytes)) = some (some (.int .i64 0), 1, 8) := by kernel_rfl
set_option maxHeartbeats 4000000 in
set_option maxRecDepth 100000 in
theorem specJGroup8 {g : Nat} {s : ByteArray} (hs : s.size ≤ 5000) : GrpC s g 8 (fun _ p _ _ => .er 3 p) := by
  intro X w o p b nv ns hX ho h hp hb hnb hn
  have CF := hid (specJFail 3 p w h)
  obtain ⟨c0, c1, c2, c3, c4, c5, c6, y1, y2, y3, y4, y5, y6, hl⟩ := h.cells
  clear h c0 c2 c3 c5 c6
  go_enter Tryd.func68, Tryd.ntmps68
  go_wp2_with fail
  refine CF.out.mono ?_
  rintro e w1 ⟨rfl, hj, hk⟩
  have HJ := hid hj
  have HK := hid hk
  clear hj hk
  go_wp2
  go_ret
  exact ⟨Or.inr ⟨3, p, 0, p, 8, b, nv, rfl, by decide, rfl, HJ.out, RowOn.refl _ _, by omega, by decide⟩, KpweakJ HK.out _⟩
theorem ValJ.both {X : Nat → Prop} {w w' : World} {g : Nat} {s : ByteArray} {d : Nat} {nv : Value} {r : JR} {e : Ending} (h : ValJ X w w' g s d nv r e) : ∃ (x j c q d' b' : Nat) (nv5 : Value), e = .returned (.int .i64 (x : Int)) ∧ JS w' g s j c q d' b' nv5 ∧ RowOn w nv.ownBlock nv5.ownBlock ∧ ((c = 0 ∧ q = 0 ∧ d = d' ∧ ∃ ns5, r = .ok x j b' ns5 ∧ JNs X g nv5 w' ns5) ∨ (c ≠ 0 ∧ r = .er c q ∧ j ≤ 5100 ∧ x ≤ 100000)) := by
  rcases h with ⟨kid, j, b', ns', nv', hr, he, hj, hn, hro⟩ | ⟨c, q, x, j, d', b', nv', hr, hc, he, hj, hro, hj5, hx⟩
  · exact ⟨kid, j, 0, 0, d, b', nv', he, hj, hro, Or.inl ⟨rfl, rfl, rfl, ns', hr, hn⟩⟩
  · exact ⟨x, j, c, q, d', b', nv', he, hj, hro, Or.inr ⟨hc, hr, hj5, hx⟩⟩
def After31 (X : Nat → Prop) (w wx : World) (g nb o d1 : Nat) (s : ByteArray) (kv nv : Value) (keys : List ByteArray) (kids : List Int) (VR : JR) : Prop :=
  (∃ (x jv bv : Nat) (nv5 dv5 : Value) (ns5 : List JNode), VR = .ok x jv bv ns5 ∧ JS wx g s jv 0 0 d1 bv nv5 ∧ GI X w wx g nb o kv dv5 nv nv5 keys (kids ++ [(x : Int)]) ns5)
  ∨ (∃ (jv cv qv d5 bv : Nat) (nv5 : Value), VR = .er cv qv ∧ cv ≠ 0 ∧ jv ≤ 5100 ∧ JS wx g s jv cv qv d5 bv nv5 ∧ RowOn w nv.ownBlock nv5.ownBlock ∧ Kp g nv.ownBlock w wx)
theorem after31 {X : Nat → Prop} {w wd w6 w7 : World} {g nb o d1 d5 x jv cv qv bv g4 cap4 : Nat} {s : ByteArray} {kv dv nv nv' nv5 : Value} {keys : List ByteArray} {kids : List Int} {ns' : List JNode} {VR : JR} {ob : Obj}
    (hgd : GI X w wd g nb o kv dv nv nv' keys kids ns') (hj : JS w6 g s jv cv qv d5 bv nv5) (hro : RowOn wd nv'.ownBlock nv5.ownBlock) (hk : Kp g nv'.ownBlock wd w6)
    (hvv : (cv = 0 ∧ qv = 0 ∧ d1 = d5 ∧ ∃ ns5, VR = .ok x jv bv ns5 ∧ JNs (fun b => X b ∨ b = nb ∨ kv.ownBlock = some b ∨ dv.ownBlock = some b) g nv5 w6 ns5) ∨ (cv ≠ 0 ∧ VR = .er cv qv ∧ jv ≤ 5100 ∧ x ≤ 100000))
    (hx : ∀ ns5, VR = .ok x jv bv ns5 → x ≤ 1000000)
    (hgr : (w6.alloc ob).grownBy w7 dv.ownBlock) (hat : some g4 = dv.ownBlock ∨ w6.heap.size ≤ g4) (hlt : nb < g4)
    (hown : w7.ownsRow (nb + 1) 3 1 (.slice (some ⟨g4, 0, none⟩) (kids.length + 1) cap4) (kids.length + 1) (intsJ kids ++ [.int .i64 (x : Int)])) :
    After31 X w (w7.setCell ⟨nb, 3, none⟩ (.slice (some ⟨g4, 0, none⟩) (kids.length + 1) cap4)) g nb o d1 s kv nv keys kids VR := by
  have c8 : Chg nb dv.ownBlock w6 (w7.setCell ⟨nb, 3, none⟩ (.slice (some ⟨g4, 0, none⟩) (kids.length + 1) cap4)) := Chg.grown hgr
  have hd6 := own_kpr hgd.down hk (by have := hgd.gnb; omega) hgd.ne3
  have hj8 := c8.js hj (by have := hgd.gnb; omega) (fun e => by have := (hd6.lt g e).1; have := hgd.gnb; omega)
  rcases hvv with ⟨rfl, rfl, rfl, ns5, hr5, hn5⟩ | ⟨hcv, hr5, hjv5, hx5⟩
  · exact Or.inl ⟨x, jv, bv, nv5, _, ns5, hr5, hj8, (hgd.val hn5 hro hk).addKid hgr hat hlt hown ⟨by omega, by have := hx ns5 hr5; omega⟩⟩
  · refine Or.inr ⟨jv, cv, qv, d5, bv, nv5, hr5, hcv, hjv5, hj8, hgd.ro.trans hro hgd.kp.size, c8.kp (hgd.kp.trans hk hgd.ro) hgd.wnb (fun b hb => by have := (hd6.lt b hb).1; have := hgd.wnb; omega)⟩
theorem hasK_take {keys : List ByteArray} {t : List UInt8} (h : ∀ i (hi : i < keys.length), keys[i].data.toList ≠ t) : hasK keys t = false := by
  unfold hasK
  rw [List.any_eq_false]
  intro k hk
  obtain ⟨i, hi, rfl⟩ := List.getElem_of_mem hk
  simpa using h i hi
theorem hasK_at {keys : List ByteArray} {t : List UInt8} {i : Nat} (hi : i < keys.length) (h : keys[i].data.toList = t) : hasK keys t = true := by
  unfold hasK
  rw [List.any_eq_true]
  exact ⟨keys[i], List.getElem_mem hi, by simpa using h⟩
set_option maxHeartbeats 64000000 in
set_option maxRecDepth 100000 in
theorem specJGroup {g d : Nat} {s : ByteArray} {val : Nat → Nat → List JNode → JR} (hs : s.size ≤ 5000) (hd : d < 8) (hfw : FwV s.data.toList val) (HV : ValC s g (d + 1) val) : GrpC s g d (grpB s.data.toList val) := by
  intro X w o p b nv ns hX ho h hp hb hnb hn
  obtain ⟨ii, hi, hz0, hz1, hz2⟩ := info_parts info_strJ
  obtain ⟨i1, hi1, hz3, hz4, hz5⟩ := info_parts info_intJ
  obtain ⟨L, hL⟩ : ∃ L, s.data.toList = L := ⟨_, rfl⟩
  have hsl : s.size = L.length := by rw [← hL, Lib.size_eq]
  have CP := hid (fun (q cd bd d b : Nat) (nv : Value) (w : World) (h : JS w g s q cd bd d b nv) => specJPeek w h)
  have CB := hid (fun (q cd bd d b : Nat) (nv : Value) (w : World) (h : JS w g s q cd bd d b nv) => specJBlanks w h hs)
  have CW := hid (fun (c q d b : Nat) (nv : Value) (w : World) (h : JS w g s q 0 0 d b nv) (hq : q ≤ 10000) => specJWant c w h hq)
  have CS := hid (fun (q d b : Nat) (nv : Value) (w : World) (h : JS w g s q 0 0 d b nv) (hq : q < s.size) => specJStr w h hq hs)
  have CF := hid (fun (c e q d b : Nat) (nv : Value) (w : World) (h : JS w g s q 0 0 d b nv) => specJFail c e w h)
  have HVC := hid HV
  have HFW := hid hfw
  rw [hL] at CP CB CW CS HFW ⊢
  obtain ⟨d1, hd1⟩ : ∃ x, d + 1 = x := ⟨_, rfl⟩
  rw [hd1] at HVC
  obtain ⟨p1, hp1⟩ : ∃ x, p + 1 = x := ⟨_, rfl⟩
  obtain ⟨eb, heb⟩ : ∃ x, endOf o = x := ⟨_, rfl⟩
  have HEB := hid heb
  have HEB0 := hid (show eb ≠ 0 by rw [← heb]; exact endOf_ne o)
  have HEB1 := hid (show eb ≤ 255 by rw [← heb]; unfold endOf; split <;> decide)
  obtain ⟨R, hR⟩ : ∃ R, grpB L val o p b ns = R := ⟨_, rfl⟩
  have HR := hid (show R = if gB L (skB L p1) = eb then putN ⟨kindO o, ⟨#[]⟩, [], []⟩ (skB L p1 + 1) b ns else grpG L val o eb (L.length + 1) (skB L p1) b ns [] [] by rw [← hR, ← heb, ← hp1]; rfl)
  rw [hR]
  have HSL := hid hsl
  have HX := hid hX
  have hd9 : d ≤ 7 := by omega
  have hpi : p < 5000 := by omega
  have hw1' : (d : Int) + 1 = (d1 : Int) := by omega
  have hw1 : IntKind.i64.wrap (d1 : Int) = (d1 : Int) := IntWalk.i64_in _ (by omega)
  have hw2' : (p : Int) + 1 = (p1 : Int) := by omega
  have hw2 : IntKind.i64.wrap (p1 : Int) = (p1 : Int) := IntWalk.i64_in _ (by omega)
  have hd8 : ((d : Int) == 8) = false := by rw [beq_eq_false_iff_ne]; omega
  have hd8' : ¬ (d : Int) = 8 := by omega
  obtain ⟨c0, c1, c2, c3, c4, c5, c6, y1, y2, y3, y4, y5, y6, hl⟩ := h.cells
  have hng : ¬ w.heap.size = g := by omega
  have hgn : ¬ g = w.heap.size := by omega
  obtain ⟨nb, hnbe⟩ : ∃ x, w.heap.size = x := ⟨_, rfl⟩
  obtain ⟨w1, hw1e⟩ : ∃ x, ((w.setCell ⟨g, 4, none⟩ (.int .i64 (d1 : Int))).setCell ⟨g, 1, none⟩ (.int .i64 (p1 : Int))) = x := ⟨_, rfl⟩
  have HJ1 := hid (show JS w1 g s p1 0 0 d1 b nv by rw [← hw1e]; exact (h.setD d1).setP p1)
  have HK1 := hid (show Kp g none w w1 by rw [← hw1e]; exact ((Kp.refl g none w).set 4 _).set 1 _)
  have hs1 : w1.heap.size = nb := by rw [← hw1e, ← hnbe]; simp [World.setCell]
  have HN1 := hid (hn.kp HK1.out)
  have HNV := hid (show ∀ b, nv.ownBlock = some b → b < nb by obtain ⟨css, h1, _⟩ := hn; rw [← hnbe]; exact fun b hb => (h1.lt b hb).2)
  have HGN := hid (show g < nb by rw [← hnbe]; exact hl)
  have HNB := hid hnbe
  have HHN := hid hn
  -- the node that is made
  have MK := hid (show ∀ (kv : Int) (wx : World), kv = kindO o → wx = w1.alloc (.cells #[.int .i64 kv, .string ⟨#[]⟩, .slice none 0 0, .slice none 0 0] 75) → JS wx g s p1 0 0 d1 b nv ∧ GI X w wx g nb o (.slice none 0 0) (.slice none 0 0) nv nv [] [] ns by
    rintro kv wx rfl rfl
    have hal := ext_alloc w1 (.cells #[.int .i64 (kindO o), .string ⟨#[]⟩, .slice none 0 0, .slice none 0 0] 75)
    have hkx : Kp g none w (w1.alloc (.cells #[.int .i64 (kindO o), .string ⟨#[]⟩, .slice none 0 0, .slice none 0 0] 75)) := HK1.out.alloc _
    have hnx : JNs X g nv (w1.alloc (.cells #[.int .i64 (kindO o), .string ⟨#[]⟩, .slice none 0 0, .slice none 0 0] 75)) ns := HHN.out.kp hkx
    refine ⟨(hal.block g (by rw [hs1]; exact HGN.out)).trans HJ1.out, ⟨by rw [← hs1]; exact heap_alloc_new w1 _, HGN.out, by rw [HNB.out]; exact Nat.le_refl _, World.ownsRow_nil _ _ _ _, World.ownsRow_nil _ _ _ _, fun b hb => by simp [Value.ownBlock] at hb, fun b hb => by simp [Value.ownBlock] at hb, fun b hb => by simp [Value.ownBlock] at hb, fun e => by have := HNV.out nb e; omega, ?_, RowOn.refl _ _, KpweakJ hkx _, fun k hk => (by cases hk), fun k hk => (by cases hk)⟩⟩
    obtain ⟨css, h1, h2⟩ := HHN.out
    refine ⟨css, own_kp h1 hkx (by omega), h2.1, fun i a b' => ?_⟩
    have h3 : Rd.rd (Beside (fun b => X b ∨ b = nb ∨ (Value.slice none 0 0).ownBlock = some b ∨ (Value.slice none 0 0).ownBlock = some b) g nv.ownBlock w) w (css[i]) (ns[i]) := Rd.mono (S := Beside X g nv.ownBlock w) (fun b hb => ⟨hb.1, hb.2.1, hb.2.2.1, by
      rintro (hx | hx | hx | hx)
      · exact hb.2.2.2 hx
      · have h9 := hb.2.1; rw [HNB.out] at h9; omega
      · simp [Value.ownBlock] at hx
      · simp [Value.ownBlock] at hx⟩) (h2.2 i a b')
    exact (KpweakJ hkx nv.ownBlock).rd (RowOn.refl _ _) h3)
  have HP1 := hid (show p1 ≤ s.size by omega)
  have HD1 := hid hd1
  clear hL hsl hR h hfw HV hX hn hd1 hp1 heb c0 c2 c3 c5 c6
  go_enter Tryd.func68, Tryd.ntmps68
  go_upto_if 38 with fail
  go_cut [1, 6] from 11 (fun v1 v6 wx => v1 = .int .i64 (o : Int) ∧ v6 = .int .i64 (eb : Int) ∧ JS wx g s p1 0 0 d1 b nv ∧ GI X w wx g nb o (.slice none 0 0) (.slice none 0 0) nv nv [] [] ns)
  case first =>
    by_cases h123 : o = 123
    · have hee : eb = 125 := by rw [← HEB.out]; unfold endOf; rw [if_pos h123]
      have HE := hid hee
      have MK7 := hid (MK.out 7 (w1.alloc (.cells #[.int .i64 7, .string ⟨#[]⟩, .slice none 0 0, .slice none 0 0] 75)) (by unfold kindO; rw [if_pos h123]) rfl)
      have e1 : ((o : Int) == 123) = true := by rw [h123]; rfl
      have e2 : (o : Int) = 123 := by omega
      have HO3 := hid e2
      clear hee h123
      go_wp2
      go_meet
      case rel => exact ⟨by first | rfl | rw [HO3.out], by rw [HE.out] <;> rfl, MK7.out⟩
    · have hee : eb = 93 := by rw [← HEB.out]; unfold endOf; rw [if_neg h123]
      have HE := hid hee
      have MK6 := hid (MK.out 6 (w1.alloc (.cells #[.int .i64 6, .string ⟨#[]⟩, .slice none 0 0, .slice none 0 0] 75)) (by unfold kindO; rw [if_neg h123]) rfl)
      have e1 : ((o : Int) == 123) = false := by rw [beq_eq_false_iff_ne]; omega
      have e2 : ¬ (o : Int) = 123 := by omega
      clear hee h123
      go_wp2
      go_meet
      case rel => exact ⟨rfl, by rw [HE.out] <;> rfl, MK6.out⟩
  case rest =>
  obtain ⟨rfl, rfl, hj, hgi⟩ := hcut
  have HJ2 := hid hj
  have HG2 := hid hgi
  clear hj hgi MK hw1 hw1' hw2 hw2' hd8 hd8' c1 c4 y1 y2 y3 y4 y5 y6 hl hng hgn hw1e hs1 hnbe
  go_wp2_with fail
  refine (CB.out p1 0 0 d1 b nv _ HJ2.out).mono ?_
  rintro e w3 ⟨rfl, hj, hk⟩
  have hq0 := skB_in L (p := p1) (by have := HP1.out; have := HSL.out; omega)
  obtain ⟨q0, hq0e⟩ : ∃ x, skB L p1 = x := ⟨_, rfl⟩
  rw [hq0e] at hj hq0
  have HJ3 := hid hj
  have HG3 := hid (HG2.out.kp0 hk)
  have HR3 := hid (show R = if gB L q0 = eb then putN ⟨kindO o, ⟨#[]⟩, [], []⟩ (q0 + 1) b ns else grpG L val o eb (L.length + 1) q0 b ns [] [] by rw [HR.out, hq0e])
  have HQ0 := hid hq0
  clear hj hk hq0 hq0e
  go_wp2
  go_loopw [7, 8, 9, 10] (fun v7 _ _ _ wr => ∃ (k q cd bd d' b' : Nat) (nv' : Value), v7 = .int .i64 (k : Int) ∧ k ≤ 6000 ∧ q ≤ 5100 ∧ JS wr g s q cd bd d' b' nv' ∧ ((cd = 0 ∧ bd = 0 ∧ d1 = d' ∧ ∃ (f : Nat) (keys : List ByteArray) (kids : List Int) (kv dv : Value) (ns' : List JNode), q ≤ s.size ∧ s.size + 1 ≤ f + q ∧ b' ≤ 200 ∧ ns'.length + 1 ≤ b' ∧ keys.length ≤ q ∧ kids.length ≤ q ∧ k ≤ q ∧ GI X w wr g nb o kv dv nv nv' keys kids ns' ∧ Hid ((k = 0 ∧ keys = [] ∧ kids = [] ∧ R = if gB L q = eb then putN ⟨kindO o, ⟨#[]⟩, [], []⟩ (q + 1) b' ns' else grpG L val o eb f q b' ns' [] []) ∨ (0 < k ∧ R = grpG L val o eb f q b' ns' keys kids))) ∨ (cd ≠ 0 ∧ Hid (R = .er cd bd) ∧ RowOn w nv.ownBlock nv'.ownBlock ∧ Kp g nv.ownBlock w wr))) (fun _ _ _ _ wr => meaJ wr g)
  case atStart => exact ⟨0, q0, 0, 0, d1, b, nv, rfl, Nat.zero_le _, by have := HQ0.out.2; have := HSL.out; omega, HJ3.out, Or.inl ⟨rfl, rfl, rfl, L.length + 1, [], [], .slice none 0 0, .slice none 0 0, ns, by have := HQ0.out.2; have := HSL.out; omega, by have := HSL.out; omega, hb, hnb, Nat.zero_le _, Nat.zero_le _, Nat.zero_le _, HG3.out, hid (Or.inl ⟨rfl, rfl, rfl, HR3.out⟩)⟩⟩
  case round =>
    obtain ⟨k, q, cd, bd, d', b', nv', rfl, hk6, hq5, hj, hrel⟩ := hrel
    rcases hrel with ⟨rfl, rfl, rfl, f, keys, kids, kv, dv, ns', hqs, hf, hb2, hnb2, hkl, hdl, hkq, hgi, HRK⟩ | ⟨hcd, HRE, hro, hkp⟩
    rotate_left
    · have HJr := hid hj
      have HRO := hid hro
      have HKP := hid hkp
      have e1 : ((cd : Int) == 0) = false := by rw [beq_eq_false_iff_ne]; omega
      have e2 : ¬ (cd : Int) = 0 := by omega
      have e3 : ((cd : Int) != 0) = true := by rw [bne_iff_ne]; omega
      have e4 : ¬ cd = 0 := hcd
      obtain ⟨c0, c1, c2, c3, c4, c5, c6, y1, y2, y3, y4, y5, y6, hl⟩ := hj.cells
      clear hj hro hkp c0 c1 c3 c4 c5 c6 hi hz0 hz1 hz2 hi1 hz3 hz4 hz5
      go_wp2
      go_ret
      rw [HRE.out]
      exact ⟨Or.inr ⟨cd, bd, 0, q, d', b', nv', rfl, hcd, rfl, HJr.out, HRO.out, hq5, by decide⟩, HKP.out⟩
    have HJr := hid hj
    have HGr := hid hgi
    obtain ⟨c0, c1, c2, c3, c4, c5, c6, y1, y2, y3, y4, y5, y6, hl⟩ := hj.cells
    clear hj hgi c0 c1 c3 c4 c5 c6
    obtain ⟨B, hB⟩ : ∃ B : Bool, (decide (0 < k) || !decide (gB L q = eb)) = B := ⟨_, rfl⟩
    have HB := hid hB
    have CPQ := hid (CP.out q 0 0 d1 b' nv' wr HJr.out)
    obtain ⟨G, hG⟩ : ∃ G, gB L q = G := ⟨_, rfl⟩
    rw [hG] at CPQ hB
    have HGq := hid hG
    clear hG
    go_upto_region 12 with fail
    go_cut [7, 56] from 42 to 143 (fun v7 v wx => v7 = .int .i64 (k : Int) ∧ v = .bool B ∧ Qt wr wx)
    case first =>
      by_cases hk0 : 0 < k
      · have e1 : (0 : Int) < (k : Int) := by omega
        have HBT := hid (show B = true by rw [← hB, decide_eq_true hk0]; rfl)
        clear hB hk0
        go_wp2
        go_meet
        case rel => exact ⟨rfl, by rw [HBT.out], Qt.refl _⟩
      · have e1 : ¬ (0 : Int) < (k : Int) := by omega
        have e0 : k = 0 := by omega
        have HK0 := hid (show (k : Int) = 0 by omega)
        have HBT := hid (show B = !decide (G = eb) by rw [← hB, decide_eq_false hk0]; rfl)
        have HBN := hid (show ((G : Int) != (eb : Int)) = !decide (G = eb) by rw [Bool.eq_iff_iff, bne_iff_ne, Bool.not_eq_true', decide_eq_false_iff_not]; omega)
        clear hB hk0 e0
        go_wp2_with fail
        refine CPQ.out.mono ?_
        rintro e w4 ⟨rfl, hqt⟩
        have HQT := hid hqt
        clear hqt
        go_wp2
        go_meet
        case rel => exact ⟨by first | rfl | (rw [HK0.out]), by rw [HBT.out, ← HBN.out], HQT.out⟩
    case rest =>
    obtain ⟨rfl, rfl, hqt⟩ := hcut
    have HJ4 := hid (HJr.out.qt hqt)
    have HG4 := hid (HGr.out.kp0 hqt.kp)
    clear hqt c2 y1 y2 y3 y4 y5 y6 hl hB CPQ
    cases B with
    | false =>
      have hbb := HB.out
      rw [Bool.or_eq_false_iff, decide_eq_false_iff_not, Bool.not_eq_false', decide_eq_true_eq] at hbb
      obtain ⟨hk0, hge⟩ := hbb
      rcases HRK.out with ⟨_, rfl, rfl, hr⟩ | ⟨hk9, _⟩
      rotate_left
      · exact absurd hk9 hk0
      have HRF := hid (show R = putN ⟨kindO o, ⟨#[]⟩, [], []⟩ (q + 1) b' ns' by rw [hr, if_pos hge])
      have HJF := hid HJ4.out
      have HGF := hid HG4.out
      clear hk0 hge hr
      obtain ⟨a1, k1, a2, k2, rfl, rfl⟩ := HGF.out.slices
      obtain ⟨c0, c1, c2, c3, c4, c5, c6, y1, y2, y3, y4, y5, y6, hl⟩ := HJF.out.cells
      obtain ⟨q1, hq1⟩ : ∃ x, q + 1 = x := ⟨_, rfl⟩
      rw [hq1] at HRF
      have hv1' : (q : Int) + 1 = (q1 : Int) := by omega
      have hv1 : IntKind.i64.wrap (q1 : Int) = (q1 : Int) := IntWalk.i64_in _ (by omega)
      have hv2' : (d1 : Int) - 1 = (d : Int) := by have := HD1.out; omega
      have hv2 : IntKind.i64.wrap (d : Int) = (d : Int) := IntWalk.i64_in _ (by omega)
      obtain ⟨wG, hwG⟩ : ∃ x, ((wc.setCell ⟨g, 1, none⟩ (.int .i64 (q1 : Int))).setCell ⟨g, 4, none⟩ (.int .i64 (d : Int))) = x := ⟨_, rfl⟩
      have HJG := hid (show JS wG g s q1 0 0 d b' nv' by rw [← hwG]; exact (HJF.out.setP q1).setD d)
      have HGG := hid (show GI X w wG g nb o (.slice a1 [].length k1) (.slice a2 [].length k2) nv nv' [] [] ns' by rw [← hwG]; exact HGF.out.kp0 (((Kp.refl g none wc).set 1 _).set 4 _))
      clear hq1 c0 c3 c5 c6
      go_upto_region 40 with fail
      try rw [hwG]
      clear hwG c1 c2 c4 y1 y2 y3 y4 y5 y6 hl hv1 hv1' hv2 hv2'
      have hbk := HGG.out.blk
      have n0 : wG.cell? ⟨nb, 0, none⟩ = some (.int .i64 (kindO o)) := cell_of_row _ _ 0 _ _ _ hbk
      have n1 : wG.cell? ⟨nb, 1, none⟩ = some (.string ⟨#[]⟩) := cell_of_row _ _ 1 _ _ _ hbk
      have n2 : wG.cell? ⟨nb, 2, none⟩ = some (.slice a1 [].length k1) := cell_of_row _ _ 2 _ _ _ hbk
      have n3 : wG.cell? ⟨nb, 3, none⟩ = some (.slice a2 [].length k2) := cell_of_row _ _ 3 _ _ _ hbk
      have CPF := hid (specJPut (X := X) (ns := ns') (n := ⟨kindO o, ⟨#[]⟩, [], []⟩) wG HJG.out HGG.out.below (HGG.out.node HX.out) (by omega))
      clear hbk
      go_wp2_with fail
      refine CPF.out.mono ?_
      rintro e w5 ⟨nv5, rfl, hj5, hn5, hro5, hk5⟩
      have HJ5 := hid hj5
      have HN5 := hid hn5
      have HRO5 := hid (HGG.out.ro.trans hro5 HGG.out.kp.size)
      have HKP5 := hid (HGG.out.kp.trans hk5 HGG.out.ro)
      clear hj5 hn5 hro5 hk5 n0 n1 n2 n3
      go_wp2
      go_ret
      rw [HRF.out]
      exact ⟨Or.inl ⟨_, _, _, _, nv5, rfl, rfl, HJ5.out, HN5.out, HRO5.out⟩, HKP5.out⟩
    | true =>
      have hbb := HB.out
      have HRG := hid (show R = grpG L val o eb f q b' ns' keys kids by
        rcases HRK.out with ⟨hk0, rfl, rfl, hr⟩ | ⟨_, hr⟩
        · rw [hr, if_neg]
          intro hge
          rw [decide_eq_false (by omega), decide_eq_true hge] at hbb
          cases hbb
        · exact hr)
      clear hbb HRK
      obtain ⟨f2, rfl⟩ : ∃ f2, f = f2 + 1 := ⟨f - 1, by omega⟩
      have HRB := hid (show R = if o = 123 then (if gB L q ≠ 34 then .er 2 q else if (strP L q).1 = false then .er 2 (strP L q).2.1 else if hasK keys (strP L q).2.2 = true then .er 4 q else if gB L (skB L (strP L q).2.1) ≠ 58 then .er 2 (skB L (strP L q).2.1) else grpN L o eb (grpG L val o eb f2) (val (skB L (skB L (strP L q).2.1 + 1)) b' ns') (keys ++ [mkB (strP L q).2.2]) kids) else grpN L o eb (grpG L val o eb f2) (val q b' ns') keys kids by rw [HRG.out, grpG])
      obtain ⟨a1, k1, a2, k2, rfl, rfl⟩ := HG4.out.slices
      obtain ⟨w4, hw4⟩ : ∃ x, x = wc := ⟨_, rfl⟩
      subst hw4
      obtain ⟨c0, c1, c2, c3, c4, c5, c6, y1, y2, y3, y4, y5, y6, hl⟩ := HJ4.out.cells
      have n0 : w4.cell? ⟨nb, 0, none⟩ = some (.int .i64 (kindO o)) := cell_of_row _ _ 0 _ _ _ HG4.out.blk
      clear c0 c2 c3 c4 c5 c6
      go_upto_if 61 with fail
      go_cut [8, 9, 10] from 42 to 143 (fun _ _ _ wx => ∃ (q3 cd bd : Nat), q3 ≤ 5100 ∧ JS wx g s q3 cd bd d1 b' nv' ∧ ((cd = 0 ∧ bd = 0 ∧ ∃ (keys' : List ByteArray) (kv' : Value), q ≤ q3 ∧ q3 ≤ s.size ∧ keys'.length ≤ q3 ∧ GI X w wx g nb o kv' (.slice a2 kids.length k2) nv nv' keys' kids ns' ∧ Hid (R = grpN L o eb (grpG L val o eb f2) (val q3 b' ns') keys' kids)) ∨ (cd ≠ 0 ∧ Hid (R = .er cd bd) ∧ Kp g nv.ownBlock w wx)))
      case first =>
        by_cases h123 : o = 123
        rotate_left
        · have e1 : (kindO o == 7) = false := by unfold kindO; rw [if_neg h123]; rfl
          have e2 : ¬ kindO o = 7 := by unfold kindO; rw [if_neg h123]; decide
          have HRN := hid (show R = grpN L o eb (grpG L val o eb f2) (val q b' ns') keys kids by rw [HRB.out, if_neg h123])
          clear h123
          go_wp2
          go_meet
          case rel => exact ⟨q, 0, 0, hq5, HJ4.out, Or.inl ⟨rfl, rfl, keys, .slice a1 keys.length k1, Nat.le_refl _, hqs, hkl, HG4.out, HRN⟩⟩
        have e1 : (kindO o == 7) = true := by unfold kindO; rw [if_pos h123]; rfl
        have HRO := hid (show R = (if gB L q ≠ 34 then .er 2 q else if (strP L q).1 = false then .er 2 (strP L q).2.1 else if hasK keys (strP L q).2.2 = true then .er 4 q else if gB L (skB L (strP L q).2.1) ≠ 58 then .er 2 (skB L (strP L q).2.1) else grpN L o eb (grpG L val o eb f2) (val (skB L (skB L (strP L q).2.1 + 1)) b' ns') (keys ++ [mkB (strP L q).2.2]) kids) by rw [HRB.out, if_pos h123])
        have CP4 := hid (CP.out q 0 0 d1 b' nv' w4 HJ4.out)
        rw [HGq.out] at CP4
        rw [HGq.out] at HRO
        clear h123 HRB
        go_wp2_with fail
        refine CP4.out.mono ?_
        rintro e w5 ⟨rfl, hqt⟩
        have HJ5 := hid (HJ4.out.qt hqt)
        have HG5 := hid (HG4.out.kp0 hqt.kp)
        clear hqt c1 y1 y2 y3 y4 y5 y6 hl n0 CP4
        by_cases h34 : G = 34
        rotate_left
        · have e3 : ((G : Int) != 34) = true := by rw [bne_iff_ne]; omega
          have e4 : ¬ (G : Int) = 34 := by omega
          have HRE := hid (show R = .er 2 q by rw [HRO.out, if_pos h34])
          clear h34
          go_wp2_with fail
          refine (CF.out 2 q q d1 b' nv' _ HJ5.out).mono ?_
          rintro e w6 ⟨rfl, hj6, hk6'⟩
          have HJ6 := hid hj6
          have HG6 := hid (HG5.out.kp0 hk6')
          clear hj6 hk6'
          go_wp2
          go_ret
          rw [HRE.out]
          exact ⟨Or.inr ⟨2, q, 0, q, d1, b', nv', rfl, by decide, rfl, HJ6.out, HG6.out.ro, hq5, by decide⟩, HG6.out.kp⟩
        subst h34
        have hlt : q < s.size := by
          have := gB_lt (L := L) (i := q) (by rw [HGq.out]; decide)
          have := HSL.out
          omega
        have hsi := strP_in (L := L) (p := q) (by have := HSL.out; omega)
        have HRO2 := hid (show R = (if (strP L q).1 = false then .er 2 (strP L q).2.1 else if hasK keys (strP L q).2.2 = true then .er 4 q else if gB L (skB L (strP L q).2.1) ≠ 58 then .er 2 (skB L (strP L q).2.1) else grpN L o eb (grpG L val o eb f2) (val (skB L (skB L (strP L q).2.1 + 1)) b' ns') (keys ++ [mkB (strP L q).2.2]) kids) by rw [HRO.out]; rfl)
        have CSQ := hid (CS.out q d1 b' nv' w5 HJ5.out hlt)
        obtain ⟨⟨sok, sp, st⟩, hS⟩ : ∃ S, strP L q = S := ⟨_, rfl⟩
        rw [hS] at CSQ HRO2 hsi
        dsimp only at HRO2 hsi
        have HSI := hid hsi
        clear hS hsi HRO
        go_wp2_with fail
        refine CSQ.out.mono ?_
        rintro e w6 ⟨hst, hk6'⟩
        have HG6 := hid (HG5.out.kp0 hk6')
        clear hk6'
        have n2 : w6.cell? ⟨nb, 2, none⟩ = some (.slice a1 keys.length k1) := cell_of_row _ _ 2 _ _ _ HG6.out.blk
        have z2 : w6.frozen? ⟨nb, 2, none⟩ = false := frozen_of_row _ _ 2 _ _ HG6.out.blk
        rcases hst with ⟨hok, he, hj6⟩ | ⟨hok, he, q9, hq9, hj6⟩
        · try dsimp only at hok he hj6
          subst hok
          obtain rfl : e = _ := he
          have HJ6 := hid hj6
          have HRP := hid (show R = (if hasK keys st = true then .er 4 q else if gB L (skB L sp) ≠ 58 then .er 2 (skB L sp) else grpN L o eb (grpG L val o eb f2) (val (skB L (skB L sp + 1)) b' ns') (keys ++ [mkB st]) kids) by rw [HRO2.out]; rfl)
          obtain ⟨M, hM⟩ : ∃ M, mkB st = M := ⟨_, rfl⟩
          have hMd : M.data.toList = st := by rw [← hM, mkB_data]
          have hMz : M.size ≤ 1000000 := by rw [← hM, mkB_size]; have := (HSI.out.2 (by first | rfl | trivial)).2; have := HSL.out; omega
          rw [hM] at HRP ⊢
          have HMD := hid hMd
          have HMZ := hid hMz
          obtain ⟨c0, c1, c2, c3, c4, c5, c6, y1, y2, y3, y4, y5, y6, hl⟩ := hj6.cells
          clear hj6 HRO2 hM hMd hMz c0 c1 c3 c4 c5 c6
          go_wp2
          go_loopw [10] (fun v10 wx => ∃ i : Nat, i ≤ keys.length ∧ v10 = .int .i64 (i : Int) ∧ w6 = wx ∧ Hid (∀ j (hj : j < keys.length), j < i → keys[j].data.toList ≠ st)) (fun v10 _ => keys.length - (intOf v10).toNat)
          case atStart => exact ⟨0, Nat.zero_le _, rfl, rfl, hid (fun j hj h => absurd h (by omega))⟩
          case round =>
            obtain ⟨i, hi9, rfl, rfl, HNO⟩ := hrel
            by_cases hlt9 : i < keys.length
            · have hii : (i : Int) < (keys.length : Int) := by omega
              have hi0 : (0 : Int) ≤ (i : Int) := by omega
              have hget : w6.cell? ((⟨nb, 0, none⟩ : Addr)) = w6.cell? ((⟨nb, 0, none⟩ : Addr)) := rfl
              rcases HG6.out.kown.2 with ⟨_, h0⟩ | ⟨gk, capk, curk, hkv, hbk, hgk, _⟩
              · exact absurd h0 (by omega)
              obtain ⟨rfl, _⟩ : a1 = some ⟨gk, 0, none⟩ ∧ k1 = capk := by simpa using hkv
              have t0 := HG6.out.kown.cells (g := gk) rfl i (.string keys[i]) (by unfold strCellsL; rw [List.getElem?_map, List.getElem?_eq_getElem hlt9] <;> rfl)
              rw [Addr.add_lit, Nat.zero_add] at t0
              obtain ⟨K, hK⟩ : ∃ K, keys[i] = K := ⟨_, rfl⟩
              rw [hK] at t0
              have HKI := hid hK
              clear hK hkv hbk hgk hget
              by_cases hm : K.data.toList = st
              · have e5 : (K.toList == M.toList) = true := by rw [Lib.toList_data, Lib.toList_data, HMD.out, hm]; exact beq_self_eq_true _
                have e6 : K.toList = M.toList := by rw [Lib.toList_data, Lib.toList_data, HMD.out, hm]
                have HRE := hid (show R = .er 4 q by rw [HRP.out, if_pos (hasK_at hlt9 (by rw [HKI.out]; exact hm))])
                have HE6 := hid e6
                clear hm e6
                go_wp2_with fail
                refine (CF.out 4 q sp d1 b' nv' _ HJ6.out).mono ?_
                rintro e w7 ⟨rfl, hj7, hk7⟩
                have HJ7 := hid hj7
                have HG7 := hid (HG6.out.kp0 hk7)
                clear hj7 hk7
                go_wp2
                go_ret
                rw [HRE.out]
                exact ⟨Or.inr ⟨4, q, 0, sp, d1, b', nv', rfl, by decide, rfl, HJ7.out, HG7.out.ro, by have := HSI.out.1; have := HSL.out; omega, by decide⟩, HG7.out.kp⟩
              · have e5 : (K.toList == M.toList) = false := by rw [beq_eq_false_iff_ne, Lib.toList_data, Lib.toList_data, HMD.out]; exact hm
                have e6 : ¬ K.toList = M.toList := by rw [Lib.toList_data, Lib.toList_data, HMD.out]; exact hm
                have HNM := hid hm
                clear hm
                go_wp2
                go_roundw
                case rel => exact ⟨i + 1, by omega, by go_num, by first | rfl | trivial, hid (fun j hj h => by
                  rcases Nat.lt_or_ge j i with h1 | h1
                  · exact HNO.out j hj h1
                  · have hji : j = i := by omega
                    subst hji
                    rw [HKI.out]
                    exact HNM.out)⟩
                case measure => simp [intOf]; omega
            · obtain rfl : i = keys.length := by omega
              have hii : ¬ (keys.length : Int) < (keys.length : Int) := by omega
              have HRQ := hid (show R = (if gB L (skB L sp) ≠ 58 then .er 2 (skB L sp) else grpN L o eb (grpG L val o eb f2) (val (skB L (skB L sp + 1)) b' ns') (keys ++ [M]) kids) by
                rw [HRP.out, hasK_take (fun j hj => HNO.out j hj hj)]
                rfl)
              clear hlt9
              go_wp2_with ((at_builtin; refine wpList_append_lies _ rfl (.tmp 99) (.tmp 101) 73 rfl (nb + 1) 9 ii (.string ⟨#[]⟩) 1 16 Tryd.underlying73 hi hz0 hz1 hz2 rfl (by decide) _ keys.length (strCellsL keys) rfl (HG6.out.kown.alloc _) ⟨w6.heap.size, 0, none⟩ 1 1 [.string M] rfl rfl (World.news_of_block (cs := #[.string M]) (t := 9) (fr := (0, 0)) (heap_alloc_new w6 _)) (by intro u hu; simp at hu; subst hu; rfl) (by decide) (by unfold maxLen; omega) (by omega) (by have := HG6.out.nlt; simp; omega) _ rfl ?_))
              intro g2 cap2 w7 hown7 hgrow7 hat7 hlt7
              have hatt : some g2 = (Value.slice a1 keys.length k1).ownBlock ∨ w6.heap.size ≤ g2 := by
                rcases hat7 with h | h
                · exact Or.inl h.symm
                · exact Or.inr (by (try simp at h); omega)
              have hltt : nb < g2 := (hown7.lt g2 rfl).1
              have HG7 := hid (HG6.out.addKey (t := M) hgrow7 hatt hltt hown7 (HMZ.out))
              have c7 : Chg nb (Value.slice a1 keys.length k1).ownBlock w6 (w7.setCell ⟨nb, 2, none⟩ (.slice (some ⟨g2, 0, none⟩) (keys.length + 1) cap2)) := Chg.grown hgrow7
              have HJ7 := hid (c7.js HJ6.out (by have := HG6.out.gnb; omega) (fun e => by have := (HG6.out.kown.lt g e).1; have := HG6.out.gnb; omega))
              obtain ⟨w8, hw8⟩ : ∃ x, w7.setCell ⟨nb, 2, none⟩ (.slice (some ⟨g2, 0, none⟩) (keys.length + 1) cap2) = x := ⟨_, rfl⟩
              rw [hw8] at HG7 HJ7
              have hb7 : w7.heap[nb]? = some (.cells #[.int .i64 (kindO o), .string ⟨#[]⟩, .slice a1 keys.length k1, .slice a2 kids.length k2] 75 (0, 0)) := ((hgrow7.block nb (by have := HG6.out.nlt; simp; omega) (fun e => by have := (HG6.out.kown.lt nb e.symm).1; omega)).trans ((ext_alloc w6 _).block nb HG6.out.nlt)).trans HG6.out.blk
              have y7 : w7.frozen? ⟨nb, 2, none⟩ = false := frozen_of_row _ _ 2 _ _ hb7
              have n7 : w7.cell? ⟨nb, 2, none⟩ = some (.slice a1 keys.length k1) := cell_of_row _ _ 2 _ _ _ hb7
              clear hown7 hgrow7 hat7 hlt7 hatt hltt c7 hb7
              go_upto_region 25 with fail
              try rw [hw8]
              clear hw8 y7 n7
              have hsp := (HSI.out.2 (by first | rfl | trivial)).1
              have hsl9 : sp ≤ L.length := HSI.out.1
              have hs2 := skB_in L hsl9
              obtain ⟨q2, hq2⟩ : ∃ x, skB L sp = x := ⟨_, rfl⟩
              rw [hq2] at HRQ hs2
              have hs3 : q2 ≤ s.size := by have := HSL.out; omega
              go_wp2_with fail
              refine (CB.out sp 0 0 d1 b' nv' _ HJ7.out).mono ?_
              rintro e w9 ⟨rfl, hj9, hk9⟩
              rw [hq2] at hj9
              have HJ9 := hid hj9
              have HG9 := hid (HG7.out.kp0 hk9)
              clear hq2 c2 y1 y2 y3 y4 y5 y6 hl hk9 hj9 n2 z2
              obtain ⟨c0, c1, c2, c3, c4, c5, c6, y1, y2, y3, y4, y5, y6, hl⟩ := HJ9.out.cells
              clear c0 c1 c3 c4 c5 c6
              go_wp2_with fail
              refine (CW.out 58 q2 d1 b' nv' _ HJ9.out (by omega)).mono ?_
              rintro e wa ⟨rfl, hja, hka⟩
              have HGA := hid (HG9.out.kp0 hka)
              by_cases h58 : gB L q2 = 58
              · rw [if_pos h58, if_pos h58, if_pos h58] at hja
                have HJA := hid hja
                have hl2 := gB_lt (L := L) (i := q2) (by omega)
                have hs5 := skB_in L (p := q2 + 1) (by omega)
                have HRN := hid (show R = grpN L o eb (grpG L val o eb f2) (val (skB L (q2 + 1)) b' ns') (keys ++ [M]) kids by rw [HRQ.out, if_neg (by rw [h58]; simp)])
                clear hja hka h58 c2
                go_wp2_with fail
                refine (CB.out (q2 + 1) 0 0 d1 b' nv' _ HJA.out).mono ?_
                rintro e wb ⟨rfl, hjb, hkb⟩
                have HJB := hid hjb
                have HGB := hid (HGA.out.kp0 hkb)
                clear hjb hkb
                go_wp2
                go_meet
                case rel => exact ⟨skB L (q2 + 1), 0, 0, by have := HSL.out; omega, HJB.out, Or.inl ⟨rfl, rfl, keys ++ [M], _, by omega, by have := HSL.out; omega, by rw [List.length_append, List.length_cons, List.length_nil]; omega, HGB.out, HRN⟩⟩
              · rw [if_neg h58, if_neg h58, if_neg h58] at hja
                have HJA := hid (show JS wa g s q2 2 q2 d1 b' nv' from hja)
                have HRE := hid (show R = .er 2 q2 by rw [HRQ.out, if_pos h58])
                have hs5 := skB_in L (p := q2) (by omega)
                clear hja hka h58 c2
                go_wp2_with fail
                refine (CB.out q2 2 q2 d1 b' nv' _ HJA.out).mono ?_
                rintro e wb ⟨rfl, hjb, hkb⟩
                have HJB := hid hjb
                have HGB := hid (HGA.out.kp0 hkb)
                clear hjb hkb
                go_wp2
                go_meet
                case rel => exact ⟨skB L q2, 2, q2, by have := HSL.out; omega, HJB.out, Or.inr ⟨by decide, HRE, HGB.out.kp⟩⟩
        · try dsimp only at hok hj6
          subst hok
          obtain rfl : e = _ := he
          have HRE := hid (show R = .er 2 sp by rw [HRO2.out]; rfl)
          obtain ⟨bd2, hbd2⟩ : ∃ x, sp = x := ⟨_, rfl⟩
          rw [hbd2] at HRE
          have HJ6 := hid (show JS w6 g s q9 2 bd2 d1 b' nv' by rw [← hbd2]; exact hj6)
          obtain ⟨c0, c1, c2, c3, c4, c5, c6, y1, y2, y3, y4, y5, y6, hl⟩ := hj6.cells
          clear hj6 hbd2 HRO2 c0 c1 c3 c4 c5 c6
          go_wp2
          go_loopw [10] (fun v10 wx => v10 = .int .i64 0 ∧ w6 = wx) (fun _ _ => 0)
          case atStart => exact ⟨rfl, rfl⟩
          case round =>
            obtain ⟨rfl, rfl⟩ := hrel
            by_cases hlt9 : 0 < keys.length
            · have hii : (0 : Int) < (keys.length : Int) := by omega
              have hii2 : ¬ keys.length = 0 := by omega
              have hii3 : ¬ keys = [] := by intro h; rw [h] at hlt9; simp at hlt9
              go_wp2_with ((at_builtin; refine wpList_append_lies _ rfl (.tmp 99) (.tmp 101) 73 rfl (nb + 1) 9 ii (.string ⟨#[]⟩) 1 16 Tryd.underlying73 hi hz0 hz1 hz2 rfl (by decide) _ keys.length (strCellsL keys) rfl (HG6.out.kown.alloc _) ⟨w6.heap.size, 0, none⟩ 1 1 [.string ⟨#[]⟩] rfl rfl (World.news_of_block (cs := #[.string ⟨#[]⟩]) (t := 9) (fr := (0, 0)) (heap_alloc_new w6 _)) (by intro u hu; simp at hu; subst hu; rfl) (by decide) (by unfold maxLen; omega) (by omega) (by have := HG6.out.nlt; simp; omega) _ rfl ?_))
              intro g2 cap2 w7 hown7 hgrow7 hat7 hlt7
              have hatt : some g2 = (Value.slice a1 keys.length k1).ownBlock ∨ w6.heap.size ≤ g2 := by
                rcases hat7 with h | h
                · exact Or.inl h.symm
                · exact Or.inr (by (try simp at h); omega)
              have hltt : nb < g2 := (hown7.lt g2 rfl).1
              have HG7 := hid (HG6.out.addKey (t := ⟨#[]⟩) hgrow7 hatt hltt hown7 (by decide))
              have c7 : Chg nb (Value.slice a1 keys.length k1).ownBlock w6 (w7.setCell ⟨nb, 2, none⟩ (.slice (some ⟨g2, 0, none⟩) (keys.length + 1) cap2)) := Chg.grown hgrow7
              have HJ7 := hid (c7.js HJ6.out (by have := HG6.out.gnb; omega) (fun e => by have := (HG6.out.kown.lt g e).1; have := HG6.out.gnb; omega))
              obtain ⟨w8, hw8⟩ : ∃ x, w7.setCell ⟨nb, 2, none⟩ (.slice (some ⟨g2, 0, none⟩) (keys.length + 1) cap2) = x := ⟨_, rfl⟩
              rw [hw8] at HG7 HJ7
              have hb7 : w7.heap[nb]? = some (.cells #[.int .i64 (kindO o), .string ⟨#[]⟩, .slice a1 keys.length k1, .slice a2 kids.length k2] 75 (0, 0)) := ((hgrow7.block nb (by have := HG6.out.nlt; simp; omega) (fun e => by have := (HG6.out.kown.lt nb e.symm).1; omega)).trans ((ext_alloc w6 _).block nb HG6.out.nlt)).trans HG6.out.blk
              have y7 : w7.frozen? ⟨nb, 2, none⟩ = false := frozen_of_row _ _ 2 _ _ hb7
              have n7 : w7.cell? ⟨nb, 2, none⟩ = some (.slice a1 keys.length k1) := cell_of_row _ _ 2 _ _ _ hb7
              clear hown7 hgrow7 hat7 hlt7 hatt hltt c7 hb7
              go_upto_region 25 with fail
              try rw [hw8]
              clear hw8 y7 n7
              go_wp2_with fail
              refine (CB.out q9 2 bd2 d1 b' nv' _ HJ7.out).mono ?_
              rintro e w9 ⟨rfl, hj9, hk9⟩
              have HJ9 := hid hj9
              have HK9 := hid (HG7.out.kp0 hk9).kp
              have hq9b : skB L q9 ≤ 5100 := by
                rcases Nat.lt_or_ge L.length q9 with h | h
                · have : skB L q9 = q9 := runE_far (by omega)
                  omega
                · have := (skB_in L h).2; have := HSL.out; omega
              obtain ⟨qa, hqa⟩ : ∃ x, skB L q9 = x := ⟨_, rfl⟩
              rw [hqa] at HJ9 hq9b
              obtain ⟨c0, c1, c2, c3, c4, c5, c6, y1, y2, y3, y4, y5, y6, hl⟩ := HJ9.out.cells
              clear hj9 hk9 hqa c0 c1 c3 c4 c5 c6
              go_wp2_with fail
              refine (CB.out qa 2 bd2 d1 b' nv' _ HJ9.out).mono ?_
              rintro e wa ⟨rfl, hja, hka⟩
              have HJA := hid hja
              have HKA := hid (HK9.out.trans (KpweakJ hka nv.ownBlock) (RowOn.refl _ _))
              have hqab : skB L qa ≤ 5100 := by
                rcases Nat.lt_or_ge L.length qa with h | h
                · have : skB L qa = qa := runE_far (by omega)
                  omega
                · have := (skB_in L h).2; have := HSL.out; omega
              clear hja hka c2
              go_wp2
              go_meet
              case rel => exact ⟨skB L qa, 2, bd2, hqab, HJA.out, Or.inr ⟨by decide, HRE, HKA.out⟩⟩
            · have hii : ¬ (0 : Int) < (keys.length : Int) := by omega
              have hl0 : keys.length = 0 := by omega
              have HL0 := hid hl0
              clear hlt9 hl0
              go_wp2_with ((at_builtin; refine wpList_append_lies _ rfl (.tmp 99) (.tmp 101) 73 rfl (nb + 1) 9 ii (.string ⟨#[]⟩) 1 16 Tryd.underlying73 hi hz0 hz1 hz2 rfl (by decide) _ keys.length (strCellsL keys) rfl (HG6.out.kown.alloc _) ⟨w6.heap.size, 0, none⟩ 1 1 [.string ⟨#[]⟩] rfl rfl (World.news_of_block (cs := #[.string ⟨#[]⟩]) (t := 9) (fr := (0, 0)) (heap_alloc_new w6 _)) (by intro u hu; simp at hu; subst hu; rfl) (by decide) (by unfold maxLen; omega) (by omega) (by have := HG6.out.nlt; simp; omega) _ rfl ?_))
              intro g2 cap2 w7 hown7 hgrow7 hat7 hlt7
              have hatt : some g2 = (Value.slice a1 keys.length k1).ownBlock ∨ w6.heap.size ≤ g2 := by
                rcases hat7 with h | h
                · exact Or.inl h.symm
                · exact Or.inr (by (try simp at h); omega)
              have hltt : nb < g2 := (hown7.lt g2 rfl).1
              have HG7 := hid (HG6.out.addKey (t := ⟨#[]⟩) hgrow7 hatt hltt hown7 (by decide))
              have c7 : Chg nb (Value.slice a1 keys.length k1).ownBlock w6 (w7.setCell ⟨nb, 2, none⟩ (.slice (some ⟨g2, 0, none⟩) (keys.length + 1) cap2)) := Chg.grown hgrow7
              have HJ7 := hid (c7.js HJ6.out (by have := HG6.out.gnb; omega) (fun e => by have := (HG6.out.kown.lt g e).1; have := HG6.out.gnb; omega))
              obtain ⟨w8, hw8⟩ : ∃ x, w7.setCell ⟨nb, 2, none⟩ (.slice (some ⟨g2, 0, none⟩) (keys.length + 1) cap2) = x := ⟨_, rfl⟩
              rw [hw8] at HG7 HJ7
              have hb7 : w7.heap[nb]? = some (.cells #[.int .i64 (kindO o), .string ⟨#[]⟩, .slice a1 keys.length k1, .slice a2 kids.length k2] 75 (0, 0)) := ((hgrow7.block nb (by have := HG6.out.nlt; simp; omega) (fun e => by have := (HG6.out.kown.lt nb e.symm).1; omega)).trans ((ext_alloc w6 _).block nb HG6.out.nlt)).trans HG6.out.blk
              have y7 : w7.frozen? ⟨nb, 2, none⟩ = false := frozen_of_row _ _ 2 _ _ hb7
              have n7 : w7.cell? ⟨nb, 2, none⟩ = some (.slice a1 keys.length k1) := cell_of_row _ _ 2 _ _ _ hb7
              clear hown7 hgrow7 hat7 hlt7 hatt hltt c7 hb7
              go_upto_region 25 with fail
              try rw [hw8]
              clear hw8 y7 n7
              go_wp2_with fail
              refine (CB.out q9 2 bd2 d1 b' nv' _ HJ7.out).mono ?_
              rintro e w9 ⟨rfl, hj9, hk9⟩
              have HJ9 := hid hj9
              have HK9 := hid (HG7.out.kp0 hk9).kp
              have hq9b : skB L q9 ≤ 5100 := by
                rcases Nat.lt_or_ge L.length q9 with h | h
                · have : skB L q9 = q9 := runE_far (by omega)
                  omega
                · have := (skB_in L h).2; have := HSL.out; omega
              obtain ⟨qa, hqa⟩ : ∃ x, skB L q9 = x := ⟨_, rfl⟩
              rw [hqa] at HJ9 hq9b
              obtain ⟨c0, c1, c2, c3, c4, c5, c6, y1, y2, y3, y4, y5, y6, hl⟩ := HJ9.out.cells
              clear hj9 hk9 hqa c0 c1 c3 c4 c5 c6
              go_wp2_with fail
              refine (CB.out qa 2 bd2 d1 b' nv' _ HJ9.out).mono ?_
              rintro e wa ⟨rfl, hja, hka⟩
              have HJA := hid hja
              have HKA := hid (HK9.out.trans (KpweakJ hka nv.ownBlock) (RowOn.refl _ _))
              have hqab : skB L qa ≤ 5100 := by
                rcases Nat.lt_or_ge L.length qa with h | h
                · have : skB L qa = qa := runE_far (by omega)
                  omega
                · have := (skB_in L h).2; have := HSL.out; omega
              clear hja hka c2
              go_wp2
              go_meet
              case rel => exact ⟨skB L qa, 2, bd2, hqab, HJA.out, Or.inr ⟨by decide, HRE, HKA.out⟩⟩
      case rest =>
      obtain ⟨q3, cd, bd, hq3, hj, hrel⟩ := hcut
      have HJc := hid hj
      have HRO4 := hid HG4.out.ro
      rcases hrel with ⟨rfl, rfl, keys', kv', hqq, hq3s, hkl', hgi, HRN⟩ | ⟨hcd, HRE, hkp⟩
      rotate_left
      · have HKP := hid hkp
        have e1 : ((cd : Int) != 0) = true := by rw [bne_iff_ne]; omega
        have e2 : ¬ (cd : Int) = 0 := by omega
        have e4 : ¬ cd = 0 := hcd
        clear n0 c1 y1 y2 y3 y4 y5 y6 hl
        obtain ⟨c0, c1, c2, c3, c4, c5, c6, y1, y2, y3, y4, y5, y6, hl⟩ := hj.cells
        clear hj hkp c0 c1 c3 c4 c5 c6 hi hz0 hz1 hz2 hi1 hz3 hz4 hz5
        go_wp2
        go_ret
        rw [HRE.out]
        exact ⟨Or.inr ⟨cd, bd, 0, q3, d1, b', nv', rfl, hcd, rfl, HJc.out, HRO4.out, hq3, by decide⟩, HKP.out⟩
      have HGc := hid hgi
      obtain ⟨a3, k3, rfl⟩ := own_slice HGc.out.kown
      obtain ⟨w5, hw5⟩ : ∃ x, x = wc := ⟨_, rfl⟩
      subst hw5
      have HGd := hid (HGc.out.kp0 ((Kp.refl g none w5).drew))
      have n3 : w5.cell? ⟨nb, 3, none⟩ = some (.slice a2 kids.length k2) := cell_of_row _ _ 3 _ _ _ HGc.out.blk
      have CV5 := hid (HVC.out (fun b => X b ∨ b = nb ∨ (Value.slice a3 keys'.length k3).ownBlock = some b ∨ (Value.slice a2 kids.length k2).ownBlock = some b) w5.drew q3 b' nv' ns' (HGd.out.inX HX.out) HJc.out hq3s hb2 (by omega) HGd.out.nodes)
      have HOKV := hid (HFW.out q3 b' ns' (by have := HSL.out; omega) hb2)
      obtain ⟨VR, hVR⟩ : ∃ r, val q3 b' ns' = r := ⟨_, rfl⟩
      rw [hVR] at HRN CV5 HOKV
      clear n0 c1 y1 y2 y3 y4 y5 y6 hl
      obtain ⟨c0, c1, c2, c3, c4, c5, c6, y1, y2, y3, y4, y5, y6, hl⟩ := hj.cells
      clear hj hgi hVR c0 c1 c3 c4 c5 c6 HRB HRG
      go_upto_region 31 with fail
      clear c2 y1 y2 y3 y4 y5 y6 hl
      go_cut [] from 42 to 143 (fun wx => After31 X w wx g nb o d1 s (.slice a3 keys'.length k3) nv keys' kids VR)
      case first =>
        refine wp_region_held_drew (S := fun w' => True) (by kernel_rfl) ?_ (fun hHeld => ?_)
        · trivial
        refine wpAnyH_take (i := 0) (v := ?_) rfl (by kernel_rfl) (by kernel_rfl) (by kernel_rfl) (fun _ _ _ h => h) (Or.inl ⟨by rfl, ?_⟩) (by assumption) ?_
        rotate_left
        · (intro w' hSw; (try dsimp only at hSw); go_simp; try (with_reducible rfl))
        change wpAnyH _ _ _ _ _ _ _ (Act.put _ (some 120) _) _
        try simp only [Act.put, List.setIfInBounds_toArray, List.set_cons_zero, List.set_cons_succ]
        refine wpAnyH_take (i := 2) (v := ?_) rfl (by kernel_rfl) (by kernel_rfl) (by kernel_rfl) (fun _ _ _ h => h) (Or.inl ⟨by rfl, ?_⟩) (by assumption) ?_
        rotate_left
        · (intro w' hSw; (try dsimp only at hSw); go_simp; try (with_reducible rfl))
        change wpAnyH _ _ _ _ _ _ _ (Act.put _ (some 122) _) _
        try simp only [Act.put, List.setIfInBounds_toArray, List.set_cons_zero, List.set_cons_succ]
        refine wpAnyH_ready (rs := [1, 3]) (by kernel_rfl) (by simp) ?_
        refine AllReadyH.cons (i := 1) rfl (fun K hK => ?_) ?_
        · simp only [List.getElem_toArray, List.getElem_cons_succ, List.getElem_cons_zero]
          rw [if_pos (by rfl)]
          go_simp
          refine hK.out _ _ ?_ (fun hHeld => ?_)
          · first | trivial | ((try dsimp only); trivial)
          clear hK K
          try simp only [Act.put, List.setIfInBounds_toArray, List.set_cons_zero, List.set_cons_succ]
          refine wpAnyH_ready (rs := [3]) (by kernel_rfl) (by simp) ?_
          refine AllReadyH.cons (i := 3) rfl (fun K hK => ?_) AllReadyH.nil
          simp only [List.getElem_toArray, List.getElem_cons_succ, List.getElem_cons_zero]
          rw [if_pos (by rfl)]
          go_simp
          (go_at_call 29; refine CV5.out.mono ?_; rintro e w6 ⟨hv, hk6v⟩; obtain ⟨x, jv, cv, qv, dv5, bv, nv5, rfl, hjv, hrov, hvv⟩ := hv.both; have HJV := hid hjv; have HROV := hid hrov; have HVV := hid hvv; have HKV := hid hk6v; have HOD := hid (own_kpr HGd.out.down hk6v (by have := HGd.out.gnb; omega) HGd.out.ne3); have hnlt6 : nb < w6.heap.size := Nat.lt_of_lt_of_le HGd.out.nlt hk6v.size; have HB6 := hid ((hk6v.block nb HGd.out.nlt (by have := HGd.out.gnb; omega) HGd.out.ne4).trans HGd.out.blk); have n36 : w6.cell? ⟨nb, 3, none⟩ = some (.slice a2 kids.length k2) := cell_of_row _ _ 3 _ _ _ HB6.out; clear hv hjv hrov hvv hk6v; go_wp2_with fail)
          refine hK.out _ _ ?_ (fun hHeld => ?_)
          · first | trivial | ((try dsimp only); trivial)
          clear hK K
          try simp only [Act.put, List.setIfInBounds_toArray, List.set_cons_zero, List.set_cons_succ]
          refine wpAnyH_ready (rs := [4]) (by kernel_rfl) (by simp) ?_
          refine AllReadyH.cons (i := 4) rfl (fun K hK => ?_) AllReadyH.nil
          simp only [List.getElem_toArray, List.getElem_cons_succ, List.getElem_cons_zero]
          rw [if_pos (by rfl)]
          go_simp
          refine hK.out _ _ ?_ (fun hHeld => ?_)
          · first | trivial | ((try dsimp only); trivial)
          clear hK K
          try simp only [Act.put, List.setIfInBounds_toArray, List.set_cons_zero, List.set_cons_succ]
          refine wpAnyH_ready (rs := [5]) (by kernel_rfl) (by simp) ?_
          refine AllReadyH.cons (i := 5) rfl (fun K hK => ?_) AllReadyH.nil
          simp only [List.getElem_toArray, List.getElem_cons_succ, List.getElem_cons_zero]
          rw [if_pos (by rfl)]
          refine wp_append_lies _ (.tmp 121) (.tmp 124) 61 rfl (nb + 1) 3 i1 (.int .i64 0) 1 8 Tryd.underlying61 hi1 hz3 hz4 hz5 rfl (by decide) (.slice a2 kids.length k2) kids.length (intsJ kids) (by first | rfl | simp [Act.eval, Act.put]) (HOD.out.alloc _) ⟨w6.heap.size, 0, none⟩ 1 1 [.int .i64 (x : Int)] (by first | rfl | simp [Act.eval, Act.put]) rfl (World.news_of_block (cs := #[.int .i64 (x : Int)]) (t := 3) (fr := (0, 0)) (heap_alloc_new w6 _)) (by intro u hu; simp at hu; subst hu; rfl) (by decide) (by unfold maxLen; omega) (by omega) (by simp; omega) _ rfl ?_
          intro g4 cap4 w7 hown7 hgrow7 hat7 hlt7
          have HAT := hid (show some g4 = (Value.slice a2 kids.length k2).ownBlock ∨ w6.heap.size ≤ g4 from hat7.elim (fun h => Or.inl h.symm) (fun h => Or.inr (by (try simp at h); omega)))
          have HLT := hid (show nb < g4 from (hown7.lt g4 rfl).1)
          have hb7 := ((hgrow7.block nb (by simp; omega) (fun e => by have := (HOD.out.lt nb e.symm).1; omega)).trans ((ext_alloc w6 _).block nb hnlt6)).trans HB6.out
          have n37 : w7.cell? ⟨nb, 3, none⟩ = some (.slice a2 kids.length k2) := cell_of_row _ _ 3 _ _ _ hb7
          have y7 : w7.frozen? ⟨nb, 3, none⟩ = false := frozen_of_row _ _ 3 _ _ hb7
          have HGR7 := hid hgrow7
          have HOW7 := hid hown7
          clear hown7 hgrow7 hat7 hlt7 hb7
          refine hK.out _ _ ?_ (fun hHeld => ?_)
          · first | trivial | ((try dsimp only); trivial)
          clear hK K
          try simp only [Act.put, List.setIfInBounds_toArray, List.set_cons_zero, List.set_cons_succ]
          refine wpAnyH_take (i := 6) (v := ?_) rfl (by kernel_rfl) (by kernel_rfl) (by kernel_rfl) (fun _ _ _ h => h) (Or.inl ⟨by rfl, ?_⟩) (by assumption) ?_
          rotate_left
          · (intro w' hSw; (try dsimp only at hSw); go_simp; try (with_reducible rfl))
          change wpAnyH _ _ _ _ _ _ _ (Act.put _ (some 126) _) _
          try simp only [Act.put, List.setIfInBounds_toArray, List.set_cons_zero, List.set_cons_succ]
          refine wpAnyH_ready (rs := [7]) (by kernel_rfl) (by simp) ?_
          refine AllReadyH.cons (i := 7) rfl (fun K hK => ?_) AllReadyH.nil
          simp only [List.getElem_toArray, List.getElem_cons_succ, List.getElem_cons_zero]
          rw [if_pos (by rfl)]
          go_simp
          refine hK.out _ _ ?_ (fun hHeld => ?_)
          · first | trivial | ((try dsimp only); trivial)
          clear hK K
          try simp only [Act.put, List.setIfInBounds_toArray, List.set_cons_zero, List.set_cons_succ]
          refine wpAnyH_done (by kernel_rfl) ?_ _
          go_wp2
          go_meet
          case rel => exact after31 HGd.out HJV.out HROV.out HKV.out HVV.out (fun ns5 h => by obtain ⟨o1, o2, o3, o4, o5, o6, o7⟩ := HOKV.out _ _ _ _ h; omega) HGR7.out HAT.out HLT.out HOW7.out
        refine AllReadyH.cons (i := 3) rfl (fun K hK => ?_) ?_
        · simp only [List.getElem_toArray, List.getElem_cons_succ, List.getElem_cons_zero]
          rw [if_pos (by rfl)]
          go_simp
          (go_at_call 29; refine CV5.out.mono ?_; rintro e w6 ⟨hv, hk6v⟩; obtain ⟨x, jv, cv, qv, dv5, bv, nv5, rfl, hjv, hrov, hvv⟩ := hv.both; have HJV := hid hjv; have HROV := hid hrov; have HVV := hid hvv; have HKV := hid hk6v; have HOD := hid (own_kpr HGd.out.down hk6v (by have := HGd.out.gnb; omega) HGd.out.ne3); have hnlt6 : nb < w6.heap.size := Nat.lt_of_lt_of_le HGd.out.nlt hk6v.size; have HB6 := hid ((hk6v.block nb HGd.out.nlt (by have := HGd.out.gnb; omega) HGd.out.ne4).trans HGd.out.blk); have n36 : w6.cell? ⟨nb, 3, none⟩ = some (.slice a2 kids.length k2) := cell_of_row _ _ 3 _ _ _ HB6.out; clear hv hjv hrov hvv hk6v; go_wp2_with fail)
          refine hK.out _ _ ?_ (fun hHeld => ?_)
          · first | trivial | ((try dsimp only); trivial)
          clear hK K
          try simp only [Act.put, List.setIfInBounds_toArray, List.set_cons_zero, List.set_cons_succ]
          refine wpAnyH_ready (rs := [1, 4]) (by kernel_rfl) (by simp) ?_
          refine AllReadyH.cons (i := 1) rfl (fun K hK => ?_) ?_
          · simp only [List.getElem_toArray, List.getElem_cons_succ, List.getElem_cons_zero]
            rw [if_pos (by rfl)]
            go_simp
            refine hK.out _ _ ?_ (fun hHeld => ?_)
            · first | trivial | ((try dsimp only); trivial)
            clear hK K
            try simp only [Act.put, List.setIfInBounds_toArray, List.set_cons_zero, List.set_cons_succ]
            refine wpAnyH_ready (rs := [4]) (by kernel_rfl) (by simp) ?_
            refine AllReadyH.cons (i := 4) rfl (fun K hK => ?_) AllReadyH.nil
            simp only [List.getElem_toArray, List.getElem_cons_succ, List.getElem_cons_zero]
            rw [if_pos (by rfl)]
            go_simp
            refine hK.out _ _ ?_ (fun hHeld => ?_)
            · first | trivial | ((try dsimp only); trivial)
            clear hK K
            try simp only [Act.put, List.setIfInBounds_toArray, List.set_cons_zero, List.set_cons_succ]
            refine wpAnyH_ready (rs := [5]) (by kernel_rfl) (by simp) ?_
            refine AllReadyH.cons (i := 5) rfl (fun K hK => ?_) AllReadyH.nil
            simp only [List.getElem_toArray, List.getElem_cons_succ, List.getElem_cons_zero]
            rw [if_pos (by rfl)]
            refine wp_append_lies _ (.tmp 121) (.tmp 124) 61 rfl (nb + 1) 3 i1 (.int .i64 0) 1 8 Tryd.underlying61 hi1 hz3 hz4 hz5 rfl (by decide) (.slice a2 kids.length k2) kids.length (intsJ kids) (by first | rfl | simp [Act.eval, Act.put]) (HOD.out.alloc _) ⟨w6.heap.size, 0, none⟩ 1 1 [.int .i64 (x : Int)] (by first | rfl | simp [Act.eval, Act.put]) rfl (World.news_of_block (cs := #[.int .i64 (x : Int)]) (t := 3) (fr := (0, 0)) (heap_alloc_new w6 _)) (by intro u hu; simp at hu; subst hu; rfl) (by decide) (by unfold maxLen; omega) (by omega) (by simp; omega) _ rfl ?_
            intro g4 cap4 w7 hown7 hgrow7 hat7 hlt7
            have HAT := hid (show some g4 = (Value.slice a2 kids.length k2).ownBlock ∨ w6.heap.size ≤ g4 from hat7.elim (fun h => Or.inl h.symm) (fun h => Or.inr (by (try simp at h); omega)))
            have HLT := hid (show nb < g4 from (hown7.lt g4 rfl).1)
            have hb7 := ((hgrow7.block nb (by simp; omega) (fun e => by have := (HOD.out.lt nb e.symm).1; omega)).trans ((ext_alloc w6 _).block nb hnlt6)).trans HB6.out
            have n37 : w7.cell? ⟨nb, 3, none⟩ = some (.slice a2 kids.length k2) := cell_of_row _ _ 3 _ _ _ hb7
            have y7 : w7.frozen? ⟨nb, 3, none⟩ = false := frozen_of_row _ _ 3 _ _ hb7
            have HGR7 := hid hgrow7
            have HOW7 := hid hown7
            clear hown7 hgrow7 hat7 hlt7 hb7
            refine hK.out _ _ ?_ (fun hHeld => ?_)
            · first | trivial | ((try dsimp only); trivial)
            clear hK K
            try simp only [Act.put, List.setIfInBounds_toArray, List.set_cons_zero, List.set_cons_succ]
            refine wpAnyH_take (i := 6) (v := ?_) rfl (by kernel_rfl) (by kernel_rfl) (by kernel_rfl) (fun _ _ _ h => h) (Or.inl ⟨by rfl, ?_⟩) (by assumption) ?_
            rotate_left
            · (intro w' hSw; (try dsimp only at hSw); go_simp; try (with_reducible rfl))
            change wpAnyH _ _ _ _ _ _ _ (Act.put _ (some 126) _) _
            try simp only [Act.put, List.setIfInBounds_toArray, List.set_cons_zero, List.set_cons_succ]
            refine wpAnyH_ready (rs := [7]) (by kernel_rfl) (by simp) ?_
            refine AllReadyH.cons (i := 7) rfl (fun K hK => ?_) AllReadyH.nil
            simp only [List.getElem_toArray, List.getElem_cons_succ, List.getElem_cons_zero]
            rw [if_pos (by rfl)]
            go_simp
            refine hK.out _ _ ?_ (fun hHeld => ?_)
            · first | trivial | ((try dsimp only); trivial)
            clear hK K
            try simp only [Act.put, List.setIfInBounds_toArray, List.set_cons_zero, List.set_cons_succ]
            refine wpAnyH_done (by kernel_rfl) ?_ _
            go_wp2
            go_meet
            case rel => exact after31 HGd.out HJV.out HROV.out HKV.out HVV.out (fun ns5 h => by obtain ⟨o1, o2, o3, o4, o5, o6, o7⟩ := HOKV.out _ _ _ _ h; omega) HGR7.out HAT.out HLT.out HOW7.out
          refine AllReadyH.cons (i := 4) rfl (fun K hK => ?_) ?_
          · simp only [List.getElem_toArray, List.getElem_cons_succ, List.getElem_cons_zero]
            rw [if_pos (by rfl)]
            go_simp
            refine hK.out _ _ ?_ (fun hHeld => ?_)
            · first | trivial | ((try dsimp only); trivial)
            clear hK K
            try simp only [Act.put, List.setIfInBounds_toArray, List.set_cons_zero, List.set_cons_succ]
            refine wpAnyH_ready (rs := [1]) (by kernel_rfl) (by simp) ?_
            refine AllReadyH.cons (i := 1) rfl (fun K hK => ?_) AllReadyH.nil
            simp only [List.getElem_toArray, List.getElem_cons_succ, List.getElem_cons_zero]
            rw [if_pos (by rfl)]
            go_simp
            refine hK.out _ _ ?_ (fun hHeld => ?_)
            · first | trivial | ((try dsimp only); trivial)
            clear hK K
            try simp only [Act.put, List.setIfInBounds_toArray, List.set_cons_zero, List.set_cons_succ]
            refine wpAnyH_ready (rs := [5]) (by kernel_rfl) (by simp) ?_
            refine AllReadyH.cons (i := 5) rfl (fun K hK => ?_) AllReadyH.nil
            simp only [List.getElem_toArray, List.getElem_cons_succ, List.getElem_cons_zero]
            rw [if_pos (by rfl)]
            refine wp_append_lies _ (.tmp 121) (.tmp 124) 61 rfl (nb + 1) 3 i1 (.int .i64 0) 1 8 Tryd.underlying61 hi1 hz3 hz4 hz5 rfl (by decide) (.slice a2 kids.length k2) kids.length (intsJ kids) (by first | rfl | simp [Act.eval, Act.put]) (HOD.out.alloc _) ⟨w6.heap.size, 0, none⟩ 1 1 [.int .i64 (x : Int)] (by first | rfl | simp [Act.eval, Act.put]) rfl (World.news_of_block (cs := #[.int .i64 (x : Int)]) (t := 3) (fr := (0, 0)) (heap_alloc_new w6 _)) (by intro u hu; simp at hu; subst hu; rfl) (by decide) (by unfold maxLen; omega) (by omega) (by simp; omega) _ rfl ?_
            intro g4 cap4 w7 hown7 hgrow7 hat7 hlt7
            have HAT := hid (show some g4 = (Value.slice a2 kids.length k2).ownBlock ∨ w6.heap.size ≤ g4 from hat7.elim (fun h => Or.inl h.symm) (fun h => Or.inr (by (try simp at h); omega)))
            have HLT := hid (show nb < g4 from (hown7.lt g4 rfl).1)
            have hb7 := ((hgrow7.block nb (by simp; omega) (fun e => by have := (HOD.out.lt nb e.symm).1; omega)).trans ((ext_alloc w6 _).block nb hnlt6)).trans HB6.out
            have n37 : w7.cell? ⟨nb, 3, none⟩ = some (.slice a2 kids.length k2) := cell_of_row _ _ 3 _ _ _ hb7
            have y7 : w7.frozen? ⟨nb, 3, none⟩ = false := frozen_of_row _ _ 3 _ _ hb7
            have HGR7 := hid hgrow7
            have HOW7 := hid hown7
            clear hown7 hgrow7 hat7 hlt7 hb7
            refine hK.out _ _ ?_ (fun hHeld => ?_)
            · first | trivial | ((try dsimp only); trivial)
            clear hK K
            try simp only [Act.put, List.setIfInBounds_toArray, List.set_cons_zero, List.set_cons_succ]
            refine wpAnyH_take (i := 6) (v := ?_) rfl (by kernel_rfl) (by kernel_rfl) (by kernel_rfl) (fun _ _ _ h => h) (Or.inl ⟨by rfl, ?_⟩) (by assumption) ?_
            rotate_left
            · (intro w' hSw; (try dsimp only at hSw); go_simp; try (with_reducible rfl))
            change wpAnyH _ _ _ _ _ _ _ (Act.put _ (some 126) _) _
            try simp only [Act.put, List.setIfInBounds_toArray, List.set_cons_zero, List.set_cons_succ]
            refine wpAnyH_ready (rs := [7]) (by kernel_rfl) (by simp) ?_
            refine AllReadyH.cons (i := 7) rfl (fun K hK => ?_) AllReadyH.nil
            simp only [List.getElem_toArray, List.getElem_cons_succ, List.getElem_cons_zero]
            rw [if_pos (by rfl)]
            go_simp
            refine hK.out _ _ ?_ (fun hHeld => ?_)
            · first | trivial | ((try dsimp only); trivial)
            clear hK K
            try simp only [Act.put, List.setIfInBounds_toArray, List.set_cons_zero, List.set_cons_succ]
            refine wpAnyH_done (by kernel_rfl) ?_ _
            go_wp2
            go_meet
            case rel => exact after31 HGd.out HJV.out HROV.out HKV.out HVV.out (fun ns5 h => by obtain ⟨o1, o2, o3, o4, o5, o6, o7⟩ := HOKV.out _ _ _ _ h; omega) HGR7.out HAT.out HLT.out HOW7.out
          exact AllReadyH.nil
        exact AllReadyH.nil
      case rest =>
      clear n3
      obtain ⟨w8, hw8⟩ : ∃ x, x = wc := ⟨_, rfl⟩
      subst hw8
      rcases hcut with ⟨x, jv, bv, nv5, dvF0, ns5, hr5, hj8, hg8⟩ | ⟨jv, cv, qv, dv5, bv, nv5, hr5, hcv, hjv5, hj8, hro8, hkp8⟩
      rotate_left
      · have HJ8 := hid hj8
        have HRO8 := hid hro8
        have HKP8 := hid hkp8
        have HRE := hid (show R = .er cv qv by rw [HRN.out, hr5]; rfl)
        have e1 : ((cv : Int) != 0) = true := by rw [bne_iff_ne]; omega
        have e2 : ¬ (cv : Int) = 0 := by omega
        have e4 : ¬ cv = 0 := hcv
        clear hr5 hj8 hro8 hkp8 hi hz0 hz1 hz2 hi1 hz3 hz4 hz5
        go_wp2_with fail
        refine (CB.out jv cv qv dv5 bv nv5 _ HJ8.out).mono ?_
        rintro e w9 ⟨rfl, hj9, hk9⟩
        have HJ9 := hid hj9
        have HKP9 := hid (HKP8.out.trans (KpweakJ hk9 nv.ownBlock) (RowOn.refl _ _))
        have hqb : skB L jv ≤ 5100 := by
          rcases Nat.lt_or_ge L.length jv with h | h
          · have : skB L jv = jv := runE_far (by omega)
            omega
          · have := (skB_in L h).2; have := HSL.out; omega
        obtain ⟨qa, hqa⟩ : ∃ x, skB L jv = x := ⟨_, rfl⟩
        rw [hqa] at HJ9 hqb
        obtain ⟨c0, c1, c2, c3, c4, c5, c6, y1, y2, y3, y4, y5, y6, hl⟩ := HJ9.out.cells
        clear hj9 hk9 hqa c0 c1 c3 c4 c5 c6
        go_wp2
        go_ret
        rw [HRE.out]
        exact ⟨Or.inr ⟨cv, qv, 0, qa, dv5, bv, nv5, rfl, hcv, rfl, HJ9.out, HRO8.out, hqb, by decide⟩, HKP9.out⟩
      have HJ8 := hid hj8
      have HG8 := hid hg8
      clear hj8 hg8
      obtain ⟨o1, o2, o3, o4, o5, o6, o7⟩ := HOKV.out _ _ _ _ hr5
      have HRM := hid (show R = (if gB L (skB L jv) = eb then putN ⟨kindO o, ⟨#[]⟩, keys', kids ++ [(x : Int)]⟩ (skB L jv + 1) bv ns5 else if gB L (skB L jv) = 44 then grpG L val o eb f2 (skB L (skB L jv + 1)) bv ns5 keys' (kids ++ [(x : Int)]) else .er 2 (skB L jv)) by rw [HRN.out, hr5]; rfl)
      have hs4 := skB_in L o2
      obtain ⟨q4, hq4⟩ : ∃ x, skB L jv = x := ⟨_, rfl⟩
      rw [hq4] at HRM hs4
      have hq4s : q4 ≤ s.size := by have := HSL.out; omega
      have hns5 : ns5.length + 1 ≤ bv := by omega
      clear hr5
      go_wp2_with fail
      refine (CB.out jv 0 0 d1 bv nv5 _ HJ8.out).mono ?_
      rintro e w9 ⟨rfl, hj9, hk9⟩
      rw [hq4] at hj9
      have HJ9 := hid hj9
      have HG9 := hid (HG8.out.kp0 hk9)
      have CP9 := hid (CP.out q4 0 0 d1 bv nv5 w9 hj9)
      obtain ⟨G4, hG4⟩ : ∃ G, gB L q4 = G := ⟨_, rfl⟩
      rw [hG4] at CP9 HRM
      have HG4v := hid hG4
      obtain ⟨c0, c1, c2, c3, c4, c5, c6, y1, y2, y3, y4, y5, y6, hl⟩ := HJ9.out.cells
      clear hj9 hk9 hq4 hG4 c0 c1 c3 c4 c5 c6
      go_wp2_with fail
      refine CP9.out.mono ?_
      rintro e wa ⟨rfl, hqt⟩
      have HJA := hid (HJ9.out.qt hqt)
      have HGA := hid (HG9.out.kp0 hqt.kp)
      clear hqt c2 y1 y2 y3 y4 y5 y6 hl
      by_cases hge : G4 = eb
      · have e1 : ((G4 : Int) == (eb : Int)) = true := by rw [hge]; exact beq_self_eq_true _
        have HRF0 := hid (show R = putN ⟨kindO o, ⟨#[]⟩, keys', kids ++ [(x : Int)]⟩ (q4 + 1) bv ns5 by rw [HRM.out, if_pos hge])
        obtain ⟨kvF, dvF, hGF⟩ : ∃ kvF dvF, GI X w wa g nb o kvF dvF nv nv5 keys' (kids ++ [(x : Int)]) ns5 := ⟨_, _, HGA.out⟩
        have HGF := hid hGF
        have HJF := hid HJA.out
        have HRF := HRF0
        have e2 : ¬ ((G4 : Int) != (eb : Int)) = true := by rw [hge]; simp
        clear hge hGF hi hz0 hz1 hz2 hi1 hz3 hz4 hz5
        obtain ⟨q, hqe⟩ : ∃ x, x = q4 := ⟨_, rfl⟩
        subst hqe
        obtain ⟨KD, hKD⟩ : ∃ z, kids ++ [(x : Int)] = z := ⟨_, rfl⟩
        rw [hKD] at HGF HRF
        clear hKD HRF0
        obtain ⟨a1, k1, a2, k2, rfl, rfl⟩ := HGF.out.slices
        obtain ⟨c0, c1, c2, c3, c4, c5, c6, y1, y2, y3, y4, y5, y6, hl⟩ := HJF.out.cells
        obtain ⟨q1, hq1⟩ : ∃ x, q + 1 = x := ⟨_, rfl⟩
        rw [hq1] at HRF
        have hv1' : (q : Int) + 1 = (q1 : Int) := by omega
        have hv1 : IntKind.i64.wrap (q1 : Int) = (q1 : Int) := IntWalk.i64_in _ (by omega)
        have hv2' : (d1 : Int) - 1 = (d : Int) := by have := HD1.out; omega
        have hv2 : IntKind.i64.wrap (d : Int) = (d : Int) := IntWalk.i64_in _ (by omega)
        obtain ⟨wG, hwG⟩ : ∃ x, ((wa.setCell ⟨g, 1, none⟩ (.int .i64 (q1 : Int))).setCell ⟨g, 4, none⟩ (.int .i64 (d : Int))) = x := ⟨_, rfl⟩
        have HJG := hid (show JS wG g s q1 0 0 d bv nv5 by rw [← hwG]; exact (HJF.out.setP q1).setD d)
        have HGG := hid (show GI X w wG g nb o (.slice a1 keys'.length k1) (.slice a2 KD.length k2) nv nv5 keys' KD ns5 by rw [← hwG]; exact HGF.out.kp0 (((Kp.refl g none wa).set 1 _).set 4 _))
        clear hq1 c0 c3 c5 c6
        go_upto_region 40 with fail
        try rw [hwG]
        clear hwG c1 c2 c4 y1 y2 y3 y4 y5 y6 hl hv1 hv1' hv2 hv2'
        have hbk := HGG.out.blk
        have n0 : wG.cell? ⟨nb, 0, none⟩ = some (.int .i64 (kindO o)) := cell_of_row _ _ 0 _ _ _ hbk
        have n1 : wG.cell? ⟨nb, 1, none⟩ = some (.string ⟨#[]⟩) := cell_of_row _ _ 1 _ _ _ hbk
        have n2 : wG.cell? ⟨nb, 2, none⟩ = some (.slice a1 keys'.length k1) := cell_of_row _ _ 2 _ _ _ hbk
        have n3 : wG.cell? ⟨nb, 3, none⟩ = some (.slice a2 KD.length k2) := cell_of_row _ _ 3 _ _ _ hbk
        have CPF := hid (specJPut (X := X) (ns := ns5) (n := ⟨kindO o, ⟨#[]⟩, keys', KD⟩) wG HJG.out HGG.out.below (HGG.out.node HX.out) (by omega))
        clear hbk
        go_wp2_with fail
        refine CPF.out.mono ?_
        rintro e w5 ⟨nv5, rfl, hj5, hn5, hro5, hk5⟩
        have HJ5 := hid hj5
        have HN5 := hid hn5
        have HRO5 := hid (HGG.out.ro.trans hro5 HGG.out.kp.size)
        have HKP5 := hid (HGG.out.kp.trans hk5 HGG.out.ro)
        clear hj5 hn5 hro5 hk5 n0 n1 n2 n3
        go_wp2
        go_ret
        rw [HRF.out]
        exact ⟨Or.inl ⟨_, _, _, _, nv5, rfl, rfl, HJ5.out, HN5.out, HRO5.out⟩, HKP5.out⟩
      have e1 : ((G4 : Int) == (eb : Int)) = false := by rw [beq_eq_false_iff_ne]; omega
      have e2 : ¬ (G4 : Int) = (eb : Int) := by omega
      have HRL := hid (show R = (if G4 = 44 then grpG L val o eb f2 (skB L (q4 + 1)) bv ns5 keys' (kids ++ [(x : Int)]) else .er 2 q4) by rw [HRM.out, if_neg hge])
      obtain ⟨c0, c1, c2, c3, c4, c5, c6, y1, y2, y3, y4, y5, y6, hl⟩ := HJA.out.cells
      clear hge c0 c1 c3 c4 c5 c6 hi hz0 hz1 hz2 hi1 hz3 hz4 hz5
      go_wp2_with fail
      refine (CW.out 44 q4 d1 bv nv5 _ HJA.out (by omega)).mono ?_
      rintro e wb ⟨rfl, hjb, hkb⟩
      rw [HG4v.out] at hjb
      have HGB := hid (HGA.out.kp0 hkb)
      by_cases h44 : G4 = 44
      · rw [if_pos h44, if_pos h44, if_pos h44] at hjb
        have HJB := hid hjb
        have hl4 := gB_lt (L := L) (i := q4) (by rw [HG4v.out, h44]; decide)
        have hs5 := skB_in L (p := q4 + 1) (by omega)
        have HRX := hid (show R = grpG L val o eb f2 (skB L (q4 + 1)) bv ns5 keys' (kids ++ [(x : Int)]) by rw [HRL.out, if_pos h44])
        clear hjb hkb h44 c2
        go_wp2_with fail
        refine (CB.out (q4 + 1) 0 0 d1 bv nv5 _ HJB.out).mono ?_
        rintro e wd ⟨rfl, hjd, hkd⟩
        obtain ⟨q5, hq5e⟩ : ∃ x, skB L (q4 + 1) = x := ⟨_, rfl⟩
        rw [hq5e] at hjd HRX hs5
        have HJD := hid hjd
        have HGD' := hid (HGB.out.kp0 hkd)
        clear hjd hkd hq5e
        go_wp2
        go_roundw
        case rel => exact ⟨k + 1, q5, 0, 0, d1, bv, nv5, by go_num, by have := HSL.out; omega, by have := HSL.out; omega, HJD.out, Or.inl ⟨rfl, rfl, rfl, f2, keys', kids ++ [(x : Int)], _, _, ns5, by have := HSL.out; omega, by have := HSL.out; omega, o5, hns5, by omega, by rw [List.length_append, List.length_cons, List.length_nil]; omega, by omega, HGD'.out, hid (Or.inr ⟨by omega, HRX.out⟩)⟩⟩
        case measure =>
          have m1 := HJD.out.mea
          have m2 := HJr.out.mea
          rw [m1, m2]
          omega
      · rw [if_neg h44, if_neg h44, if_neg h44] at hjb
        have HJB := hid (show JS wb g s q4 2 q4 d1 bv nv5 from hjb)
        have HRX := hid (show R = .er 2 q4 by rw [HRL.out, if_neg h44])
        have hs5 := skB_in L (p := q4) (by have := HSL.out; omega)
        clear hjb hkb h44 c2
        go_wp2_with fail
        refine (CB.out q4 2 q4 d1 bv nv5 _ HJB.out).mono ?_
        rintro e wd ⟨rfl, hjd, hkd⟩
        have HJD := hid hjd
        have HGD' := hid (HGB.out.kp0 hkd)
        clear hjd hkd
        go_wp2
        go_roundw
        case rel => exact ⟨k + 1, skB L q4, 2, q4, d1, bv, nv5, by go_num, by have := HSL.out; omega, by have := HSL.out; omega, HJD.out, Or.inr ⟨by decide, HRX, HGD'.out.ro, HGD'.out.kp⟩⟩
        case measure =>
          have m1 := HJD.out.mea2 (by decide)
          have m2 := HJr.out.mea
          rw [m1, m2]
          omega
end Go.Proofs.YtlfkfofeenakhaaDoor
