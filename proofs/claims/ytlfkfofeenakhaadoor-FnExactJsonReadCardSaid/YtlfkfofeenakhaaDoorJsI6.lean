/-
  What is proved here: impl's JSON reader: a key is looked up among keys; a list, its values by contract. No condition but that the reader lies in memory, and sizes.
-/
import Derived.Test.YtlfkfofeenakhaaDoorJsI6a
namespace Go.Proofs.YtlfkfofeenakhaaDoor
open Go.RowKit
set_option linter.unusedVariables false
set_option linter.unusedSimpArgs false

theorem info_strI : (Tryd.prog.info? 9).map (fun i => (i.zero, i.size, i.bytes)) = some (some (.string ⟨#[]⟩), 1, 16) := by kernel_rfl
theorem info_intK : (Tryd.prog.info? 3).map (fun i => (i.zero, i.size, i.bytes)) = some (some (.int .i64 0), 1, 8) := by kernel_rfl
theorem GO.start {X : Nat → Prop} {w : World} {g q b o : Nat} {s : ByteArray} {nv : Value} {ns : List JNode} (hj : JI w g s q b nv) (hn : JNo X g nv w ns) (hX : ∀ b, X b → b < w.heap.size) :
    GO X w (w.alloc (.cells #[.int .i64 (kindO o), .string ⟨#[]⟩, .slice none 0 0, .slice none 0 0] 75)) g w.heap.size o (.slice none 0 0) (.slice none 0 0) nv nv [] [] ns := by
  have hg : g < w.heap.size := hj.cells.2.2.2.2.2.2.2
  have hkx : Kp g none w (w.alloc (.cells #[.int .i64 (kindO o), .string ⟨#[]⟩, .slice none 0 0, .slice none 0 0] 75)) := (Kp.refl g none w).alloc _
  have no : JNo (fun b => X b ∨ b = w.heap.size ∨ (Value.slice none 0 0).ownBlock = some b ∨ (Value.slice none 0 0).ownBlock = some b) g nv (w.alloc (.cells #[.int .i64 (kindO o), .string ⟨#[]⟩, .slice none 0 0, .slice none 0 0] 75)) ns := by
    obtain ⟨os, css, hm, hd, ho, he⟩ := hn
    refine ⟨os, css, hm, hd, hkx.row ho (fun b _ => by simp), he.1, fun i a b' => ?_⟩
    have h3 : Rd.rd (Beside (fun b => X b ∨ b = w.heap.size ∨ (Value.slice none 0 0).ownBlock = some b ∨ (Value.slice none 0 0).ownBlock = some b) g nv.ownBlock w) w (css[i]) (os[i]) := Rd.mono (S := Beside X g nv.ownBlock w) (fun b hb => ⟨hb.1, hb.2.1, hb.2.2.1, by
      rintro (hx | hx | hx | hx)
      · exact hb.2.2.2 hx
      · have h9 := hb.2.1; omega
      · simp [Value.ownBlock] at hx
      · simp [Value.ownBlock] at hx⟩) (he.2 i a b')
    exact (KpweakO hkx nv.ownBlock).rd (RowOn.refl _ _) h3
  have hlt : ∀ b, nv.ownBlock = some b → b < w.heap.size := by
    obtain ⟨os, css, hm, hd, ho, he⟩ := hn
    exact fun b hb => (ho.lt b hb).2
  exact ⟨⟨heap_alloc_new w _, hg, Nat.le_refl _, World.ownsRow_nil _ _ _ _, World.ownsRow_nil _ _ _ _, fun b hb => by simp [Value.ownBlock] at hb, fun b hb => by simp [Value.ownBlock] at hb, fun b hb => by simp [Value.ownBlock] at hb, fun e => by have := hlt _ e; omega, no.js, RowOn.refl _ _, KpweakO hkx _, (fun k hk => by cases hk), (fun k hk => by cases hk)⟩, no⟩
set_option maxHeartbeats 64000000 in
set_option maxRecDepth 100000 in
theorem implJList {g d : Nat} {s : ByteArray} {val : Nat → Nat → List JNode → JR} (hs : s.size ≤ 5000) (hfw : FwV s.data.toList val) (HV : ValIC s g d val) : LstC s g d val := by
  intro X w q b nv ns hX h hq hb hnb hn
  obtain ⟨ii, hi, hz0, hz1, hz2⟩ := info_parts info_strI
  obtain ⟨i1, hi1, hz3, hz4, hz5⟩ := info_parts info_intK
  obtain ⟨L, hL⟩ : ∃ L, s.data.toList = L := ⟨_, rfl⟩
  have hsl : s.size = L.length := by rw [← hL, Lib.size_eq]
  have CT := hid (fun (c q b : Nat) (nv : Value) (w : World) (h : JI w g s q b nv) (hq : q ≤ s.size) (hc : c ≠ 0) => implJTake c w h hq hs hc)
  have CS := hid (fun (q b : Nat) (nv : Value) (w : World) (h : JI w g s q b nv) (hq : q ≤ s.size) => implJSkip w h hq hs)
  have CP := hid (fun (q b : Nat) (nv : Value) (w : World) (h : JI w g s q b nv) (hq : q ≤ s.size) => implJNext w h hq)
  have CX := hid (fun (q b : Nat) (nv : Value) (w : World) (h : JI w g s q b nv) (hq : q < s.size) => implJText w h hq hs)
  have HVC := hid HV
  have HFW := hid hfw
  rw [hL] at CT CS CP CX HFW ⊢
  obtain ⟨R, hR⟩ : ∃ R, lstR L val 91 q b ns = R := ⟨_, rfl⟩
  have HR := hid (show R = if gB L q = 93 then putN ⟨kindO 91, ⟨#[]⟩, [], []⟩ (q + 1) b ns else grpG L val 91 93 (L.length + 1) q b ns [] [] from hR.symm)
  rw [hR]
  have HSL := hid hsl
  have HX := hid hX
  have HGO := hid (GO.start (o := 91) h hn hX)
  have hg : g < w.heap.size := h.cells.2.2.2.2.2.2.2
  have HG := hid hg
  have hj1 : JI (w.alloc (.cells #[.int .i64 (kindO 91), .string ⟨#[]⟩, .slice none 0 0, .slice none 0 0] 75)) g s q b nv := ((ext_alloc w _).block g hg).trans h
  obtain ⟨nb, hnbe⟩ : ∃ x, w.heap.size = x := ⟨_, rfl⟩
  rw [hnbe] at HGO
  obtain ⟨w1, hw1⟩ : ∃ x, w.alloc (.cells #[.int .i64 (kindO 91), .string ⟨#[]⟩, .slice none 0 0, .slice none 0 0] 75) = x := ⟨_, rfl⟩
  rw [hw1] at HGO hj1
  have hw1' : w.alloc (.cells #[.int .i64 6, .string ⟨#[]⟩, .slice none 0 0, .slice none 0 0] 75) = w1 := hw1
  have HJ1 := hid hj1
  have HNB := hid hnb
  have HB := hid hb
  have CTQ := hid (CT.out 93 q b nv w1 hj1 hq (by decide))
  have HQ := hid hq
  have HNBE := hid hnbe
  have HW1 := hid hw1'
  clear hL hsl hR h hfw HV hX hn hj1 hnb hb hg hw1 hw1' hnbe
  go_enter Tryd.func73, Tryd.ntmps73
  go_upto_region 2 with fail
  try rw [HW1.out]
  try rw [HNBE.out]
  by_cases hge : gB L q = 93
  · as_aux_lemma =>
    rw [decide_eq_true hge, if_pos hge] at CTQ
    have HRF := hid (show R = putN ⟨kindO 91, ⟨#[]⟩, [], []⟩ (q + 1) b ns by rw [HR.out, if_pos hge])
    clear hge
    go_wp2_with fail
    refine CTQ.out.mono ?_
    rintro e w3 ⟨rfl, hj, hk⟩
    have HJ3 := hid hj
    have HG3 := hid (HGO.out.kp0 hk)
    clear hj hk
    have n0 : w3.cell? ⟨nb, 0, none⟩ = some (.int .i64 (kindO 91)) := cell_of_row _ _ 0 _ _ _ HG3.out.gi.blk
    have n1 : w3.cell? ⟨nb, 1, none⟩ = some (.string ⟨#[]⟩) := cell_of_row _ _ 1 _ _ _ HG3.out.gi.blk
    have n2 : w3.cell? ⟨nb, 2, none⟩ = some (.slice none 0 0) := cell_of_row _ _ 2 _ _ _ HG3.out.gi.blk
    have n3 : w3.cell? ⟨nb, 3, none⟩ = some (.slice none 0 0) := cell_of_row _ _ 3 _ _ _ HG3.out.gi.blk
    have CA := hid (implAddGO HG3.out HJ3.out HX.out (by have := HNB.out; have := HB.out; omega))
    go_wp2_with fail
    refine CA.out.mono ?_
    rintro e w5 ⟨nv5, rfl, hj5, hn5, hro5, hk5⟩
    have HJ5 := hid hj5
    have HN5 := hid hn5
    have HRO5 := hid (HG3.out.gi.ro.trans hro5 HG3.out.gi.kp.size)
    have HKP5 := hid (HG3.out.gi.kp.trans hk5 HG3.out.gi.ro)
    clear hj5 hn5 hro5 hk5 n0 n1 n2 n3
    go_wp2
    go_ret2
    rw [HRF.out]
    exact ⟨Or.inl ⟨_, _, _, _, nv5, rfl, rfl, HJ5.out, HN5.out, HRO5.out⟩, HKP5.out⟩
  as_aux_lemma =>
  rw [decide_eq_false hge, if_neg hge] at CTQ
  have HRG := hid (show R = grpG L val 91 93 (L.length + 1) q b ns [] [] by rw [HR.out, if_neg hge])
  clear hge
  go_wp2_with fail
  refine CTQ.out.mono ?_
  rintro e w3 ⟨rfl, hj, hk⟩
  have HJ3 := hid hj
  have HG3 := hid (HGO.out.kp0 hk)
  clear hj hk
  go_wp2
  go_loopw [7, 8] (fun _ _ wr => ∃ (q f b' : Nat) (keys : List ByteArray) (kids : List Int) (kv dv nv' : Value) (ns' : List JNode), q ≤ s.size ∧ s.size + 1 ≤ f + q ∧ b' ≤ 200 ∧ ns'.length + 1 ≤ b' ∧ keys.length ≤ q ∧ kids.length ≤ q ∧ JI wr g s q b' nv' ∧ GO X w wr g nb 91 kv dv nv nv' keys kids ns' ∧ Hid (R = grpG L val 91 93 f q b' ns' keys kids)) (fun _ _ wr => s.size + 1 - atI wr g)
  case atStart => exact ⟨q, L.length + 1, b, [], [], .slice none 0 0, .slice none 0 0, nv, ns, HQ.out, by have := HSL.out; omega, HB.out, HNB.out, Nat.zero_le _, Nat.zero_le _, HJ3.out, HG3.out, HRG⟩
  case round =>
    obtain ⟨q, f, b', keys, kids, kv, dv, nv', ns', hqs, hf, hb2, hnb2, hkl, hdl, hj, hgo, HRK⟩ := hrel
    obtain ⟨f2, rfl⟩ : ∃ f2, f = f2 + 1 := ⟨f - 1, by omega⟩
    have HJr := hid hj
    have HGr := hid hgo
    have HAT := hid hj.atI
    have CV := hid (HVC.out (fun b => X b ∨ b = nb ∨ kv.ownBlock = some b ∨ dv.ownBlock = some b) wr q b' nv' ns' (hgo.gi.inX HX.out) hj hqs hb2 (by omega) hgo.no)
    have HOV := hid (HFW.out q b' ns' (by have := HSL.out; omega) hb2)
    have HRB := hid (show R = grpN L 91 93 (grpG L val 91 93 f2) (val q b' ns') keys kids by rw [HRK.out, grpG, if_neg (by decide)])
    clear hj hgo
    go_wp2_with fail
    refine CV.out.mono ?_
    rintro e w5 ⟨hv, hk⟩
    rcases hv with ⟨kid, j, b5, ns5, nv5, hr, rfl, hj5, hn5, hro5⟩ | ⟨c, p5, b5, nv5, hr, hc, rfl, hj5, hro5⟩
    rotate_left
    · have HRE := hid (show R = .er c p5 by rw [HRB.out, hr]; rfl)
      have e1 : ((c : Int) != 0) = true := by rw [bne_iff_ne]; omega
      have e2 : ¬ (c : Int) = 0 := by omega
      have HJ5 := hid hj5
      have HRO := hid (HGr.out.gi.ro.trans hro5 HGr.out.gi.kp.size)
      have HKP := hid (HGr.out.gi.kp.trans hk HGr.out.gi.ro)
      have HC := hid hc
      clear hj5 hro5 hk hr hc
      go_wp2
      go_ret2
      rw [HRE.out]
      exact ⟨Or.inr ⟨c, p5, b5, nv5, rfl, HC.out, rfl, HJ5.out, HRO.out⟩, HKP.out⟩
    have HOK := hid (HOV.out kid j b5 ns5 hr)
    have HRN := hid (show R = if gB L (skB L j) = 93 then putN ⟨if (91 : Nat) = 123 then 7 else 6, ⟨#[]⟩, keys, kids ++ [(kid : Int)]⟩ (skB L j + 1) b5 ns5 else if gB L (skB L j) = 44 then grpG L val 91 93 f2 (skB L (skB L j + 1)) b5 ns5 keys (kids ++ [(kid : Int)]) else .er 2 (skB L j) by rw [HRB.out, hr]; rfl)
    have HJL := hid (HOK.out.2.1)
    have HJ5 := hid hj5
    have HG5 := hid (HGr.out.val hn5 hro5 hk)
    have hkid : (kid : Nat) ≤ 1000000 := by have := HOK.out; omega
    have HOKK := HOK.out
    clear hj5 hn5 hro5 hk hr HOV
    obtain ⟨a1, k1, a2, k2, rfl, rfl⟩ := HG5.out.gi.slices
    have n3 : w5.cell? ⟨nb, 3, none⟩ = some (.slice a2 kids.length k2) := cell_of_row _ _ 3 _ _ _ HG5.out.gi.blk
    have z3 : w5.frozen? ⟨nb, 3, none⟩ = false := frozen_of_row _ _ 3 _ _ HG5.out.gi.blk
    go_wp2_with ((at_builtin; refine wpList_append_lies _ rfl (.tmp 27) (.tmp 29) 61 rfl (nb + 1) 3 i1 (.int .i64 0) 1 8 Tryd.underlying61 hi1 hz3 hz4 hz5 rfl (by decide) _ kids.length (intsJ kids) rfl (HG5.out.gi.down.alloc _) ⟨w5.heap.size, 0, none⟩ 1 1 [.int .i64 (kid : Int)] rfl rfl (World.news_of_block (cs := #[.int .i64 (kid : Int)]) (t := 3) (fr := (0, 0)) (heap_alloc_new w5 _)) (by intro u hu; simp at hu; subst hu; rfl) (by decide) (by unfold maxLen; omega) (by omega) (by have := HG5.out.gi.nlt; simp; omega) _ rfl ?_))
    intro g2 cap2 w7 hown7 hgrow7 hat7 hlt7
    have hatt : some g2 = (Value.slice a2 kids.length k2).ownBlock ∨ w5.heap.size ≤ g2 := by
      rcases hat7 with h | h
      · exact Or.inl h.symm
      · exact Or.inr (by (try simp at h); omega)
    have hltt : nb < g2 := (hown7.lt g2 rfl).1
    have HG7 := hid (HG5.out.addKid (t := (kid : Int)) hgrow7 hatt hltt hown7 ⟨by omega, by omega⟩)
    have c7 : Chg nb (Value.slice a2 kids.length k2).ownBlock w5 (w7.setCell ⟨nb, 3, none⟩ (.slice (some ⟨g2, 0, none⟩) (kids.length + 1) cap2)) := Chg.grown hgrow7
    have HJ7 := hid (c7.ji HJ5.out (by have := HG5.out.gi.gnb; omega) (fun e => by have := (HG5.out.gi.down.lt g e).1; have := HG5.out.gi.gnb; omega))
    obtain ⟨w8, hw8⟩ : ∃ x, w7.setCell ⟨nb, 3, none⟩ (.slice (some ⟨g2, 0, none⟩) (kids.length + 1) cap2) = x := ⟨_, rfl⟩
    rw [hw8] at HG7 HJ7
    have hb7 : w7.heap[nb]? = some (.cells #[.int .i64 (kindO 91), .string ⟨#[]⟩, .slice a1 keys.length k1, .slice a2 kids.length k2] 75 (0, 0)) := ((hgrow7.block nb (by have := HG5.out.gi.nlt; simp; omega) (fun e => by have := (HG5.out.gi.down.lt nb e.symm).1; omega)).trans ((ext_alloc w5 _).block nb HG5.out.gi.nlt)).trans HG5.out.gi.blk
    have y7 : w7.frozen? ⟨nb, 3, none⟩ = false := frozen_of_row _ _ 3 _ _ hb7
    have n7 : w7.cell? ⟨nb, 3, none⟩ = some (.slice a2 kids.length k2) := cell_of_row _ _ 3 _ _ _ hb7
    have HJ8 := hid HJ7.out
    have HG8 := hid HG7.out
    clear hown7 hgrow7 hat7 hlt7 hatt hltt c7 hb7 n3 z3 HJ7 HG7 HOKK
    go_upto_region 8 with fail
    try rw [hw8]
    clear hw8 y7 n7
    obtain ⟨j2, hj2⟩ : ∃ x, skB L j = x := ⟨_, rfl⟩
    have hs2 := skB_in L (p := j) HJL.out
    rw [hj2] at HRN hs2
    have hj2s : j2 ≤ s.size := by have := HSL.out; omega
    have CSQ := hid (CS.out j b5 nv5 w8 HJ8.out (by have := HJL.out; have := HSL.out; omega))
    rw [hj2] at CSQ
    clear hj2
    go_wp2_with fail
    refine CSQ.out.mono ?_
    rintro e w9 ⟨rfl, hj9, hk9⟩
    have HJ9 := hid hj9
    have HG9 := hid (HG8.out.kp0 hk9)
    clear hj9 hk9
    have CTA := hid (CT.out 93 j2 b5 nv5 w9 HJ9.out hj2s (by decide))
    by_cases hge : gB L j2 = 93
    · rw [decide_eq_true hge, if_pos hge] at CTA
      have HRF := hid (show R = putN ⟨kindO 91, ⟨#[]⟩, keys, kids ++ [(kid : Int)]⟩ (j2 + 1) b5 ns5 by rw [HRN.out, if_pos hge]; rfl)
      clear hge
      go_wp2_with fail
      refine CTA.out.mono ?_
      rintro e wa ⟨rfl, hja, hka⟩
      have HJA := hid hja
      have HGA := hid (HG9.out.kp0 hka)
      clear hja hka
      have n0 : wa.cell? ⟨nb, 0, none⟩ = some (.int .i64 (kindO 91)) := cell_of_row _ _ 0 _ _ _ HGA.out.gi.blk
      have n1 : wa.cell? ⟨nb, 1, none⟩ = some (.string ⟨#[]⟩) := cell_of_row _ _ 1 _ _ _ HGA.out.gi.blk
      have n2 : wa.cell? ⟨nb, 2, none⟩ = some (.slice a1 keys.length k1) := cell_of_row _ _ 2 _ _ _ HGA.out.gi.blk
      have n3 : wa.cell? ⟨nb, 3, none⟩ = some (.slice (some ⟨g2, 0, none⟩) (kids.length + 1) cap2) := cell_of_row _ _ 3 _ _ _ HGA.out.gi.blk
      have CA := hid (implAddGO HGA.out HJA.out HX.out (by have := HOK.out; omega))
      go_wp2_with fail
      refine CA.out.mono ?_
      rintro e wb ⟨nvb, rfl, hjb, hnb, hrob, hkb⟩
      have HJB := hid hjb
      have HNB := hid hnb
      have HRO := hid (HGA.out.gi.ro.trans hrob HGA.out.gi.kp.size)
      have HKP := hid (HGA.out.gi.kp.trans hkb HGA.out.gi.ro)
      clear hjb hnb hrob hkb n0 n1 n2 n3
      go_wp2
      go_ret2
      rw [HRF.out]
      exact ⟨Or.inl ⟨_, _, _, _, nvb, rfl, rfl, HJB.out, HNB.out, HRO.out⟩, HKP.out⟩
    rw [decide_eq_false hge, if_neg hge] at CTA
    have HRM := hid (show R = if gB L j2 = 44 then grpG L val 91 93 f2 (skB L (j2 + 1)) b5 ns5 (keys) (kids ++ [(kid : Int)]) else .er 2 j2 by rw [HRN.out, if_neg hge])
    clear hge
    go_wp2_with fail
    refine CTA.out.mono ?_
    rintro e wa ⟨rfl, hja, hka⟩
    have HJA := hid hja
    have HGA := hid (HG9.out.kp0 hka)
    clear hja hka
    have CTB := hid (CT.out 44 j2 b5 nv5 wa HJA.out hj2s (by decide))
    by_cases h44 : gB L j2 = 44
    rotate_left
    · rw [decide_eq_false h44, if_neg h44] at CTB
      have HRE := hid (show R = .er 2 j2 by rw [HRM.out, if_neg h44])
      clear h44
      go_wp2_with fail
      refine CTB.out.mono ?_
      rintro e wb ⟨rfl, hjb, hkb⟩
      have HJB := hid hjb
      have HGB := hid (HGA.out.kp0 hkb)
      clear hjb hkb
      go_wp2
      go_ret2
      rw [HRE.out]
      exact ⟨Or.inr ⟨2, j2, b5, nv5, rfl, by decide, rfl, HJB.out, HGB.out.gi.ro⟩, HGB.out.gi.kp⟩
    rw [decide_eq_true h44, if_pos h44] at CTB
    have hl2 := gB_lt (L := L) (i := j2) (by omega)
    obtain ⟨j3, hj3⟩ : ∃ x, skB L (j2 + 1) = x := ⟨_, rfl⟩
    have hs3 := skB_in L (p := j2 + 1) hl2
    have HRZ := hid (show R = grpG L val 91 93 f2 j3 b5 ns5 (keys) (kids ++ [(kid : Int)]) by rw [HRM.out, if_pos h44, hj3])
    rw [hj3] at hs3
    clear h44
    go_wp2_with fail
    refine CTB.out.mono ?_
    rintro e wb ⟨rfl, hjb, hkb⟩
    have HJB := hid hjb
    have HGB := hid (HGA.out.kp0 hkb)
    clear hjb hkb
    have CSB := hid (CS.out (j2 + 1) b5 nv5 wb HJB.out (by have := HSL.out; omega))
    rw [hj3] at CSB
    clear hj3
    go_wp2_with fail
    refine CSB.out.mono ?_
    rintro e wc ⟨rfl, hjc, hkc⟩
    have HJC := hid hjc
    have HGC := hid (HGB.out.kp0 hkc)
    have HATC := hid hjc.atI
    clear hjc hkc
    go_wp2
    go_roundw
    case rel => exact ⟨j3, f2, b5, keys, kids ++ [(kid : Int)], _, _, nv5, ns5, by have := HSL.out; omega, by have := HOK.out; omega, HOK.out.2.2.2.2.1, by have := HOK.out; omega, by have := HOK.out; omega, by rw [List.length_append, List.length_singleton]; have := HOK.out; omega, HJC.out, HGC.out, HRZ⟩
    case measure => rw [HATC.out, HAT.out]; have := HOK.out; have := HSL.out; omega
end Go.Proofs.YtlfkfofeenakhaaDoor
