/-
  What is proved here: strings.NewReplacer and (*strings.Replacer).Replace, the Replacer new, where each old text is one byte (all different) and each new one a backslash and a byte. No condition besides.
-/
import Derived.Test.YtcebgmdcbdggeaaDoorReplB
import Derived.Test.YtcebgmdcbdggeaaDoorReplR
import Derived.Test.YtcebgmdcbdggeaaDoorOnce
namespace Go.Proofs.YtcebgmdcbdggeaaDoor
open Go.RowKit
set_option linter.unusedVariables false
set_option linter.unusedSimpArgs false
theorem OwnC.other {w : World} {B b i : Nat} {e : TypeId} {v u : Value} {xs : List Value} (h : OwnC w B e v xs) (hb : b < B) : OwnC (w.setCell ⟨b, i, none⟩ u) B e v xs := by
  obtain ⟨g, cap, cur, fz, e2, hB, hgg, r⟩ := h
  exact ⟨g, cap, cur, fz, e2, hB, (Below.heap_setCell _ _ _ _ (show g ≠ b by omega)).trans hgg, r⟩
theorem Bsr.other {n0 br b i : Nat} {ps : List (UInt8 × UInt8)} {w : World} {u : Value} (h : Bsr n0 ps br w) (hb : b < n0) (hbr : b < br) : Bsr n0 ps br (w.setCell ⟨b, i, none⟩ u) := by
  obtain ⟨cur, hg, hs⟩ := h.blk
  obtain ⟨v, e1, e2⟩ := h.row
  have hc : ∀ k, (w.setCell ⟨b, i, none⟩ u).cell? ⟨br, k, none⟩ = w.cell? ⟨br, k, none⟩ := fun k => World.cell?_setCell_other _ ⟨b, i, none⟩ ⟨br, k, none⟩ _ (fun e => by injection e; omega)
  refine ⟨⟨cur, (Below.heap_setCell _ _ _ _ (show br ≠ b by omega)).trans hg, hs⟩, fun x => ?_, ⟨v, (hc 256).trans e1, ownsRow_setCell_below e2 hb u⟩⟩
  obtain ⟨h1, h2⟩ := h.tab x
  refine ⟨fun e => (hc _).trans (h1 e), fun c e => ?_⟩
  obtain ⟨v, a1, a2⟩ := h2 c e
  exact ⟨v, (hc _).trans a1, a2.other (by omega)⟩
theorem Bsr.drew {n0 br : Nat} {ps : List (UInt8 × UInt8)} {w : World} (h : Bsr n0 ps br w) : Bsr n0 ps br w.drew := ⟨h.blk, h.tab, h.row⟩
theorem Bsr.base {n0 n1 br : Nat} {ps : List (UInt8 × UInt8)} {w : World} (h : Bsr n0 ps br w) (hn : n1 ≤ n0) : Bsr n1 ps br w := by
  obtain ⟨v, e1, e2⟩ := h.row
  refine ⟨h.blk, h.tab, v, e1, e2.1, ?_⟩
  rcases e2.2 with h1 | ⟨b, cap, cur, h0, h1, h2⟩
  · exact Or.inl h1
  · exact Or.inr ⟨b, cap, cur, h0, Nat.le_trans hn h1, h2⟩

/-- the texts in a row: old, new, old, new .. -/
def rowV (ps : List (UInt8 × UInt8)) : List Value := ps.flatMap fun p => [.string (mkB [p.1]), .string (mkB [92, p.2])]
theorem rowV_len (ps : List (UInt8 × UInt8)) : (rowV ps).length = 2 * ps.length := by
  induction ps with
  | nil => rfl
  | cons p r ih =>
    have e : rowV (p :: r) = [.string (mkB [p.1]), .string (mkB [92, p.2])] ++ rowV r := rfl
    rw [e, List.length_append, ih]
    simp only [List.length_cons, List.length_nil]
    omega
theorem rowV_get : ∀ (ps : List (UInt8 × UInt8)) (k : Nat) (hk : k < ps.length), (rowV ps)[2 * k]? = some (.string (mkB [ps[k].1])) ∧ (rowV ps)[2 * k + 1]? = some (.string (mkB [92, ps[k].2]))
  | p :: r, 0, _ => ⟨rfl, rfl⟩
  | p :: r, k + 1, hk => by
    have e : rowV (p :: r) = .string (mkB [p.1]) :: .string (mkB [92, p.2]) :: rowV r := rfl
    have ih := rowV_get r k (by simpa using hk)
    rw [e, show 2 * (k + 1) = 2 * k + 1 + 1 by omega, List.getElem?_cons_succ, List.getElem?_cons_succ, List.getElem?_cons_succ, List.getElem?_cons_succ]
    exact ih
theorem rowV_one (ps : List (UInt8 × UInt8)) : ∀ u ∈ rowV ps, u.oneCell' = true := by
  intro u hu
  unfold rowV at hu
  rw [List.mem_flatMap] at hu
  obtain ⟨p, _, h⟩ := hu
  simp only [List.mem_cons, List.not_mem_nil, or_false] at h
  rcases h with rfl | rfl <;> rfl
/-- a Replacer that has not built its table: five cells and the row of its texts -/
structure Rpl (ps : List (UInt8 × UInt8)) (b r n cap : Nat) (w : World) : Prop where
  blk : w.heap[b]? = some (.cells #[.int .u32 0, .int .i32 0, .int .u32 0, .nilIface, .slice (some ⟨r, 0, none⟩) n cap] 66 (0, 0))
  rlt : r < w.heap.size
  rb : r ≠ b
  row : ∀ k (hk : k < ps.length), w.cell? ⟨r, 2 * k, none⟩ = some (.string (mkB [ps[k].1])) ∧ w.cell? ⟨r, 2 * k + 1, none⟩ = some (.string (mkB [92, ps[k].2]))
/-- what buildOnce leaves -/
def Built (ps : List (UInt8 × UInt8)) (b : Nat) (w w' : World) : Prop :=
  ∃ br w1, Below w.heap.size w w1 ∧ w.heap.size ≤ br ∧ Bsr w.heap.size ps br w1 ∧ w' = (w1.setCell ⟨b, 3, none⟩ (.iface 98 (.pointer (some ⟨br, 0, none⟩)))).setCell ⟨b, 4, none⟩ (.slice none 0 0)
set_option maxHeartbeats 8000000 in
set_option maxRecDepth 100000 in
theorem buildOnceR {ps : List (UInt8 × UInt8)} {b r n cap : Nat} (w : World) (hnd : (ps.map (·.1)).Nodup) (hL2 : 2 ≤ ps.length) (hL : ps.length ≤ 100) (hn : n = 2 * ps.length) (hr : r < w.heap.size)
    (h3 : w.cell? ⟨b, 3, none⟩ = some .nilIface) (h4 : w.cell? ⟨b, 4, none⟩ = some (.slice (some ⟨r, 0, none⟩) n cap)) (hfz : ∀ i, w.frozen? ⟨b, i, none⟩ = false) (hb : b < w.heap.size)
    (hrow : ∀ k (hk : k < ps.length), w.cell? ⟨r, 2 * k, none⟩ = some (.string (mkB [ps[k].1])) ∧ w.cell? ⟨r, 2 * k + 1, none⟩ = some (.string (mkB [92, ps[k].2]))) :
    Calls Tryd.prog 27 #[.pointer (some ⟨b, 0, none⟩)] w fun e w' => e = .returned (.tuple #[]) ∧ Built ps b w w' := by
  have C := hid (implBuild w hnd hL2 hL hn hr h4 hrow)
  have H3 := hid h3
  have H4 := hid h4
  have HF := hid hfz
  have HB := hid hb
  clear hnd hL2 hL hn hr hrow h3 h4 hfz hb
  go_enter Tryd.func27, Tryd.ntmps27
  go_wp2_with (go_at_call 45; refine C.out.mono ?_; rintro e w1 ⟨br, rfl, hbr, hB, hbel⟩; have c3 := (hbel.cell (p := ⟨b, 3, none⟩) HB.out).trans H3.out; have c4 := (hbel.cell (p := ⟨b, 4, none⟩) HB.out).trans H4.out; have f3 := (hbel.frozen (p := ⟨b, 3, none⟩) HB.out).trans (HF.out 3); have f4 := (hbel.frozen (p := ⟨b, 4, none⟩) HB.out).trans (HF.out 4))
  go_end0
  exact ⟨rfl, br, w1, hbel, hbr, hB, rfl⟩
theorem info_strN : (Tryd.prog.info? 9).map (fun i => (i.zero, i.size, i.bytes)) = some (some (.string ⟨#[]⟩), 1, 16) := by kernel_rfl
set_option maxHeartbeats 8000000 in
set_option maxRecDepth 100000 in
theorem newReplacer {ps : List (UInt8 × UInt8)} {r n cap : Nat} (w : World) (hL2 : 2 ≤ ps.length) (hL : ps.length ≤ 100) (hn : n = 2 * ps.length)
    (hrow : ∀ j u, (rowV ps)[j]? = some u → w.cell? ((⟨r, 0, none⟩ : Addr).add j) = some u) :
    Calls Tryd.prog 16 #[.slice (some ⟨r, 0, none⟩) n cap] w fun e w' => ∃ b r' cap', e = .returned (.pointer (some ⟨b, 0, none⟩)) ∧ w.heap.size ≤ b ∧ Rpl ps b r' n cap' w' ∧ Below w.heap.size w w' := by
  obtain ⟨i0, hi, hz0, hz1, hz2⟩ := info_parts info_strN
  have hmod : Int.tmod (n : Int) 2 = 0 := by rw [hn, Int.natCast_mul]; exact Int.mul_tmod_right 2 _
  have HROW := hid hrow
  have HN := hid hn
  have hlen : (rowV ps).length = n * 1 := by rw [rowV_len]; omega
  have HLEN := hid hlen
  have hnb : n ≤ 200 := by omega
  clear hrow hn hlen
  go_enter Tryd.func16, Tryd.ntmps16
  go_wp2_with ((at_builtin; refine wpList_append_own _ rfl _ _ 30 rfl w.heap.size 9 i0 (.string ⟨#[]⟩) 1 16 Tryd.underlying30 hi hz0 hz1 hz2 rfl (by decide) _ 0 [] rfl (World.ownsRow_nil _ _ _ _) ⟨r, 0, none⟩ n cap (rowV ps) rfl HLEN.out HROW.out (rowV_one ps) ?c3 ?c4 ?c5 ?_))
  case c3 => unfold maxLen; omega
  case c4 => omega
  case c5 => exact Nat.le_refl _
  intro v' w1 hown hgrow hnil
  rcases hown.2 with ⟨rfl, h0⟩ | ⟨g, cp, cur, rfl, hbg, hgg, hrest⟩
  · exact absurd h0 (by have := HN.out; omega)
  have HOWN := hid hown
  have HGR := hid (show Below w.heap.size w w1 from (Below.refl _ w).grown hgrow (Nat.le_refl _) (fun k hk => by cases hk))
  have HBG := hid hbg
  have HGL := hid (Array.getElem?_eq_some_iff.1 hgg).1
  clear hown hgrow hnil hbg hgg hrest
  go_wp2
  go_ret
  have hsz := HGR.out.size
  refine ⟨w1.heap.size, g, cp, rfl, hsz, ⟨heap_alloc_new _ _, ?_, ?_, fun k hk => ?_⟩, ext_trans HGR.out (ext_alloc _ _)⟩
  · have := HGL.out; simp; omega
  · have := HGL.out; omega
  · obtain ⟨a0, a1⟩ := rowV_get ps k hk
    have b0 := HOWN.out.cells (g := g) rfl _ _ a0
    have b1 := HOWN.out.cells (g := g) rfl _ _ a1
    rw [Addr.add_lit, Nat.zero_add] at b0 b1
    exact ⟨((ext_alloc w1 _).cell (p := ⟨g, 2 * k, none⟩) HGL.out).trans b0, ((ext_alloc w1 _).cell (p := ⟨g, 2 * k + 1, none⟩) HGL.out).trans b1⟩
/-- the table serves as what is behind the interface -/
theorem nilAhead_bsr (a : Addr) (w : World) : (nilAhead 266 98 (.pointer (some a)) "Replace").run Tryd.prog w = .ok (some false) w := by kernel_rfl
theorem method_bsr (a : Addr) (w : World) : (method 266 98 (.pointer (some a)) "Replace").run Tryd.prog w = .ok (113, .pointer (some a)) w := by kernel_rfl
set_option maxHeartbeats 8000000 in
set_option maxRecDepth 100000 in
theorem replacerReplace {ps : List (UInt8 × UInt8)} {b r n cap : Nat} {s : ByteArray} (w : World) (hnd : (ps.map (·.1)).Nodup) (hL2 : 2 ≤ ps.length) (hL : ps.length ≤ 100) (hn : n = 2 * ps.length) (hR : Rpl ps b r n cap w) (hs : s.size ≤ 1000000) :
    Calls Tryd.prog 17 #[.pointer (some ⟨b, 0, none⟩), .string s] w fun e w' => e = .returned (.string (mkB (replL ps s.data.toList))) ∧ Below b w w' := by
  have hb : b < w.heap.size := (Array.getElem?_eq_some_iff.1 hR.blk).1
  have c0 : w.cell? ⟨b, 0, none⟩ = some (.int .u32 0) := cell_of_row _ _ 0 _ _ _ hR.blk
  have c1 : w.cell? ⟨b, 1, none⟩ = some (.int .i32 0) := cell_of_row _ _ 1 _ _ _ hR.blk
  have c3 : w.cell? ⟨b, 3, none⟩ = some .nilIface := cell_of_row _ _ 3 _ _ _ hR.blk
  have c4 : w.cell? ⟨b, 4, none⟩ = some (.slice (some ⟨r, 0, none⟩) n cap) := cell_of_row _ _ 4 _ _ _ hR.blk
  have hfz : ∀ i, w.frozen? ⟨b, i, none⟩ = false := fun i => frozen_of_row _ _ i _ _ hR.blk
  have hne : ∀ {i j : Nat} {x : World} {u : Value}, i ≠ j → (x.setCell ⟨b, i, none⟩ u).cell? ⟨b, j, none⟩ = x.cell? ⟨b, j, none⟩ := fun h => cell_set_ne h
  have hbo : ∀ {i j : Nat} {x : World} {u : Value}, (x.setCell ⟨b, i, none⟩ u).cell? ⟨r, j, none⟩ = x.cell? ⟨r, j, none⟩ := fun {i j x u} => World.cell?_setCell_other _ ⟨b, i, none⟩ ⟨r, j, none⟩ _ (fun e => by injection e with h1; exact hR.rb h1.symm)
  obtain ⟨w1, hw1⟩ : ∃ x, w.setCell ⟨b, 1, none⟩ (.int .i32 1) = x := ⟨_, rfl⟩
  have hsz1 : w1.heap.size = w.heap.size := by rw [← hw1]; simp [World.setCell]
  have d0 : w1.cell? ⟨b, 0, none⟩ = some (.int .u32 0) := by rw [← hw1, hne (by decide)]; exact c0
  have d1 : w1.cell? ⟨b, 1, none⟩ = some (.int .i32 1) := by rw [← hw1]; exact World.cell?_setCell_same w ⟨b, 1, none⟩ _ c1
  have d3 : w1.cell? ⟨b, 3, none⟩ = some .nilIface := by rw [← hw1, hne (by decide)]; exact c3
  have d4 : w1.cell? ⟨b, 4, none⟩ = some (.slice (some ⟨r, 0, none⟩) n cap) := by rw [← hw1, hne (by decide)]; exact c4
  have dfz : ∀ i, w1.frozen? ⟨b, i, none⟩ = false := fun i => by rw [← hw1]; simpa using hfz i
  have B1 := buildOnceR w1 hnd hL2 hL hn (by rw [hsz1]; exact hR.rlt) d3 d4 dfz (by rw [hsz1]; exact hb) (fun k hk => by
    obtain ⟨a0, a1⟩ := hR.row k hk
    rw [← hw1, hbo, hbo]
    exact ⟨a0, a1⟩)
  have hQ : ∀ w2, Built ps b w1 w2 → w2.cell? ⟨b, 0, none⟩ = some (.int .u32 0) ∧ w2.cell? ⟨b, 1, none⟩ = some (.int .i32 1) ∧ w2.frozen? ⟨b, 0, none⟩ = false ∧ w2.frozen? ⟨b, 1, none⟩ = false := by
    rintro w2 ⟨br, x, hx, hbr, hB, rfl⟩
    have hb1 : b < w1.heap.size := by rw [hsz1]; exact hb
    refine ⟨?_, ?_, ?_, ?_⟩
    · rw [hne (by decide), hne (by decide)]; exact (hx.cell (p := ⟨b, 0, none⟩) hb1).trans d0
    · rw [hne (by decide), hne (by decide)]; exact (hx.cell (p := ⟨b, 1, none⟩) hb1).trans d1
    · have := (hx.frozen (p := ⟨b, 0, none⟩) hb1).trans (dfz 0); simpa using this
    · have := (hx.frozen (p := ⟨b, 1, none⟩) hb1).trans (dfz 1); simpa using this
  have CD := hid (once_do b w (Built ps b w1) (by rw [hw1]; exact B1) hQ c0 c1 (hfz 1))
  have hbw1 : Below b w w1 := by rw [← hw1]; exact (Below.refl b w).setCell (Nat.le_refl _) _
  have AFT := hid (show ∀ w2 w', Built ps b w1 w2 → w' = (w2.drew.setCell ⟨b, 0, none⟩ (.int .u32 1)).setCell ⟨b, 1, none⟩ (.int .i32 0) → ∃ br, w'.cell? ⟨b, 3, none⟩ = some (.iface 98 (.pointer (some ⟨br, 0, none⟩))) ∧ Bsr w1.heap.size ps br w' ∧ Below b w w' by
    rintro w2 w' ⟨br, x, hx, hbr, hB, rfl⟩ rfl
    have hb1 : b < w1.heap.size := by rw [hsz1]; exact hb
    have hbbr : b < br := Nat.lt_of_lt_of_le hb1 hbr
    refine ⟨br, ?_, ((((hB.other hb1 hbbr).other hb1 hbbr).drew).other hb1 hbbr).other hb1 hbbr, ?_⟩
    · rw [hne (by decide), hne (by decide), World.cell?_drew, hne (by decide)]
      exact World.cell?_setCell_same x ⟨b, 3, none⟩ _ ((hx.cell (p := ⟨b, 3, none⟩) hb1).trans d3)
    · exact (((((hbw1.trans (hx.mono (Nat.le_of_lt hb1))).setCell (Nat.le_refl _) _).setCell (Nat.le_refl _) _).drew).setCell (Nat.le_refl _) _).setCell (Nat.le_refl _) _)
  have CR := hid (fun (x : World) (br : Nat) (h : Bsr w1.heap.size ps br x) => bsrReplace (s := s) x hnd hL h hs)
  have HB := hid hb
  have hmf : ∀ (fn : Fn) (a b : Array Value) (w : World), (Instr.makeFunc fn a b).run Tryd.prog w = .ok (.func fn a b) w := fun _ _ _ _ => rfl
  have h1 := nilAhead_bsr
  have h2 := method_bsr
  clear hnd hL2 hL hn hR hs hne hbo hw1 hsz1 d0 d1 d3 d4 dfz B1 hQ c1 c3 c4 hfz hbw1 hb
  go_enter Tryd.func17, Tryd.ntmps17
  go_wp2_with (go_at_call 26; refine CD.out.mono ?_; rintro e w' ⟨rfl, w2, hq, hw⟩; obtain ⟨br, k3, kB, kw⟩ := AFT.out w2 w' hq hw; have KB := hid kB; have KW := hid kw; clear kB kw hq hw c0)
  refine (CR.out w' br KB.out).mono ?_
  rintro e w3 ⟨rfl, hb3⟩
  have HB3 := hid (hb3.mono (show b ≤ w'.heap.size from Nat.le_trans (Nat.le_of_lt HB.out) KW.out.size))
  clear hb3
  go_wp2
  go_ret
  exact ⟨rfl, KW.out.trans HB3.out⟩
end Go.Proofs.YtcebgmdcbdggeaaDoor
