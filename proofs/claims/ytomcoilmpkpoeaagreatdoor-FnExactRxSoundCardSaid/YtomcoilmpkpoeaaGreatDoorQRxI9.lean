/-
  What is proved here: the pattern reader's groups, by levels, and the reading of a whole pattern in impl. No condition but that the list lies in memory, and sizes.
-/
import Derived.Test.YtomcoilmpkpoeaaGreatDoorQRxI8
namespace Go.Proofs.YtomcoilmpkpoeaaGreatDoor
open Go.RowKit
set_option linter.unusedVariables false
set_option linter.unusedSimpArgs false

theorem grpP_er {l : List Nat} {v i c p : Nat} {ns : List RxNode} (h : altsP l (grpP l v) (i + 1) ns = .er c p) : grpP l (v + 1) i ns = .er c p := by
  rw [grpP, h]
theorem grpP_no {l : List Nat} {v i kid j : Nat} {ns ns1 : List RxNode} (h : altsP l (grpP l v) (i + 1) ns = .ok kid j ns1) (hj : ¬ gN l j = 41) : grpP l (v + 1) i ns = .er 2 j := by
  rw [grpP, h]; simp only; rw [if_neg hj]
theorem grpP_ok {l : List Nat} {v i kid j : Nat} {ns ns1 : List RxNode} (h : altsP l (grpP l v) (i + 1) ns = .ok kid j ns1) (hj : gN l j = 41) : grpP l (v + 1) i ns = .ok kid (j + 1) ns1 := by
  rw [grpP, h]; simp only; rw [if_pos hj]
theorem blk4_two {w : World} {g : Nat} {x0 x1 x2 x3 y1 y2 : Value} {t : TypeId} (h : w.heap[g]? = some (.cells #[x0, x1, x2, x3] t (0, 0))) : ((w.setCell ⟨g, 2, none⟩ y2).setCell ⟨g, 1, none⟩ y1).heap[g]? = some (.cells #[x0, y1, y2, x3] t (0, 0)) :=
  blk4_set (o := 1) y1 (blk4_set (o := 2) y2 h)
theorem blk4_two' {w : World} {g : Nat} {x0 x1 x2 x3 y1 y2 : Value} {t : TypeId} (h : w.heap[g]? = some (.cells #[x0, x1, x2, x3] t (0, 0))) : ((w.setCell ⟨g, 1, none⟩ y1).setCell ⟨g, 2, none⟩ y2).heap[g]? = some (.cells #[x0, y1, y2, x3] t (0, 0)) :=
  blk4_set (o := 2) y2 (blk4_set (o := 1) y1 h)
set_option maxHeartbeats 16000000 in
set_option maxRecDepth 100000 in
theorem implGroup0 {g cap : Nat} {a : Option Addr} {l : List Nat} : NodeC 220 (grpP l 0) l.length g cap 6 a l := by
  intro X w i nv ns hX hb hL hi hn hlen2
  have hg : g < w.heap.size := (Array.getElem?_eq_some_iff.1 hb).1
  obtain ⟨c0, c1, c2, c3, y0, y1, y2, y3, hl⟩ := blk4 hb
  have HB := hid hb
  clear hb hL hn hX
  unfold NodeE
  go_enter Tryz.func220, Tryz.ntmps220
  go_wp2
  go_ret2
  exact ⟨Or.inr ⟨3, i, _, 6, nv, rfl, rfl, by decide, HB.out⟩, Kp.refl _ _ _⟩
set_option maxHeartbeats 16000000 in
set_option maxRecDepth 100000 in
theorem implGroup {g cap d v : Nat} {a : Option Addr} {l : List Nat} (hd : d < 6) (HA : NodeC 123 (altsP l (grpP l v)) (l.length + 1) g cap (d + 1) a l) : NodeC 220 (grpP l (v + 1)) l.length g cap d a l := by
  intro X w i nv ns hX hb hL hi hn hlen2
  have hlen := hL.len
  have hg : g < w.heap.size := (Array.getElem?_eq_some_iff.1 hb).1
  obtain ⟨c0, c1, c2, c3, y0, y1, y2, y3, hl⟩ := blk4 hb
  have hw1 : IntKind.i64.wrap ((i : Int) + 1) = (i : Int) + 1 := IntWalk.i64_in _ (by omega)
  have hw2 : IntKind.i64.wrap ((d : Int) + 1) = (d : Int) + 1 := IntWalk.i64_in _ (by omega)
  have hw3 : IntKind.i64.wrap ((d : Int) + 1 - 1) = (d : Int) := by rw [IntWalk.i64_in _ (by omega)]; omega
  have hw4 : IntKind.i64.wrap (((d + 1 : Nat) : Int) - 1) = (d : Int) := by rw [IntWalk.i64_in _ (by omega)]; omega
  have e6 : ((d : Int) == 6) = false := by rw [beq_eq_false_iff_ne]; omega
  have f6 : ¬ (d : Int) = 6 := by omega
  have hk2 := ((Kp.refl g none w).set 2 (.int .i64 ((d + 1 : Nat) : Int))).set 1 (.int .i64 ((i + 1 : Nat) : Int))
  have CX2 := hid (fun (w' : World) (j : Nat) (nv' : Value) (hk : Kp g nv.ownBlock w w') (hb' : w'.heap[g]? = some (.cells #[.slice a l.length cap, .int .i64 ((j : Nat) : Int), .int .i64 (((d + 1) : Nat) : Int), nv'] 101 (0, 0))) (hj : j ≤ 1000) => implNext w' hb' (hL.kp hn hk hg) (by omega))
  have CA := hid (HA X ((w.setCell ⟨g, 2, none⟩ (.int .i64 ((d + 1 : Nat) : Int))).setCell ⟨g, 1, none⟩ (.int .i64 ((i + 1 : Nat) : Int))) (i + 1) nv ns (fun b h => by simp; exact hX b h) (blk4_two hb) (hL.kp hn hk2.weak hg) (by omega) (hn.kp hk2) (by omega))
  have HK2 := hid hk2
  have hc1 : ((i + 1 : Nat) : Int) = (i : Int) + 1 := by omega
  have hc2 : ((d + 1 : Nat) : Int) = (d : Int) + 1 := by omega
  have HFW := hid (fun kid j ns1 (h : altsP l (grpP l v) (i + 1) ns = .ok kid j ns1) => altsP_in (grpP_in l v) (show i + 1 ≤ l.length by omega) h)
  rw [hc1, hc2] at CA HK2
  clear hb hL hn hX hk2
  unfold NodeE at CA ⊢
  go_enter Tryz.func220, Tryz.ntmps220
  go_wp2_with fail
  refine CA.out.mono ?_
  rintro e w3 ⟨he, hk3⟩
  have hk3 := HK2.out.weak.trans hk3 (RowOn.refl _ _)
  rcases he with ⟨kid, j, ns2, nv2, h1, rfl, h3, h4, h5⟩ | ⟨c, p, z, d', nv2, h1, rfl, h3, h4⟩
  · have h5 : RowOn w nv.ownBlock nv2.ownBlock := h5.up (by simp)
    have hfw := HFW.out kid j ns2 h1
    have CXJ := hid (CX2.out w3 j nv2 hk3 h3 (by omega))
    obtain ⟨c0, c1, c2, c3, y0, y1, y2, y3, hl3⟩ := blk4 h3
    have H3 := hid h3
    have H1 := hid h1
    clear h3 h1
    obtain ⟨u, hu⟩ : ∃ c, gN l j = c := ⟨_, rfl⟩
    rw [hu] at CXJ
    have HU := hid hu
    clear hu
    go_wp2_with fail
    refine CXJ.out.mono ?_
    rintro e w4 ⟨rfl, hq4⟩
    by_cases h41 : u = 41
    · subst h41
      have HF := hid (grpP_ok H1.out HU.out)
      have hb4 := hq4.at H3.out
      obtain ⟨c0, c1, c2, c3, y0, y1, y2, y3, hl4⟩ := blk4 hb4
      have hw9 : IntKind.i64.wrap ((j : Int) + 1) = (j : Int) + 1 := IntWalk.i64_in _ (by omega)
      have hc9 : ((j + 1 : Nat) : Int) = (j : Int) + 1 := by omega
      have HB5 := hid (blk4_two' (y1 := .int .i64 ((j : Int) + 1)) (y2 := .int .i64 (d : Int)) hb4)
      clear hb4
      go_wp2
      go_ret2
      exact ⟨Or.inl ⟨kid, j + 1, ns2, nv2, HF.out, rfl, by rw [hc9]; exact HB5.out, (h4.qt hq4).kp (((Kp.refl g none w4).set 1 _).set 2 _), h5⟩, ((hk3.trans hq4.kp h5).set 1 _).set 2 _⟩
    · have HF := hid (grpP_no H1.out (by rw [HU.out]; exact h41))
      have e41 : ((u : Int) == 41) = false := by rw [beq_eq_false_iff_ne]; omega
      have f41 : ¬ (u : Int) = 41 := by omega
      have n41 : ((u : Int) != 41) = true := by rw [bne_iff_ne]; omega
      go_wp2
      go_ret2
      exact ⟨Or.inr ⟨2, j, _, d + 1, nv2, HF.out, rfl, by decide, hq4.at H3.out⟩, hk3.trans hq4.kp h5⟩
  · have HF := hid (grpP_er h1)
    have H4 := hid h4
    have hz1 : ((c : Int) == 0) = false := by rw [beq_eq_false_iff_ne]; omega
    have hz2 : ¬ (c : Int) = 0 := by omega
    clear h1 h4
    go_wp2
    go_ret2
    exact ⟨Or.inr ⟨c, p, _, d', nv2, HF.out, rfl, h3, H4.out⟩, hk3⟩
/-- by levels: what may still be so many levels deep -/
theorem implGrp {g cap : Nat} {a : Option Addr} {l : List Nat} : ∀ v d, d + v = 6 → NodeC 220 (grpP l v) l.length g cap d a l
  | 0, d, h => by
    obtain rfl : d = 6 := by omega
    exact implGroup0
  | v + 1, d, h => implGroup (by omega) (implAlternatives (implSequence (implPiece (implAtom (implGrp v (d + 1) (by omega))) (atomP_in (grpP_in l v))) (pieceP_in (grpP_in l v))) (grpP_in l v))
theorem implAlts {g cap : Nat} {a : Option Addr} {l : List Nat} : NodeC 123 (altsP l (grpP l 6)) (l.length + 1) g cap 0 a l :=
  implAlternatives (implSequence (implPiece (implAtom (implGrp 6 0 rfl)) (atomP_in (grpP_in l 6))) (pieceP_in (grpP_in l 6))) (grpP_in l 6)
/-- a whole pattern -/
def readP (l : List Nat) : RR := match altsP l (grpP l 6) 0 [] with | .er c p => .er c p | .ok kid j ns => if j < l.length then .er 2 j else .ok kid j ns
theorem readP_er {l : List Nat} {c p : Nat} (h : altsP l (grpP l 6) 0 [] = .er c p) : readP l = .er c p := by unfold readP; rw [h]
theorem readP_more {l : List Nat} {kid j : Nat} {ns : List RxNode} (h : altsP l (grpP l 6) 0 [] = .ok kid j ns) (hj : j < l.length) : readP l = .er 2 j := by unfold readP; rw [h]; simp only; rw [if_pos hj]
theorem readP_ok {l : List Nat} {kid j : Nat} {ns : List RxNode} (h : altsP l (grpP l 6) 0 [] = .ok kid j ns) (hj : ¬ j < l.length) : readP l = .ok kid j ns := by unfold readP; rw [h]; simp only; rw [if_neg hj]
theorem readP_in {l : List Nat} {kid j : Nat} {ns : List RxNode} (h : readP l = .ok kid j ns) : kid < ns.length ∧ ns.length ≤ 4 * l.length + 2 := by
  unfold readP at h
  cases ha : altsP l (grpP l 6) 0 [] with
  | er c p => rw [ha] at h; cases h
  | ok kid1 j1 ns1 =>
    have h1 := altsP_in (grpP_in l 6) (Nat.zero_le _) ha
    rw [ha] at h
    simp only at h
    split at h
    · cases h
    · injection h with h2 h3 h4
      subst h2 h3 h4
      simp at h1
      omega
def readE (w w' : World) (g cap : Nat) (a : Option Addr) (l : List Nat) (e : Ending) : Prop :=
  (∃ kid j ns nv, readP l = .ok kid j ns ∧ e = .returned (.tuple #[.pointer (some ⟨g, 0, none⟩), .int .i64 0]) ∧ w'.heap[g]? = some (.cells #[.slice a l.length cap, .int .i64 ((j : Nat) : Int), .int .i64 ((0 : Nat) : Int), nv] 101 (0, 0)) ∧ RxNs (fun _ => False) g nv w' ns)
  ∨ (∃ c j d' nv, readP l = .er c j ∧ e = .returned (.tuple #[.pointer (some ⟨g, 0, none⟩), .int .i64 ((c : Nat) : Int)]) ∧ c ≠ 0 ∧ w'.heap[g]? = some (.cells #[.slice a l.length cap, .int .i64 ((j : Nat) : Int), .int .i64 ((d' : Nat) : Int), nv] 101 (0, 0)))
set_option maxHeartbeats 16000000 in
set_option maxRecDepth 100000 in
theorem implReadRx {cap : Nat} {a : Option Addr} {l : List Nat} (w : World) (hL : RxL w w.heap.size a l) :
    Calls Tryz.prog 78 #[.slice a l.length cap] w fun e w' => readE w w' w.heap.size cap a l e ∧ Below w.heap.size w w' := by
  have hlen := hL.len
  have hb : (w.alloc (.cells #[.slice a l.length cap, .int .i64 ((0 : Nat) : Int), .int .i64 ((0 : Nat) : Int), .slice none 0 0] 101)).heap[w.heap.size]? = some (.cells #[.slice a l.length cap, .int .i64 ((0 : Nat) : Int), .int .i64 ((0 : Nat) : Int), .slice none 0 0] 101 (0, 0)) := heap_alloc_new _ _
  have CA := hid (implAlts (g := w.heap.size) (cap := cap) (a := a) (l := l) (fun _ => False) _ 0 (.slice none 0 0) [] (fun _ h => h.elim) hb (hL.below (ext_alloc w _)) (by omega) ⟨[], ⟨rfl, Or.inl ⟨rfl, rfl⟩⟩, rfl, fun i h => absurd h (by simp)⟩ (by simp))
  have hk0 : Below w.heap.size w (w.alloc (.cells #[.slice a l.length cap, .int .i64 ((0 : Nat) : Int), .int .i64 ((0 : Nat) : Int), .slice none 0 0] 101)) := ext_alloc w _
  have HK0 := hid hk0
  have HS := hid (show w.heap.size < (w.alloc (.cells #[.slice a l.length cap, .int .i64 ((0 : Nat) : Int), .int .i64 ((0 : Nat) : Int), .slice none 0 0] 101)).heap.size by simp)
  have HFW := hid (fun kid j ns1 (h : altsP l (grpP l 6) 0 [] = .ok kid j ns1) => altsP_in (grpP_in l 6) (Nat.zero_le _) h)
  clear hb hL hk0
  unfold NodeE at CA
  go_enter Tryz.func78, Tryz.ntmps78
  go_wp2_with fail
  refine CA.out.mono ?_
  rintro e w3 ⟨he, hk3⟩
  have HB := hid (HK0.out.trans (hk3.below (Nat.le_of_lt HS.out) (fun b e => by cases e)))
  rcases he with ⟨kid, j, ns2, nv2, h1, rfl, h3, h4, h5⟩ | ⟨c, p, z, d', nv2, h1, rfl, h3, h4⟩
  · have hfw := HFW.out kid j ns2 h1
    obtain ⟨c0, c1, c2, c3, y0, y1, y2, y3, hl3⟩ := blk4 h3
    have H3 := hid h3
    have H4 := hid h4
    by_cases hj : j < l.length
    · have HF := hid (readP_more h1 hj)
      have hj1 : (j : Int) < (l.length : Int) := by omega
      clear h1 h3 h4
      go_wp2_with fail
      go_quiet (fail)
      go_wp2
      go_ret2
      unfold readE
      exact ⟨Or.inr ⟨2, j, _, nv2, HF.out, rfl, by decide, H3.out⟩, below_drewN HB.out _⟩
    · have HF := hid (readP_ok h1 hj)
      have hj1 : ¬ (j : Int) < (l.length : Int) := by omega
      have hj2 : decide ((j : Int) < (l.length : Int)) = false := decide_eq_false hj1
      clear h1 h3 h4
      go_wp2_with fail
      go_quiet (fail)
      go_wp2
      go_ret2
      unfold readE
      exact ⟨Or.inl ⟨kid, j, ns2, nv2, HF.out, rfl, H3.out, H4.out.qt (Qt.one _ _)⟩, below_drewN HB.out _⟩
  · have HF := hid (readP_er h1)
    obtain ⟨c0, c1, c2, c3, y0, y1, y2, y3, hl3⟩ := blk4 h4
    have H4 := hid h4
    have hc1 : ((c : Int) == 0) = false := by rw [beq_eq_false_iff_ne]; omega
    have hc2 : ¬ (c : Int) = 0 := by omega
    clear h1 h4
    go_wp2_with fail
    go_quiet (fail)
    go_wp2
    go_ret2
    unfold readE
    exact ⟨Or.inr ⟨c, p, d', nv2, HF.out, rfl, h3, H4.out⟩, below_drewN HB.out _⟩
end Go.Proofs.YtomcoilmpkpoeaaGreatDoor
