/-
  What is proved here: the reading of a pattern's text in the reference. No condition.
-/
import Derived.Test.YtkmkencodcfloaaGreatDoorRxS11
import Derived.Test.YtkmkencodcfloaaGreatDoorRxSzT
import Derived.Test.YtkmkencodcfloaaGreatDoorRxRd
namespace Go.Proofs.YtkmkencodcfloaaGreatDoor
open Go.RowKit
set_option linter.unusedVariables false
set_option linter.unusedSimpArgs false

set_option maxHeartbeats 16000000 in
set_option maxRecDepth 100000 in
theorem specL05Read (most : Nat) (hmost : most ≤ 1000) (s : ByteArray) (w : World) :
    Calls Tryz.prog 29 #[.string s, .int .i64 ((most : Nat) : Int)] w fun e w' => ∃ (na : Option Addr) (n nc : Nat), e = .returned (.tuple #[.agg #[.slice na n nc], .int .i64 (((rdP most s).2.1 : Nat) : Int), .int .i64 (((rdP most s).2.2 : Nat) : Int)]) ∧ Below w.heap.size w w' := by
  have HRU := hid (specRunes s (w.alloc (.cells #[.slice none 0 0] 49)))
  have HP := hid (runesN_pts s.data.toList)
  obtain ⟨R, hR⟩ : ∃ r, rdP most s = r := ⟨_, rfl⟩
  rw [hR]
  unfold rdP at hR
  obtain ⟨l, hl⟩ : ∃ l, runesN s.data.toList = l := ⟨_, rfl⟩
  obtain ⟨b, hb⟩ : ∃ b, textOk s.data.toList = b := ⟨_, rfl⟩
  rw [hl] at hR HRU HP
  rw [hb] at hR HRU
  clear hl hb
  go_enter Tryz.func29, Tryz.ntmps29
  go_wp2_with fail
  refine HRU.out.mono ?_
  rintro e w1 ⟨u, rfl, how, hb1⟩
  obtain ⟨a, cap, rfl, hRL⟩ := rxl_own how HP.out.1 HP.out.2
  have hB1 := (ext_alloc w (.cells #[.slice none 0 0] 49)).trans (hb1.mono (ext_alloc w _).size)
  have hx1 : w1.heap[w.heap.size]? = some (.cells #[.slice none 0 0] 49 (0, 0)) := (hb1.block w.heap.size (by simp)).trans (heap_alloc_new w _)
  have hws : w.heap.size < w1.heap.size := (Array.getElem?_eq_some_iff.1 hx1).1
  have cx : w1.cell? ⟨w.heap.size, 0, none⟩ = some (.slice none 0 0) := cell_of_row _ _ 0 _ _ _ hx1
  have zx : w1.frozen? ⟨w.heap.size, 0, none⟩ = false := frozen_of_row _ _ 0 _ _ hx1
  have HB1 := hid hB1
  have hbk : (w1.alloc (.cells #[.slice a l.length cap, .int .i64 ((0 : Nat) : Int), .int .i64 ((0 : Nat) : Int), .int .i64 ((0 : Nat) : Int), .int .i64 ((0 : Nat) : Int), .slice none 0 0] 93)).heap[w1.heap.size]? = some (.cells #[.slice a l.length cap, .int .i64 ((0 : Nat) : Int), .int .i64 ((0 : Nat) : Int), .int .i64 ((0 : Nat) : Int), .int .i64 ((0 : Nat) : Int), .slice none 0 0] 93 (0, 0)) := heap_alloc_new _ _
  have CRD := hid (specAltsTop (g := w1.heap.size) (cap := cap) (a := a) (l := l) (fun _ => False) _ 0 (.slice none 0 0) [] (fun _ h => h.elim) hbk (hRL.below (ext_alloc w1 _)) (by omega) ⟨[], ⟨rfl, Or.inl ⟨rfl, rfl⟩⟩, rfl, fun i h => absurd h (by simp)⟩ (by simp))
  rw [readP_top HP.out.2] at CRD
  have hk0 : Below w1.heap.size w1 (w1.alloc (.cells #[.slice a l.length cap, .int .i64 ((0 : Nat) : Int), .int .i64 ((0 : Nat) : Int), .int .i64 ((0 : Nat) : Int), .int .i64 ((0 : Nat) : Int), .slice none 0 0] 93)) := ext_alloc w1 _
  have HK0 := hid hk0
  have HS := hid (show w1.heap.size < (w1.alloc (.cells #[.slice a l.length cap, .int .i64 ((0 : Nat) : Int), .int .i64 ((0 : Nat) : Int), .int .i64 ((0 : Nat) : Int), .int .i64 ((0 : Nat) : Int), .slice none 0 0] 93)).heap.size by simp)
  clear how hb1 hx1 hB1 hbk hk0
  by_cases hbad : b = false ∨ most < l.length
  · rw [if_pos hbad] at hR
    subst hR
    cases b with
    | false =>
      go_wp2
      refine bodyPost_ret (v := .tuple #[.agg #[.slice none 0 0], .int .i64 ((0 : Nat) : Int), .int .i64 ((1 : Nat) : Int)]) (by simp [results, Tryz.results29, go_sem, *]) rfl ?_
      first | exact ⟨_, _, _, rfl, HB1.out.setCell (p := ⟨w.heap.size, 0, none⟩) (Nat.le_refl _) _⟩ | exact ⟨⟨_, _, _, rfl⟩, HB1.out.setCell (p := ⟨w.heap.size, 0, none⟩) (Nat.le_refl _) _⟩
    | true =>
      have hle : ((most : Nat) : Int) < (l.length : Int) := by
        rcases hbad with h | h
        · cases h
        · omega
      have hle2 : most < l.length := by omega
      go_wp2
      refine bodyPost_ret (v := .tuple #[.agg #[.slice none 0 0], .int .i64 ((0 : Nat) : Int), .int .i64 ((1 : Nat) : Int)]) (by simp [results, Tryz.results29, go_sem, *]) rfl ?_
      first | exact ⟨_, _, _, rfl, HB1.out.setCell (p := ⟨w.heap.size, 0, none⟩) (Nat.le_refl _) _⟩ | exact ⟨⟨_, _, _, rfl⟩, HB1.out.setCell (p := ⟨w.heap.size, 0, none⟩) (Nat.le_refl _) _⟩
  · rw [if_neg hbad] at hR
    simp only [not_or, Bool.not_eq_false] at hbad
    obtain ⟨rfl, hlen⟩ := hbad
    have hle : ¬ ((most : Nat) : Int) < (l.length : Int) := by omega
    unfold NodeS at CRD
    go_wp2_with fail
    refine CRD.out.mono ?_
    rintro e w3 ⟨he, hk3⟩
    have hb3 : Below w1.heap.size w1 w3 := HK0.out.trans (hk3.below (Nat.le_of_lt HS.out) (fun b e => by cases e))
    have cx3 : w3.cell? ⟨w.heap.size, 0, none⟩ = some (.slice none 0 0) := (hb3.cell (p := ⟨w.heap.size, 0, none⟩) hws).trans cx
    have zx3 : w3.frozen? ⟨w.heap.size, 0, none⟩ = false := (hb3.frozen (p := ⟨w.heap.size, 0, none⟩) hws).trans zx
    have hws3 : w.heap.size < w3.heap.size := Nat.lt_of_lt_of_le hws hb3.size
    have hwn3 : ¬ w.heap.size = w3.heap.size := by omega
    have hwn4 : ¬ w3.heap.size = w.heap.size := by omega
    have hgn : ¬ w1.heap.size = w.heap.size := by omega
    have hgn2 : ¬ w.heap.size = w1.heap.size := by omega
    have hB3 := HB1.out.trans (hb3.mono HB1.out.size)
    have HB3 := hid hB3
    have hlen9 := HP.out.1
    clear hB3 hb3
    rcases he with ⟨kid, j, ns, nv, h1, rfl, h3, h4, h5⟩ | ⟨c, q, x, j, nv, ns2, h1, rfl, hc0, h3, h4, h5, h6, h7, h8⟩
    · obtain rfl := readP_end h1
      have hfl := readP_flat (by omega) h1
      have hrd := rxns_rd h4
      obtain ⟨na, nc, rfl, _⟩ := rdNodes hrd
      have CSZ := hid (specRxSize (w3.alloc (.cells #[.slice na ns.length nc] 49)) (Rd.later (ext_alloc w3 _) hrd) (by omega))
      have HRL := hid (show R = if 400 < ns.length ∨ 1000 < sizeOf' ns then ([], l.length, 7) else (ns, 0, 0) by rw [← hR]; unfold rdL; rw [h1])
      obtain ⟨⟨c0, c1, c2, c3, c4, c5⟩, ⟨y1, y2, y3, y4, y5⟩, hl3⟩ := blk6c h3
      have hll : ¬ (l.length : Int) < (l.length : Int) := by omega
      clear h3 h1 hR h4 hrd
      by_cases h400 : 400 < ns.length
      · have h400i : (400 : Int) < (ns.length : Int) := by omega
        have HF := hid (show R = ([], l.length, 7) by rw [HRL.out, if_pos (Or.inl h400)])
        obtain rfl := HF.out
        go_wp2
        refine bodyPost_ret (v := .tuple #[.agg #[.slice none 0 0], .int .i64 ((l.length : Nat) : Int), .int .i64 ((7 : Nat) : Int)]) (by simp [results, Tryz.results29, go_sem, *]) rfl ?_
        first | exact ⟨_, _, _, rfl, (HB3.out.setCell (p := ⟨w.heap.size, 0, none⟩) (Nat.le_refl _) _).alloc (by simp; omega) _⟩ | exact ⟨⟨_, _, _, rfl⟩, (HB3.out.setCell (p := ⟨w.heap.size, 0, none⟩) (Nat.le_refl _) _).alloc (by simp; omega) _⟩
      · have h400i : ¬ (400 : Int) < (ns.length : Int) := by omega
        go_wp2_with fail
        refine CSZ.out.mono ?_
        rintro e w5 ⟨rfl, hb5⟩
        have cx5 : w5.cell? ⟨w.heap.size, 0, none⟩ = some (.slice none 0 0) := (hb5.cell (p := ⟨w.heap.size, 0, none⟩) (by simp; omega)).trans (((ext_alloc w3 _).cell (p := ⟨w.heap.size, 0, none⟩) hws3).trans cx3)
        have zx5 : w5.frozen? ⟨w.heap.size, 0, none⟩ = false := (hb5.frozen (p := ⟨w.heap.size, 0, none⟩) (by simp; omega)).trans (((ext_alloc w3 _).frozen (p := ⟨w.heap.size, 0, none⟩) hws3).trans zx3)
        have bx5 : w5.cell? ⟨w3.heap.size, 0, none⟩ = some (.slice na ns.length nc) := (hb5.cell (p := ⟨w3.heap.size, 0, none⟩) (by simp)).trans (cell_of_row _ _ 0 _ _ _ (heap_alloc_new w3 _))
        have hB5 := hid (HB3.out.trans (((ext_alloc w3 (.cells #[.slice na ns.length nc] 49)).trans (hb5.mono (ext_alloc w3 _).size)).mono (by omega)))
        obtain ⟨sz, hsz⟩ : ∃ z, sizeOf' ns = z := ⟨_, rfl⟩
        rw [hsz] at HRL ⊢
        clear hsz hb5
        by_cases h1000 : 1000 < sz
        · have h1000i : (1000 : Int) < (sz : Int) := by omega
          have HF := hid (show R = ([], l.length, 7) by rw [HRL.out, if_pos (Or.inr h1000)])
          obtain rfl := HF.out
          go_wp2
          refine bodyPost_ret (v := .tuple #[.agg #[.slice none 0 0], .int .i64 ((l.length : Nat) : Int), .int .i64 ((7 : Nat) : Int)]) (by simp [results, Tryz.results29, go_sem, *]) rfl ?_
          first | exact ⟨_, _, _, rfl, hB5.out.setCell (p := ⟨w.heap.size, 0, none⟩) (Nat.le_refl _) _⟩ | exact ⟨⟨_, _, _, rfl⟩, hB5.out.setCell (p := ⟨w.heap.size, 0, none⟩) (Nat.le_refl _) _⟩
        · have h1000i : ¬ (1000 : Int) < (sz : Int) := by omega
          have HF := hid (show R = (ns, 0, 0) by rw [HRL.out, if_neg (by omega)])
          obtain rfl := HF.out
          go_wp2
          refine bodyPost_ret (v := .tuple #[.agg #[.slice na ns.length nc], .int .i64 ((0 : Nat) : Int), .int .i64 ((0 : Nat) : Int)]) (by simp [results, Tryz.results29, go_sem, *]) rfl ?_
          first | exact ⟨_, _, _, rfl, hB5.out.setCell (p := ⟨w.heap.size, 0, none⟩) (Nat.le_refl _) _⟩ | exact ⟨⟨_, _, _, rfl⟩, hB5.out.setCell (p := ⟨w.heap.size, 0, none⟩) (Nat.le_refl _) _⟩
    · have HF := hid (show R = ([], q, c) by rw [← hR]; unfold rdL; rw [h1])
      obtain ⟨⟨c0, c1, c2, c3, c4, c5⟩, ⟨y1, y2, y3, y4, y5⟩, hl3⟩ := blk6c h3
      have hz1 : ((c : Int) == 0) = false := by rw [beq_eq_false_iff_ne]; omega
      have hz2 : ¬ (c : Int) = 0 := by omega
      have hz3 : ((c : Int) != 0) = true := by rw [bne_iff_ne]; omega
      clear h3 h1 hR
      obtain rfl := HF.out
      go_wp2_with fail
      go_region
      go_wp2
      refine bodyPost_ret (v := .tuple #[.agg #[.slice none 0 0], .int .i64 ((q : Nat) : Int), .int .i64 ((c : Nat) : Int)]) (by simp [results, Tryz.results29, go_sem, *]) rfl ?_
      first | exact ⟨_, _, _, rfl, (HB3.out.drew).setCell (p := ⟨w.heap.size, 0, none⟩) (Nat.le_refl _) _⟩ | exact ⟨⟨_, _, _, rfl⟩, (HB3.out.drew).setCell (p := ⟨w.heap.size, 0, none⟩) (Nat.le_refl _) _⟩
set_option maxHeartbeats 16000000 in
theorem specRxRead (s : ByteArray) (w : World) :
    Calls Tryz.prog 78 #[.string s] w fun e w' => ∃ (na : Option Addr) (n nc : Nat), e = .returned (.tuple #[.agg #[.slice na n nc], .int .i64 (((rdP 200 s).2.1 : Nat) : Int), .int .i64 (((rdP 200 s).2.2 : Nat) : Int)]) ∧ Below w.heap.size w w' := by
  have CL := hid (specL05Read 200 (by decide) s (w.alloc (.cells #[.slice none 0 0] 49)))
  obtain ⟨R, hR⟩ : ∃ r, rdP 200 s = r := ⟨_, rfl⟩
  rw [hR] at CL ⊢
  clear hR
  go_enter Tryz.func78, Tryz.ntmps78
  go_wp2_with fail
  refine CL.out.mono ?_
  rintro e w1 ⟨na, n, nc, rfl, hb1⟩
  have hx1 : w1.heap[w.heap.size]? = some (.cells #[.slice none 0 0] 49 (0, 0)) := (hb1.block w.heap.size (by simp)).trans (heap_alloc_new w _)
  have cx : w1.cell? ⟨w.heap.size, 0, none⟩ = some (.slice none 0 0) := cell_of_row _ _ 0 _ _ _ hx1
  have zx : w1.frozen? ⟨w.heap.size, 0, none⟩ = false := frozen_of_row _ _ 0 _ _ hx1
  have hB1 := hid ((ext_alloc w (.cells #[.slice none 0 0] 49)).trans (hb1.mono (ext_alloc w _).size))
  clear hx1 hb1
  go_wp2
  refine bodyPost_ret (v := .tuple #[.agg #[.slice na n nc], .int .i64 ((R.2.1 : Nat) : Int), .int .i64 ((R.2.2 : Nat) : Int)]) (by simp [results, Tryz.results78, go_sem, *]) rfl ?_
  first | exact ⟨_, _, _, rfl, hB1.out.setCell (p := ⟨w.heap.size, 0, none⟩) (Nat.le_refl _) _⟩ | exact ⟨⟨_, _, _, rfl⟩, hB1.out.setCell (p := ⟨w.heap.size, 0, none⟩) (Nat.le_refl _) _⟩
end Go.Proofs.YtkmkencodcfloaaGreatDoor
