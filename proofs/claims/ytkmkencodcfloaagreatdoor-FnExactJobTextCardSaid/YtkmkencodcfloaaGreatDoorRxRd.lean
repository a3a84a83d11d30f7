/-
  What is proved here: the reading of a pattern's text in impl. The condition 'Tabs' says that the library's tables for UTF-8 lie in the world.
-/
import Derived.Test.YtkmkencodcfloaaGreatDoorRxI9
import Derived.Test.YtkmkencodcfloaaGreatDoorRxSzI
import Derived.Test.YtkmkencodcfloaaGreatDoorRxKB
import Derived.Test.YtkmkencodcfloaaGreatDoorRunesI
namespace Go.Proofs.YtkmkencodcfloaaGreatDoor
open Go.RowKit
set_option linter.unusedVariables false
set_option linter.unusedSimpArgs false

/-- what reading a pattern of at most so many code points answers: its nodes, a place, a code -/
noncomputable def rdL (l : List Nat) : List RxNode × Nat × Nat :=
  match readP l with
  | .er c p => ([], p, c)
  | .ok kid j ns => if 400 < ns.length ∨ 1000 < sizeOf' ns then ([], l.length, 7) else (ns, 0, 0)
noncomputable def rdP (most : Nat) (s : ByteArray) : List RxNode × Nat × Nat :=
  if textOk s.data.toList = false ∨ most < (runesN s.data.toList).length then ([], 0, 1) else rdL (runesN s.data.toList)
theorem runesN_pts (l : List UInt8) : (runesN l).length ≤ 1000 ∧ ∀ c ∈ runesN l, 1 ≤ c ∧ c ≤ 1114111 := by
  unfold runesN runes?
  split
  · rename_i h
    cases hr : runesAll l with
    | none => simp
    | some rs =>
      have h1 := runesAll_len l.length l rs rfl hr
      simp only [Option.getD_some]
      exact ⟨by omega, fun c hc => ⟨(h1.2.1 c hc).1, (h1.2.1 c hc).2.1⟩⟩
  · simp
theorem rxl_own {w : World} {B : Nat} {e : TypeId} {v : Value} {rs : List Nat} (h : w.ownsRow B e 1 v rs.length (intVals rs)) (hl : rs.length ≤ 1000) (hp : ∀ c ∈ rs, 1 ≤ c ∧ c ≤ 1114111) :
    ∃ a cap, v = .slice a rs.length cap ∧ RxL w w.heap.size a rs := by
  obtain ⟨a, cap, hv⟩ := row_shape h
  refine ⟨a, cap, hv, fun h0 => ?_, hl, hp⟩
  subst hv
  rcases h.2 with ⟨hv, h1⟩ | ⟨g, cap', cur, hv, hB, hg, _⟩
  · omega
  · simp only [Value.slice.injEq, true_and] at hv
    obtain ⟨rfl, rfl⟩ := hv
    refine ⟨g, 0, rfl, ?_, fun i hi => ?_⟩
    · exact (Array.getElem?_eq_some_iff.1 hg).1
    · have hx := h.cells (g := g) rfl i (.int .i64 (rs[i] : Int)) (by
        unfold intVals
        rw [List.getElem?_map, List.getElem?_eq_getElem hi]; rfl)
      simpa [Addr.add_lit] using hx
theorem readP_KB {l : List Nat} {kid j : Nat} {ns : List RxNode} (h : readP l = .ok kid j ns) : KB (l.length + 2) ns := by
  unfold readP at h
  cases ha : altsP l (grpP l 6) 0 [] with
  | er c p => rw [ha] at h; cases h
  | ok kid1 j1 ns1 =>
    have h1 := altsP_KB (grpP_in l 6) (grpP_KB l 6) 0 [] _ _ _ (Nat.zero_le _) (fun n hn => by cases hn) ha
    rw [ha] at h
    simp only at h
    split at h
    · cases h
    · injection h with h2 h3 h4
      subst h4
      exact h1
theorem readP_flat {l : List Nat} {kid j : Nat} {ns : List RxNode} (hl : l.length ≤ 1000) (h : readP l = .ok kid j ns) : ns.length ≤ 5000 ∧ (kidsOf ns).flatten.length ≤ 1000000000000 := by
  have h1 := (readP_in h).2
  have h2 := kidsOf_flat (readP_KB h)
  have h3 : ns.length * (l.length + 2) ≤ 5000 * 1002 := Nat.mul_le_mul (by omega) (by omega)
  exact ⟨by omega, by omega⟩
theorem rxns_rd {X : Nat → Prop} {g : Nat} {nv : Value} {w : World} {ns : List RxNode} (h : RxNs X g nv w ns) : Rd.rd (Old w) w [nv] ns := by
  obtain ⟨css, ho, he⟩ := h
  exact rd_own_at ho (he.mono (fun b hb => hb.2.1)) (fun b _ _ h2 => h2)
set_option maxHeartbeats 16000000 in
set_option maxRecDepth 100000 in
theorem implRxRead (s : ByteArray) (w : World) (hT : Tabs w) :
    Calls Tryz.prog 105 #[.string s] w fun e w' => ∃ (na : Option Addr) (n nc : Nat), e = .returned (.tuple #[.agg #[.slice na n nc], .int .i64 (((rdP 200 s).2.1 : Nat) : Int), .int .i64 (((rdP 200 s).2.2 : Nat) : Int)]) ∧ Below w.heap.size w w' := by
  have HRU := hid (implRunesOf s (w.alloc (.cells #[.slice none 0 0] 49)) (tabs_below hT (ext_alloc w _)))
  have HP := hid (runesN_pts s.data.toList)
  obtain ⟨R, hR⟩ : ∃ r, rdP 200 s = r := ⟨_, rfl⟩
  rw [hR]
  unfold rdP at hR
  obtain ⟨l, hl⟩ : ∃ l, runesN s.data.toList = l := ⟨_, rfl⟩
  obtain ⟨b, hb⟩ : ∃ b, textOk s.data.toList = b := ⟨_, rfl⟩
  rw [hl] at hR HRU HP
  rw [hb] at hR HRU
  clear hl hb hT
  go_enter Tryz.func105, Tryz.ntmps105
  go_wp2_with fail
  refine HRU.out.mono ?_
  rintro e w1 ⟨u, rfl, how, hb1⟩
  obtain ⟨a, cap, rfl, hRL⟩ := rxl_own how HP.out.1 HP.out.2
  have hB1 := (ext_alloc w (.cells #[.slice none 0 0] 49)).trans (hb1.mono (ext_alloc w _).size)
  have hx1 : w1.heap[w.heap.size]? = some (.cells #[.slice none 0 0] 49 (0, 0)) := (hb1.block w.heap.size (by simp)).trans (heap_alloc_new w _)
  have hws : w.heap.size < w1.heap.size := (Array.getElem?_eq_some_iff.1 hx1).1
  have cx : w1.cell? ⟨w.heap.size, 0, none⟩ = some (.slice none 0 0) := cell_of_row _ _ 0 _ _ _ hx1
  have zx : w1.frozen? ⟨w.heap.size, 0, none⟩ = false := frozen_of_row _ _ 0 _ _ hx1
  have HB1 := hid hB1
  have CRD := hid (implReadRx (cap := cap) w1 hRL)
  clear how hb1 hx1 hB1
  by_cases hbad : b = false ∨ 200 < l.length
  · rw [if_pos hbad] at hR
    subst hR
    cases b with
    | false =>
      go_wp2
      refine bodyPost_ret (v := .tuple #[.agg #[.slice none 0 0], .int .i64 ((0 : Nat) : Int), .int .i64 ((1 : Nat) : Int)]) (by simp [results, Tryz.results105, go_sem, *]) rfl ?_
      first | exact ⟨_, _, _, rfl, HB1.out.setCell (p := ⟨w.heap.size, 0, none⟩) (Nat.le_refl _) _⟩ | exact ⟨⟨_, _, _, rfl⟩, HB1.out.setCell (p := ⟨w.heap.size, 0, none⟩) (Nat.le_refl _) _⟩
    | true =>
      have hle : (200 : Int) < (l.length : Int) := by
        rcases hbad with h | h
        · cases h
        · omega
      have hle2 : 200 < l.length := by omega
      go_wp2
      refine bodyPost_ret (v := .tuple #[.agg #[.slice none 0 0], .int .i64 ((0 : Nat) : Int), .int .i64 ((1 : Nat) : Int)]) (by simp [results, Tryz.results105, go_sem, *]) rfl ?_
      first | exact ⟨_, _, _, rfl, HB1.out.setCell (p := ⟨w.heap.size, 0, none⟩) (Nat.le_refl _) _⟩ | exact ⟨⟨_, _, _, rfl⟩, HB1.out.setCell (p := ⟨w.heap.size, 0, none⟩) (Nat.le_refl _) _⟩
  · rw [if_neg hbad] at hR
    simp only [not_or, Bool.not_eq_false] at hbad
    obtain ⟨rfl, hlen⟩ := hbad
    have hle : ¬ (200 : Int) < (l.length : Int) := by omega
    unfold readE at CRD
    go_wp2_with fail
    refine CRD.out.mono ?_
    rintro e w3 ⟨he, hb3⟩
    rcases he with ⟨kid, j, ns, nv, h1, rfl, h3, h4⟩ | ⟨c, j, d', nv, h1, rfl, hc0, h3⟩
    · have hfl := readP_flat (by omega) h1
      have hrd := rxns_rd h4
      obtain ⟨na, nc, rfl, _⟩ := rdNodes hrd
      have CSZ := hid (implRxSize (w3.alloc (.cells #[.slice na ns.length nc] 49)) (Rd.later (ext_alloc w3 _) hrd) (by omega) hfl.2)
      have HRL := hid (show R = if 400 < ns.length ∨ 1000 < sizeOf' ns then ([], l.length, 7) else (ns, 0, 0) by rw [← hR]; unfold rdL; rw [h1])
      obtain ⟨c0, c1, c2, c3, y0, y1, y2, y3, hl3⟩ := blk4 h3
      have cx3 : w3.cell? ⟨w.heap.size, 0, none⟩ = some (.slice none 0 0) := (hb3.cell (p := ⟨w.heap.size, 0, none⟩) hws).trans cx
      have zx3 : w3.frozen? ⟨w.heap.size, 0, none⟩ = false := (hb3.frozen (p := ⟨w.heap.size, 0, none⟩) hws).trans zx
      have hws3 : w.heap.size < w3.heap.size := Nat.lt_of_lt_of_le hws hb3.size
      have hwn3 : ¬ w.heap.size = w3.heap.size := by omega
      have hwn4 : ¬ w3.heap.size = w.heap.size := by omega
      have hgn : ¬ w1.heap.size = w.heap.size := by omega
      have hgn2 : ¬ w.heap.size = w1.heap.size := by omega
      have hB3 := HB1.out.trans (hb3.mono HB1.out.size)
      have HB3 := hid hB3
      clear h3 h1 hR h4 hrd hB3
      by_cases h400 : 400 < ns.length
      · have h400i : (400 : Int) < (ns.length : Int) := by omega
        have HF := hid (show R = ([], l.length, 7) by rw [HRL.out, if_pos (Or.inl h400)])
        obtain rfl := HF.out
        go_wp2
        refine bodyPost_ret (v := .tuple #[.agg #[.slice none 0 0], .int .i64 ((l.length : Nat) : Int), .int .i64 ((7 : Nat) : Int)]) (by simp [results, Tryz.results105, go_sem, *]) rfl ?_
        first | exact ⟨_, _, _, rfl, (HB3.out.setCell (p := ⟨w.heap.size, 0, none⟩) (Nat.le_refl _) _).alloc (by simp; omega) _⟩ | exact ⟨⟨_, _, _, rfl⟩, (HB3.out.setCell (p := ⟨w.heap.size, 0, none⟩) (Nat.le_refl _) _).alloc (by simp; omega) _⟩
      · have h400i : ¬ (400 : Int) < (ns.length : Int) := by omega
        go_wp2_with fail
        refine CSZ.out.mono ?_
        rintro e w5 ⟨rfl, hb5⟩
        have cx5 : w5.cell? ⟨w.heap.size, 0, none⟩ = some (.slice none 0 0) := (hb5.cell (p := ⟨w.heap.size, 0, none⟩) (by simp; omega)).trans (((ext_alloc w3 _).cell (p := ⟨w.heap.size, 0, none⟩) hws3).trans cx3)
        have zx5 : w5.frozen? ⟨w.heap.size, 0, none⟩ = false := (hb5.frozen (p := ⟨w.heap.size, 0, none⟩) (by simp; omega)).trans (((ext_alloc w3 _).frozen (p := ⟨w.heap.size, 0, none⟩) hws3).trans zx3)
        have bx5 : w5.cell? ⟨w3.heap.size, 0, none⟩ = some (.slice na ns.length nc) := (hb5.cell (p := ⟨w3.heap.size, 0, none⟩) (by simp)).trans (cell_of_row _ _ 0 _ _ _ (heap_alloc_new w3 _))
        have hB5 := hid (HB3.out.trans (((ext_alloc w3 (.cells #[.slice na ns.length nc] 49)).trans (hb5.mono (ext_alloc w3 _).size)).mono (by omega)))
        obtain ⟨sz, hsz⟩ : ∃ z, sizeOf' ns = z := ⟨_, rfl⟩
        rw [hsz] at HRL ⊢
        clear hsz hb5
        by_cases h1000 : 1000 < sz
        · have h1000i : (1000 : Int) < (sz : Int) := by omega
          have HF := hid (show R = ([], l.length, 7) by rw [HRL.out, if_pos (Or.inr h1000)])
          obtain rfl := HF.out
          go_wp2
          refine bodyPost_ret (v := .tuple #[.agg #[.slice none 0 0], .int .i64 ((l.length : Nat) : Int), .int .i64 ((7 : Nat) : Int)]) (by simp [results, Tryz.results105, go_sem, *]) rfl ?_
          first | exact ⟨_, _, _, rfl, hB5.out.setCell (p := ⟨w.heap.size, 0, none⟩) (Nat.le_refl _) _⟩ | exact ⟨⟨_, _, _, rfl⟩, hB5.out.setCell (p := ⟨w.heap.size, 0, none⟩) (Nat.le_refl _) _⟩
        · have h1000i : ¬ (1000 : Int) < (sz : Int) := by omega
          have HF := hid (show R = (ns, 0, 0) by rw [HRL.out, if_neg (by omega)])
          obtain rfl := HF.out
          go_wp2
          refine bodyPost_ret (v := .tuple #[.agg #[.slice na ns.length nc], .int .i64 ((0 : Nat) : Int), .int .i64 ((0 : Nat) : Int)]) (by simp [results, Tryz.results105, go_sem, *]) rfl ?_
          first | exact ⟨_, _, _, rfl, hB5.out.setCell (p := ⟨w.heap.size, 0, none⟩) (Nat.le_refl _) _⟩ | exact ⟨⟨_, _, _, rfl⟩, hB5.out.setCell (p := ⟨w.heap.size, 0, none⟩) (Nat.le_refl _) _⟩
    · have HF := hid (show R = ([], j, c) by rw [← hR]; unfold rdL; rw [h1])
      obtain ⟨c0, c1, c2, c3, y0, y1, y2, y3, hl3⟩ := blk4 h3
      have cx3 : w3.cell? ⟨w.heap.size, 0, none⟩ = some (.slice none 0 0) := (hb3.cell (p := ⟨w.heap.size, 0, none⟩) hws).trans cx
      have zx3 : w3.frozen? ⟨w.heap.size, 0, none⟩ = false := (hb3.frozen (p := ⟨w.heap.size, 0, none⟩) hws).trans zx
      have hz1 : ((c : Int) == 0) = false := by rw [beq_eq_false_iff_ne]; omega
      have hz2 : ¬ (c : Int) = 0 := by omega
      have hz3 : ((c : Int) != 0) = true := by rw [bne_iff_ne]; omega
      have hgn : ¬ w1.heap.size = w.heap.size := by omega
      have hgn2 : ¬ w.heap.size = w1.heap.size := by omega
      clear h3 h1 hR
      go_wp2_with fail
      obtain rfl := HF.out
      go_region
      go_wp2
      refine bodyPost_ret (v := .tuple #[.agg #[.slice none 0 0], .int .i64 ((j : Nat) : Int), .int .i64 ((c : Nat) : Int)]) (by simp [results, Tryz.results105, go_sem, *]) rfl ?_
      first | exact ⟨_, _, _, rfl, ((HB1.out.trans (hb3.mono HB1.out.size)).drew).setCell (p := ⟨w.heap.size, 0, none⟩) (Nat.le_refl _) _⟩ | exact ⟨⟨_, _, _, rfl⟩, ((HB1.out.trans (hb3.mono HB1.out.size)).drew).setCell (p := ⟨w.heap.size, 0, none⟩) (Nat.le_refl _) _⟩
end Go.Proofs.YtkmkencodcfloaaGreatDoor
