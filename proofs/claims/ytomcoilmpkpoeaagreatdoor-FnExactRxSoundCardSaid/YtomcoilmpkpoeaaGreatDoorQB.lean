/-
  What is proved here: how many kids a node of a pattern that is read may have. No program in sight; no condition.
  What is proved here: the reading of a pattern's text in impl. The condition 'Tabs' says that the library's tables for UTF-8 lie in the world.
  What is proved here: the reading of a pattern's text in the reference. No condition.
  What is proved here: the reading of a pattern's text in the reference, with the nodes that it gives. No condition.
  What is proved here: slices.Equal at ints. No condition.
  What is proved here: the comparison of two nodes in the code. No condition.
  What is proved here: slices.EqualFunc at nodes. No condition.
  What is proved here: the comparison of two patterns in the reference. No condition.
  What is proved here: RxSound in both packages. The conditions: 'Tabs' and 'PT' speak of the library's tables; sizes.
-/
import Derived.Test.YtomcoilmpkpoeaaGreatDoorQA
import Derived.Test.YtomcoilmpkpoeaaGreatDoorQRxI9
import Derived.Test.YtomcoilmpkpoeaaGreatDoorQRxSzI
import Derived.Test.YtomcoilmpkpoeaaGreatDoorQRunesI
import Derived.Test.YtomcoilmpkpoeaaGreatDoorQC
import Derived.Test.YtomcoilmpkpoeaaGreatDoorQRxSzT
import Derived.Test.YtomcoilmpkpoeaaGreatDoorQRxTS1
import Derived.Test.YtomcoilmpkpoeaaGreatDoorQRxS1
import Derived.Test.YtomcoilmpkpoeaaGreatDoorQRxTS2
namespace Go.Proofs.YtomcoilmpkpoeaaGreatDoor
open Go.RowKit
set_option linter.unusedVariables false
set_option linter.unusedSimpArgs false

def KB (B : Nat) (ns : List RxNode) : Prop := ∀ n ∈ ns, n.kids.length ≤ B
def KFwd (l : List Nat) (p : Nat → List RxNode → RR) : Prop := ∀ i ns kid j ns1, i ≤ l.length → KB (l.length + 2) ns → p i ns = .ok kid j ns1 → KB (l.length + 2) ns1
theorem KB.snoc {B : Nat} {ns : List RxNode} {n : RxNode} (h : KB B ns) (hn : n.kids.length ≤ B) : KB B (ns ++ [n]) := by
  intro x hx
  rcases List.mem_append.1 hx with hx | hx
  · exact h x hx
  · rw [List.mem_singleton.1 hx]; exact hn
theorem putR_KB {B : Nat} {n : RxNode} {i kid j : Nat} {ns ns1 : List RxNode} (h : KB B ns) (hn : n.kids.length ≤ B) (hp : putR n i ns = .ok kid j ns1) : KB B ns1 := by
  obtain ⟨_, _, rfl⟩ := putR_in hp
  exact h.snoc hn
theorem bracketP_KB (l : List Nat) : KFwd l (bracketP l) := by
  intro i ns kid j ns1 hi hk h
  unfold bracketP at h
  split at h
  · cases h
  · exact putR_KB hk (by simp) h
theorem atomP_KB {l : List Nat} {grp : Nat → List RxNode → RR} (hg : KFwd l grp) : KFwd l (atomP l grp) := by
  intro i ns kid j ns1 hi hk h
  unfold atomP at h
  split at h
  · exact hg i ns kid j ns1 hi hk h
  split at h
  · exact bracketP_KB l i ns kid j ns1 hi hk h
  split at h
  · split at h
    · cases h
    · exact putR_KB hk (by simp) h
  split at h
  all_goals exact putR_KB hk (by simp) h
theorem pieceP_KB {l : List Nat} {grp : Nat → List RxNode → RR} (hg : KFwd l grp) : KFwd l (pieceP l grp) := by
  intro i ns kid j ns1 hi hk h
  unfold pieceP at h
  split at h
  · cases h
  split at h
  · cases h
  · rename_i kid1 j1 ns2 ha
    have h1 := atomP_KB hg i ns _ _ _ hi hk ha
    split at h
    · split at h
      · cases h
      · split at h
        · cases h
        · exact putR_KB h1 (by simp) h
    · injection h with a b c
      subst c
      exact h1
theorem endRow_KB {B : Nat} {kids : List Nat} {i kid j : Nat} {ns ns1 : List RxNode} (hk : KB B ns) (hl : kids.length ≤ B) (h : endRow kids i ns = .ok kid j ns1) : KB B ns1 := by
  unfold endRow at h
  split at h
  · exact putR_KB hk (by simp) h
  · injection h with a b c
    subst c
    exact hk
  · exact putR_KB hk (by simpa [ints] using hl) h
theorem endAlt_KB {B : Nat} {kids : List Nat} {i kid j : Nat} {ns ns1 : List RxNode} (hk : KB B ns) (hl : kids.length ≤ B) (h : endAlt kids i ns = .ok kid j ns1) : KB B ns1 := by
  unfold endAlt at h
  split at h
  · cases h
  · injection h with a b c
    subst c
    exact hk
  · exact putR_KB hk (by simpa [ints] using hl) h
theorem rowGo_KB {l : List Nat} {grp : Nat → List RxNode → RR} (hf : Fwd1 l grp) (hg : KFwd l grp) : ∀ f i ns kids kid j ns1, i ≤ l.length → kids.length ≤ i → KB (l.length + 2) ns → rowGo l grp f i ns kids = .ok kid j ns1 → KB (l.length + 2) ns1
  | 0, _, _, _, _, _, _, _, _, _, h => by cases h
  | f + 1, i, ns, kids, kid, j, ns1, hi, hl, hk, h => by
    rw [rowGo] at h
    split at h
    · exact endRow_KB hk (by omega) h
    · rename_i hs
      split at h
      · cases h
      · rename_i kid1 j1 ns2 hp
        have h1 := pieceP_in hf i ns _ _ _ (gN_lt (fun h0 => hs (Or.inl h0))) hp
        exact rowGo_KB hf hg f j1 ns2 (kids ++ [kid1]) kid j ns1 h1.2.1 (by rw [List.length_append]; show kids.length + 1 ≤ j1; omega) (pieceP_KB hg i ns _ _ _ hi hk hp) h
theorem rowP_KB {l : List Nat} {grp : Nat → List RxNode → RR} (hf : Fwd1 l grp) (hg : KFwd l grp) : KFwd l (rowP l grp) := fun i ns kid j ns1 hi hk h => rowGo_KB hf hg _ i ns [] kid j ns1 hi (Nat.zero_le _) hk h
theorem altsGo_KB {l : List Nat} {grp : Nat → List RxNode → RR} (hf : Fwd1 l grp) (hg : KFwd l grp) : ∀ f i ns kids kid j ns1, i ≤ l.length → kids.length ≤ i → KB (l.length + 2) ns → altsGo l grp f i ns kids = .ok kid j ns1 → KB (l.length + 2) ns1
  | 0, _, _, _, _, _, _, _, _, _, h => by cases h
  | f + 1, i, ns, kids, kid, j, ns1, hi, hl, hk, h => by
    rw [altsGo] at h
    split at h
    · cases h
    · rename_i kid1 j1 ns2 hp
      have h1 := rowP_in hf hi hp
      have h2 := rowP_KB hf hg i ns _ _ _ hi hk hp
      split at h
      · rename_i hb
        have hj := gN_lt (l := l) (i := j1) (by omega)
        exact altsGo_KB hf hg f (j1 + 1) ns2 (kids ++ [kid1]) kid j ns1 (by omega) (by rw [List.length_append]; show kids.length + 1 ≤ j1 + 1; omega) h2 h
      · exact endAlt_KB h2 (by rw [List.length_append]; show kids.length + 1 ≤ l.length + 2; omega) h
theorem altsP_KB {l : List Nat} {grp : Nat → List RxNode → RR} (hf : Fwd1 l grp) (hg : KFwd l grp) : KFwd l (altsP l grp) := fun i ns kid j ns1 hi hk h => altsGo_KB hf hg _ i ns [] kid j ns1 hi (Nat.zero_le _) hk h
theorem grpP_KB (l : List Nat) : ∀ v, KFwd l (grpP l v)
  | 0 => fun i ns kid j ns1 _ _ h => by cases h
  | v + 1 => fun i ns kid j ns1 hi hk h => by
    rw [grpP] at h
    split at h
    · cases h
    · rename_i kid1 j1 ns2 hp
      split at h
      · injection h with a b c
        subst c
        rcases Nat.lt_or_ge i l.length with hil | hil
        · exact altsP_KB (grpP_in l v) (grpP_KB l v) (i + 1) ns _ _ _ (by omega) hk hp
        · exfalso
          rename_i h41
          unfold altsP at hp
          rw [show l.length + 1 - (i + 1) = 0 by omega] at hp
          cases hp
      · cases h
theorem flat_le {B : Nat} : ∀ ks : List (List Int), (∀ k ∈ ks, k.length ≤ B) → ks.flatten.length ≤ ks.length * B
  | [], _ => by simp
  | k :: r, h => by
    have h1 := h k (by simp)
    have h2 := flat_le r (fun k hk => h k (by simp [hk]))
    simp only [List.flatten_cons, List.length_append, List.length_cons, Nat.add_mul, Nat.one_mul]
    omega
theorem kidsOf_flat {B : Nat} {ns : List RxNode} (h : KB B ns) : (kidsOf ns).flatten.length ≤ ns.length * B := by
  have := flat_le (B := B) (kidsOf ns) (fun k hk => by
    obtain ⟨n, hn, rfl⟩ := List.mem_map.1 hk
    exact h n hn)
  simpa [kidsOf] using this
end Go.Proofs.YtomcoilmpkpoeaaGreatDoor

namespace Go.Proofs.YtomcoilmpkpoeaaGreatDoor
open Go.RowKit
set_option linter.unusedVariables false
set_option linter.unusedSimpArgs false

/-- what reading a pattern of at most so many code points answers: its nodes, a place, a code -/
noncomputable def rdL (l : List Nat) : List RxNode × Nat × Nat :=
  match readP l with
  | .er c p => ([], p, c)
  | .ok kid j ns => if 400 < ns.length ∨ 1000 < sizeOf' ns then ([], l.length, 7) else (ns, 0, 0)
noncomputable def rdP (most : Nat) (s : ByteArray) : List RxNode × Nat × Nat :=
  if textOk s.data.toList = false ∨ most < (runesN s.data.toList).length then ([], 0, 1) else rdL (runesN s.data.toList)
theorem runesN_pts (l : List UInt8) : (runesN l).length ≤ 1000 ∧ ∀ c ∈ runesN l, 1 ≤ c ∧ c ≤ 1114111 := by
  unfold runesN runes?
  split
  · rename_i h
    cases hr : runesAll l with
    | none => simp
    | some rs =>
      have h1 := runesAll_len l.length l rs rfl hr
      simp only [Option.getD_some]
      exact ⟨by omega, fun c hc => ⟨(h1.2.1 c hc).1, (h1.2.1 c hc).2.1⟩⟩
  · simp
theorem rxl_own {w : World} {B : Nat} {e : TypeId} {v : Value} {rs : List Nat} (h : w.ownsRow B e 1 v rs.length (intVals rs)) (hl : rs.length ≤ 1000) (hp : ∀ c ∈ rs, 1 ≤ c ∧ c ≤ 1114111) :
    ∃ a cap, v = .slice a rs.length cap ∧ RxL w w.heap.size a rs := by
  obtain ⟨a, cap, hv⟩ := row_shape h
  refine ⟨a, cap, hv, fun h0 => ?_, hl, hp⟩
  subst hv
  rcases h.2 with ⟨hv, h1⟩ | ⟨g, cap', cur, hv, hB, hg, _⟩
  · omega
  · simp only [Value.slice.injEq, true_and] at hv
    obtain ⟨rfl, rfl⟩ := hv
    refine ⟨g, 0, rfl, ?_, fun i hi => ?_⟩
    · exact (Array.getElem?_eq_some_iff.1 hg).1
    · have hx := h.cells (g := g) rfl i (.int .i64 (rs[i] : Int)) (by
        unfold intVals
        rw [List.getElem?_map, List.getElem?_eq_getElem hi]; rfl)
      simpa [Addr.add_lit] using hx
theorem readP_KB {l : List Nat} {kid j : Nat} {ns : List RxNode} (h : readP l = .ok kid j ns) : KB (l.length + 2) ns := by
  unfold readP at h
  cases ha : altsP l (grpP l 6) 0 [] with
  | er c p => rw [ha] at h; cases h
  | ok kid1 j1 ns1 =>
    have h1 := altsP_KB (grpP_in l 6) (grpP_KB l 6) 0 [] _ _ _ (Nat.zero_le _) (fun n hn => by cases hn) ha
    rw [ha] at h
    simp only at h
    split at h
    · cases h
    · injection h with h2 h3 h4
      subst h4
      exact h1
theorem readP_flat {l : List Nat} {kid j : Nat} {ns : List RxNode} (hl : l.length ≤ 1000) (h : readP l = .ok kid j ns) : ns.length ≤ 5000 ∧ (kidsOf ns).flatten.length ≤ 1000000000000 := by
  have h1 := (readP_in h).2
  have h2 := kidsOf_flat (readP_KB h)
  have h3 : ns.length * (l.length + 2) ≤ 5000 * 1002 := Nat.mul_le_mul (by omega) (by omega)
  exact ⟨by omega, by omega⟩
theorem rxns_rd {X : Nat → Prop} {g : Nat} {nv : Value} {w : World} {ns : List RxNode} (h : RxNs X g nv w ns) : Rd.rd (Old w) w [nv] ns := by
  obtain ⟨css, ho, he⟩ := h
  exact rd_own_at ho (he.mono (fun b hb => hb.2.1)) (fun b _ _ h2 => h2)
end Go.Proofs.YtomcoilmpkpoeaaGreatDoor

namespace Go.Proofs.YtomcoilmpkpoeaaGreatDoor
open Go.RowKit
set_option linter.unusedVariables false
set_option linter.unusedSimpArgs false

set_option maxHeartbeats 16000000 in
set_option maxRecDepth 100000 in
theorem specL05Read (most : Nat) (hmost : most ≤ 1000) (s : ByteArray) (w : World) :
    Calls Tryz.prog 31 #[.string s, .int .i64 ((most : Nat) : Int)] w fun e w' => ∃ (na : Option Addr) (n nc : Nat), e = .returned (.tuple #[.agg #[.slice na n nc], .int .i64 (((rdP most s).2.1 : Nat) : Int), .int .i64 (((rdP most s).2.2 : Nat) : Int)]) ∧ Below w.heap.size w w' := by
  have HRU := hid (specRunes s (w.alloc (.cells #[.slice none 0 0] 29)))
  have HP := hid (runesN_pts s.data.toList)
  obtain ⟨R, hR⟩ : ∃ r, rdP most s = r := ⟨_, rfl⟩
  rw [hR]
  unfold rdP at hR
  obtain ⟨l, hl⟩ : ∃ l, runesN s.data.toList = l := ⟨_, rfl⟩
  obtain ⟨b, hb⟩ : ∃ b, textOk s.data.toList = b := ⟨_, rfl⟩
  rw [hl] at hR HRU HP
  rw [hb] at hR HRU
  clear hl hb
  go_enter Tryz.func31, Tryz.ntmps31
  go_wp2_with fail
  refine HRU.out.mono ?_
  rintro e w1 ⟨u, rfl, how, hb1⟩
  obtain ⟨a, cap, rfl, hRL⟩ := rxl_own how HP.out.1 HP.out.2
  have hB1 := (ext_alloc w (.cells #[.slice none 0 0] 29)).trans (hb1.mono (ext_alloc w _).size)
  have hx1 : w1.heap[w.heap.size]? = some (.cells #[.slice none 0 0] 29 (0, 0)) := (hb1.block w.heap.size (by simp)).trans (heap_alloc_new w _)
  have hws : w.heap.size < w1.heap.size := (Array.getElem?_eq_some_iff.1 hx1).1
  have cx : w1.cell? ⟨w.heap.size, 0, none⟩ = some (.slice none 0 0) := cell_of_row _ _ 0 _ _ _ hx1
  have zx : w1.frozen? ⟨w.heap.size, 0, none⟩ = false := frozen_of_row _ _ 0 _ _ hx1
  have HB1 := hid hB1
  have hbk : (w1.alloc (.cells #[.slice a l.length cap, .int .i64 ((0 : Nat) : Int), .int .i64 ((0 : Nat) : Int), .int .i64 ((0 : Nat) : Int), .int .i64 ((0 : Nat) : Int), .slice none 0 0] 87)).heap[w1.heap.size]? = some (.cells #[.slice a l.length cap, .int .i64 ((0 : Nat) : Int), .int .i64 ((0 : Nat) : Int), .int .i64 ((0 : Nat) : Int), .int .i64 ((0 : Nat) : Int), .slice none 0 0] 87 (0, 0)) := heap_alloc_new _ _
  have CRD := hid (specAltsTop (g := w1.heap.size) (cap := cap) (a := a) (l := l) (fun _ => False) _ 0 (.slice none 0 0) [] (fun _ h => h.elim) hbk (hRL.below (ext_alloc w1 _)) (by omega) ⟨[], ⟨rfl, Or.inl ⟨rfl, rfl⟩⟩, rfl, fun i h => absurd h (by simp)⟩ (by simp))
  rw [readP_top HP.out.2] at CRD
  have hk0 : Below w1.heap.size w1 (w1.alloc (.cells #[.slice a l.length cap, .int .i64 ((0 : Nat) : Int), .int .i64 ((0 : Nat) : Int), .int .i64 ((0 : Nat) : Int), .int .i64 ((0 : Nat) : Int), .slice none 0 0] 87)) := ext_alloc w1 _
  have HK0 := hid hk0
  have HS := hid (show w1.heap.size < (w1.alloc (.cells #[.slice a l.length cap, .int .i64 ((0 : Nat) : Int), .int .i64 ((0 : Nat) : Int), .int .i64 ((0 : Nat) : Int), .int .i64 ((0 : Nat) : Int), .slice none 0 0] 87)).heap.size by simp)
  clear how hb1 hx1 hB1 hbk hk0
  by_cases hbad : b = false ∨ most < l.length
  · rw [if_pos hbad] at hR
    subst hR
    cases b with
    | false =>
      go_wp2
      refine bodyPost_ret (v := .tuple #[.agg #[.slice none 0 0], .int .i64 ((0 : Nat) : Int), .int .i64 ((1 : Nat) : Int)]) (by simp [results, Tryz.results31, go_sem, *]) rfl ?_
      first | exact ⟨_, _, _, rfl, HB1.out.setCell (p := ⟨w.heap.size, 0, none⟩) (Nat.le_refl _) _⟩ | exact ⟨⟨_, _, _, rfl⟩, HB1.out.setCell (p := ⟨w.heap.size, 0, none⟩) (Nat.le_refl _) _⟩
    | true =>
      have hle : ((most : Nat) : Int) < (l.length : Int) := by
        rcases hbad with h | h
        · cases h
        · omega
      have hle2 : most < l.length := by omega
      go_wp2
      refine bodyPost_ret (v := .tuple #[.agg #[.slice none 0 0], .int .i64 ((0 : Nat) : Int), .int .i64 ((1 : Nat) : Int)]) (by simp [results, Tryz.results31, go_sem, *]) rfl ?_
      first | exact ⟨_, _, _, rfl, HB1.out.setCell (p := ⟨w.heap.size, 0, none⟩) (Nat.le_refl _) _⟩ | exact ⟨⟨_, _, _, rfl⟩, HB1.out.setCell (p := ⟨w.heap.size, 0, none⟩) (Nat.le_refl _) _⟩
  · rw [if_neg hbad] at hR
    simp only [not_or, Bool.not_eq_false] at hbad
    obtain ⟨rfl, hlen⟩ := hbad
    have hle : ¬ ((most : Nat) : Int) < (l.length : Int) := by omega
    unfold NodeS at CRD
    go_wp2_with fail
    refine CRD.out.mono ?_
    rintro e w3 ⟨he, hk3⟩
    have hb3 : Below w1.heap.size w1 w3 := HK0.out.trans (hk3.below (Nat.le_of_lt HS.out) (fun b e => by cases e))
    have cx3 : w3.cell? ⟨w.heap.size, 0, none⟩ = some (.slice none 0 0) := (hb3.cell (p := ⟨w.heap.size, 0, none⟩) hws).trans cx
    have zx3 : w3.frozen? ⟨w.heap.size, 0, none⟩ = false := (hb3.frozen (p := ⟨w.heap.size, 0, none⟩) hws).trans zx
    have hws3 : w.heap.size < w3.heap.size := Nat.lt_of_lt_of_le hws hb3.size
    have hwn3 : ¬ w.heap.size = w3.heap.size := by omega
    have hwn4 : ¬ w3.heap.size = w.heap.size := by omega
    have hgn : ¬ w1.heap.size = w.heap.size := by omega
    have hgn2 : ¬ w.heap.size = w1.heap.size := by omega
    have hB3 := HB1.out.trans (hb3.mono HB1.out.size)
    have HB3 := hid hB3
    have hlen9 := HP.out.1
    clear hB3 hb3
    rcases he with ⟨kid, j, ns, nv, h1, rfl, h3, h4, h5⟩ | ⟨c, q, x, j, nv, ns2, h1, rfl, hc0, h3, h4, h5, h6, h7, h8⟩
    · obtain rfl := readP_end h1
      have hfl := readP_flat (by omega) h1
      have hrd := rxns_rd h4
      obtain ⟨na, nc, rfl, _⟩ := rdNodes hrd
      have CSZ := hid (specRxSize (w3.alloc (.cells #[.slice na ns.length nc] 29)) (Rd.later (ext_alloc w3 _) hrd) (by omega))
      have HRL := hid (show R = if 400 < ns.length ∨ 1000 < sizeOf' ns then ([], l.length, 7) else (ns, 0, 0) by rw [← hR]; unfold rdL; rw [h1])
      obtain ⟨⟨c0, c1, c2, c3, c4, c5⟩, ⟨y1, y2, y3, y4, y5⟩, hl3⟩ := blk6c h3
      have hll : ¬ (l.length : Int) < (l.length : Int) := by omega
      clear h3 h1 hR h4 hrd
      by_cases h400 : 400 < ns.length
      · have h400i : (400 : Int) < (ns.length : Int) := by omega
        have HF := hid (show R = ([], l.length, 7) by rw [HRL.out, if_pos (Or.inl h400)])
        obtain rfl := HF.out
        go_wp2
        refine bodyPost_ret (v := .tuple #[.agg #[.slice none 0 0], .int .i64 ((l.length : Nat) : Int), .int .i64 ((7 : Nat) : Int)]) (by simp [results, Tryz.results31, go_sem, *]) rfl ?_
        first | exact ⟨_, _, _, rfl, (HB3.out.setCell (p := ⟨w.heap.size, 0, none⟩) (Nat.le_refl _) _).alloc (by simp; omega) _⟩ | exact ⟨⟨_, _, _, rfl⟩, (HB3.out.setCell (p := ⟨w.heap.size, 0, none⟩) (Nat.le_refl _) _).alloc (by simp; omega) _⟩
      · have h400i : ¬ (400 : Int) < (ns.length : Int) := by omega
        go_wp2_with fail
        refine CSZ.out.mono ?_
        rintro e w5 ⟨rfl, hb5⟩
        have cx5 : w5.cell? ⟨w.heap.size, 0, none⟩ = some (.slice none 0 0) := (hb5.cell (p := ⟨w.heap.size, 0, none⟩) (by simp; omega)).trans (((ext_alloc w3 _).cell (p := ⟨w.heap.size, 0, none⟩) hws3).trans cx3)
        have zx5 : w5.frozen? ⟨w.heap.size, 0, none⟩ = false := (hb5.frozen (p := ⟨w.heap.size, 0, none⟩) (by simp; omega)).trans (((ext_alloc w3 _).frozen (p := ⟨w.heap.size, 0, none⟩) hws3).trans zx3)
        have bx5 : w5.cell? ⟨w3.heap.size, 0, none⟩ = some (.slice na ns.length nc) := (hb5.cell (p := ⟨w3.heap.size, 0, none⟩) (by simp)).trans (cell_of_row _ _ 0 _ _ _ (heap_alloc_new w3 _))
        have hB5 := hid (HB3.out.trans (((ext_alloc w3 (.cells #[.slice na ns.length nc] 29)).trans (hb5.mono (ext_alloc w3 _).size)).mono (by omega)))
        obtain ⟨sz, hsz⟩ : ∃ z, sizeOf' ns = z := ⟨_, rfl⟩
        rw [hsz] at HRL ⊢
        clear hsz hb5
        by_cases h1000 : 1000 < sz
        · have h1000i : (1000 : Int) < (sz : Int) := by omega
          have HF := hid (show R = ([], l.length, 7) by rw [HRL.out, if_pos (Or.inr h1000)])
          obtain rfl := HF.out
          go_wp2
          refine bodyPost_ret (v := .tuple #[.agg #[.slice none 0 0], .int .i64 ((l.length : Nat) : Int), .int .i64 ((7 : Nat) : Int)]) (by simp [results, Tryz.results31, go_sem, *]) rfl ?_
          first | exact ⟨_, _, _, rfl, hB5.out.setCell (p := ⟨w.heap.size, 0, none⟩) (Nat.le_refl _) _⟩ | exact ⟨⟨_, _, _, rfl⟩, hB5.out.setCell (p := ⟨w.heap.size, 0, none⟩) (Nat.le_refl _) _⟩
        · have h1000i : ¬ (1000 : Int) < (sz : Int) := by omega
          have HF := hid (show R = (ns, 0, 0) by rw [HRL.out, if_neg (by omega)])
          obtain rfl := HF.out
          go_wp2
          refine bodyPost_ret (v := .tuple #[.agg #[.slice na ns.length nc], .int .i64 ((0 : Nat) : Int), .int .i64 ((0 : Nat) : Int)]) (by simp [results, Tryz.results31, go_sem, *]) rfl ?_
          first | exact ⟨_, _, _, rfl, hB5.out.setCell (p := ⟨w.heap.size, 0, none⟩) (Nat.le_refl _) _⟩ | exact ⟨⟨_, _, _, rfl⟩, hB5.out.setCell (p := ⟨w.heap.size, 0, none⟩) (Nat.le_refl _) _⟩
    · have HF := hid (show R = ([], q, c) by rw [← hR]; unfold rdL; rw [h1])
      obtain ⟨⟨c0, c1, c2, c3, c4, c5⟩, ⟨y1, y2, y3, y4, y5⟩, hl3⟩ := blk6c h3
      have hz1 : ((c : Int) == 0) = false := by rw [beq_eq_false_iff_ne]; omega
      have hz2 : ¬ (c : Int) = 0 := by omega
      have hz3 : ((c : Int) != 0) = true := by rw [bne_iff_ne]; omega
      clear h3 h1 hR
      obtain rfl := HF.out
      go_wp2_with fail
      go_region
      go_wp2
      refine bodyPost_ret (v := .tuple #[.agg #[.slice none 0 0], .int .i64 ((q : Nat) : Int), .int .i64 ((c : Nat) : Int)]) (by simp [results, Tryz.results31, go_sem, *]) rfl ?_
      first | exact ⟨_, _, _, rfl, (HB3.out.drew).setCell (p := ⟨w.heap.size, 0, none⟩) (Nat.le_refl _) _⟩ | exact ⟨⟨_, _, _, rfl⟩, (HB3.out.drew).setCell (p := ⟨w.heap.size, 0, none⟩) (Nat.le_refl _) _⟩
end Go.Proofs.YtomcoilmpkpoeaaGreatDoor

namespace Go.Proofs.YtomcoilmpkpoeaaGreatDoor
open Go.RowKit
set_option linter.unusedVariables false
set_option linter.unusedSimpArgs false

def RdRes (R : List RxNode × Nat × Nat) (w : World) (e : Ending) (w' : World) : Prop :=
  ∃ (na : Option Addr) (n nc : Nat), e = .returned (.tuple #[.agg #[.slice na n nc], .int .i64 ((R.2.1 : Nat) : Int), .int .i64 ((R.2.2 : Nat) : Int)]) ∧ (R.2.2 = 0 → Rd.rd (Old w') w' [.slice na n nc] R.1) ∧ Below w.heap.size w w'
theorem rxns_new {X : Nat → Prop} {g : Nat} {nv : Value} {w : World} {ns : List RxNode} (h : RxNs X g nv w ns) : Rd.rd (New (g + 1) w) w [nv] ns := by
  obtain ⟨css, ho, he⟩ := h
  exact rd_own_at ho (he.mono (fun b hb => ⟨hb.1, hb.2.1⟩)) (fun b _ h1 h2 => ⟨h1, h2⟩)
theorem heap_setc {w : World} {p : Addr} {v : Value} {b : Nat} (h : p.block ≠ b) : (w.setCell p v).heap[b]? = w.heap[b]? := by
  unfold World.setCell
  simp [Array.getElem?_modify, h]
theorem rd_setc {α : Type} [Rd α] {B : Nat} {w : World} {cs : List Value} {x : α} {p : Addr} {v : Value} (hp : p.block < B) (h : Rd.rd (New B w) w cs x) : Rd.rd (Old (w.setCell p v)) (w.setCell p v) cs x :=
  Rd.mono (S := New B w) (fun b hb => by have h2 := hb.2; show b < _; unfold World.setCell; simpa using h2) (Rd.same (fun b hb => heap_setc (by have := hb.1; omega)) h)
set_option maxHeartbeats 16000000 in
set_option maxRecDepth 100000 in
theorem specL05Nodes (most : Nat) (hmost : most ≤ 1000) (s : ByteArray) (w : World) :
    Calls Tryz.prog 31 #[.string s, .int .i64 ((most : Nat) : Int)] w fun e w' => RdRes (rdP most s) w e w' := by
  have HRU := hid (specRunes s (w.alloc (.cells #[.slice none 0 0] 29)))
  have HP := hid (runesN_pts s.data.toList)
  obtain ⟨R, hR⟩ : ∃ r, rdP most s = r := ⟨_, rfl⟩
  rw [hR]
  unfold rdP at hR
  obtain ⟨l, hl⟩ : ∃ l, runesN s.data.toList = l := ⟨_, rfl⟩
  obtain ⟨b, hb⟩ : ∃ b, textOk s.data.toList = b := ⟨_, rfl⟩
  rw [hl] at hR HRU HP
  rw [hb] at hR HRU
  clear hl hb
  go_enter Tryz.func31, Tryz.ntmps31
  go_wp2_with fail
  refine HRU.out.mono ?_
  rintro e w1 ⟨u, rfl, how, hb1⟩
  obtain ⟨a, cap, rfl, hRL⟩ := rxl_own how HP.out.1 HP.out.2
  have hB1 := (ext_alloc w (.cells #[.slice none 0 0] 29)).trans (hb1.mono (ext_alloc w _).size)
  have hx1 : w1.heap[w.heap.size]? = some (.cells #[.slice none 0 0] 29 (0, 0)) := (hb1.block w.heap.size (by simp)).trans (heap_alloc_new w _)
  have hws : w.heap.size < w1.heap.size := (Array.getElem?_eq_some_iff.1 hx1).1
  have cx : w1.cell? ⟨w.heap.size, 0, none⟩ = some (.slice none 0 0) := cell_of_row _ _ 0 _ _ _ hx1
  have zx : w1.frozen? ⟨w.heap.size, 0, none⟩ = false := frozen_of_row _ _ 0 _ _ hx1
  have HB1 := hid hB1
  have hbk : (w1.alloc (.cells #[.slice a l.length cap, .int .i64 ((0 : Nat) : Int), .int .i64 ((0 : Nat) : Int), .int .i64 ((0 : Nat) : Int), .int .i64 ((0 : Nat) : Int), .slice none 0 0] 87)).heap[w1.heap.size]? = some (.cells #[.slice a l.length cap, .int .i64 ((0 : Nat) : Int), .int .i64 ((0 : Nat) : Int), .int .i64 ((0 : Nat) : Int), .int .i64 ((0 : Nat) : Int), .slice none 0 0] 87 (0, 0)) := heap_alloc_new _ _
  have CRD := hid (specAltsTop (g := w1.heap.size) (cap := cap) (a := a) (l := l) (fun _ => False) _ 0 (.slice none 0 0) [] (fun _ h => h.elim) hbk (hRL.below (ext_alloc w1 _)) (by omega) ⟨[], ⟨rfl, Or.inl ⟨rfl, rfl⟩⟩, rfl, fun i h => absurd h (by simp)⟩ (by simp))
  rw [readP_top HP.out.2] at CRD
  have hk0 : Below w1.heap.size w1 (w1.alloc (.cells #[.slice a l.length cap, .int .i64 ((0 : Nat) : Int), .int .i64 ((0 : Nat) : Int), .int .i64 ((0 : Nat) : Int), .int .i64 ((0 : Nat) : Int), .slice none 0 0] 87)) := ext_alloc w1 _
  have HK0 := hid hk0
  have HS := hid (show w1.heap.size < (w1.alloc (.cells #[.slice a l.length cap, .int .i64 ((0 : Nat) : Int), .int .i64 ((0 : Nat) : Int), .int .i64 ((0 : Nat) : Int), .int .i64 ((0 : Nat) : Int), .slice none 0 0] 87)).heap.size by simp)
  clear how hb1 hx1 hB1 hbk hk0
  by_cases hbad : b = false ∨ most < l.length
  · rw [if_pos hbad] at hR
    subst hR
    cases b with
    | false =>
      go_wp2
      refine bodyPost_ret (v := .tuple #[.agg #[.slice none 0 0], .int .i64 ((0 : Nat) : Int), .int .i64 ((1 : Nat) : Int)]) (by simp [results, Tryz.results31, go_sem, *]) rfl ?_
      exact ⟨_, _, _, rfl, fun h => absurd h (by simp), HB1.out.setCell (p := ⟨w.heap.size, 0, none⟩) (Nat.le_refl _) _⟩
    | true =>
      have hle : ((most : Nat) : Int) < (l.length : Int) := by
        rcases hbad with h | h
        · cases h
        · omega
      have hle2 : most < l.length := by omega
      go_wp2
      refine bodyPost_ret (v := .tuple #[.agg #[.slice none 0 0], .int .i64 ((0 : Nat) : Int), .int .i64 ((1 : Nat) : Int)]) (by simp [results, Tryz.results31, go_sem, *]) rfl ?_
      exact ⟨_, _, _, rfl, fun h => absurd h (by simp), HB1.out.setCell (p := ⟨w.heap.size, 0, none⟩) (Nat.le_refl _) _⟩
  · rw [if_neg hbad] at hR
    simp only [not_or, Bool.not_eq_false] at hbad
    obtain ⟨rfl, hlen⟩ := hbad
    have hle : ¬ ((most : Nat) : Int) < (l.length : Int) := by omega
    unfold NodeS at CRD
    go_wp2_with fail
    refine CRD.out.mono ?_
    rintro e w3 ⟨he, hk3⟩
    have hb3 : Below w1.heap.size w1 w3 := HK0.out.trans (hk3.below (Nat.le_of_lt HS.out) (fun b e => by cases e))
    have cx3 : w3.cell? ⟨w.heap.size, 0, none⟩ = some (.slice none 0 0) := (hb3.cell (p := ⟨w.heap.size, 0, none⟩) hws).trans cx
    have zx3 : w3.frozen? ⟨w.heap.size, 0, none⟩ = false := (hb3.frozen (p := ⟨w.heap.size, 0, none⟩) hws).trans zx
    have hws3 : w.heap.size < w3.heap.size := Nat.lt_of_lt_of_le hws hb3.size
    have hwn3 : ¬ w.heap.size = w3.heap.size := by omega
    have hwn4 : ¬ w3.heap.size = w.heap.size := by omega
    have hgn : ¬ w1.heap.size = w.heap.size := by omega
    have hgn2 : ¬ w.heap.size = w1.heap.size := by omega
    have hB3 := HB1.out.trans (hb3.mono HB1.out.size)
    have HB3 := hid hB3
    have hlen9 := HP.out.1
    clear hB3 hb3
    rcases he with ⟨kid, j, ns, nv, h1, rfl, h3, h4, h5⟩ | ⟨c, q, x, j, nv, ns2, h1, rfl, hc0, h3, h4, h5, h6, h7, h8⟩
    · obtain rfl := readP_end h1
      have hfl := readP_flat (by omega) h1
      have hrd := rxns_rd h4
      have HNW := hid (rxns_new h4)
      obtain ⟨na, nc, rfl, _⟩ := rdNodes hrd
      have CSZ := hid (specRxSize (w3.alloc (.cells #[.slice na ns.length nc] 29)) (Rd.later (ext_alloc w3 _) hrd) (by omega))
      have HRL := hid (show R = if 400 < ns.length ∨ 1000 < sizeOf' ns then ([], l.length, 7) else (ns, 0, 0) by rw [← hR]; unfold rdL; rw [h1])
      obtain ⟨⟨c0, c1, c2, c3, c4, c5⟩, ⟨y1, y2, y3, y4, y5⟩, hl3⟩ := blk6c h3
      have hll : ¬ (l.length : Int) < (l.length : Int) := by omega
      clear h3 h1 hR h4 hrd
      by_cases h400 : 400 < ns.length
      · have h400i : (400 : Int) < (ns.length : Int) := by omega
        have HF := hid (show R = ([], l.length, 7) by rw [HRL.out, if_pos (Or.inl h400)])
        obtain rfl := HF.out
        go_wp2
        refine bodyPost_ret (v := .tuple #[.agg #[.slice none 0 0], .int .i64 ((l.length : Nat) : Int), .int .i64 ((7 : Nat) : Int)]) (by simp [results, Tryz.results31, go_sem, *]) rfl ?_
        exact ⟨_, _, _, rfl, fun h => absurd h (by simp), (HB3.out.setCell (p := ⟨w.heap.size, 0, none⟩) (Nat.le_refl _) _).alloc (by simp; omega) _⟩
      · have h400i : ¬ (400 : Int) < (ns.length : Int) := by omega
        go_wp2_with fail
        refine CSZ.out.mono ?_
        rintro e w5 ⟨rfl, hb5⟩
        have HFIN := hid (fun (v : Value) => rd_setc (B := w1.heap.size + 1) (p := ⟨w.heap.size, 0, none⟩) (v := v) (Nat.lt_succ_of_lt hws) (Rd.later' hb5 (Rd.later' (ext_alloc w3 _) HNW.out)))
        have cx5 : w5.cell? ⟨w.heap.size, 0, none⟩ = some (.slice none 0 0) := (hb5.cell (p := ⟨w.heap.size, 0, none⟩) (by simp; omega)).trans (((ext_alloc w3 _).cell (p := ⟨w.heap.size, 0, none⟩) hws3).trans cx3)
        have zx5 : w5.frozen? ⟨w.heap.size, 0, none⟩ = false := (hb5.frozen (p := ⟨w.heap.size, 0, none⟩) (by simp; omega)).trans (((ext_alloc w3 _).frozen (p := ⟨w.heap.size, 0, none⟩) hws3).trans zx3)
        have bx5 : w5.cell? ⟨w3.heap.size, 0, none⟩ = some (.slice na ns.length nc) := (hb5.cell (p := ⟨w3.heap.size, 0, none⟩) (by simp)).trans (cell_of_row _ _ 0 _ _ _ (heap_alloc_new w3 _))
        have hB5 := hid (HB3.out.trans (((ext_alloc w3 (.cells #[.slice na ns.length nc] 29)).trans (hb5.mono (ext_alloc w3 _).size)).mono (by omega)))
        obtain ⟨sz, hsz⟩ : ∃ z, sizeOf' ns = z := ⟨_, rfl⟩
        rw [hsz] at HRL ⊢
        clear hsz hb5
        by_cases h1000 : 1000 < sz
        · have h1000i : (1000 : Int) < (sz : Int) := by omega
          have HF := hid (show R = ([], l.length, 7) by rw [HRL.out, if_pos (Or.inr h1000)])
          obtain rfl := HF.out
          go_wp2
          refine bodyPost_ret (v := .tuple #[.agg #[.slice none 0 0], .int .i64 ((l.length : Nat) : Int), .int .i64 ((7 : Nat) : Int)]) (by simp [results, Tryz.results31, go_sem, *]) rfl ?_
          exact ⟨_, _, _, rfl, fun h => absurd h (by simp), hB5.out.setCell (p := ⟨w.heap.size, 0, none⟩) (Nat.le_refl _) _⟩
        · have h1000i : ¬ (1000 : Int) < (sz : Int) := by omega
          have HF := hid (show R = (ns, 0, 0) by rw [HRL.out, if_neg (by omega)])
          obtain rfl := HF.out
          go_wp2
          refine bodyPost_ret (v := .tuple #[.agg #[.slice na ns.length nc], .int .i64 ((0 : Nat) : Int), .int .i64 ((0 : Nat) : Int)]) (by simp [results, Tryz.results31, go_sem, *]) rfl ?_
          exact ⟨_, _, _, rfl, fun _ => HFIN.out _, hB5.out.setCell (p := ⟨w.heap.size, 0, none⟩) (Nat.le_refl _) _⟩
    · have HF := hid (show R = ([], q, c) by rw [← hR]; unfold rdL; rw [h1])
      obtain ⟨⟨c0, c1, c2, c3, c4, c5⟩, ⟨y1, y2, y3, y4, y5⟩, hl3⟩ := blk6c h3
      have hz1 : ((c : Int) == 0) = false := by rw [beq_eq_false_iff_ne]; omega
      have hz2 : ¬ (c : Int) = 0 := by omega
      have hz3 : ((c : Int) != 0) = true := by rw [bne_iff_ne]; omega
      clear h3 h1 hR
      obtain rfl := HF.out
      go_wp2_with fail
      go_region
      go_wp2
      refine bodyPost_ret (v := .tuple #[.agg #[.slice none 0 0], .int .i64 ((q : Nat) : Int), .int .i64 ((c : Nat) : Int)]) (by simp [results, Tryz.results31, go_sem, *]) rfl ?_
      exact ⟨_, _, _, rfl, fun h => absurd (show c = 0 from h) (by omega), (HB3.out.drew).setCell (p := ⟨w.heap.size, 0, none⟩) (Nat.le_refl _) _⟩
end Go.Proofs.YtomcoilmpkpoeaaGreatDoor

namespace Go.Proofs.YtomcoilmpkpoeaaGreatDoor
open Go.RowKit
set_option linter.unusedVariables false
set_option linter.unusedSimpArgs false

set_option maxHeartbeats 4000000 in
theorem implInts {v u : Value} {xs ys : List Int} (w : World) (h : Rd.rd (Old w) w [v] xs) (h' : Rd.rd (Old w) w [u] ys) :
    Calls Tryz.prog 82 #[v, u] w fun e w' => e = .returned (.bool (decide (xs = ys))) ∧ Below w.heap.size w w' := by
  obtain ⟨a, cap, rfl, h1, h2, hF⟩ := rdIntsL h
  obtain ⟨a', cap', rfl, h1', h2', hG⟩ := rdIntsL h'
  clear h h'
  by_cases hlen : xs.length = ys.length
  · have f1 : ((xs.length : Int) != (ys.length : Int)) = false := by simp [hlen]
    have HLEN := hid hlen
    obtain ⟨n, hn⟩ : ∃ n, xs.length = n := ⟨_, rfl⟩
    have HX := hid hn
    have HY := hid (show ys.length = n by rw [← hlen, hn])
    replace hF := fun (h0 : 0 < n) => hF (by omega)
    replace hG := fun (h0 : 0 < n) => hG (by omega)
    rw [HY.out, hn] at f1
    rw [hn] at h1
    rw [HY.out] at h1'
    rw [hn, HY.out]
    clear hn hlen
    go_enter Tryz.func82, Tryz.ntmps82
    go_wp2
    go_loopw [13] (fun i wr => ∃ k : Nat, k ≤ n ∧ i = .int .i64 (k : Int) ∧ Hid (∀ j (hj : j < xs.length) (hj' : j < ys.length), j < k → xs[j] = ys[j]) ∧ Below w.heap.size w wr) (fun i _ => n - (intOf i).toNat)
    case atStart => exact ⟨0, Nat.zero_le _, rfl, hid (fun j _ _ hj => absurd hj (Nat.not_lt_zero _)), Below.refl _ _⟩
    case round =>
      obtain ⟨k, hk, rfl, HA, hb⟩ := hrel
      by_cases hlt : k < n
      · obtain ⟨b, off, rfl, hB, hcell⟩ := hF (by omega)
        obtain ⟨b', off', rfl, hB', hcell'⟩ := hG (by omega)
        have hkx : k < xs.length := by rw [HX.out]; exact hlt
        have hky : k < ys.length := by rw [HY.out]; exact hlt
        have t0 : wr.cell? ⟨b, off + k, none⟩ = some (.int .i64 xs[k]) := (hb.cell (p := ⟨b, off + k, none⟩) hB).trans (hcell k hkx).1
        have t1 : wr.cell? ⟨b', off' + k, none⟩ = some (.int .i64 ys[k]) := (hb.cell (p := ⟨b', off' + k, none⟩) hB').trans (hcell' k hky).1
        obtain ⟨x, hx⟩ : ∃ x, xs[k] = x := ⟨_, rfl⟩
        obtain ⟨y, hy⟩ : ∃ y, ys[k] = y := ⟨_, rfl⟩
        rw [hx] at t0
        rw [hy] at t1
        have HXK := hid hx
        have HYK := hid hy
        have hki : (k : Int) < (n : Int) := by omega
        have hk0 : (0 : Int) ≤ (k : Int) := by omega
        clear hcell hcell' hx hy hF hG
        by_cases hxy : x = y
        · have g1 : (x != y) = false := by simp [hxy]
          have HXY := hid hxy
          clear hxy
          go_wp2
          go_quiet (fail)
          go_wp2
          go_roundw
          case rel =>
            refine ⟨k + 1, by omega, by go_num, hid (fun j hj hj' hjk => ?_), bel_dn2 hb _⟩
            by_cases e : j = k
            · subst e; rw [HXK.out, HYK.out]; exact HXY.out
            · exact HA.out j hj hj' (by omega)
          case measure => simp [intOf]; omega
        · have g1 : (x != y) = true := by rw [bne_iff_ne]; exact hxy
          have HXY := hid hxy
          clear hxy
          go_wp2
          go_quiet (fail)
          go_wp2
          go_ret
          exact ⟨end_bool (decide_eq_false (fun e => HXY.out (by rw [← HXK.out, ← HYK.out]; simp only [e]))).symm, bel_dn2 hb _⟩
      · have hki : ¬ (k : Int) < (n : Int) := by omega
        clear hF hG
        go_wp2
        go_ret
        exact ⟨end_bool (decide_eq_true (List.ext_getElem HLEN.out (fun j hj hj' => HA.out j hj hj' (by rw [HX.out] at hj; omega)))).symm, hb⟩
  · have f1 : ((xs.length : Int) != (ys.length : Int)) = true := by rw [bne_iff_ne]; omega
    have HNE := hid hlen
    clear hlen hF hG
    go_enter Tryz.func82, Tryz.ntmps82
    go_wp2
    go_ret
    exact ⟨end_bool (decide_eq_false (fun e => HNE.out (by rw [e]))).symm, Below.refl _ _⟩
end Go.Proofs.YtomcoilmpkpoeaaGreatDoor

namespace Go.Proofs.YtomcoilmpkpoeaaGreatDoor
open Go.RowKit
set_option linter.unusedVariables false
set_option linter.unusedSimpArgs false

set_option maxHeartbeats 8000000 in
set_option maxRecDepth 100000 in
theorem implRxEq1 {k1 l1 h1 k2 l2 h2 : Int} {g1 g2 : Bool} {us uk vs vk : Value} {s1 s2 c1 c2 : List Int} (w : World) (H1 : Rd.rd (Old w) w [us] s1) (H2 : Rd.rd (Old w) w [vs] s2) (H3 : Rd.rd (Old w) w [uk] c1) (H4 : Rd.rd (Old w) w [vk] c2) :
    Calls Tryz.prog 81 #[.agg #[.int .i64 k1, .int .i64 l1, .int .i64 h1, .bool g1, us, uk], .agg #[.int .i64 k2, .int .i64 l2, .int .i64 h2, .bool g2, vs, vk]] w fun e w' => e = .returned (.bool (decide (k1 = k2 ∧ l1 = l2 ∧ h1 = h2 ∧ g1 = g2 ∧ s1 = s2 ∧ c1 = c2))) ∧ Below w.heap.size w w' := by
  have HW := hid (fun (o o' : Obj) => ext_trans (ext_alloc w o) (ext_alloc (w.alloc o) o'))
  have CS := hid (fun (w' : World) (hb : Below w.heap.size w w') => implInts w' (Rd.later hb H1) (Rd.later hb H2))
  have CK := hid (fun (w' : World) (hb : Below w.heap.size w w') => implInts w' (Rd.later hb H3) (Rd.later hb H4))
  clear H1 H2 H3 H4
  by_cases ek : k1 = k2
  · subst ek
    by_cases el : l1 = l2
    · subst el
      by_cases eh : h1 = h2
      · subst eh
        by_cases eg : g1 = g2
        · subst eg
          obtain ⟨q, hq⟩ : ∃ q, decide (s1 = s2) = q := ⟨_, rfl⟩
          obtain ⟨r, hr⟩ : ∃ r, decide (c1 = c2) = r := ⟨_, rfl⟩
          rw [hq] at CS
          rw [hr] at CK
          have HV := hid (show decide (True ∧ True ∧ True ∧ True ∧ s1 = s2 ∧ c1 = c2) = (q && r) by rw [← hq, ← hr]; simp)
          have HV2 := hid (show decide (k1 = k1 ∧ l1 = l1 ∧ h1 = h1 ∧ g1 = g1 ∧ s1 = s2 ∧ c1 = c2) = (q && r) by rw [← hq, ← hr]; simp)
          clear hq hr
          have HB5 := hid (fun (w1 : World) (hb : Below ((w.alloc (.cells #[.int .i64 k1, .int .i64 l1, .int .i64 h1, .bool g1, us, uk] 82)).alloc (.cells #[.int .i64 k1, .int .i64 l1, .int .i64 h1, .bool g1, vs, vk] 82)).heap.size ((w.alloc (.cells #[.int .i64 k1, .int .i64 l1, .int .i64 h1, .bool g1, us, uk] 82)).alloc (.cells #[.int .i64 k1, .int .i64 l1, .int .i64 h1, .bool g1, vs, vk] 82)) w1) => (show w1.cell? ⟨w.heap.size, 5, none⟩ = some uk ∧ w1.cell? ⟨w.heap.size + 1, 5, none⟩ = some vk from by
            obtain ⟨⟨_, _, _, _, _, m5⟩, _⟩ := blk6c ((hb.block w.heap.size (by simp; omega)).trans (((ext_alloc (w.alloc (.cells #[.int .i64 k1, .int .i64 l1, .int .i64 h1, .bool g1, us, uk] 82)) (.cells #[.int .i64 k1, .int .i64 l1, .int .i64 h1, .bool g1, vs, vk] 82)).block w.heap.size (by simp)).trans (heap_alloc_new w _)))
            obtain ⟨⟨_, _, _, _, _, n5⟩, _⟩ := blk6c ((hb.block (w.heap.size + 1) (by simp)).trans (show _ = _ from by have := heap_alloc_new (w.alloc (.cells #[.int .i64 k1, .int .i64 l1, .int .i64 h1, .bool g1, us, uk] 82)) (.cells #[.int .i64 k1, .int .i64 l1, .int .i64 h1, .bool g1, vs, vk] 82); simpa using this))
            exact ⟨m5, n5⟩))
          go_enter Tryz.func81, Tryz.ntmps81
          go_wp2_with fail
          refine (CS.out _ (HW.out _ _)).mono ?_
          rintro e w1 ⟨rfl, hb1⟩
          have hB1 := ext_trans (HW.out _ _) hb1
          obtain ⟨m5, n5⟩ := HB5.out _ hb1
          clear hb1
          cases q with
          | false =>
            go_wp2
            go_ret
            exact ⟨end_bool HV2.out.symm, hB1⟩
          | true =>
            go_wp2_with fail
            refine (CK.out _ hB1).mono ?_
            rintro e w2 ⟨rfl, hb2⟩
            have hB2 := ext_trans hB1 hb2
            go_wp2
            go_ret
            exact ⟨end_bool HV2.out.symm, hB2⟩
        · skip
          have HNE := hid eg
          have x1 : (g1 == g2) = false := beq_eq_false_iff_ne.2 eg
          clear eg CS CK
          go_enter Tryz.func81, Tryz.ntmps81
          go_wp2
          go_ret
          exact ⟨end_bool (decide_eq_false (fun e => HNE.out e.2.2.2.1)).symm, HW.out _ _⟩
      · skip
        have HNE := hid eh
        have x1 : (h1 == h2) = false := beq_eq_false_iff_ne.2 eh
        clear eh CS CK
        go_enter Tryz.func81, Tryz.ntmps81
        go_wp2
        go_ret
        exact ⟨end_bool (decide_eq_false (fun e => HNE.out e.2.2.1)).symm, HW.out _ _⟩
    · skip
      have HNE := hid el
      have x1 : (l1 == l2) = false := beq_eq_false_iff_ne.2 el
      clear el CS CK
      go_enter Tryz.func81, Tryz.ntmps81
      go_wp2
      go_ret
      exact ⟨end_bool (decide_eq_false (fun e => HNE.out e.2.1)).symm, HW.out _ _⟩
  · skip
    have HNE := hid ek
    have x1 : (k1 == k2) = false := beq_eq_false_iff_ne.2 ek
    clear ek CS CK
    go_enter Tryz.func81, Tryz.ntmps81
    go_wp2
    go_ret
    exact ⟨end_bool (decide_eq_false (fun e => HNE.out e.1)).symm, HW.out _ _⟩
end Go.Proofs.YtomcoilmpkpoeaaGreatDoor

namespace Go.Proofs.YtomcoilmpkpoeaaGreatDoor
open Go.RowKit
set_option linter.unusedVariables false
set_option linter.unusedSimpArgs false

theorem node_eq {n m : RxNode} : n = m ↔ (n.kind = m.kind ∧ n.lo = m.lo ∧ n.hi = m.hi ∧ n.neg = m.neg ∧ n.set = m.set ∧ n.kids = m.kids) := by
  cases n; cases m
  simp
/-- whether two lists of nodes are the same -/
def nodesEq : List RxNode → List RxNode → Bool
  | [], [] => true
  | x :: xs, y :: ys => decide (x.kind = y.kind ∧ x.lo = y.lo ∧ x.hi = y.hi ∧ x.neg = y.neg ∧ x.set = y.set ∧ x.kids = y.kids) && nodesEq xs ys
  | _, _ => false
theorem nodesEq_iff : ∀ {ns ms : List RxNode}, nodesEq ns ms = true ↔ ns = ms
  | [], [] => by simp [nodesEq]
  | [], _ :: _ => by simp [nodesEq]
  | _ :: _, [] => by simp [nodesEq]
  | x :: xs, y :: ys => by
    rw [nodesEq, Bool.and_eq_true, nodesEq_iff, decide_eq_true_iff, ← node_eq, List.cons.injEq]
theorem nodesEq_no {ns ms : List RxNode} (h : ns ≠ ms) : nodesEq ns ms = false := by
  rw [← Bool.not_eq_true, nodesEq_iff]
  exact h
set_option maxHeartbeats 8000000 in
set_option maxRecDepth 100000 in
theorem implEqF {v u : Value} {ns ms : List RxNode} (w : World) (h : Rd.rd (Old w) w [v] ns) (h' : Rd.rd (Old w) w [u] ms) :
    Calls Tryz.prog 80 #[v, u, .func (.func 81) #[] #[]] w fun e w' => e = .returned (.bool (nodesEq ns ms)) ∧ Below w.heap.size w w' := by
  obtain ⟨a, cap, rfl, h1, h2, hF⟩ := rdRow h
  obtain ⟨a', cap', rfl, h1', h2', hG⟩ := rdRow h'
  clear h h'
  by_cases hlen : ns.length = ms.length
  · have f1 : ((ns.length : Int) != (ms.length : Int)) = false := by simp [hlen]
    have HLEN := hid hlen
    obtain ⟨n, hn⟩ : ∃ n, ns.length = n := ⟨_, rfl⟩
    have HX := hid hn
    have HY := hid (show ms.length = n by rw [← hlen, hn])
    replace hF := fun (h0 : 0 < n) => hF (by omega)
    replace hG := fun (h0 : 0 < n) => hG (by omega)
    rw [HY.out, hn] at f1
    rw [hn] at h1
    rw [HY.out] at h1'
    rw [hn, HY.out]
    have HF := hid hF
    have HG := hid hG
    clear hn hlen hF hG
    go_enter Tryz.func80, Tryz.ntmps80
    go_wp2
    go_loopw [17] (fun i wr => ∃ k : Nat, k ≤ n ∧ i = .int .i64 (k : Int) ∧ Hid (∀ j (hj : j < ns.length) (hj' : j < ms.length), j < k → ns[j] = ms[j]) ∧ Below w.heap.size w wr) (fun i _ => n - (intOf i).toNat)
    case atStart => exact ⟨0, Nat.zero_le _, rfl, hid (fun j _ _ hj => absurd hj (Nat.not_lt_zero _)), Below.refl _ _⟩
    case round =>
      obtain ⟨k, hk, rfl, HA, hb⟩ := hrel
      by_cases hlt : k < n
      · obtain ⟨b, off, rfl, hB, hcell⟩ := HF.out (by omega)
        obtain ⟨b', off', rfl, hB', hcell'⟩ := HG.out (by omega)
        have hkx : k < ns.length := by rw [HX.out]; exact hlt
        have hky : k < ms.length := by rw [HY.out]; exact hlt
        obtain ⟨cs, hc, hcs⟩ := hcell k hkx
        obtain ⟨us, uk, rfl, _, _, _, hset, hkids⟩ := rdNode hcs
        obtain ⟨cs', hc', hcs'⟩ := hcell' k hky
        obtain ⟨us', uk', rfl, _, _, _, hset', hkids'⟩ := rdNode hcs'
        obtain ⟨sa, sc, rfl, -⟩ := rdIntsL (id hset)
        obtain ⟨ka, kc, rfl, -⟩ := rdIntsL (id hkids)
        obtain ⟨sa', sc', rfl, -⟩ := rdIntsL (id hset')
        obtain ⟨ka', kc', rfl, -⟩ := rdIntsL (id hkids')
        have hbc := fun o => hb.cell (p := ⟨b, o, none⟩) hB
        have hbc' := fun o => hb.cell (p := ⟨b', o, none⟩) hB'
        have hbl : b < wr.heap.size := Nat.lt_of_lt_of_le hB hb.size
        have hbl' : b' < wr.heap.size := Nat.lt_of_lt_of_le hB' hb.size
        have hwr := hb.size
        obtain ⟨x, hx⟩ : ∃ x, ns[k] = x := ⟨_, rfl⟩
        obtain ⟨y, hy⟩ : ∃ y, ms[k] = y := ⟨_, rfl⟩
        rw [hx] at hc hset hkids
        rw [hy] at hc' hset' hkids'
        have d0 : wr.cell? ⟨b, off + k * 6, none⟩ = some (.int .i64 x.kind) := (hbc _).trans (hc 0 (by decide))
        have d1 : wr.cell? ⟨b, off + k * 6 + 1, none⟩ = some (.int .i64 x.lo) := (hbc _).trans (hc 1 (by decide))
        have d2 : wr.cell? ⟨b, off + k * 6 + 2, none⟩ = some (.int .i64 x.hi) := (hbc _).trans (hc 2 (by decide))
        have d3 : wr.cell? ⟨b, off + k * 6 + 3, none⟩ = some (.bool x.neg) := (hbc _).trans (hc 3 (by decide))
        have d4 : wr.cell? ⟨b, off + k * 6 + 4, none⟩ = some (.slice sa x.set.length sc) := (hbc _).trans (hc 4 (by decide))
        have d5 : wr.cell? ⟨b, off + k * 6 + 5, none⟩ = some (.slice ka x.kids.length kc) := (hbc _).trans (hc 5 (by decide))
        have e0 : wr.cell? ⟨b', off' + k * 6, none⟩ = some (.int .i64 y.kind) := (hbc' _).trans (hc' 0 (by decide))
        have e1 : wr.cell? ⟨b', off' + k * 6 + 1, none⟩ = some (.int .i64 y.lo) := (hbc' _).trans (hc' 1 (by decide))
        have e2 : wr.cell? ⟨b', off' + k * 6 + 2, none⟩ = some (.int .i64 y.hi) := (hbc' _).trans (hc' 2 (by decide))
        have e3 : wr.cell? ⟨b', off' + k * 6 + 3, none⟩ = some (.bool y.neg) := (hbc' _).trans (hc' 3 (by decide))
        have e4 : wr.cell? ⟨b', off' + k * 6 + 4, none⟩ = some (.slice sa' y.set.length sc') := (hbc' _).trans (hc' 4 (by decide))
        have e5 : wr.cell? ⟨b', off' + k * 6 + 5, none⟩ = some (.slice ka' y.kids.length kc') := (hbc' _).trans (hc' 5 (by decide))
        have CC := hid (fun (w' : World) (hb : Below w.heap.size w w') => implRxEq1 (k1 := x.kind) (l1 := x.lo) (h1 := x.hi) (k2 := y.kind) (l2 := y.lo) (h2 := y.hi) (g1 := x.neg) (g2 := y.neg) w' (Rd.later hb hset) (Rd.later hb hset') (Rd.later hb hkids) (Rd.later hb hkids'))
        obtain ⟨q, hq⟩ : ∃ q, decide (x.kind = y.kind ∧ x.lo = y.lo ∧ x.hi = y.hi ∧ x.neg = y.neg ∧ x.set = y.set ∧ x.kids = y.kids) = q := ⟨_, rfl⟩
        rw [hq] at CC
        have HQ := hid (show q = true ↔ ns[k] = ms[k] by rw [← hq, hx, hy, node_eq]; simp)
        have HW := hid (fun (o o' : Obj) => ext_trans hb (ext_trans (ext_alloc wr o) (ext_alloc (wr.alloc o) o')))
        have hki : (k : Int) < (n : Int) := by omega
        have hk0 : (0 : Int) ≤ (k : Int) := by omega
        clear hcell hcell' hc hc' hcs hcs' hset hset' hkids hkids' hx hy hq hbc hbc'
        go_wp2_with fail
        refine (CC.out _ (HW.out _ _)).mono ?_
        rintro e w3 ⟨rfl, hb3⟩
        have hB3 := ext_trans (HW.out _ _) hb3
        cases q with
        | true =>
          go_wp2
          go_roundw
          case rel =>
            refine ⟨k + 1, by omega, by go_num, hid (fun j hj hj' hjk => ?_), hB3⟩
            by_cases e : j = k
            · subst e; exact HQ.out.1 (by first | rfl | trivial)
            · exact HA.out j hj hj' (by omega)
          case measure => simp [intOf]; omega
        | false =>
          go_wp2
          go_ret
          exact ⟨end_bool (nodesEq_no (fun e => absurd (HQ.out.2 (by simp only [e])) (by decide))).symm, hB3⟩
      · have hki : ¬ (k : Int) < (n : Int) := by omega
        go_wp2
        go_ret
        exact ⟨end_bool (nodesEq_iff.2 (List.ext_getElem HLEN.out (fun j hj hj' => HA.out j hj hj' (by rw [HX.out] at hj; omega)))).symm, hb⟩
  · have f1 : ((ns.length : Int) != (ms.length : Int)) = true := by rw [bne_iff_ne]; omega
    have HNE := hid hlen
    clear hlen hF hG
    go_enter Tryz.func80, Tryz.ntmps80
    go_wp2
    go_ret
    exact ⟨end_bool (nodesEq_no (fun e => HNE.out (by rw [e]))).symm, Below.refl _ _⟩
end Go.Proofs.YtomcoilmpkpoeaaGreatDoor

namespace Go.Proofs.YtomcoilmpkpoeaaGreatDoor
open Go.RowKit
set_option linter.unusedVariables false
set_option linter.unusedSimpArgs false

/-- a block that holds a node -/
def NodeCells (w : World) (g : Nat) (k l h : Int) (n : Bool) (s c : Value) : Prop :=
  w.cell? ⟨g, 0, none⟩ = some (.int .i64 k) ∧ w.cell? ⟨g, 1, none⟩ = some (.int .i64 l) ∧ w.cell? ⟨g, 2, none⟩ = some (.int .i64 h) ∧ w.cell? ⟨g, 3, none⟩ = some (.bool n) ∧ w.cell? ⟨g, 4, none⟩ = some s ∧ w.cell? ⟨g, 5, none⟩ = some c
set_option maxHeartbeats 16000000 in
set_option maxRecDepth 100000 in
theorem specSame {v u : Value} {ns ms : List RxNode} (w : World) (h : Rd.rd (Old w) w [v] ns) (h' : Rd.rd (Old w) w [u] ms) :
    Calls Tryz.prog 33 #[.agg #[v], .agg #[u]] w fun e w' => e = .returned (.bool (nodesEq ns ms)) ∧ Below w.heap.size w w' := by
  obtain ⟨a, cap, rfl, h1, h2, hF⟩ := rdRow h
  obtain ⟨a', cap', rfl, h1', h2', hG⟩ := rdRow h'
  clear h h'
  by_cases hlen : ns.length = ms.length
  · have f1 : ((ns.length : Int) != (ms.length : Int)) = false := by simp [hlen]
    have HLEN := hid hlen
    obtain ⟨n, hn⟩ : ∃ n, ns.length = n := ⟨_, rfl⟩
    have HX := hid hn
    have HY := hid (show ms.length = n by rw [← hlen, hn])
    replace hF := fun (h0 : 0 < n) => hF (by omega)
    replace hG := fun (h0 : 0 < n) => hG (by omega)
    rw [HY.out, hn] at f1
    rw [hn] at h1
    rw [HY.out] at h1'
    rw [hn, HY.out]
    have HF := hid hF
    have HG := hid hG
    clear hn hlen hF hG
    go_enter Tryz.func33, Tryz.ntmps33
    go_wp2
    obtain ⟨w2, hw2⟩ : ∃ w', (w.alloc (.cells #[.slice a n cap] 29)).alloc (.cells #[.slice a' n cap'] 29) = w' := ⟨_, rfl⟩
    rw [hw2]
    have hbw : Below w.heap.size w w2 := by subst hw2; exact ext_trans (ext_alloc _ _) (ext_alloc _ _)
    have kl0 : w.heap.size < w2.heap.size := by subst hw2; simp; omega
    have kl1 : w.heap.size + 1 < w2.heap.size := by subst hw2; simp
    have c0 : w2.cell? ⟨w.heap.size, 0, none⟩ = some (.slice a n cap) := by subst hw2; go_simp
    have c1 : w2.cell? ⟨w.heap.size + 1, 0, none⟩ = some (.slice a' n cap') := by subst hw2; go_simp
    clear hw2
    go_loopw [5] (fun i wr => ∃ k : Nat, k ≤ n ∧ i = .int .i64 (k : Int) ∧ Hid (∀ j (hj : j < ns.length) (hj' : j < ms.length), j < k → ns[j] = ms[j]) ∧ Below w2.heap.size w2 wr) (fun i _ => n - (intOf i).toNat)
    case atStart => exact ⟨0, Nat.zero_le _, rfl, hid (fun j _ _ hj => absurd hj (Nat.not_lt_zero _)), Below.refl _ _⟩
    case round =>
      obtain ⟨k, hk, rfl, HA, hb⟩ := hrel
      have x0 : wr.cell? ⟨w.heap.size, 0, none⟩ = some (.slice a n cap) := (hb.cell kl0).trans c0
      have y0 : wr.cell? ⟨w.heap.size + 1, 0, none⟩ = some (.slice a' n cap') := (hb.cell kl1).trans c1
      have hlx : w.heap.size < wr.heap.size := Nat.lt_of_lt_of_le kl0 hb.size
      have hly : w.heap.size + 1 < wr.heap.size := Nat.lt_of_lt_of_le kl1 hb.size
      have hbW : Below w.heap.size w wr := ext_trans hbw hb
      by_cases hlt : k < n
      · obtain ⟨b, off, rfl, hB, hcell⟩ := HF.out (by omega)
        obtain ⟨b', off', rfl, hB', hcell'⟩ := HG.out (by omega)
        have hkx : k < ns.length := by rw [HX.out]; exact hlt
        have hky : k < ms.length := by rw [HY.out]; exact hlt
        obtain ⟨cs, hc, hcs⟩ := hcell k hkx
        obtain ⟨us, uk, rfl, _, _, _, hset, hkids⟩ := rdNode hcs
        obtain ⟨cs', hc', hcs'⟩ := hcell' k hky
        obtain ⟨us', uk', rfl, _, _, _, hset', hkids'⟩ := rdNode hcs'
        obtain ⟨sa, sc, rfl, -⟩ := rdIntsL (id hset)
        obtain ⟨ka, kc, rfl, -⟩ := rdIntsL (id hkids)
        obtain ⟨sa', sc', rfl, -⟩ := rdIntsL (id hset')
        obtain ⟨ka', kc', rfl, -⟩ := rdIntsL (id hkids')
        have hbc := fun o => hbW.cell (p := ⟨b, o, none⟩) hB
        have hbc' := fun o => hbW.cell (p := ⟨b', o, none⟩) hB'
        have hbl : b < wr.heap.size := Nat.lt_of_lt_of_le hB hbW.size
        have hbl' : b' < wr.heap.size := Nat.lt_of_lt_of_le hB' hbW.size
        obtain ⟨x, hx⟩ : ∃ x, ns[k] = x := ⟨_, rfl⟩
        obtain ⟨y, hy⟩ : ∃ y, ms[k] = y := ⟨_, rfl⟩
        rw [hx] at hc hset hkids
        rw [hy] at hc' hset' hkids'
        have HXY := hid (show (x = y) ↔ ns[k] = ms[k] by rw [hx, hy])
        obtain ⟨xk, xl, xh, xn, xs, xc⟩ := x
        obtain ⟨yk, yl, yh, yn, ys, yc⟩ := y
        dsimp only at hc hset hkids hc' hset' hkids'
        have d0 : wr.cell? ⟨b, off + k * 6, none⟩ = some (.int .i64 xk) := (hbc _).trans (hc 0 (by decide))
        have d1 : wr.cell? ⟨b, off + k * 6 + 1, none⟩ = some (.int .i64 xl) := (hbc _).trans (hc 1 (by decide))
        have d2 : wr.cell? ⟨b, off + k * 6 + 2, none⟩ = some (.int .i64 xh) := (hbc _).trans (hc 2 (by decide))
        have d3 : wr.cell? ⟨b, off + k * 6 + 3, none⟩ = some (.bool xn) := (hbc _).trans (hc 3 (by decide))
        have d4 : wr.cell? ⟨b, off + k * 6 + 4, none⟩ = some (.slice sa xs.length sc) := (hbc _).trans (hc 4 (by decide))
        have d5 : wr.cell? ⟨b, off + k * 6 + 5, none⟩ = some (.slice ka xc.length kc) := (hbc _).trans (hc 5 (by decide))
        have e0 : wr.cell? ⟨b', off' + k * 6, none⟩ = some (.int .i64 yk) := (hbc' _).trans (hc' 0 (by decide))
        have e1 : wr.cell? ⟨b', off' + k * 6 + 1, none⟩ = some (.int .i64 yl) := (hbc' _).trans (hc' 1 (by decide))
        have e2 : wr.cell? ⟨b', off' + k * 6 + 2, none⟩ = some (.int .i64 yh) := (hbc' _).trans (hc' 2 (by decide))
        have e3 : wr.cell? ⟨b', off' + k * 6 + 3, none⟩ = some (.bool yn) := (hbc' _).trans (hc' 3 (by decide))
        have e4 : wr.cell? ⟨b', off' + k * 6 + 4, none⟩ = some (.slice sa' ys.length sc') := (hbc' _).trans (hc' 4 (by decide))
        have e5 : wr.cell? ⟨b', off' + k * 6 + 5, none⟩ = some (.slice ka' yc.length kc') := (hbc' _).trans (hc' 5 (by decide))
        have CS := hid (fun (w' : World) (hb : Below w.heap.size w w') => specInts w' (Rd.later hb hset) (Rd.later hb hset'))
        have CK := hid (fun (w' : World) (hb : Below w.heap.size w w') => specInts w' (Rd.later hb hkids) (Rd.later hb hkids'))
        have HEQ := hid (show (xk = yk ∧ xl = yl ∧ xh = yh ∧ xn = yn ∧ xs = ys ∧ xc = yc) ↔ ns[k] = ms[k] by rw [← HXY.out]; simp)
        have hki : (k : Int) < (n : Int) := by omega
        have hk0 : (0 : Int) ≤ (k : Int) := by omega
        clear hcell hcell' hc hc' hcs hcs' hset hset' hkids hkids' hx hy hbc hbc' HXY
        go_upto_region 6 with fail
        go_cut [6, 7] from 15 to 73 (fun v6 v7 wx => ∃ g6 g7 : Nat, v6 = .pointer (some ⟨g6, 0, none⟩) ∧ v7 = .pointer (some ⟨g7, 0, none⟩) ∧ NodeCells wx g6 xk xl xh xn (.slice sa xs.length sc) (.slice ka xc.length kc) ∧ NodeCells wx g7 yk yl yh yn (.slice sa' ys.length sc') (.slice ka' yc.length kc') ∧ Below wr.heap.size wr wx)
        case first =>
          refine wp_region_held_drew (S := fun w' => Below wr.heap.size wr w') (by kernel_rfl) ?_ (fun hHeld => ?_)
          · exact Below.drew (Below.refl _ _)
          refine wpAnyH_take (i := 0) (v := ?_) rfl (by kernel_rfl) (by kernel_rfl) (by kernel_rfl) (fun _ _ _ h => h) (Or.inl ⟨by rfl, ?_⟩) (by assumption) ?_
          rotate_left
          · (intro w' hSw; (try dsimp only at hSw); go_simp; try (with_reducible rfl))
          change wpAnyH _ _ _ _ _ _ _ (Act.put _ (some 22) _) _
          try simp only [Act.put, List.setIfInBounds_toArray, List.set_cons_zero, List.set_cons_succ]
          refine wpAnyH_take (i := 1) (v := ?_) rfl (by kernel_rfl) (by kernel_rfl) (by kernel_rfl) (fun _ _ _ h => h) (Or.inl ⟨by rfl, ?_⟩) (by assumption) ?_
          rotate_left
          · (intro w' hSw; (try dsimp only at hSw); (have q0 := (hSw.cell (p := ⟨w.heap.size, 0, none⟩) hlx).trans x0; go_simp; try (with_reducible rfl)))
          change wpAnyH _ _ _ _ _ _ _ (Act.put _ (some 23) _) _
          try simp only [Act.put, List.setIfInBounds_toArray, List.set_cons_zero, List.set_cons_succ]
          refine wpAnyH_take (i := 2) (v := ?_) rfl (by kernel_rfl) (by kernel_rfl) (by kernel_rfl) (fun _ _ _ h => h) (Or.inl ⟨by rfl, ?_⟩) (by assumption) ?_
          rotate_left
          · (intro w' hSw; (try dsimp only at hSw); go_simp; try (with_reducible rfl))
          change wpAnyH _ _ _ _ _ _ _ (Act.put _ (some 24) _) _
          try simp only [Act.put, List.setIfInBounds_toArray, List.set_cons_zero, List.set_cons_succ]
          refine wpAnyH_take (i := 3) (v := ?_) rfl (by kernel_rfl) (by kernel_rfl) (by kernel_rfl) (fun _ _ _ h => h) (Or.inl ⟨by rfl, ?_⟩) (by assumption) ?_
          rotate_left
          · (intro w' hSw; (try dsimp only at hSw); go_simp; try (with_reducible rfl))
          change wpAnyH _ _ _ _ _ _ _ (Act.put _ (some 25) _) _
          try simp only [Act.put, List.setIfInBounds_toArray, List.set_cons_zero, List.set_cons_succ]
          refine wpAnyH_take (i := 4) (v := ?_) rfl (by kernel_rfl) (by kernel_rfl) (by kernel_rfl) (fun _ _ _ h => h) (Or.inl ⟨by rfl, ?_⟩) (by assumption) ?_
          rotate_left
          · (intro w' hSw; (try dsimp only at hSw); (have q0 := (hSw.cell (p := ⟨b, off + k * 6, none⟩) hbl).trans d0; have q1 := (hSw.cell (p := ⟨b, off + k * 6 + 1, none⟩) hbl).trans d1; have q2 := (hSw.cell (p := ⟨b, off + k * 6 + 2, none⟩) hbl).trans d2; have q3 := (hSw.cell (p := ⟨b, off + k * 6 + 3, none⟩) hbl).trans d3; have q4 := (hSw.cell (p := ⟨b, off + k * 6 + 4, none⟩) hbl).trans d4; have q5 := (hSw.cell (p := ⟨b, off + k * 6 + 5, none⟩) hbl).trans d5; go_simp; try (with_reducible rfl)))
          change wpAnyH _ _ _ _ _ _ _ (Act.put _ (some 26) _) _
          try simp only [Act.put, List.setIfInBounds_toArray, List.set_cons_zero, List.set_cons_succ]
          refine wpAnyH_take (i := 5) (v := ?_) rfl (by kernel_rfl) (by kernel_rfl) (by kernel_rfl) (fun _ _ _ h => h) (Or.inl ⟨by rfl, ?_⟩) (by assumption) ?_
          rotate_left
          · (intro w' hSw; (try dsimp only at hSw); go_simp; try (with_reducible rfl))
          change wpAnyH _ _ _ _ _ _ _ (Act.put _ (some 27) _) _
          try simp only [Act.put, List.setIfInBounds_toArray, List.set_cons_zero, List.set_cons_succ]
          refine wpAnyH_take (i := 6) (v := ?_) rfl (by kernel_rfl) (by kernel_rfl) (by kernel_rfl) (fun _ _ _ h => h) (Or.inl ⟨by rfl, ?_⟩) (by assumption) ?_
          rotate_left
          · (intro w' hSw; (try dsimp only at hSw); (have q0 := (hSw.cell (p := ⟨w.heap.size + 1, 0, none⟩) hly).trans y0; go_simp; try (with_reducible rfl)))
          change wpAnyH _ _ _ _ _ _ _ (Act.put _ (some 28) _) _
          try simp only [Act.put, List.setIfInBounds_toArray, List.set_cons_zero, List.set_cons_succ]
          refine wpAnyH_take (i := 7) (v := ?_) rfl (by kernel_rfl) (by kernel_rfl) (by kernel_rfl) (fun _ _ _ h => h) (Or.inl ⟨by rfl, ?_⟩) (by assumption) ?_
          rotate_left
          · (intro w' hSw; (try dsimp only at hSw); go_simp; try (with_reducible rfl))
          change wpAnyH _ _ _ _ _ _ _ (Act.put _ (some 29) _) _
          try simp only [Act.put, List.setIfInBounds_toArray, List.set_cons_zero, List.set_cons_succ]
          refine wpAnyH_take (i := 8) (v := ?_) rfl (by kernel_rfl) (by kernel_rfl) (by kernel_rfl) (fun _ _ _ h => h) (Or.inl ⟨by rfl, ?_⟩) (by assumption) ?_
          rotate_left
          · (intro w' hSw; (try dsimp only at hSw); go_simp; try (with_reducible rfl))
          change wpAnyH _ _ _ _ _ _ _ (Act.put _ (some 30) _) _
          try simp only [Act.put, List.setIfInBounds_toArray, List.set_cons_zero, List.set_cons_succ]
          refine wpAnyH_take (i := 9) (v := ?_) rfl (by kernel_rfl) (by kernel_rfl) (by kernel_rfl) (fun _ _ _ h => h) (Or.inl ⟨by rfl, ?_⟩) (by assumption) ?_
          rotate_left
          · (intro w' hSw; (try dsimp only at hSw); (have q0 := (hSw.cell (p := ⟨b', off' + k * 6, none⟩) hbl').trans e0; have q1 := (hSw.cell (p := ⟨b', off' + k * 6 + 1, none⟩) hbl').trans e1; have q2 := (hSw.cell (p := ⟨b', off' + k * 6 + 2, none⟩) hbl').trans e2; have q3 := (hSw.cell (p := ⟨b', off' + k * 6 + 3, none⟩) hbl').trans e3; have q4 := (hSw.cell (p := ⟨b', off' + k * 6 + 4, none⟩) hbl').trans e4; have q5 := (hSw.cell (p := ⟨b', off' + k * 6 + 5, none⟩) hbl').trans e5; go_simp; try (with_reducible rfl)))
          change wpAnyH _ _ _ _ _ _ _ (Act.put _ (some 31) _) _
          try simp only [Act.put, List.setIfInBounds_toArray, List.set_cons_zero, List.set_cons_succ]
          refine wpAnyH_ready (rs := [10, 11]) (by kernel_rfl) (by simp) ?_
          refine AllReadyH.cons (i := 10) rfl (fun K hK => ?_) ?_
          · simp only [List.getElem_toArray, List.getElem_cons_succ, List.getElem_cons_zero]
            rw [if_pos (by rfl)]
            go_simp
            have hHC10 := hHeld
            refine hK.out _ _ ?_ (fun hHeld => ?_)
            · ((try dsimp only); exact ext_trans hHeld (ext_alloc _ _))
            clear hK K
            try simp only [Act.put, List.setIfInBounds_toArray, List.set_cons_zero, List.set_cons_succ]
            refine wpAnyH_ready (rs := [11]) (by kernel_rfl) (by simp) ?_
            refine AllReadyH.cons (i := 11) rfl (fun K hK => ?_) AllReadyH.nil
            simp only [List.getElem_toArray, List.getElem_cons_succ, List.getElem_cons_zero]
            rw [if_pos (by rfl)]
            go_simp
            have hHC11 := hHeld
            refine hK.out _ _ ?_ (fun hHeld => ?_)
            · ((try dsimp only); exact ext_trans hHeld (ext_alloc _ _))
            clear hK K
            try simp only [Act.put, List.setIfInBounds_toArray, List.set_cons_zero, List.set_cons_succ]
            refine wpAnyH_ready (rs := [12]) (by kernel_rfl) (by simp) ?_
            refine AllReadyH.cons (i := 12) rfl (fun K hK => ?_) AllReadyH.nil
            simp only [List.getElem_toArray, List.getElem_cons_succ, List.getElem_cons_zero]
            rw [if_pos (by rfl)]
            go_simp
            refine hK.out _ _ ?_ (fun hHeld => ?_)
            · ((try dsimp only); exact Below.drew (ext_trans (ext_alloc _ _) (ext_alloc _ _)))
            clear hK K
            try simp only [Act.put, List.setIfInBounds_toArray, List.set_cons_zero, List.set_cons_succ]
            refine wpAnyH_ready (rs := [13]) (by kernel_rfl) (by simp) ?_
            refine AllReadyH.cons (i := 13) rfl (fun K hK => ?_) AllReadyH.nil
            simp only [List.getElem_toArray, List.getElem_cons_succ, List.getElem_cons_zero]
            rw [if_pos (by rfl)]
            go_simp
            refine hK.out _ _ ?_ (fun hHeld => ?_)
            · ((try dsimp only); exact Below.drew (ext_trans (ext_alloc _ _) (ext_alloc _ _)))
            clear hK K
            try simp only [Act.put, List.setIfInBounds_toArray, List.set_cons_zero, List.set_cons_succ]
            refine wpAnyH_done (by kernel_rfl) ?_ _
            go_wp2_with fail
            go_meet
            case rel => exact ⟨_, _, rfl, rfl, ⟨by go_simp, by go_simp, by go_simp, by go_simp, by go_simp, by go_simp⟩, ⟨by go_simp, by go_simp, by go_simp, by go_simp, by go_simp, by go_simp⟩, hHeld⟩
          refine AllReadyH.cons (i := 11) rfl (fun K hK => ?_) ?_
          · simp only [List.getElem_toArray, List.getElem_cons_succ, List.getElem_cons_zero]
            rw [if_pos (by rfl)]
            go_simp
            have hHC11 := hHeld
            refine hK.out _ _ ?_ (fun hHeld => ?_)
            · ((try dsimp only); exact ext_trans hHeld (ext_alloc _ _))
            clear hK K
            try simp only [Act.put, List.setIfInBounds_toArray, List.set_cons_zero, List.set_cons_succ]
            refine wpAnyH_ready (rs := [10]) (by kernel_rfl) (by simp) ?_
            refine AllReadyH.cons (i := 10) rfl (fun K hK => ?_) AllReadyH.nil
            simp only [List.getElem_toArray, List.getElem_cons_succ, List.getElem_cons_zero]
            rw [if_pos (by rfl)]
            go_simp
            have hHC10 := hHeld
            refine hK.out _ _ ?_ (fun hHeld => ?_)
            · ((try dsimp only); exact ext_trans hHeld (ext_alloc _ _))
            clear hK K
            try simp only [Act.put, List.setIfInBounds_toArray, List.set_cons_zero, List.set_cons_succ]
            refine wpAnyH_ready (rs := [12]) (by kernel_rfl) (by simp) ?_
            refine AllReadyH.cons (i := 12) rfl (fun K hK => ?_) AllReadyH.nil
            simp only [List.getElem_toArray, List.getElem_cons_succ, List.getElem_cons_zero]
            rw [if_pos (by rfl)]
            go_simp
            refine hK.out _ _ ?_ (fun hHeld => ?_)
            · ((try dsimp only); exact Below.drew (ext_trans (ext_alloc _ _) (ext_alloc _ _)))
            clear hK K
            try simp only [Act.put, List.setIfInBounds_toArray, List.set_cons_zero, List.set_cons_succ]
            refine wpAnyH_ready (rs := [13]) (by kernel_rfl) (by simp) ?_
            refine AllReadyH.cons (i := 13) rfl (fun K hK => ?_) AllReadyH.nil
            simp only [List.getElem_toArray, List.getElem_cons_succ, List.getElem_cons_zero]
            rw [if_pos (by rfl)]
            go_simp
            refine hK.out _ _ ?_ (fun hHeld => ?_)
            · ((try dsimp only); exact Below.drew (ext_trans (ext_alloc _ _) (ext_alloc _ _)))
            clear hK K
            try simp only [Act.put, List.setIfInBounds_toArray, List.set_cons_zero, List.set_cons_succ]
            refine wpAnyH_done (by kernel_rfl) ?_ _
            go_wp2_with fail
            go_meet
            case rel => exact ⟨_, _, rfl, rfl, ⟨by go_simp, by go_simp, by go_simp, by go_simp, by go_simp, by go_simp⟩, ⟨by go_simp, by go_simp, by go_simp, by go_simp, by go_simp, by go_simp⟩, hHeld⟩
          exact AllReadyH.nil
        case rest =>
        obtain ⟨g6, g7, rfl, rfl, ⟨m0, m1, m2, m3, m4, m5⟩, ⟨n0, n1, n2, n3, n4, n5⟩, hb3⟩ := hcut
        have hB3 := ext_trans hbW hb3
        have hl3 := hb3.size
        clear d0 d1 d2 d3 d4 d5 e0 e1 e2 e3 e4 e5 hlx hly hbl hbl' x0 y0
        have HOUT := hid (fun (h : ¬ (xk = yk ∧ xl = yl ∧ xh = yh ∧ xn = yn ∧ xs = ys ∧ xc = yc)) => (nodesEq_no (fun e => h (HEQ.out.2 (by simp only [e]))) : nodesEq ns ms = false))
        by_cases ek : xk = yk
        rotate_left
        · have q1 : (xk != yk) = true := bne_iff_ne.2 ek
          have HNO := hid (HOUT.out (fun e => ek e.1))
          clear ek
          go_wp2
          go_ret
          exact ⟨end_bool HNO.out.symm, hB3⟩
        subst ek
        by_cases el : xl = yl
        rotate_left
        · have q1 : (xl != yl) = true := bne_iff_ne.2 el
          have HNO := hid (HOUT.out (fun e => el e.2.1))
          clear el
          go_wp2
          go_ret
          exact ⟨end_bool HNO.out.symm, hB3⟩
        subst el
        by_cases eh : xh = yh
        rotate_left
        · have q1 : (xh != yh) = true := bne_iff_ne.2 eh
          have HNO := hid (HOUT.out (fun e => eh e.2.2.1))
          clear eh
          go_wp2
          go_ret
          exact ⟨end_bool HNO.out.symm, hB3⟩
        subst eh
        by_cases en : xn = yn
        rotate_left
        · have HNO := hid (HOUT.out (fun e => en e.2.2.2.1))
          cases xn
          · have ey : yn = true := by cases yn <;> simp_all
            subst ey
            clear en
            go_wp2
            go_ret
            exact ⟨end_bool HNO.out.symm, hB3⟩
          · have ey : yn = false := by cases yn <;> simp_all
            subst ey
            clear en
            go_wp2
            go_ret
            exact ⟨end_bool HNO.out.symm, hB3⟩
        subst en
        obtain ⟨q, hq⟩ : ∃ q, decide (xs = ys) = q := ⟨_, rfl⟩
        obtain ⟨r, hr⟩ : ∃ r, decide (xc = yc) = r := ⟨_, rfl⟩
        rw [hq] at CS
        rw [hr] at CK
        have HQ := hid hq
        have HR := hid hr
        clear hq hr
        have cell6 := hid (fun (w' : World) (hb : Below wc.heap.size wc w') (o : Nat) (z : Value) (h : wc.cell? ⟨g6, o, none⟩ = some z) => keeps_cells hb ⟨g6, o, none⟩ z h)
        have cell7 := hid (fun (w' : World) (hb : Below wc.heap.size wc w') (o : Nat) (z : Value) (h : wc.cell? ⟨g7, o, none⟩ = some z) => keeps_cells hb ⟨g7, o, none⟩ z h)
        go_wp2_with fail
        refine (CS.out _ hB3).mono ?_
        rintro e w4 ⟨rfl, hb4⟩
        have hB4 := ext_trans hB3 hb4
        have hk4 := ext_trans hb3 hb4
        replace m5 := cell6.out _ hb4 _ _ m5
        replace n5 := cell7.out _ hb4 _ _ n5
        clear m0 m1 m2 m3 m4 n0 n1 n2 n3 n4 cell6 cell7
        cases q with
        | false =>
          have HNO := hid (HOUT.out (fun e => of_decide_eq_false HQ.out e.2.2.2.2.1))
          go_wp2
          go_ret
          exact ⟨end_bool HNO.out.symm, hB4⟩
        | true =>
          go_wp2_with fail
          refine (CK.out _ hB4).mono ?_
          rintro e w5 ⟨rfl, hb5⟩
          have hB5 := ext_trans hB4 hb5
          have hb2 := ext_trans hb (ext_trans hk4 hb5)
          cases r with
          | false =>
            have HNO := hid (HOUT.out (fun e => of_decide_eq_false HR.out e.2.2.2.2.2))
            go_wp2
            go_ret
            exact ⟨end_bool HNO.out.symm, hB5⟩
          | true =>
            go_wp2
            go_roundw
            case rel =>
              have hgoal : ∃ k' : Nat, k' ≤ n ∧ Value.int .i64 ((k : Int) + 1) = .int .i64 (k' : Int) ∧ Hid (∀ j (hj : j < ns.length) (hj' : j < ms.length), j < k' → ns[j] = ms[j]) ∧ Below w2.heap.size w2 w5 := by
                refine ⟨k + 1, by omega, by rfl, hid (fun j hj hj' hjk => ?_), hb2⟩
                by_cases e : j = k
                · subst e; exact HEQ.out.1 (by have q1 := of_decide_eq_true HQ.out; have q2 := of_decide_eq_true HR.out; simp [q1, q2])
                · exact HA.out j hj hj' (by omega)
              exact hgoal
            case measure => simp [intOf]; omega
      · have hki : ¬ (k : Int) < (n : Int) := by omega
        go_wp2
        go_ret
        exact ⟨end_bool (nodesEq_iff.2 (List.ext_getElem HLEN.out (fun j hj hj' => HA.out j hj hj' (by rw [HX.out] at hj; omega)))).symm, hbW⟩
  · have f1 : ((ns.length : Int) != (ms.length : Int)) = true := by rw [bne_iff_ne]; omega
    have HNE := hid hlen
    clear hlen hF hG
    go_enter Tryz.func33, Tryz.ntmps33
    go_wp2
    go_ret
    exact ⟨end_bool (nodesEq_no (fun e => HNE.out (by rw [e]))).symm, ext_trans (ext_alloc _ _) (ext_alloc _ _)⟩
end Go.Proofs.YtomcoilmpkpoeaaGreatDoor

namespace Go.Proofs.YtomcoilmpkpoeaaGreatDoor
open Go.RowKit
set_option linter.unusedVariables false
set_option linter.unusedSimpArgs false

/-- whether a pattern is sound -/
noncomputable def soundP (ns : List RxNode) : Bool :=
  decide (ns.length ≤ 400) && (match textP ns with | none => false | some s => decide ((rdP 1000 s).2.2 = 0) && nodesEq ns (rdP 1000 s).1)
def node1 : RxNode := ⟨1, 0, 0, false, [], []⟩
theorem readP_nil : readP [] = .ok 0 0 [node1] := by rfl
theorem rdP_nil : rdP 1000 ⟨#[]⟩ = ([], 0, 7) ∨ rdP 1000 ⟨#[]⟩ = ([node1], 0, 0) := by
  have e1 : runesN (⟨#[]⟩ : ByteArray).data.toList = [] := by rfl
  have e2 : textOk (⟨#[]⟩ : ByteArray).data.toList = true := by rfl
  unfold rdP
  rw [e1, e2, if_neg (by simp)]
  unfold rdL
  rw [readP_nil]
  dsimp only
  split
  · exact Or.inl rfl
  · exact Or.inr rfl
theorem textP_one : ¬ textP [node1] = none := by
  have ht : treeB (kidsOf [node1]) = true := treeB_true ⟨by decide, fun i h k hk => by
    have : i = 0 := by simp [kidsOf] at h; omega
    subst this
    simp [kidsOf, node1] at hk, fun m h => by simp [kidsOf] at h⟩
  have hs : stepT (kindsOf [node1]) [] node1 = some ⟨#[]⟩ := by
    unfold stepT nodeT
    rw [if_pos (by rfl)]
    rfl
  rw [textP_go ht, textsGo, hs]
  simp [textsGo]
theorem sound_none {ns : List RxNode} (h : textP ns = none) : (decide ((rdP 1000 ⟨#[]⟩).2.2 = 0) && nodesEq ns (rdP 1000 ⟨#[]⟩).1) = false := by
  rcases rdP_nil with e | e
  · rw [e]; rfl
  · rw [e]
    dsimp only
    rw [nodesEq_no (fun e => by subst e; exact textP_one h)]
    rfl
theorem sound_big {ns : List RxNode} (h : ¬ ns.length ≤ 400) : soundP ns = false := by
  unfold soundP
  rw [decide_eq_false h]
  rfl
theorem sound_no {ns : List RxNode} (h : textP ns = none) : soundP ns = false := by
  unfold soundP
  rw [h]
  simp
theorem sound_some {ns : List RxNode} {s : ByteArray} (hl : ns.length ≤ 400) (h : textP ns = some s) : soundP ns = (decide ((rdP 1000 s).2.2 = 0) && nodesEq ns (rdP 1000 s).1) := by
  unfold soundP
  rw [h, decide_eq_true hl]
  rfl
theorem sound_spec {ns : List RxNode} (hl : ns.length ≤ 400) : soundP ns = (decide ((rdP 1000 ((textP ns).getD ⟨#[]⟩)).2.2 = 0) && nodesEq ns (rdP 1000 ((textP ns).getD ⟨#[]⟩)).1) := by
  cases h : textP ns with
  | none => rw [sound_no h]; exact (sound_none h).symm
  | some s => exact sound_some hl h
theorem nodesEq_comm (ns ms : List RxNode) : nodesEq ns ms = nodesEq ms ns := by
  by_cases h : ns = ms
  · rw [h]
  · rw [nodesEq_no h, nodesEq_no (fun e => h e.symm)]
set_option maxHeartbeats 8000000 in
set_option maxRecDepth 100000 in
theorem specRxSound {na : Option Addr} {nc : Nat} {ns : List RxNode} (w : World) (hn : Rd.rd (Old w) w [.slice na ns.length nc] ns) (hl : ns.length ≤ 2000000) :
    Calls Tryz.prog 7 #[.agg #[.slice na ns.length nc]] w fun e w' => e = .returned (.bool (soundP ns)) ∧ Below w.heap.size w w' := by
  have e0 := ext_alloc w (.cells #[.slice na ns.length nc] 29)
  have hW0 := heap_alloc_new w (.cells #[.slice na ns.length nc] 29)
  have HBX := hid (fun (w' : World) (hb : Below (w.heap.size + 1) (w.alloc (.cells #[.slice na ns.length nc] 29)) w') => (show w'.cell? ⟨w.heap.size, 0, none⟩ = some (.slice na ns.length nc) from cell_of_row _ _ 0 _ _ _ ((hb.block w.heap.size (Nat.lt_succ_self _)).trans hW0)))
  have hsz : (w.alloc (.cells #[.slice na ns.length nc] 29)).heap.size = w.heap.size + 1 := by simp
  have HSZ := hid hsz
  have x0 := HBX.out _ (Below.refl _ _)
  by_cases hbig : 400 < ns.length
  · have hb1 : (400 : Int) < (ns.length : Int) := by omega
    have HR := hid (sound_big (ns := ns) (by omega))
    clear hW0 hbig
    go_enter Tryz.func7, Tryz.ntmps7
    go_wp2
    go_ret
    exact ⟨end_bool HR.out.symm, e0⟩
  have hb1 : ¬ (400 : Int) < (ns.length : Int) := by omega
  have CT := hid (specTree (w.alloc (.cells #[.slice na ns.length nc] 29)) (Rd.later e0 hn) hl)
  obtain ⟨q, hq⟩ : ∃ q, treeB (kidsOf ns) = q := ⟨_, rfl⟩
  rw [hq] at CT
  cases q with
  | false =>
    have HR := hid (sound_no (textP_no hq))
    clear hW0 hbig hq
    go_enter Tryz.func7, Tryz.ntmps7
    go_wp2_with fail
    refine CT.out.mono ?_
    rintro e w1 ⟨rfl, hb⟩
    go_wp2
    go_ret
    exact ⟨end_bool HR.out.symm, ext_trans e0 hb⟩
  | true =>
    have HRS := hid (sound_spec (ns := ns) (by omega))
    have HN0 := hid hn
    obtain ⟨s, hs⟩ : ∃ s, (textP ns).getD ⟨#[]⟩ = s := ⟨_, rfl⟩
    rw [hs] at HRS
    have CX := hid (fun (w' : World) (hb : Below w.heap.size w w') => specRxText w' (Rd.later hb HN0.out) hl)
    rw [hs] at CX
    have CR := hid (fun (w' : World) => specL05Nodes 1000 (by decide) s w')
    obtain ⟨R, hR⟩ : ∃ r, rdP 1000 s = r := ⟨_, rfl⟩
    rw [hR] at CR HRS
    obtain ⟨rn, rp, rc⟩ := R
    have HE0 := hid e0
    clear hW0 hbig hq hs hR hn hl
    go_enter Tryz.func7, Tryz.ntmps7
    go_wp2_with fail
    refine CT.out.mono ?_
    rintro e w1 ⟨rfl, hb⟩
    have hB1 := ext_trans e0 hb
    have hk1 : Below (w.heap.size + 1) (w.alloc (.cells #[.slice na ns.length nc] 29)) w1 := by rw [← HSZ.out]; exact hb
    replace x0 := HBX.out _ hk1
    clear hb e0 CT
    go_wp2_with fail
    refine (CX.out _ hB1).mono ?_
    rintro e w2 ⟨rfl, hb2⟩
    have hk2 := hk1.trans (hb2.mono (by have := hk1.size; rw [HSZ.out] at this; exact this))
    have hB2 := ext_trans hB1 hb2
    replace x0 := HBX.out _ hk2
    clear hb2 hk1 hB1
    go_wp2_with fail
    refine (CR.out _).mono ?_
    rintro e w3 ⟨na', n', nc', rfl, hrd, hb3⟩
    have hk3 := hk2.trans (hb3.mono (by have := hk2.size; rw [HSZ.out] at this; exact this))
    have hB3 := ext_trans hB2 hb3
    replace x0 := HBX.out _ hk3
    have HRD := hid hrd
    have hl3 : w.heap.size < w3.heap.size := by have := hk3.size; rw [HSZ.out] at this; omega
    clear hb3 hk2 hB2 hrd
    dsimp only at HRD HRS
    dsimp only
    by_cases hc : rc = 0
    · subst hc
      have HRS2 := hid (show soundP ns = nodesEq ns rn by rw [HRS.out]; simp)
      have e3 := ext_alloc w3 (.cells #[.slice na' n' nc'] 29)
      have CS := hid (specSame (w3.alloc (.cells #[.slice na' n' nc'] 29)) (Rd.later (ext_trans hB3 e3) HN0.out) (Rd.later e3 (HRD.out rfl)))
      clear HRS HRD
      go_wp2_with fail
      refine CS.out.mono ?_
      rintro e w4 ⟨rfl, hb4⟩
      go_wp2
      go_ret
      exact ⟨end_bool HRS2.out.symm, ext_trans (ext_trans hB3 e3) hb4⟩
    · have hz1 : ((rc : Int) == 0) = false := by rw [beq_eq_false_iff_ne]; omega
      have hz2 : ¬ (rc : Int) = 0 := by omega
      have HRS2 := hid (show soundP ns = false by rw [HRS.out]; simp [hc])
      have e3 := ext_alloc w3 (.cells #[.slice na' n' nc'] 29)
      clear HRS HRD hc
      go_wp2
      go_ret
      exact ⟨end_bool HRS2.out.symm, ext_trans hB3 e3⟩
set_option maxHeartbeats 8000000 in
set_option maxRecDepth 100000 in
theorem implIsRx {na : Option Addr} {nc : Nat} {ns : List RxNode} (w : World) (hT : Tabs w) (hP : PT w) (hn : Rd.rd (Old w) w [.slice na ns.length nc] ns) (hl : ns.length ≤ 2000000) (hf : (kidsOf ns).flatten.length ≤ 1000000000000) (hk : ∀ n ∈ ns, n.kids.length ≤ 1048576) :
    Calls Tryz.prog 35 #[.agg #[.slice na ns.length nc]] w fun e w' => e = .returned (.bool (soundP ns)) ∧ Below w.heap.size w w' := by
  have e0 := ext_alloc w (.cells #[.slice na ns.length nc] 29)
  have hW0 := heap_alloc_new w (.cells #[.slice na ns.length nc] 29)
  have HBX := hid (fun (w' : World) (hb : Below (w.heap.size + 1) (w.alloc (.cells #[.slice na ns.length nc] 29)) w') => (show w'.cell? ⟨w.heap.size, 0, none⟩ = some (.slice na ns.length nc) from cell_of_row _ _ 0 _ _ _ ((hb.block w.heap.size (Nat.lt_succ_self _)).trans hW0)))
  have hsz : (w.alloc (.cells #[.slice na ns.length nc] 29)).heap.size = w.heap.size + 1 := by simp
  have HSZ := hid hsz
  have x0 := HBX.out _ (Below.refl _ _)
  have CX := hid (implRxText (w.alloc (.cells #[.slice na ns.length nc] 29)) (pt_below hP e0) (Rd.later e0 hn) hl hf hk)
  have HT := hid hT
  have HN0 := hid hn
  clear hW0 hT hP hn hl hf hk
  unfold TextRes at CX
  go_enter Tryz.func35, Tryz.ntmps35
  go_wp2_with fail
  refine CX.out.mono ?_
  rintro e w1 ⟨s, ok, rfl, hst, hss, hb⟩
  have hB1 := ext_trans e0 hb
  have hk1 : Below (w.heap.size + 1) (w.alloc (.cells #[.slice na ns.length nc] 29)) w1 := by rw [← HSZ.out]; exact hb
  replace x0 := HBX.out _ hk1
  clear hb e0 CX
  cases ok with
  | false =>
    have HR := hid (sound_no (ns := ns) (by rw [← hst]; rfl))
    clear hst hss
    go_wp2
    go_ret
    exact ⟨end_bool HR.out.symm, hB1⟩
  | true =>
    by_cases hbig : 400 < ns.length
    · have hb1 : (400 : Int) < (ns.length : Int) := by omega
      have HR := hid (sound_big (ns := ns) (by omega))
      clear hbig hst hss
      go_wp2
      go_ret
      exact ⟨end_bool HR.out.symm, hB1⟩
    have hb1 : ¬ (400 : Int) < (ns.length : Int) := by omega
    have HRS := hid (sound_some (s := s) (ns := ns) (by omega) (by rw [← hst]; rfl))
    have HP := hid (runesN_pts s.data.toList)
    have CU := hid (implRunesOf s w1 (tabs_below HT.out hB1))
    obtain ⟨R, hR⟩ : ∃ r, rdP 1000 s = r := ⟨_, rfl⟩
    rw [hR] at HRS
    unfold rdP at hR
    obtain ⟨l, hl⟩ : ∃ l, runesN s.data.toList = l := ⟨_, rfl⟩
    obtain ⟨b, hb⟩ : ∃ b, textOk s.data.toList = b := ⟨_, rfl⟩
    rw [hl] at CU hR HP
    rw [hb] at CU hR
    have HNB := hid hbig
    clear hst hss hl hb hbig
    go_wp2_with fail
    refine CU.out.mono ?_
    rintro e w2 ⟨u, rfl, how, hb2⟩
    obtain ⟨a, cap, rfl, hRL⟩ := rxl_own how HP.out.1 HP.out.2
    have hk2 := hk1.trans (hb2.mono (by have := hk1.size; rw [HSZ.out] at this; exact this))
    have hB2 := ext_trans hB1 hb2
    replace x0 := HBX.out _ hk2
    have CRD := hid (implReadRx (cap := cap) w2 (hRL.below (Below.refl _ _)))
    clear how hb2 hk1 hB1 CU
    cases b with
    | false =>
      rw [if_pos (Or.inl rfl)] at hR
      subst hR
      have HRS2 := hid (show soundP ns = false by rw [HRS.out]; rfl)
      clear HRS
      go_wp2
      go_ret
      exact ⟨end_bool HRS2.out.symm, hB2⟩
    | true =>
      rw [if_neg (by have := HP.out.1; simp; omega)] at hR
      unfold readE at CRD
      go_wp2_with fail
      refine CRD.out.mono ?_
      rintro e w3 ⟨he, hb3⟩
      have hk3 := hk2.trans (hb3.mono (by have := hk2.size; rw [HSZ.out] at this; exact this))
      have hB3 := ext_trans hB2 hb3
      replace x0 := HBX.out _ hk3
      have hl3 : w.heap.size < w3.heap.size := by have := hk3.size; rw [HSZ.out] at this; omega
      clear hb3 hk2 hB2 CRD
      rcases he with ⟨kid, j, ns', nv, h1, rfl, h3, h4⟩ | ⟨c, j, d', nv, h1, rfl, hc0, h3⟩
      · have hfl := readP_flat HP.out.1 h1
        have hrd := rxns_rd h4
        obtain ⟨na', nc', rfl, _⟩ := rdNodes hrd
        have CSZ := hid (implRxSize w3 hrd (by omega) hfl.2)
        have HRL := hid (show R = if 400 < ns'.length ∨ 1000 < sizeOf' ns' then ([], l.length, 7) else (ns', 0, 0) by rw [← hR]; unfold rdL; rw [h1])
        obtain ⟨c0, c1, c2, c3, y0, y1, y2, y3, hg3⟩ := blk4 h3
        have HRD := hid hrd
        obtain ⟨sz, hsz'⟩ : ∃ z, sizeOf' ns' = z := ⟨_, rfl⟩
        rw [hsz'] at HRL CSZ
        clear h3 h1 hR h4 hrd hsz'
        go_wp2_with fail
        refine CSZ.out.mono ?_
        rintro e w4 ⟨rfl, hb4⟩
        have hk4 := hk3.trans (hb4.mono (by have := hk3.size; rw [HSZ.out] at this; exact this))
        have hB4 := ext_trans hB3 hb4
        replace x0 := HBX.out _ hk4
        have d3 := keeps_cells hb4 _ _ c3
        have HRD4 := hid (Rd.later hb4 HRD.out)
        clear c0 c1 c2 c3 y0 y1 y2 y3
        by_cases h1000 : 1000 < sz
        · have h1000i : (1000 : Int) < (sz : Int) := by omega
          have HRS2 := hid (show soundP ns = false by rw [HRS.out, HRL.out, if_pos (Or.inr h1000)]; rfl)
          clear HRS HRL h1000
          go_wp2
          go_ret
          exact ⟨end_bool HRS2.out.symm, hB4⟩
        · have h1000i : ¬ (1000 : Int) < (sz : Int) := by omega
          have HRS2 := hid (show soundP ns = nodesEq ns' ns by
            rw [HRS.out, HRL.out]
            by_cases h400 : 400 < ns'.length
            · rw [if_pos (Or.inl h400), nodesEq_no (ns := ns') (fun e => by rw [e] at h400; exact HNB.out h400)]
              rfl
            · rw [if_neg (by omega)]
              dsimp only
              rw [nodesEq_comm ns ns']
              simp)
          have CEQ := hid (fun (w' : World) (hb : Below w4.heap.size w4 w') => implEqF w' (Rd.later hb HRD4.out) (Rd.later (ext_trans hB4 hb) HN0.out))
          clear HRS HRL h1000 CSZ HRD HRD4
          go_wp2_with fail
          refine wp_region_held_drew (S := fun w' => w'.cell? ⟨w2.heap.size, 3, none⟩ = some (.slice na' ns'.length nc') ∧ w'.cell? ⟨w.heap.size, 0, none⟩ = some (.slice na ns.length nc)) (by kernel_rfl) ?_ (fun hHeld => ?_)
          · exact ⟨d3, x0⟩
          refine wpAnyH_take (i := 0) (v := ?_) rfl (by kernel_rfl) (by kernel_rfl) (by kernel_rfl) (fun _ _ _ h => h) (Or.inl ⟨by rfl, ?_⟩) (by assumption) ?_
          rotate_left
          · (intro w' hSw; (try dsimp only at hSw); go_simp; try (with_reducible rfl))
          change wpAnyH _ _ _ _ _ _ _ (Act.put _ (some 44) _) _
          try simp only [Act.put, List.setIfInBounds_toArray, List.set_cons_zero, List.set_cons_succ]
          refine wpAnyH_take (i := 1) (v := ?_) rfl (by kernel_rfl) (by kernel_rfl) (by kernel_rfl) (fun _ _ _ h => h) (Or.inl ⟨by rfl, ?_⟩) (by assumption) ?_
          rotate_left
          · (intro w' hSw; (try dsimp only at hSw); go_simp; try (with_reducible rfl))
          change wpAnyH _ _ _ _ _ _ _ (Act.put _ (some 45) _) _
          try simp only [Act.put, List.setIfInBounds_toArray, List.set_cons_zero, List.set_cons_succ]
          refine wpAnyH_take (i := 2) (v := ?_) rfl (by kernel_rfl) (by kernel_rfl) (by kernel_rfl) (fun _ _ _ h => h) (Or.inl ⟨by rfl, ?_⟩) (by assumption) ?_
          rotate_left
          · (intro w' hSw; (try dsimp only at hSw); go_simp; try (with_reducible rfl))
          change wpAnyH _ _ _ _ _ _ _ (Act.put _ (some 46) _) _
          try simp only [Act.put, List.setIfInBounds_toArray, List.set_cons_zero, List.set_cons_succ]
          refine wpAnyH_take (i := 3) (v := ?_) rfl (by kernel_rfl) (by kernel_rfl) (by kernel_rfl) (fun _ _ _ h => h) (Or.inl ⟨by rfl, ?_⟩) (by assumption) ?_
          rotate_left
          · (intro w' hSw; (try dsimp only at hSw); go_simp; try (with_reducible rfl))
          change wpAnyH _ _ _ _ _ _ _ (Act.put _ (some 47) _) _
          try simp only [Act.put, List.setIfInBounds_toArray, List.set_cons_zero, List.set_cons_succ]
          refine wpAnyH_take (i := 4) (v := ?_) rfl (by kernel_rfl) (by kernel_rfl) (by kernel_rfl) (fun _ _ _ h => h) (Or.inl ⟨by rfl, ?_⟩) (by assumption) ?_
          rotate_left
          · (intro w' hSw; (try dsimp only at hSw); go_simp; try (with_reducible rfl))
          change wpAnyH _ _ _ _ _ _ _ (Act.put _ (some 48) _) _
          try simp only [Act.put, List.setIfInBounds_toArray, List.set_cons_zero, List.set_cons_succ]
          refine wpAnyH_take (i := 5) (v := ?_) rfl (by kernel_rfl) (by kernel_rfl) (by kernel_rfl) (fun _ _ _ h => h) (Or.inl ⟨by rfl, ?_⟩) (by assumption) ?_
          rotate_left
          · (intro w' hSw; (try dsimp only at hSw); go_simp; try (with_reducible rfl))
          change wpAnyH _ _ _ _ _ _ _ (Act.put _ (some 49) _) _
          try simp only [Act.put, List.setIfInBounds_toArray, List.set_cons_zero, List.set_cons_succ]
          refine wpAnyH_ready (rs := [6]) (by kernel_rfl) (by simp) ?_
          refine AllReadyH.cons (i := 6) rfl (fun K hK => ?_) AllReadyH.nil
          simp only [List.getElem_toArray, List.getElem_cons_succ, List.getElem_cons_zero]
          rw [if_pos (by rfl)]
          go_simp
          (go_at_call 80; refine (CEQ.out _ (Below.drew (Below.refl _ _))).mono ?_; rintro e' w5 ⟨rfl, hb5⟩; have hkc5 := keeps_cells hb5; go_wp2_with fail)
          have hOld := hHeld
          clear hHeld
          refine hK.out _ _ ?_ (fun hHeld => ?_)
          · (try dsimp only); exact ⟨hkc5 _ _ hOld.1, hkc5 _ _ hOld.2⟩
          clear hK K hOld
          try simp only [Act.put, List.setIfInBounds_toArray, List.set_cons_zero, List.set_cons_succ]
          refine wpAnyH_take (i := 7) (v := ?_) rfl (by kernel_rfl) (by kernel_rfl) (by kernel_rfl) (fun _ _ _ h => h) (Or.inl ⟨by rfl, ?_⟩) (by assumption) ?_
          rotate_left
          · (intro w' hSw; (try dsimp only at hSw); go_simp; try (with_reducible rfl))
          change wpAnyH _ _ _ _ _ _ _ (Act.put _ (some 2) _) _
          try simp only [Act.put, List.setIfInBounds_toArray, List.set_cons_zero, List.set_cons_succ]
          refine wpAnyH_done (by kernel_rfl) ?_ _
          clear hHeld
          go_wp2
          go_ret
          exact ⟨end_bool HRS2.out.symm, ext_trans hB4 (ext_trans (Below.drew (Below.refl _ _)) hb5)⟩
      · have HF := hid (show R = ([], j, c) by rw [← hR]; unfold rdL; rw [h1])
        have HRS2 := hid (show soundP ns = false by rw [HRS.out, HF.out]; simp [hc0])
        have hz1 : ((c : Int) == 0) = false := by rw [beq_eq_false_iff_ne]; omega
        have hz2 : ¬ (c : Int) = 0 := by omega
        have hz3 : ((c : Int) != 0) = true := by rw [bne_iff_ne]; omega
        clear h3 h1 hR HRS HF hc0
        go_wp2
        go_ret
        exact ⟨end_bool HRS2.out.symm, hB3⟩
set_option maxRecDepth 100000 in
theorem implRxSound {na : Option Addr} {nc : Nat} {ns : List RxNode} (w : World) (hT : Tabs w) (hP : PT w) (hn : Rd.rd (Old w) w [.slice na ns.length nc] ns) (hl : ns.length ≤ 2000000) (hf : (kidsOf ns).flatten.length ≤ 1000000000000) (hk : ∀ n ∈ ns, n.kids.length ≤ 1048576) :
    Calls Tryz.prog 9 #[.agg #[.slice na ns.length nc]] w fun e w' => e = .returned (.bool (soundP ns)) ∧ Below w.heap.size w w' := by
  have e0 := ext_alloc w (.cells #[.slice na ns.length nc] 29)
  have CX := hid (implIsRx (w.alloc (.cells #[.slice na ns.length nc] 29)) (tabs_below hT e0) (pt_below hP e0) (Rd.later e0 hn) hl hf hk)
  have E0 := hid e0
  clear hT hP hn hl hf hk e0
  go_enter Tryz.func9, Tryz.ntmps9
  go_wp2_with fail
  refine CX.out.mono ?_
  rintro e w1 ⟨rfl, hb⟩
  go_wp2
  go_ret
  exact ⟨rfl, ext_trans E0.out hb⟩
end Go.Proofs.YtomcoilmpkpoeaaGreatDoor
