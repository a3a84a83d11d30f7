/-
  What is proved here: whether lists of kids are a tree; impl.isTree and spec.l05Tree. No condition but that the rows lie in memory, and sizes.
  What is proved here: plain laws on JSON: the text of nodes, step by step. No program in sight; no condition.
  What is proved here: impl.jsonNode writes a node by the texts of its kids. The condition 'Tabs' speaks of the library's tables.
  What is proved here: impl.JsonText writes the text of a value. The conditions: sizes; 'Tabs' speaks of the library's tables.
  What is proved here: spec.l11Tree asks whether the kids of nodes are a tree. No condition but that the nodes lie in memory, and their number.
  What is proved here: spec.JsonString writes a string of JSON. No condition.
  What is proved here: spec.JsonText writes the text of a value. No condition but that the nodes lie in memory, and sizes.
  What is proved here: the laws' sizes, copies and comparisons of the program's structs. No condition. Written by gensz.py.
  What is proved here: the laws' sizes, copies and comparisons of JSON nodes. No condition. Written by gensz.py.
  What is proved here: JsonText in both packages, at a value of a bounded size. The condition 'Tabs' speaks of the library's tables for UTF-8.
  What is proved here: the walks of FnExactJsonText. The condition 'Tabs' (where it stands) says that the library's tables for UTF-8 lie in the world.
-/
import Derived.Test.YtlfkfofeenakhaaDoorJsO
import Derived.Test.YtlfkfofeenakhaaDoorRunesI
import Derived.Test.YtlfkfofeenakhaaDoorJsL9
import Derived.Lib.Join
import Derived.Test.YtlfkfofeenakhaaDoorJtI1
import Derived.Test.YtlfkfofeenakhaaDoorJsL10
import Derived.Test.YtlfkfofeenakhaaDoorShelfC
import Derived.Test.YtlfkfofeenakhaaDoorMark
import Derived.Test.YtlfkfofeenakhaaDoorPartS
import Derived.Test.YtlfkfofeenakhaaDoorJsS7
import Derived.Test.YtlfkfofeenakhaaDoorStr
import Derived.Deep.RegionHeld3
import Derived.Test.YtlfkfofeenakhaaDoorInts
namespace Go.Proofs.YtlfkfofeenakhaaDoor
open Go.RowKit
set_option linter.unusedVariables false
set_option linter.unusedSimpArgs false

/-- the lists are those of a tree: each kid stands before its list, each but the last is a kid once -/
def treeOk (ks : List (List Int)) : Prop := 0 < ks.length ∧ (∀ i (h : i < ks.length), ∀ k ∈ ks[i], 0 ≤ k ∧ k < (i : Int)) ∧ ∀ m : Nat, m + 1 < ks.length → ks.flatten.count (m : Int) = 1
open Classical in
noncomputable def treeB (ks : List (List Int)) : Bool := decide (treeOk ks)
open Classical in
theorem treeB_true {ks : List (List Int)} (h : treeOk ks) : treeB ks = true := decide_eq_true h
open Classical in
theorem treeB_false {ks : List (List Int)} (h : ¬ treeOk ks) : treeB ks = false := decide_eq_false h
open Classical in
theorem treeB_iff {ks : List (List Int)} : treeB ks = true ↔ treeOk ks := decide_eq_true_iff
/-- the kids of the first lists, and the first ones of the next -/
def procd (ks : List (List Int)) (i j : Nat) : List Int := (ks.take i).flatten ++ (ks.getD i []).take j
theorem procd_zero (ks : List (List Int)) : procd ks 0 0 = [] := by simp [procd]
theorem procd_next (ks : List (List Int)) (i : Nat) (h : i < ks.length) : procd ks (i + 1) 0 = procd ks i ks[i].length := by
  unfold procd
  rw [List.take_succ_eq_append_getElem h, List.flatten_append]
  simp [List.getD_eq_getElem?_getD, List.getElem?_eq_getElem h]
theorem procd_step (ks : List (List Int)) (i j : Nat) (h : i < ks.length) (hj : j < ks[i].length) : procd ks i (j + 1) = procd ks i j ++ [ks[i][j]] := by
  unfold procd
  rw [List.getD_eq_getElem?_getD, List.getElem?_eq_getElem h]
  simp only [Option.getD_some]
  rw [List.take_succ_eq_append_getElem hj, List.append_assoc]
theorem procd_all (ks : List (List Int)) : procd ks ks.length 0 = ks.flatten := by
  unfold procd
  simp
theorem procd_len (ks : List (List Int)) (i j : Nat) : (procd ks i j).length ≤ ks.flatten.length := by
  unfold procd
  rcases Nat.lt_or_ge i ks.length with h | h
  · have e : ks.flatten = (ks.take i).flatten ++ (ks[i] ++ (ks.drop (i + 1)).flatten) := by
      conv => lhs; rw [← List.take_append_drop i ks]
      rw [List.flatten_append, List.drop_eq_getElem_cons h, List.flatten_cons]
    rw [e, List.getD_eq_getElem?_getD, List.getElem?_eq_getElem h]
    simp only [List.length_append, Option.getD_some, List.length_take]
    omega
  · rw [List.getD_eq_getElem?_getD, List.getElem?_eq_none h, List.take_of_length_le h]
    simp
/-- all of these kids stand before their lists -/
def inBf (ks : List (List Int)) (i : Nat) : Prop := ∀ m (h : m < ks.length), m < i → ∀ k ∈ ks[m], 0 ≤ k ∧ k < (m : Int)
theorem not_tree_at {ks : List (List Int)} {i j : Nat} (h : i < ks.length) (hj : j < ks[i].length) (hk : ¬ (0 ≤ ks[i][j] ∧ ks[i][j] < (i : Int))) : ¬ treeOk ks :=
  fun ht => hk (ht.2.1 i h _ (List.getElem_mem hj))
/-- how often each stands -/
def cnts (n : Nat) (P : List Int) : List Value := (List.range n).map fun m : Nat => .int .i64 ((P.count (m : Int) : Nat) : Int)
theorem cnts_len (n : Nat) (P : List Int) : (cnts n P).length = n := by simp [cnts]
theorem cnts_nil (n : Nat) : cnts n [] = List.replicate n (.int .i64 0) := by
  apply List.ext_getElem
  · simp [cnts]
  · intro i h1 h2; simp [cnts]
theorem cnts_get {n m : Nat} (P : List Int) (h : m < n) : (cnts n P)[m]? = some (.int .i64 ((P.count (m : Int) : Nat) : Int)) := by
  unfold cnts
  rw [List.getElem?_map, List.getElem?_range h]
  rfl
theorem cnts_set {n m : Nat} (P : List Int) (h : m < n) : (cnts n P).set m (.int .i64 (((P.count (m : Int) : Nat) : Int) + 1)) = cnts n (P ++ [(m : Int)]) := by
  apply List.ext_getElem
  · simp [cnts]
  · intro i h1 h2
    rw [List.getElem_set]
    by_cases e : m = i
    · subst e
      rw [if_pos rfl]
      simp [cnts]
    · rw [if_neg e]
      have : ¬ ((m : Int) = (i : Int)) := by omega
      simp [cnts, List.count_append, List.count_cons, this]
/-- which ones stand -/
def useds (n : Nat) (P : List Int) : List Value := (List.range n).map fun m : Nat => .bool (decide ((m : Int) ∈ P))
theorem useds_len (n : Nat) (P : List Int) : (useds n P).length = n := by simp [useds]
theorem useds_nil (n : Nat) : useds n [] = List.replicate n (.bool false) := by
  apply List.ext_getElem
  · simp [useds]
  · intro i h1 h2; simp [useds]
theorem useds_get {n m : Nat} (P : List Int) (h : m < n) : (useds n P)[m]? = some (.bool (decide ((m : Int) ∈ P))) := by
  unfold useds
  rw [List.getElem?_map, List.getElem?_range h]
  rfl
theorem useds_set {n m : Nat} (P : List Int) (h : m < n) : (useds n P).set m (.bool true) = useds n (P ++ [(m : Int)]) := by
  apply List.ext_getElem
  · simp [useds]
  · intro i h1 h2
    rw [List.getElem_set]
    by_cases e : m = i
    · subst e
      rw [if_pos rfl]
      simp [useds]
    · rw [if_neg e]
      have : ¬ ((i : Int) = (m : Int)) := by omega
      simp [useds, this]
theorem nodup_count {P : List Int} (h : P.Nodup) (k : Int) : P.count k ≤ 1 := by
  induction P with
  | nil => simp
  | cons x r ih =>
    rw [List.nodup_cons] at h
    rw [List.count_cons]
    by_cases e : x = k
    · subst e
      rw [List.count_eq_zero_of_not_mem h.1]
      simp
    · have := ih h.2
      simp [e, this]
theorem count_dup {P : List Int} {k : Int} (h : k ∈ P) (Q : List Int) : 2 ≤ (P ++ [k] ++ Q).count k := by
  have h1 : 0 < P.count k := List.count_pos_iff.2 h
  rw [List.count_append, List.count_append]
  simp
  omega
theorem procd_rest (ks : List (List Int)) (i j : Nat) (h : i < ks.length) (hj : j ≤ ks[i].length) : ∃ Q, ks.flatten = procd ks i j ++ Q := by
  refine ⟨ks[i].drop j ++ (ks.drop (i + 1)).flatten, ?_⟩
  unfold procd
  conv => lhs; rw [← List.take_append_drop i ks]
  rw [List.flatten_append, List.drop_eq_getElem_cons h, List.flatten_cons, List.getD_eq_getElem?_getD, List.getElem?_eq_getElem h]
  simp only [Option.getD_some]
  rw [List.append_assoc, ← List.append_assoc (ks[i].take j), List.take_append_drop]
/-- a kid that stands twice: it is no tree -/
theorem not_tree_dup {ks : List (List Int)} {i j : Nat} (h : i < ks.length) (hj : j < ks[i].length) (hk : ks[i][j] < (i : Int)) (hm : ks[i][j] ∈ procd ks i j) : ¬ treeOk ks := by
  intro ht
  have h0 := ht.2.1 i h _ (List.getElem_mem hj)
  obtain ⟨Q, hQ⟩ := procd_rest ks i (j + 1) h hj
  rw [procd_step ks i j h hj] at hQ
  have h1 := count_dup hm Q
  rw [← hQ] at h1
  have h2 := ht.2.2 ks[i][j].toNat (by omega)
  rw [Int.toNat_of_nonneg h0.1] at h2
  omega

/-! ### Sizes -/
theorem snocInd {α : Type} {p : List α → Prop} (h0 : p []) (h1 : ∀ l a, p l → p (l ++ [a])) (l : List α) : p l := by
  have h : ∀ r : List α, p r.reverse := by
    intro r
    induction r with
    | nil => exact h0
    | cons a r ih => rw [List.reverse_cons]; exact h1 _ _ ih
  have := h l.reverse
  rwa [List.reverse_reverse] at this
def kidsOf (ns : List RxNode) : List (List Int) := ns.map (·.kids)
theorem rdRow {α : Type} [Rd α] {S : Nat → Prop} {w : World} {v : Value} {xs : List α} (h : Rd.rd S w [v] xs) : ∃ a cap, v = .slice a xs.length cap ∧ xs.length ≤ cap ∧ cap ≤ 9223372036854775807 ∧
    (0 < xs.length → ∃ b off, a = some ⟨b, off, none⟩ ∧ S b ∧ ∀ i (hi : i < xs.length), ∃ cs : List Value, (∀ j, j < Rd.n α → w.cell? ⟨b, off + i * Rd.n α + j, none⟩ = cs[j]?) ∧ Rd.rd S w cs xs[i]) := by
  obtain ⟨a, cap, hv, h1, h2, h3⟩ := h
  simp only [List.cons.injEq, and_true] at hv
  exact ⟨a, cap, hv, h1, h2, fun hp => let ⟨b, off, e, hr⟩ := h3 hp; ⟨b, off, e, hr.1, hr.2⟩⟩
theorem rdInts {S : Nat → Prop} {w : World} {v : Value} {xs : List Int} (h : Rd.rd S w [v] xs) : ∃ a cap, v = .slice a xs.length cap ∧ xs.length ≤ cap ∧ cap ≤ 9223372036854775807 ∧
    (0 < xs.length → ∃ b off, a = some ⟨b, off, none⟩ ∧ S b ∧ ∀ i (hi : i < xs.length), w.cell? ⟨b, off + i, none⟩ = some (.int .i64 xs[i]) ∧ -9223372036854775808 ≤ xs[i] ∧ xs[i] ≤ 9223372036854775807) := by
  obtain ⟨a, cap, hv, h1, h2, h3⟩ := rdRow h
  refine ⟨a, cap, hv, h1, h2, fun hp => ?_⟩
  obtain ⟨b, off, e, hS, hr⟩ := h3 hp
  refine ⟨b, off, e, hS, fun i hi => ?_⟩
  obtain ⟨cs, hc, hcs, hb⟩ := hr i hi
  have := hc 0 (by decide)
  subst hcs
  exact ⟨by simpa [Rd.n] using this, hb⟩
theorem rdRows {S : Nat → Prop} {w : World} {v : Value} {ks : List (List Int)} (h : Rd.rd S w [v] ks) : ∃ a cap, v = .slice a ks.length cap ∧ ks.length ≤ cap ∧ cap ≤ 9223372036854775807 ∧
    (0 < ks.length → ∃ b off, a = some ⟨b, off, none⟩ ∧ S b ∧ ∀ i (hi : i < ks.length), ∃ u, w.cell? ⟨b, off + i, none⟩ = some u ∧ Rd.rd S w [u] ks[i]) := by
  obtain ⟨a, cap, hv, h1, h2, h3⟩ := rdRow h
  refine ⟨a, cap, hv, h1, h2, fun hp => ?_⟩
  obtain ⟨b, off, e, hS, hr⟩ := h3 hp
  refine ⟨b, off, e, hS, fun i hi => ?_⟩
  obtain ⟨cs, hc, hcs⟩ := hr i hi
  obtain ⟨a', c', hcs', _⟩ := id hcs
  have := hc 0 (by decide)
  subst hcs'
  exact ⟨_, by simpa [Rd.n] using this, hcs⟩
theorem toList_inb {xs : List Value} {m : Nat} {v : Value} : xs.toArray.setIfInBounds m v = (xs.set m v).toArray := by simp
theorem cell_row {w : World} {b m : Nat} {xs : List Value} {t : TypeId} {fr : Nat × Nat} {v : Value} (h : w.heap[b]? = some (.cells xs.toArray t fr)) (hv : xs[m]? = some v) : w.cell? ⟨b, m, none⟩ = some v := by
  rw [cell_of_block h]; exact hv
theorem set_row {w : World} {b m : Nat} {xs : List Value} {t : TypeId} {v : Value} (h : w.heap[b]? = some (.cells xs.toArray t (0, 0))) : (w.setCell ⟨b, m, none⟩ v).heap[b]? = some (.cells (xs.set m v).toArray t (0, 0)) := by
  rw [← toList_inb]
  exact heap_setCell_same w b m _ _ v h
theorem made_ints (w : World) (n : Nat) (e : TypeId) : (w.alloc (.cells (madeCells #[.int .i64 0] n) e)).heap[w.heap.size]? = some (.cells (cnts n []).toArray e (0, 0)) := by
  rw [cnts_nil, ← toList_madeCells1]
  exact heap_alloc_new w _
set_option maxHeartbeats 16000000 in
set_option maxRecDepth 100000 in
theorem implIsTree {v : Value} {ks : List (List Int)} (w : World) (h : Rd.rd (Old w) w [v] ks) (hn : ks.length ≤ 2000000) (hf : ks.flatten.length ≤ 1000000000000) :
    Calls Tryd.prog 95 #[v] w fun e w' => e = .returned (.bool (treeB ks)) ∧ Below w.heap.size w w' := by
  obtain ⟨a, cap, rfl, h1, h2, hc⟩ := rdRows h
  obtain ⟨n, hnn⟩ : ∃ n, ks.length = n := ⟨_, rfl⟩
  have HNN := hid hnn
  have HC := hid hc
  have HFL := hid (procd_len ks)
  rw [hnn] at hn h1 ⊢
  clear hc h
  have hmk := run_make_row' (P := Tryd.prog) 61 3 _ 8 Tryd.underlying61 info_intI rfl .i64 .i64 n (by omega) (by omega)
  clear hnn
  go_enter Tryd.func95, Tryd.ntmps95
  go_wp2
  clear hmk
  go_loopw [15] (fun iv wr => ∃ i : Nat, i ≤ n ∧ iv = .int .i64 (i : Int) ∧ wr.heap[w.heap.size]? = some (.cells (cnts n (procd ks i 0)).toArray 3 (0, 0)) ∧ Below w.heap.size w wr ∧ inBf ks i) (fun iv _ => n - (intOf iv).toNat)
  case atStart => exact ⟨0, Nat.zero_le _, rfl, by rw [procd_zero]; exact made_ints _ _ _, ext_alloc _ _, fun m _ h => absurd h (by omega)⟩
  case round =>
    obtain ⟨i, hi, rfl, hg, hb, hin⟩ := hrel
    by_cases hlt : i < n
    · have hik : i < ks.length := by rw [HNN.out]; exact hlt
      obtain ⟨b, off, rfl, hB, hcell⟩ := HC.out (by omega)
      obtain ⟨u, hu, hrd⟩ := hcell i hik
      obtain ⟨ua, uc, rfl, hu1, hu2, huc⟩ := rdInts hrd
      have hce : wr.cell? ⟨b, off + i, none⟩ = some (.slice ua ks[i].length uc) := (hb.cell (p := ⟨b, off + i, none⟩) hB).trans hu
      obtain ⟨kl, hkl⟩ : ∃ k, ks[i].length = k := ⟨_, rfl⟩
      rw [hkl] at hce hu1
      have HKL := hid hkl
      have HUC := hid huc
      have HG := hid hg
      have HBL := hid hb
      have HIN := hid hin
      have hlti : (i : Int) < (n : Int) := by omega
      have hw1 : IntKind.i64.wrap ((i : Int) - 1) = (i : Int) - 1 := IntWalk.i64_in _ (by omega)
      obtain ⟨wo, hwo⟩ : ∃ wo : World, wo = wr := ⟨_, rfl⟩
      rw [← hwo] at hce HG HBL ⊢
      clear hg hb hin hcell hu hrd huc hkl hwo wr
      go_wp2
      clear hce
      go_loopw [22] (fun jv wr => ∃ j : Nat, j ≤ kl ∧ jv = .int .i64 (j : Int) ∧ wr.heap[w.heap.size]? = some (.cells (cnts n (procd ks i j)).toArray 3 (0, 0)) ∧ Below w.heap.size w wr ∧ (∀ q (hq : q < ks[i].length), q < j → 0 ≤ ks[i][q] ∧ ks[i][q] < (i : Int))) (fun jv _ => kl - (intOf jv).toNat)
      case atStart => exact ⟨0, Nat.zero_le _, rfl, HG.out, HBL.out, fun q _ h => absurd h (by omega)⟩
      case round =>
        obtain ⟨j, hj, rfl, hg, hb, hjn⟩ := hrel
        by_cases hltj : j < kl
        · have hjk : j < ks[i].length := by rw [HKL.out]; exact hltj
          obtain ⟨b', off', rfl, hB', hcell'⟩ := HUC.out (by omega)
          obtain ⟨hcj, hr1, hr2⟩ := hcell' j hjk
          obtain ⟨x, hx⟩ : ∃ x, ks[i][j] = x := ⟨_, rfl⟩
          have hcx : wr.cell? ⟨b', off' + j, none⟩ = some (.int .i64 x) := by rw [← hx]; exact (hb.cell (p := ⟨b', off' + j, none⟩) hB').trans hcj
          have hltji : (j : Int) < (kl : Int) := by omega
          have HX := hid hx
          have HG2 := hid hg
          have HB2 := hid hb
          have HJN := hid hjn
          have HCX := hid hcx
          clear hg hb hjn hcell' hcj hx
          by_cases hin : 0 ≤ x ∧ x ≤ (i : Int) - 1
          · obtain ⟨m, rfl⟩ : ∃ m : Nat, x = (m : Int) := ⟨x.toNat, by omega⟩
            have hmn : m < n := by omega
            have hm0 : (0 : Int) ≤ (m : Int) := by omega
            have hm1 : (m : Int) < (n : Int) := by omega
            have hcm := cell_row HG2.out (cnts_get (procd ks i j) hmn)
            have hzm : wr.frozen? ⟨w.heap.size, m, none⟩ = false := frozen_of_row wr w.heap.size _ _ _ HG2.out
            obtain ⟨c, hcc⟩ : ∃ c, (procd ks i j).count (m : Int) = c := ⟨_, rfl⟩
            have hcl : c ≤ 1000000000000 := by rw [← hcc]; exact Nat.le_trans (Nat.le_trans List.count_le_length (HFL.out i j)) hf
            rw [hcc] at hcm
            have HCC := hid hcc
            have hwc : IntKind.i64.wrap ((c : Int) + 1) = (c : Int) + 1 := IntWalk.i64_in _ (by omega)
            have hinb := inB_true hin
            clear hcc
            go_wp2_with fail
            refine (within_any (m : Int) 0 ((i : Int) - 1) wr).mono ?_
            rintro e w5 ⟨rfl, rfl⟩
            rw [hinb]
            go_wp2
            go_roundw
            case rel =>
              refine ⟨j + 1, by omega, by go_num, ?_, HB2.out.setCell (Nat.le_refl _) _, ?_⟩
              · rw [procd_step ks i j hik hjk, HX.out, ← cnts_set _ hmn, HCC.out]
                exact set_row HG2.out
              · intro q hq hqj
                rcases Nat.lt_or_ge q j with h | h
                · exact HJN.out q hq h
                · obtain rfl : q = j := by omega
                  rw [HX.out]
                  exact ⟨hin.1, by omega⟩
            case measure => simp [intOf]; omega
          · have hinb := inB_false hin
            have HF := hid (treeB_false (not_tree_at hik hjk (by rw [HX.out]; omega)))
            go_wp2_with fail
            refine (within_any x 0 ((i : Int) - 1) wr).mono ?_
            rintro e w5 ⟨rfl, rfl⟩
            rw [hinb]
            go_wp2
            go_ret
            exact ⟨by rw [HF.out]; rfl, HB2.out⟩
        · obtain rfl : j = kl := by omega
          have HG2 := hid hg
          have HB2 := hid hb
          have HJN := hid hjn
          clear hg hb hjn
          have hwi : IntKind.i64.wrap ((i : Int) + 1) = (i : Int) + 1 := IntWalk.i64_in _ (by omega)
          go_wp2
          go_roundw
          case rel =>
            refine ⟨i + 1, by omega, by go_num, ?_, HB2.out, ?_⟩
            · rw [procd_next ks i hik, HKL.out]; exact HG2.out
            · intro m hm hmi k hk
              rcases Nat.lt_or_ge m i with h | h
              · exact HIN.out m hm h k hk
              · obtain rfl : m = i := by omega
                obtain ⟨q, hq, rfl⟩ := List.mem_iff_getElem.1 hk
                exact HJN.out q hq (by rw [← HKL.out]; exact hq)
          case measure => simp [intOf]; omega
    · obtain rfl : i = n := by omega
      have hall : procd ks i 0 = ks.flatten := by rw [← HNN.out]; exact procd_all ks
      rw [hall] at hg
      have HG := hid hg
      have HBL := hid hb
      have HIN := hid hin
      clear hg hb hin hlt hall
      obtain ⟨wo, hwo⟩ : ∃ wo : World, wo = wr := ⟨_, rfl⟩
      rw [← hwo] at HG HBL ⊢
      clear hwo wr
      go_wp2
      go_loopw [41] (fun mv wr => ∃ m : Nat, m ≤ i ∧ mv = .int .i64 (m : Int) ∧ wr = wo ∧ (∀ q, q < m → q + 1 < i → ks.flatten.count (q : Int) = 1)) (fun mv _ => i - (intOf mv).toNat)
      case atStart => exact ⟨0, Nat.zero_le _, rfl, rfl, fun q h => absurd h (by omega)⟩
      case round =>
        obtain ⟨m, hm, rfl, rfl, hq⟩ := hrel
        have HQ := hid hq
        clear hq
        by_cases hltm : m < i
        · have hltmi : (m : Int) < (i : Int) := by omega
          have hm0 : (0 : Int) ≤ (m : Int) := by omega
          have hcm := cell_row HG.out (cnts_get ks.flatten hltm)
          obtain ⟨c, hcc⟩ : ∃ c, ks.flatten.count (m : Int) = c := ⟨_, rfl⟩
          rw [hcc] at hcm
          have HCC := hid hcc
          have hwm : IntKind.i64.wrap ((m : Int) + 1) = (m : Int) + 1 := IntWalk.i64_in _ (by omega)
          have hwn : IntKind.i64.wrap ((i : Int) - 1) = (i : Int) - 1 := IntWalk.i64_in _ (by omega)
          clear hcc
          by_cases hlast : m + 1 < i
          · have hl1 : (m : Int) < (i : Int) - 1 := by omega
            by_cases hc1 : c = 1
            · subst hc1
              go_wp2
              go_roundw
              case rel =>
                refine ⟨m + 1, by omega, by go_num, by simp, fun q h1 h2 => ?_⟩
                rcases Nat.lt_or_ge q m with h | h
                · exact HQ.out q h h2
                · obtain rfl : q = m := by omega
                  exact HCC.out
              case measure => simp [intOf]; omega
            · have hce : ((c : Int) == 1) = false := by rw [beq_eq_false_iff_ne]; omega
              have hce2 : ¬ (c : Int) = 1 := by omega
              have hce3 : ((c : Int) != 1) = true := by rw [bne_iff_ne]; omega
              have HF := hid (treeB_false (ks := ks) (fun ht => hc1 (by rw [← HCC.out]; exact ht.2.2 m (by rw [HNN.out]; exact hlast))))
              go_wp2
              go_ret
              exact ⟨by rw [HF.out]; rfl, HBL.out⟩
          · have hl1 : ¬ (m : Int) < (i : Int) - 1 := by omega
            go_wp2
            go_roundw
            case rel =>
              refine ⟨m + 1, by omega, by go_num, by simp, fun q h1 h2 => ?_⟩
              exact HQ.out q (by omega) h2
            case measure => simp [intOf]; omega
        · obtain rfl : m = i := by omega
          by_cases h0 : 0 < m
          · have HF := hid (treeB_true (ks := ks) ⟨by rw [HNN.out]; exact h0, fun q hq k hk => HIN.out q hq (by rw [HNN.out] at hq; exact hq) k hk, fun q hq => HQ.out q (by rw [HNN.out] at hq; omega) (by rw [HNN.out] at hq; exact hq)⟩)
            have h0i : (0 : Int) < (m : Int) := by omega
            go_wp2
            go_ret
            exact ⟨by rw [HF.out]; simp <;> omega, HBL.out⟩
          · have HF := hid (treeB_false (ks := ks) (fun ht => h0 (by have := ht.1; rw [HNN.out] at this; exact this)))
            have h0i : ¬ (0 : Int) < (m : Int) := by omega
            go_wp2
            go_ret
            exact ⟨by rw [HF.out]; simp <;> omega, HBL.out⟩
theorem rdNode {S : Nat → Prop} {w : World} {cs : List Value} {x : RxNode} (h : Rd.rd S w cs x) : ∃ us uk, cs = [.int .i64 x.kind, .int .i64 x.lo, .int .i64 x.hi, .bool x.neg, us, uk] ∧ (-9223372036854775808 ≤ x.kind ∧ x.kind ≤ 9223372036854775807) ∧ (-9223372036854775808 ≤ x.lo ∧ x.lo ≤ 9223372036854775807) ∧ (-9223372036854775808 ≤ x.hi ∧ x.hi ≤ 9223372036854775807) ∧ Rd.rd S w [us] x.set ∧ Rd.rd S w [uk] x.kids := by
  obtain ⟨c1, r1, rfl, ⟨rfl, h1⟩, c2, r2, rfl, ⟨rfl, h2⟩, c3, r3, rfl, ⟨rfl, h3⟩, c4, r4, rfl, h4, c5, c6, rfl, h5, h6⟩ := h
  obtain rfl : c4 = [.bool x.neg] := h4
  obtain ⟨a5, k5, rfl, h5'⟩ := id h5
  obtain ⟨a6, k6, rfl, h6'⟩ := id h6
  exact ⟨_, _, rfl, h1, h2, h3, h5, h6⟩
theorem rdNodes {S : Nat → Prop} {w : World} {v : Value} {ns : List RxNode} (h : Rd.rd S w [v] ns) : ∃ a cap, v = .slice a ns.length cap ∧ ns.length ≤ cap ∧ cap ≤ 9223372036854775807 ∧
    (0 < ns.length → ∃ b off, a = some ⟨b, off, none⟩ ∧ S b ∧ ∀ i (hi : i < ns.length), ∃ us uk, (w.cell? ⟨b, off + i * 6, none⟩ = some (.int .i64 ns[i].kind) ∧ w.cell? ⟨b, off + i * 6 + 1, none⟩ = some (.int .i64 ns[i].lo) ∧ w.cell? ⟨b, off + i * 6 + 2, none⟩ = some (.int .i64 ns[i].hi)
      ∧ w.cell? ⟨b, off + i * 6 + 3, none⟩ = some (.bool ns[i].neg) ∧ w.cell? ⟨b, off + i * 6 + 4, none⟩ = some us ∧ w.cell? ⟨b, off + i * 6 + 5, none⟩ = some uk) ∧ ((-9223372036854775808 ≤ ns[i].kind ∧ ns[i].kind ≤ 9223372036854775807) ∧ (-9223372036854775808 ≤ ns[i].lo ∧ ns[i].lo ≤ 9223372036854775807) ∧ (-9223372036854775808 ≤ ns[i].hi ∧ ns[i].hi ≤ 9223372036854775807)) ∧ Rd.rd S w [us] ns[i].set ∧ Rd.rd S w [uk] ns[i].kids) := by
  obtain ⟨a, cap, hv, h1, h2, h3⟩ := rdRow h
  refine ⟨a, cap, hv, h1, h2, fun hp => ?_⟩
  obtain ⟨b, off, e, hS, hr⟩ := h3 hp
  refine ⟨b, off, e, hS, fun i hi => ?_⟩
  obtain ⟨cs, hc, hcs⟩ := hr i hi
  obtain ⟨us, uk, rfl, g1, g2, g3, g4, g5⟩ := rdNode hcs
  exact ⟨us, uk, ⟨hc 0 (by decide), hc 1 (by decide), hc 2 (by decide), hc 3 (by decide), hc 4 (by decide), hc 5 (by decide)⟩, ⟨g1, g2, g3⟩, g4, g5⟩
theorem info_intsR : (Tryd.prog.info? 61).map (fun i => (i.zero, i.size, i.bytes)) = some (some (.slice none 0 0), 1, 24) := by kernel_rfl
theorem kidsOf_get {ns : List RxNode} {i : Nat} (h : i < ns.length) : (kidsOf ns)[i]'(by simpa [kidsOf] using h) = ns[i].kids := by simp [kidsOf]
theorem info_boolR : (Tryd.prog.info? 4).map (fun i => (i.zero, i.size, i.bytes)) = some (some (.bool false), 1, 1) := by kernel_rfl
theorem made_bools (w : World) (n : Nat) (e : TypeId) : (w.alloc (.cells (madeCells #[.bool false] n) e)).heap[w.heap.size]? = some (.cells (useds n []).toArray e (0, 0)) := by
  rw [useds_nil, ← toList_madeCells1]
  exact heap_alloc_new w _
theorem tree_all {ks : List (List Int)} (h0 : 0 < ks.length) (hin : inBf ks ks.length) (hnd : ks.flatten.Nodup) (hall : ∀ q : Nat, q + 1 < ks.length → (q : Int) ∈ ks.flatten) : treeOk ks := by
  refine ⟨h0, fun i h k hk => hin i h h k hk, fun m hm => ?_⟩
  have h1 := nodup_count hnd (m : Int)
  have h2 : 0 < ks.flatten.count (m : Int) := List.count_pos_iff.2 (hall m hm)
  omega
theorem tree_not_all {ks : List (List Int)} {m : Nat} (hm : m + 1 < ks.length) (h : ¬ (m : Int) ∈ ks.flatten) : ¬ treeOk ks := by
  intro ht
  have := ht.2.2 m hm
  rw [List.count_eq_zero_of_not_mem h] at this
  omega
set_option maxHeartbeats 16000000 in
set_option maxRecDepth 100000 in
theorem specTree {v : Value} {ns : List RxNode} (w : World) (h : Rd.rd (Old w) w [v] ns) (hn : ns.length ≤ 2000000) :
    Calls Tryd.prog 93 #[.agg #[v]] w fun e w' => e = .returned (.bool (treeB (kidsOf ns))) ∧ Below w.heap.size w w' := by
  obtain ⟨a, cap, rfl, h1, h2, hc⟩ := rdNodes h
  obtain ⟨n, hnn⟩ : ∃ n, ns.length = n := ⟨_, rfl⟩
  have HNN := hid hnn
  have hkn : (kidsOf ns).length = n := by simp [kidsOf, hnn]
  have HKN := hid hkn
  have HC := hid hc
  rw [hnn] at hn h1 ⊢
  clear hc h hkn
  have hmk := run_make_row' (P := Tryd.prog) 133 4 _ 1 Tryd.underlying133 info_boolR rfl .i64 .i64 n (by omega) (by omega)
  clear hnn
  by_cases hz : n = 0
  · have HF := hid (treeB_false (ks := kidsOf ns) (fun ht => by have := ht.1; rw [HKN.out] at this; omega))
    subst hz
    clear hmk
    go_enter Tryd.func93, Tryd.ntmps93
    go_wp2
    go_ret
    exact ⟨by rw [HF.out]; rfl, ext_alloc _ _⟩
  have hn0 : ((n : Int) == 0) = false := by rw [beq_eq_false_iff_ne]; omega
  have hn1 : ¬ (n : Int) = 0 := by omega
  go_enter Tryd.func93, Tryd.ntmps93
  go_wp2
  clear hmk
  go_loopw [4] (fun iv wr => ∃ i : Nat, i ≤ n ∧ iv = .int .i64 (i : Int) ∧ wr.heap[w.heap.size]? = some (.cells #[.slice a n cap] 32 (0, 0)) ∧ wr.heap[w.heap.size + 1]? = some (.cells (useds n (procd (kidsOf ns) i 0)).toArray 4 (0, 0)) ∧ Below w.heap.size w wr ∧ inBf (kidsOf ns) i ∧ (procd (kidsOf ns) i 0).Nodup) (fun iv _ => n - (intOf iv).toNat)
  case atStart => exact ⟨0, Nat.zero_le _, rfl, ((ext_alloc (w.alloc (Obj.cells #[.slice a n cap] 32)) _).block w.heap.size (by simp)).trans (heap_alloc_new _ _), by rw [procd_zero]; have := made_bools (w.alloc (Obj.cells #[.slice a n cap] 32)) n 4; simpa using this, (ext_alloc _ _).trans ((ext_alloc _ _).mono (by simp)), fun m _ h => absurd h (by omega), by rw [procd_zero]; exact List.nodup_nil⟩
  case round =>
    obtain ⟨i, hi, rfl, hx, hg, hb, hin, hnd⟩ := hrel
    have cx : wr.cell? ⟨w.heap.size, 0, none⟩ = some (.slice a n cap) := cell_of_row _ _ 0 _ _ _ hx
    have HXB := hid hx
    by_cases hlt : i < n
    · have hik : i < ns.length := by rw [HNN.out]; exact hlt
      have hikk : i < (kidsOf ns).length := by rw [HKN.out]; exact hlt
      obtain ⟨b, off, rfl, hB, hcell⟩ := HC.out (by omega)
      obtain ⟨us, uk, ⟨d0, d1, d2, d3, d4, d5⟩, _, hrs, hrk⟩ := hcell i hik
      obtain ⟨ka, kc, rfl, hu1, hu2, huc⟩ := rdInts hrk
      have hg5 := kidsOf_get hik
      obtain ⟨K, hK⟩ : ∃ K, ns[i].kids = K := ⟨_, rfl⟩
      rw [hK] at d5 huc hu1 hg5
      obtain ⟨kl, hkl⟩ : ∃ k, K.length = k := ⟨_, rfl⟩
      rw [hkl] at d5 hu1
      have HKL := hid hkl
      have HG5 := hid hg5
      have HUC := hid huc
      have HG := hid hg
      have HBL := hid hb
      have HIN := hid hin
      have HND := hid hnd
      have HD5 := hid d5
      have hlti : (i : Int) < (n : Int) := by omega
      have hi0 : (0 : Int) ≤ (i : Int) := by omega
      obtain ⟨wo, hwo⟩ : ∃ wo : World, wo = wr := ⟨_, rfl⟩
      rw [← hwo] at HG HBL HXB cx ⊢
      clear hg hb hin hnd hcell hrs hrk huc hkl hK hg5 d0 d1 d2 d3 d4 d5 hwo hx wr
      go_wp2
      clear cx
      go_loopw [5] (fun jv wr => ∃ j : Nat, j ≤ kl ∧ jv = .int .i64 (j : Int) ∧ wr.heap[w.heap.size]? = some (.cells #[.slice (some ⟨b, off, none⟩) n cap] 32 (0, 0)) ∧ wr.heap[w.heap.size + 1]? = some (.cells (useds n (procd (kidsOf ns) i j)).toArray 4 (0, 0)) ∧ Below w.heap.size w wr ∧ (∀ q (hq : q < K.length), q < j → 0 ≤ K[q] ∧ K[q] < (i : Int)) ∧ (procd (kidsOf ns) i j).Nodup) (fun jv _ => kl - (intOf jv).toNat)
      case atStart => exact ⟨0, Nat.zero_le _, rfl, HXB.out, HG.out, HBL.out, fun q _ h => absurd h (by omega), HND.out⟩
      case round =>
        obtain ⟨j, hj, rfl, hx, hg, hb, hjn, hnd⟩ := hrel
        have cx : wr.cell? ⟨w.heap.size, 0, none⟩ = some (.slice (some ⟨b, off, none⟩) n cap) := cell_of_row _ _ 0 _ _ _ hx
        have d5 : wr.cell? ⟨b, off + i * 6 + 5, none⟩ = some (.slice ka kl kc) := (hb.cell (p := ⟨b, off + i * 6 + 5, none⟩) hB).trans HD5.out
        have HXB2 := hid hx
        have HG2 := hid hg
        have HB2 := hid hb
        have HJN := hid hjn
        have HND2 := hid hnd
        have hge : w.heap.size + 1 < wr.heap.size := (Array.getElem?_eq_some_iff.1 hg).1
        clear hx hg hjn hnd
        by_cases hltj : j < kl
        · have hjk : j < K.length := by rw [HKL.out]; exact hltj
          obtain ⟨b', off', rfl, hB', hcell'⟩ := HUC.out (by omega)
          obtain ⟨hcj, hr1, hr2⟩ := hcell' j hjk
          obtain ⟨x, hx⟩ : ∃ x, K[j] = x := ⟨_, rfl⟩
          have hcx : wr.cell? ⟨b', off' + j, none⟩ = some (.int .i64 x) := by rw [← hx]; exact (hb.cell (p := ⟨b', off' + j, none⟩) hB').trans hcj
          have hkx : (kidsOf ns)[i][j]'(by rw [HG5.out]; exact hjk) = x := by
            rw [← hx]
            simp only [HG5.out]
          have hltji : (j : Int) < (kl : Int) := by omega
          have hj0 : (0 : Int) ≤ (j : Int) := by omega
          have HX := hid hx
          have HKX := hid hkx
          clear hcell' hcj hx hb hkx
          by_cases hneg : x < 0
          · have HF := hid (treeB_false (not_tree_at hikk (by rw [HG5.out]; exact hjk) (by rw [HKX.out]; omega)))
            go_wp2
            go_ret
            exact ⟨by rw [HF.out]; rfl, HB2.out⟩
          obtain ⟨m, rfl⟩ : ∃ m : Nat, x = (m : Int) := ⟨x.toNat, by omega⟩
          by_cases hbig : i ≤ m
          · have HF := hid (treeB_false (not_tree_at hikk (by rw [HG5.out]; exact hjk) (by rw [HKX.out]; omega)))
            have hbigi : (i : Int) ≤ (m : Int) := by omega
            go_wp2
            go_ret
            exact ⟨by rw [HF.out]; rfl, HB2.out⟩
          have hbigi : ¬ (i : Int) ≤ (m : Int) := by omega
          have hmn : m < n := by omega
          have hm0 : (0 : Int) ≤ (m : Int) := by omega
          have hm1 : (m : Int) < (n : Int) := by omega
          have hcm := cell_row HG2.out (useds_get (procd (kidsOf ns) i j) hmn)
          have hzm : wr.frozen? ⟨w.heap.size + 1, m, none⟩ = false := frozen_of_row wr _ _ _ _ HG2.out
          by_cases hmem : (m : Int) ∈ procd (kidsOf ns) i j
          · rw [decide_eq_true hmem] at hcm
            have HF := hid (treeB_false (not_tree_dup hikk (by rw [HG5.out]; exact hjk) (by rw [HKX.out]; omega) (by rw [HKX.out]; exact hmem)))
            clear hmem
            go_wp2
            go_ret
            exact ⟨by rw [HF.out]; rfl, HB2.out⟩
          · rw [decide_eq_false hmem] at hcm
            have HMEM := hid hmem
            have hwj : IntKind.i64.wrap ((j : Int) + 1) = (j : Int) + 1 := IntWalk.i64_in _ (by omega)
            clear hmem
            go_wp2
            go_roundw
            case rel =>
              have hst := procd_step (kidsOf ns) i j hikk (by rw [HG5.out]; exact hjk)
              rw [HKX.out] at hst
              refine ⟨j + 1, by omega, by go_num, (Below.heap_setCell _ ⟨w.heap.size + 1, m, none⟩ _ w.heap.size (by show w.heap.size ≠ w.heap.size + 1; omega)).trans HXB2.out, ?_, HB2.out.setCell (p := ⟨w.heap.size + 1, m, none⟩) (Nat.le_succ _) _, ?_, ?_⟩
              · rw [hst, ← useds_set _ hmn]
                exact set_row HG2.out
              · intro q hq hqj
                rcases Nat.lt_or_ge q j with h | h
                · exact HJN.out q hq h
                · obtain rfl : q = j := by omega
                  rw [HX.out]
                  omega
              · rw [hst, List.nodup_append]
                refine ⟨HND2.out, by simp, fun x hx y hy e => ?_⟩
                simp only [List.mem_singleton] at hy
                exact HMEM.out (by rw [← hy, ← e]; exact hx)
            case measure => simp [intOf]; omega
        · obtain rfl : j = kl := by omega
          have hwi : IntKind.i64.wrap ((i : Int) + 1) = (i : Int) + 1 := IntWalk.i64_in _ (by omega)
          clear hb
          go_wp2
          go_roundw
          case rel =>
            have hnx := procd_next (kidsOf ns) i hikk
            rw [show ((kidsOf ns)[i]).length = j by rw [HG5.out, HKL.out]] at hnx
            refine ⟨i + 1, by omega, by go_num, HXB2.out, by rw [hnx]; exact HG2.out, HB2.out, ?_, by rw [hnx]; exact HND2.out⟩
            intro m hm hmi k hk
            rcases Nat.lt_or_ge m i with h | h
            · exact HIN.out m hm h k hk
            · obtain rfl : m = i := by omega
              rw [HG5.out] at hk
              obtain ⟨q, hq, rfl⟩ := List.mem_iff_getElem.1 hk
              exact HJN.out q hq (by rw [← HKL.out]; exact hq)
          case measure => simp [intOf]; omega
    · obtain rfl : i = n := by omega
      have hall : procd (kidsOf ns) i 0 = (kidsOf ns).flatten := by rw [← HKN.out]; exact procd_all _
      rw [hall] at hg hnd
      have HG := hid hg
      have HBL := hid hb
      have HIN := hid hin
      have HND := hid hnd
      clear hg hb hin hlt hall hnd hx
      obtain ⟨wo, hwo⟩ : ∃ wo : World, wo = wr := ⟨_, rfl⟩
      rw [← hwo] at HG HBL cx HXB ⊢
      clear hwo wr
      go_wp2
      go_loopw [7] (fun mv wr => ∃ m : Nat, m + 1 ≤ i ∧ mv = .int .i64 (m : Int) ∧ wr = wo ∧ (∀ q : Nat, q < m → (q : Int) ∈ (kidsOf ns).flatten)) (fun mv _ => i - (intOf mv).toNat)
      case atStart => exact ⟨0, by omega, rfl, rfl, fun q h => absurd h (by omega)⟩
      case round =>
        obtain ⟨m, hm, rfl, rfl, hq⟩ := hrel
        have HQ := hid hq
        have hwm : IntKind.i64.wrap ((m : Int) + 1) = (m : Int) + 1 := IntWalk.i64_in _ (by omega)
        clear hq
        by_cases hltm : m + 1 < i
        · have hl1 : (m : Int) + 1 < (i : Int) := by omega
          have hm0 : (0 : Int) ≤ (m : Int) := by omega
          have hm1 : (m : Int) < (i : Int) := by omega
          have hcm := cell_row HG.out (useds_get (kidsOf ns).flatten (show m < i by omega))
          by_cases hmem : (m : Int) ∈ (kidsOf ns).flatten
          · rw [decide_eq_true hmem] at hcm
            have HMEM := hid hmem
            clear hmem
            go_wp2
            go_roundw
            case rel =>
              refine ⟨m + 1, by omega, by go_num, by simp, fun q h1 => ?_⟩
              rcases Nat.lt_or_ge q m with h | h
              · exact HQ.out q h
              · obtain rfl : q = m := by omega
                exact HMEM.out
            case measure => simp [intOf]; omega
          · rw [decide_eq_false hmem] at hcm
            have HF := hid (treeB_false (tree_not_all (by rw [HKN.out]; exact hltm) hmem))
            clear hmem
            go_wp2
            go_ret
            exact ⟨by rw [HF.out]; rfl, HBL.out⟩
        · have hl1 : ¬ (m : Int) + 1 < (i : Int) := by omega
          have HF := hid (treeB_true (tree_all (ks := kidsOf ns) (by rw [HKN.out]; omega) (by rw [HKN.out]; exact HIN.out) HND.out (fun q hq => HQ.out q (by rw [HKN.out] at hq; omega))))
          go_wp2
          go_ret
          exact ⟨by rw [HF.out]; rfl, HBL.out⟩
end Go.Proofs.YtlfkfofeenakhaaDoor

namespace Go.Proofs.YtlfkfofeenakhaaDoor
open Go.RowKit
set_option linter.unusedVariables false
set_option linter.unusedSimpArgs false

def kidsJ (ns : List JNode) : List (List Int) := ns.map (·.kids)
def datL (ts : List ByteArray) : List (List UInt8) := ts.map fun t => t.data.toList
noncomputable def stepJ (ts : List ByteArray) (n : JNode) : Option ByteArray := match nodeT n (datL ts) with | none => none | some t => if t.length ≤ 1000 then some (mkB t) else none
noncomputable def textsJ : List JNode → List ByteArray → Option (List ByteArray)
  | [], ts => some ts
  | n :: r, ts => match stepJ ts n with | none => none | some t => textsJ r (ts ++ [t])
/-- the text of a value, the empty text if it has none -/
noncomputable def jtxP (ns : List JNode) : ByteArray := if treeB (kidsJ ns) = true then (match textsJ ns [] with | none => ⟨#[]⟩ | some ts => ts.getLastD ⟨#[]⟩) else ⟨#[]⟩
theorem textsJ_step {ns : List JNode} {i : Nat} {ts : List ByteArray} {t : ByteArray} (hi : i < ns.length) (h : stepJ ts ns[i] = some t) : textsJ (ns.drop i) ts = textsJ (ns.drop (i + 1)) (ts ++ [t]) := by
  rw [List.drop_eq_getElem_cons hi, textsJ, h]
theorem textsJ_bad {ns : List JNode} {i : Nat} {ts : List ByteArray} (hi : i < ns.length) (h : stepJ ts ns[i] = none) : textsJ (ns.drop i) ts = none := by
  rw [List.drop_eq_getElem_cons hi, textsJ, h]
theorem textsJ_end {ns : List JNode} {i : Nat} {ts : List ByteArray} (hi : ns.length ≤ i) : textsJ (ns.drop i) ts = some ts := by
  rw [List.drop_eq_nil_of_le hi, textsJ]
theorem datL_app (ts : List ByteArray) (t : List UInt8) : datL (ts ++ [mkB t]) = datL ts ++ [t] := by
  unfold datL
  rw [List.map_append]
  simp [mkB_data]
theorem textsG_J : ∀ (ns : List JNode) (ts : List ByteArray), textsG ns (datL ts) = (textsJ ns ts).map datL
  | [], ts => by rw [textsG, textsJ]; rfl
  | n :: r, ts => by
    rw [textsG, textsJ]
    unfold stepJ
    cases hn : nodeT n (datL ts) with
    | none => rfl
    | some t =>
      dsimp only
      split
      · rw [← datL_app, textsG_J r]
      · rfl
theorem stepJ_some {ts : List ByteArray} {n : JNode} {t : List UInt8} {s : ByteArray} (h : nodeT n (datL ts) = some t) (hs : s.data.toList = t) : (if true = true ∧ s.size ≤ 1000 then some s else none) = stepJ ts n := by
  unfold stepJ
  rw [h]
  dsimp only
  have e : mkB t = s := by rw [← hs, mkB_of]
  have e2 : t.length = s.size := by rw [← hs, Lib.size_eq]
  rw [e, e2]
  by_cases hl : s.size ≤ 1000
  · rw [if_pos ⟨rfl, hl⟩, if_pos hl]
  · rw [if_neg (fun h => hl h.2), if_neg hl]
theorem stepJ_none {ts : List ByteArray} {n : JNode} {s : ByteArray} (h : nodeT n (datL ts) = none) : (if false = true ∧ s.size ≤ 1000 then some s else none) = stepJ ts n := by
  unfold stepJ
  rw [h, if_neg (fun h => by cases h.1)]
theorem stepJ_bool {ts : List ByteArray} {n : JNode} {s : ByteArray} {ok : Bool} (h : nodeT n (datL ts) = if ok = true then some s.data.toList else none) : (if ok = true ∧ s.size ≤ 1000 then some s else none) = stepJ ts n := by
  cases ok with
  | true => exact stepJ_some h rfl
  | false => exact stepJ_none h
theorem joinC_lib : ∀ xs : List (List UInt8), joinC xs = Lib.join xs [44]
  | [] => rfl
  | [a] => by simp [joinC, Lib.join]
  | a :: b :: r => by
    rw [joinC, joinC_lib (b :: r)]
    first | rfl | simp [Lib.join]
theorem treeJ_kid {ns : List JNode} (h : treeOk (kidsJ ns)) {i : Nat} (hi : i < ns.length) {k : Int} (hk : k ∈ ns[i].kids) : 0 ≤ k ∧ k < (i : Int) := by
  have hi' : i < (kidsJ ns).length := by simpa [kidsJ] using hi
  have := h.2.1 i hi' k (by simpa [kidsJ] using hk)
  exact this
theorem datL_get {ts : List ByteArray} {k : Nat} (h : k < ts.length) : kidT (datL ts) (k : Int) = ts[k].data.toList := by
  unfold kidT datL
  rw [Int.toNat_natCast, List.getD_eq_getElem?_getD, List.getElem?_map, List.getElem?_eq_getElem h]
  rfl
theorem partsT_get {ob : Bool} {keys : List ByteArray} {kids : List Int} {ts : List (List UInt8)} {i : Nat} (h : i < kids.length) (hk : ob = true → i < keys.length) : (partsT ob keys kids ts)[i]? = some (if hb : ob = true then quoT (keys[i]'(hk hb)).data.toList ++ 58 :: kidT ts kids[i] else kidT ts kids[i]) := by
  unfold partsT
  cases ob with
  | false => simp [List.getElem?_eq_getElem h]
  | true =>
    have hk' := hk rfl
    rw [if_pos rfl, dif_pos rfl, List.getElem?_map, List.getElem?_eq_getElem (by rw [List.length_zip]; omega)]
    simp
end Go.Proofs.YtlfkfofeenakhaaDoor

namespace Go.Proofs.YtlfkfofeenakhaaDoor
open Go.RowKit
set_option linter.unusedVariables false
set_option linter.unusedSimpArgs false

/-- a row of texts, empty texts behind them -/
def rowS (n : Nat) (ts : List ByteArray) : List Value := (ts.map Value.string) ++ List.replicate (n - ts.length) (.string ⟨#[]⟩)
theorem rowS_get {n m : Nat} {ts : List ByteArray} (h : m < ts.length) : (rowS n ts)[m]? = some (.string ts[m]) := by
  unfold rowS
  rw [List.getElem?_append_left (by simpa using h), List.getElem?_map, List.getElem?_eq_getElem h]
  rfl
theorem rowS_zero {n : Nat} {ts : List ByteArray} (h : ts.length < n) : (rowS n ts)[ts.length]? = some (.string ⟨#[]⟩) := by
  unfold rowS
  rw [List.getElem?_append_right (by simp), List.getElem?_replicate, if_pos (by simp; omega)]
theorem rowS_set {n : Nat} {ts : List ByteArray} (x : ByteArray) (h : ts.length < n) : (rowS n ts).set ts.length (.string x) = rowS n (ts ++ [x]) := by
  unfold rowS
  rw [List.set_append_right _ _ (by simp)]
  simp only [List.length_map, Nat.sub_self, List.map_append, List.length_append, List.length_singleton, List.append_assoc]
  obtain ⟨m, hm⟩ : ∃ m, n - ts.length = m + 1 := ⟨n - ts.length - 1, by omega⟩
  rw [hm, List.replicate_succ, List.set_cons_zero, show n - (ts.length + 1) = m by omega]
  rfl
theorem rowS_nil (n : Nat) : rowS n [] = List.replicate n (.string ⟨#[]⟩) := by simp [rowS]
theorem made_rowS (w : World) (n : Nat) (e : TypeId) : (w.alloc (.cells (madeCells #[.string ⟨#[]⟩] n) e)).heap[w.heap.size]? = some (.cells (rowS n []).toArray e (0, 0)) := by
  rw [rowS_nil, ← toList_madeCells1]
  exact heap_alloc_new w _
theorem rdJN4 {S : Nat → Prop} {w : World} {ka da : Option Addr} {kc dc : Nat} {n : JNode} (h : Rd.rd S w [.int .i64 n.kind, .string n.text, .slice ka n.keys.length kc, .slice da n.kids.length dc] n) : (-9223372036854775808 ≤ n.kind ∧ n.kind ≤ 9223372036854775807) ∧ n.text.size ≤ 9223372036854775807 ∧ Rd.rd S w [.slice ka n.keys.length kc] n.keys ∧ Rd.rd S w [.slice da n.kids.length dc] n.kids := by
  obtain ⟨c1, c2, e, g1, c3, c4, rfl, g2, c5, c6, rfl, g3, g4⟩ := h
  obtain ⟨rfl, k1⟩ := g1
  obtain ⟨rfl, k2⟩ := g2
  obtain ⟨us, rfl⟩ := List.length_eq_one_iff.1 (Rd.len g3)
  obtain ⟨uk, rfl⟩ := List.length_eq_one_iff.1 (Rd.len g4)
  simp only [List.cons_append, List.nil_append, List.cons.injEq, and_true, true_and] at e
  obtain ⟨rfl, rfl⟩ := e
  exact ⟨k1, k2, g3, g4⟩
def NodeRes (ts : List ByteArray) (n : JNode) (w : World) (e : Ending) (w' : World) : Prop :=
  ∃ (s : ByteArray) (ok : Bool), e = .returned (.tuple #[.string s, .bool ok]) ∧ (if ok = true ∧ s.size ≤ 1000 then some s else none) = stepJ ts n ∧ Below w.heap.size w w'
theorem joinC_le {M : Nat} : ∀ (ps : List (List UInt8)), (∀ p ∈ ps, p.length ≤ M) → (joinC ps).length ≤ ps.length * (M + 1)
  | [], _ => by simp [joinC]
  | [a], h => by
    have := h a (by simp)
    simp only [joinC, List.length_cons, List.length_nil]
    omega
  | a :: b :: r, h => by
    have h1 := joinC_le (b :: r) (fun p hp => h p (by simp [hp]))
    have h2 := h a (by simp)
    rw [joinC, List.length_append, List.length_cons, List.length_cons, Nat.succ_mul]
    omega
theorem partsT_le {ob : Bool} {keys : List ByteArray} {kids : List Int} {ts : List ByteArray} (hk : ob = true → ∀ k ∈ keys, k.size ≤ 1000) (ht : ∀ t ∈ ts, t.size ≤ 1000) : ∀ p ∈ partsT ob keys kids (datL ts), p.length ≤ 8000 := by
  have hkt : ∀ k : Int, (kidT (datL ts) k).length ≤ 1000 := by
    intro k
    unfold kidT datL
    rw [List.getD_eq_getElem?_getD, List.getElem?_map]
    cases h : ts[k.toNat]? with
    | none => simp
    | some t =>
      have := ht t (List.mem_of_getElem? h)
      rw [Lib.size_eq] at this
      simpa using this
  intro p hp
  unfold partsT at hp
  cases ob with
  | false =>
    rw [if_neg (by decide)] at hp
    obtain ⟨k, _, rfl⟩ := List.mem_map.1 hp
    have := hkt k
    omega
  | true =>
    rw [if_pos rfl] at hp
    obtain ⟨x, hx, rfl⟩ := List.mem_map.1 hp
    have h1 := hk rfl x.1 (List.of_mem_zip hx).1
    have h2 := hkt x.2
    have h3 := quoT_len x.1.data.toList
    rw [Lib.size_eq] at h1
    rw [List.length_append, List.length_cons]
    omega
theorem info_strT : (Tryd.prog.info? 9).map (fun i => (i.zero, i.size, i.bytes)) = some (some (.string ⟨#[]⟩), 1, 16) := by kernel_rfl
theorem nodeT_kind {n : JNode} {ts : List (List UInt8)} (h1 : n.kind ≠ 1) (h2 : n.kind ≠ 2) (h3 : n.kind ≠ 3) (h4 : n.kind ≠ 4) (h5 : n.kind ≠ 5) (h6 : n.kind ≠ 6) (h7 : n.kind ≠ 7) : nodeT n ts = none := by
  unfold nodeT
  rw [if_neg h1, if_neg h2, if_neg h3, if_neg h4, if_neg h5, if_neg h6, if_neg h7]
set_option maxHeartbeats 32000000 in
set_option maxRecDepth 100000 in
theorem implJNode {tb tm tc : Nat} {ts : List ByteArray} {n : JNode} {ka da : Option Addr} {kc dc : Nat} (w : World) (hT : Tabs w) (htb : tb < w.heap.size) (ht : ∀ k (hk : k < ts.length), w.cell? ⟨tb, k, none⟩ = some (.string ts[k])) (htm : ts.length ≤ tm) (hts : ∀ t ∈ ts, t.size ≤ 1000)
    (hx : Rd.rd (Old w) w [.int .i64 n.kind, .string n.text, .slice ka n.keys.length kc, .slice da n.kids.length dc] n) (hkid : ∀ k ∈ n.kids, 0 ≤ k ∧ k < (ts.length : Int)) (hkl : n.kids.length ≤ 2000000) (hkk : n.keys.length ≤ 2000000) :
    Calls Tryd.prog 96 #[.agg #[.int .i64 n.kind, .string n.text, .slice ka n.keys.length kc, .slice da n.kids.length dc], .slice (some ⟨tb, 0, none⟩) tm tc] w (NodeRes ts n w) := by
  obtain ⟨hkb, htz, hkr, hdr⟩ := rdJN4 hx
  have hal := ext_alloc w (.cells #[.int .i64 n.kind, .string n.text, .slice ka n.keys.length kc, .slice da n.kids.length dc] 75)
  have e0 : (w.alloc (.cells #[.int .i64 n.kind, .string n.text, .slice ka n.keys.length kc, .slice da n.kids.length dc] 75)).heap.size = w.heap.size + 1 := by simp
  have hW0 := heap_alloc_new w (.cells #[.int .i64 n.kind, .string n.text, .slice ka n.keys.length kc, .slice da n.kids.length dc] 75)
  have HBX := hid (fun (w' : World) (hb : Below (w.heap.size + 1) (w.alloc (.cells #[.int .i64 n.kind, .string n.text, .slice ka n.keys.length kc, .slice da n.kids.length dc] 75)) w') => (show w'.cell? ⟨w.heap.size, 0, none⟩ = some (.int .i64 n.kind) ∧ w'.cell? ⟨w.heap.size, 1, none⟩ = some (.string n.text) ∧ w'.cell? ⟨w.heap.size, 2, none⟩ = some (.slice ka n.keys.length kc) ∧ w'.cell? ⟨w.heap.size, 3, none⟩ = some (.slice da n.kids.length dc) from
    have h := (hb.block w.heap.size (by omega)).trans hW0
    ⟨cell_of_row _ _ 0 _ _ _ h, cell_of_row _ _ 1 _ _ _ h, cell_of_row _ _ 2 _ _ _ h, cell_of_row _ _ 3 _ _ _ h⟩))
  have HBW := hid (fun (w' : World) (hb : Below (w.heap.size + 1) (w.alloc (.cells #[.int .i64 n.kind, .string n.text, .slice ka n.keys.length kc, .slice da n.kids.length dc] 75)) w') => (show Below w.heap.size w w' from hal.trans (hb.mono (Nat.le_succ _))))
  have HSZ := hid (fun (w' : World) (hb : Below (w.heap.size + 1) (w.alloc (.cells #[.int .i64 n.kind, .string n.text, .slice ka n.keys.length kc, .slice da n.kids.length dc] 75)) w') => (show w.heap.size + 1 ≤ w'.heap.size from by have := hb.size; rw [e0] at this; exact this))
  have HB0 := hid (Below.refl (w.heap.size + 1) (w.alloc (.cells #[.int .i64 n.kind, .string n.text, .slice ka n.keys.length kc, .slice da n.kids.length dc] 75)))
  have HT := hid hT
  have HTK := hid ht
  have HTS := hid hts
  have HKID := hid hkid
  have HKR := hid hkr
  have HDR := hid hdr
  obtain ⟨y0, y1, y2, y3⟩ := HBX.out _ HB0.out
  clear hW0 e0 hal ht hts hkid hx hT hkr hdr
  by_cases p1 : n.kind = 1
  · as_aux_lemma =>
    have HS := hid (show nodeT n (datL ts) = some [110, 117, 108, 108] by unfold nodeT; rw [p1]; rfl)
    have q0 := p1
    have k1 : (n.kind == 1) = true := by rw [p1]; rfl
    clear q0 p1
    go_enter Tryd.func96, Tryd.ntmps96
    go_wp2
    go_ret2
    exact ⟨⟨#[110, 117, 108, 108]⟩, true, rfl, stepJ_some HS.out rfl, HBW.out _ HB0.out⟩
  have k1 : (n.kind == 1) = false := by rw [beq_eq_false_iff_ne]; exact p1
  by_cases p2 : n.kind = 2
  · as_aux_lemma =>
    have HS := hid (show nodeT n (datL ts) = some [116, 114, 117, 101] by unfold nodeT; rw [p2]; rfl)
    have q0 := p2
    have k1 : (n.kind == 1) = false := by rw [p2]; rfl
    have k2 : (n.kind == 2) = true := by rw [p2]; rfl
    clear q0 p2
    go_enter Tryd.func96, Tryd.ntmps96
    go_wp2
    go_ret2
    exact ⟨⟨#[116, 114, 117, 101]⟩, true, rfl, stepJ_some HS.out rfl, HBW.out _ HB0.out⟩
  have k2 : (n.kind == 2) = false := by rw [beq_eq_false_iff_ne]; exact p2
  by_cases p3 : n.kind = 3
  · as_aux_lemma =>
    have HS := hid (show nodeT n (datL ts) = some [102, 97, 108, 115, 101] by unfold nodeT; rw [p3]; rfl)
    have q0 := p3
    have k1 : (n.kind == 1) = false := by rw [p3]; rfl
    have k2 : (n.kind == 2) = false := by rw [p3]; rfl
    have k3 : (n.kind == 3) = true := by rw [p3]; rfl
    clear q0 p3
    go_enter Tryd.func96, Tryd.ntmps96
    go_wp2
    go_ret2
    exact ⟨⟨#[102, 97, 108, 115, 101]⟩, true, rfl, stepJ_some HS.out rfl, HBW.out _ HB0.out⟩
  have k3 : (n.kind == 3) = false := by rw [beq_eq_false_iff_ne]; exact p3
  by_cases p4 : n.kind = 4
  · as_aux_lemma =>
    have HS := hid (show nodeT n (datL ts) = if numB n.text = true then some n.text.data.toList else none by unfold nodeT; rw [p4]; rfl)
    have k4 : (n.kind == 4) = true := by rw [p4]; rfl
    have CN := hid (fun w h => implJNumber n.text w h)
    obtain ⟨NB, hNB⟩ : ∃ x, numB n.text = x := ⟨_, rfl⟩
    rw [hNB] at CN HS
    clear p4 hNB
    go_enter Tryd.func96, Tryd.ntmps96
    go_upto_region 9 with fail
    refine wp_region_held_drew (S := fun w' => w'.cell? ⟨w.heap.size, 1, none⟩ = some (.string n.text)) (by kernel_rfl) ?_ (fun hHeld => ?_)
    · exact y1
    refine wpAnyH_take (i := 0) (v := ?_) rfl (by kernel_rfl) (by kernel_rfl) (by kernel_rfl) (fun _ _ _ h => h) (Or.inl ⟨by rfl, ?_⟩) (by assumption) ?_
    rotate_left
    · (intro w' hSw; (try dsimp only at hSw); go_simp; try (with_reducible rfl))
    change wpAnyH _ _ _ _ _ _ _ (Act.put _ (some 19) _) _
    try simp only [Act.put, List.setIfInBounds_toArray, List.set_cons_zero, List.set_cons_succ]
    refine wpAnyH_take (i := 1) (v := ?_) rfl (by kernel_rfl) (by kernel_rfl) (by kernel_rfl) (fun _ _ _ h => h) (Or.inl ⟨by rfl, ?_⟩) (by assumption) ?_
    rotate_left
    · (intro w' hSw; (try dsimp only at hSw); go_simp; try (with_reducible rfl))
    change wpAnyH _ _ _ _ _ _ _ (Act.put _ (some 20) _) _
    try simp only [Act.put, List.setIfInBounds_toArray, List.set_cons_zero, List.set_cons_succ]
    refine wpAnyH_take (i := 2) (v := ?_) rfl (by kernel_rfl) (by kernel_rfl) (by kernel_rfl) (fun _ _ _ h => h) (Or.inl ⟨by rfl, ?_⟩) (by assumption) ?_
    rotate_left
    · (intro w' hSw; (try dsimp only at hSw); go_simp; try (with_reducible rfl))
    change wpAnyH _ _ _ _ _ _ _ (Act.put _ (some 21) _) _
    try simp only [Act.put, List.setIfInBounds_toArray, List.set_cons_zero, List.set_cons_succ]
    refine wpAnyH_take (i := 3) (v := ?_) rfl (by kernel_rfl) (by kernel_rfl) (by kernel_rfl) (fun _ _ _ h => h) (Or.inl ⟨by rfl, ?_⟩) (by assumption) ?_
    rotate_left
    · (intro w' hSw; (try dsimp only at hSw); go_simp; try (with_reducible rfl))
    change wpAnyH _ _ _ _ _ _ _ (Act.put _ (some 22) _) _
    try simp only [Act.put, List.setIfInBounds_toArray, List.set_cons_zero, List.set_cons_succ]
    refine wpAnyH_ready (rs := [4]) (by kernel_rfl) (by simp) ?_
    refine AllReadyH.cons (i := 4) rfl (fun K hK => ?_) AllReadyH.nil
    simp only [List.getElem_toArray, List.getElem_cons_succ, List.getElem_cons_zero]
    rw [if_pos (by rfl)]
    go_simp
    (go_at_call 128; refine (CN.out _ (tabs_below HT.out (HBW.out _ HB0.out.drew))).mono ?_; rintro e w1 ⟨rfl, hb1⟩; have HB1 := hid (show Below (w.heap.size + 1) (w.alloc (.cells #[.int .i64 n.kind, .string n.text, .slice ka n.keys.length kc, .slice da n.kids.length dc] 75)) w1 from (HB0.out.drew).trans (hb1.mono (HSZ.out _ HB0.out.drew))); have hS5 := (HBX.out _ HB1.out).2.1; clear hb1; go_wp2_with fail)
    have hOld := hHeld
    clear hHeld
    refine hK.out _ _ ?_ (fun hHeld => ?_)
    · exact hS5
    clear hK K hOld
    try simp only [Act.put, List.setIfInBounds_toArray, List.set_cons_zero, List.set_cons_succ]
    refine wpAnyH_take (i := 5) (v := ?_) rfl (by kernel_rfl) (by kernel_rfl) (by kernel_rfl) (fun _ _ _ h => h) (Or.inl ⟨by rfl, ?_⟩) (by assumption) ?_
    rotate_left
    · (intro w' hSw; (try dsimp only at hSw); go_simp; try (with_reducible rfl))
    change wpAnyH _ _ _ _ _ _ _ (Act.put _ (some 4) _) _
    try simp only [Act.put, List.setIfInBounds_toArray, List.set_cons_zero, List.set_cons_succ]
    refine wpAnyH_take (i := 6) (v := ?_) rfl (by kernel_rfl) (by kernel_rfl) (by kernel_rfl) (fun _ _ _ h => h) (Or.inl ⟨by rfl, ?_⟩) (by assumption) ?_
    rotate_left
    · (intro w' hSw; (try dsimp only at hSw); go_simp; try (with_reducible rfl))
    change wpAnyH _ _ _ _ _ _ _ (Act.put _ (some 5) _) _
    try simp only [Act.put, List.setIfInBounds_toArray, List.set_cons_zero, List.set_cons_succ]
    refine wpAnyH_done (by kernel_rfl) ?_ _
    clear hHeld
    go_wp2
    go_ret2
    exact ⟨n.text, NB, rfl, stepJ_bool HS.out, HBW.out _ HB1.out⟩
  have k4 : (n.kind == 4) = false := by rw [beq_eq_false_iff_ne]; exact p4
  by_cases p5 : n.kind = 5
  · as_aux_lemma =>
    have HS := hid (show nodeT n (datL ts) = if okText n.text = true then some (quoT n.text.data.toList) else none by unfold nodeT; rw [p5]; rfl)
    have k5 : (n.kind == 5) = true := by rw [p5]; rfl
    have CN := hid (fun w h => implJStrT n.text w h)
    have CK := hid (fun w h => implTextOk n.text w h)
    have HJ := hid (show jstrP n.text = if okText n.text = true then mkB (quoT n.text.data.toList) else ⟨#[]⟩ from rfl)
    obtain ⟨NB, hNB⟩ : ∃ x, okText n.text = x := ⟨_, rfl⟩
    obtain ⟨JT, hJT⟩ : ∃ x, jstrP n.text = x := ⟨_, rfl⟩
    rw [hNB] at CK HS HJ
    rw [hJT] at CN HJ
    clear p5 hNB hJT
    go_enter Tryd.func96, Tryd.ntmps96
    go_upto_region 11 with fail
    refine wp_region_held_drew (S := fun w' => w'.cell? ⟨w.heap.size, 1, none⟩ = some (.string n.text)) (by kernel_rfl) ?_ (fun hHeld => ?_)
    · exact y1
    refine wpAnyH_take (i := 0) (v := ?_) rfl (by kernel_rfl) (by kernel_rfl) (by kernel_rfl) (fun _ _ _ h => h) (Or.inl ⟨by rfl, ?_⟩) (by assumption) ?_
    rotate_left
    · (intro w' hSw; (try dsimp only at hSw); go_simp; try (with_reducible rfl))
    change wpAnyH _ _ _ _ _ _ _ (Act.put _ (some 26) _) _
    try simp only [Act.put, List.setIfInBounds_toArray, List.set_cons_zero, List.set_cons_succ]
    refine wpAnyH_take (i := 1) (v := ?_) rfl (by kernel_rfl) (by kernel_rfl) (by kernel_rfl) (fun _ _ _ h => h) (Or.inl ⟨by rfl, ?_⟩) (by assumption) ?_
    rotate_left
    · (intro w' hSw; (try dsimp only at hSw); go_simp; try (with_reducible rfl))
    change wpAnyH _ _ _ _ _ _ _ (Act.put _ (some 27) _) _
    try simp only [Act.put, List.setIfInBounds_toArray, List.set_cons_zero, List.set_cons_succ]
    refine wpAnyH_take (i := 3) (v := ?_) rfl (by kernel_rfl) (by kernel_rfl) (by kernel_rfl) (fun _ _ _ h => h) (Or.inl ⟨by rfl, ?_⟩) (by assumption) ?_
    rotate_left
    · (intro w' hSw; (try dsimp only at hSw); go_simp; try (with_reducible rfl))
    change wpAnyH _ _ _ _ _ _ _ (Act.put _ (some 29) _) _
    try simp only [Act.put, List.setIfInBounds_toArray, List.set_cons_zero, List.set_cons_succ]
    refine wpAnyH_take (i := 4) (v := ?_) rfl (by kernel_rfl) (by kernel_rfl) (by kernel_rfl) (fun _ _ _ h => h) (Or.inl ⟨by rfl, ?_⟩) (by assumption) ?_
    rotate_left
    · (intro w' hSw; (try dsimp only at hSw); go_simp; try (with_reducible rfl))
    change wpAnyH _ _ _ _ _ _ _ (Act.put _ (some 30) _) _
    try simp only [Act.put, List.setIfInBounds_toArray, List.set_cons_zero, List.set_cons_succ]
    refine wpAnyH_ready (rs := [2]) (by kernel_rfl) (by simp) ?_
    refine AllReadyH.cons (i := 2) rfl (fun K hK => ?_) AllReadyH.nil
    simp only [List.getElem_toArray, List.getElem_cons_succ, List.getElem_cons_zero]
    rw [if_pos (by rfl)]
    go_simp
    (go_at_call 129; refine (CN.out _ (tabs_below HT.out (HBW.out _ HB0.out.drew))).mono ?_; rintro e w1 ⟨rfl, hb1⟩; have HB1 := hid (show Below (w.heap.size + 1) (w.alloc (.cells #[.int .i64 n.kind, .string n.text, .slice ka n.keys.length kc, .slice da n.kids.length dc] 75)) w1 from (HB0.out.drew).trans (hb1.mono (HSZ.out _ HB0.out.drew))); have hS5 := (HBX.out _ HB1.out).2.1; clear hb1; go_wp2_with fail)
    have hOld := hHeld
    clear hHeld
    refine hK.out _ _ ?_ (fun hHeld => ?_)
    · exact hS5
    clear hK K hOld
    try simp only [Act.put, List.setIfInBounds_toArray, List.set_cons_zero, List.set_cons_succ]
    refine wpAnyH_ready (rs := [5]) (by kernel_rfl) (by simp) ?_
    refine AllReadyH.cons (i := 5) rfl (fun K hK => ?_) AllReadyH.nil
    simp only [List.getElem_toArray, List.getElem_cons_succ, List.getElem_cons_zero]
    rw [if_pos (by rfl)]
    go_simp
    (go_at_call 31; refine (CK.out _ (tabs_below HT.out (HBW.out _ HB1.out))).mono ?_; rintro e w2 ⟨rfl, hb2⟩; have HB2 := hid (show Below (w.heap.size + 1) (w.alloc (.cells #[.int .i64 n.kind, .string n.text, .slice ka n.keys.length kc, .slice da n.kids.length dc] 75)) w2 from HB1.out.trans (hb2.mono (HSZ.out _ HB1.out))); have hS6 := (HBX.out _ HB2.out).2.1; clear hb2; go_wp2_with fail)
    have hOld := hHeld
    clear hHeld
    refine hK.out _ _ ?_ (fun hHeld => ?_)
    · exact hS6
    clear hK K hOld
    try simp only [Act.put, List.setIfInBounds_toArray, List.set_cons_zero, List.set_cons_succ]
    refine wpAnyH_take (i := 6) (v := ?_) rfl (by kernel_rfl) (by kernel_rfl) (by kernel_rfl) (fun _ _ _ h => h) (Or.inl ⟨by rfl, ?_⟩) (by assumption) ?_
    rotate_left
    · (intro w' hSw; (try dsimp only at hSw); go_simp; try (with_reducible rfl))
    change wpAnyH _ _ _ _ _ _ _ (Act.put _ (some 4) _) _
    try simp only [Act.put, List.setIfInBounds_toArray, List.set_cons_zero, List.set_cons_succ]
    refine wpAnyH_take (i := 7) (v := ?_) rfl (by kernel_rfl) (by kernel_rfl) (by kernel_rfl) (fun _ _ _ h => h) (Or.inl ⟨by rfl, ?_⟩) (by assumption) ?_
    rotate_left
    · (intro w' hSw; (try dsimp only at hSw); go_simp; try (with_reducible rfl))
    change wpAnyH _ _ _ _ _ _ _ (Act.put _ (some 5) _) _
    try simp only [Act.put, List.setIfInBounds_toArray, List.set_cons_zero, List.set_cons_succ]
    refine wpAnyH_done (by kernel_rfl) ?_ _
    clear hHeld
    have HST := hid (show (if NB = true ∧ JT.size ≤ 1000 then some JT else none) = stepJ ts n by
      refine stepJ_bool ?_
      rw [HS.out, HJ.out]
      cases NB with
      | true => rw [if_pos rfl, if_pos rfl, if_pos rfl, mkB_data]
      | false => rfl)
    go_wp2
    go_ret2
    exact ⟨JT, NB, rfl, HST.out, HBW.out _ HB2.out⟩
  have k5 : (n.kind == 5) = false := by rw [beq_eq_false_iff_ne]; exact p5
  by_cases p6 : n.kind = 6
  · as_aux_lemma =>
    have k6 : (n.kind == 6) = true := by rw [p6]; rfl
    have k7 : (n.kind == 7) = false := by rw [p6]; rfl
    have HS := hid (show nodeT n (datL ts) = some (91 :: (joinC (partsT false n.keys n.kids (datL ts)) ++ [93])) by unfold nodeT; rw [p6]; rfl)
    have hmk := run_make_row' (P := Tryd.prog) 73 9 _ 16 Tryd.underlying73 info_strT rfl .i64 .i64 n.kids.length (by omega) (by omega)
    obtain ⟨da', dcap', hdv, hd1, hd2, hDF⟩ := rdInts HDR.out
    obtain ⟨rfl, rfl⟩ : da = da' ∧ dc = dcap' := by simpa using hdv
    have HDF := hid hDF
    obtain ⟨P, hP⟩ : ∃ P, partsT false n.keys n.kids (datL ts) = P := ⟨_, rfl⟩
    have HP := hid hP
    obtain ⟨nd, hnd⟩ : ∃ x, n.kids.length = x := ⟨_, rfl⟩
    have HND := hid hnd
    have HPL := hid (show P.length = nd by rw [← hP, ← hnd]; exact partsT_len (fun h => by cases h))
    have W0e : (w.alloc (.cells #[.int .i64 n.kind, .string n.text, .slice ka n.keys.length kc, .slice da n.kids.length dc] 75)).heap.size = w.heap.size + 1 := by simp
    have HM := hid (made_rowS (w.alloc (.cells #[.int .i64 n.kind, .string n.text, .slice ka n.keys.length kc, .slice da n.kids.length dc] 75)) nd 9)
    rw [W0e] at HM
    have HA1 := hid (show Below (w.heap.size + 1) (w.alloc (.cells #[.int .i64 n.kind, .string n.text, .slice ka n.keys.length kc, .slice da n.kids.length dc] 75)) ((w.alloc (.cells #[.int .i64 n.kind, .string n.text, .slice ka n.keys.length kc, .slice da n.kids.length dc] 75)).alloc (.cells (madeCells #[.string ⟨#[]⟩] nd) 9)) by have h := ext_alloc (w.alloc (.cells #[.int .i64 n.kind, .string n.text, .slice ka n.keys.length kc, .slice da n.kids.length dc] 75)) (.cells (madeCells #[.string ⟨#[]⟩] nd) 9); rw [W0e] at h; exact h)
    rw [hP] at HS
    rw [hnd] at hmk HBX HBW HSZ HB0 HA1 HM y3 hkl hd1 ⊢
    clear hdv hDF p6 hP W0e
    skip
    clear hnd
    go_enter Tryd.func96, Tryd.ntmps96
    go_wp2
    clear hmk
    go_loopw [54] (fun i wr => ∃ (j : Nat), j ≤ nd ∧ i = .int .i64 (j : Int) ∧ wr.heap[w.heap.size + 1]? = some (.cells (rowS nd ((P.take j).map mkB)).toArray 9 (0, 0)) ∧ Below (w.heap.size + 1) (w.alloc (.cells #[.int .i64 n.kind, .string n.text, .slice ka n.keys.length kc, .slice da nd dc] 75)) wr) (fun i _ => nd - (intOf i).toNat)
    case atStart => exact ⟨0, Nat.zero_le _, rfl, by first | exact HM.out | (have := HM.out; simpa using this), HA1.out⟩
    case round =>
      obtain ⟨j, hj, rfl, hrow, hB⟩ := hrel
      clear y0 y1 y2 y3
      obtain ⟨y0, y1, y2, y3⟩ := HBX.out _ hB
      have hBw := HBW.out _ hB
      have hsr := HSZ.out _ hB
      have hprl : w.heap.size + 1 < wr.heap.size := (Array.getElem?_eq_some_iff.1 hrow).1
      have HROW := hid hrow
      have HB := hid hB
      by_cases hlt : j < nd
      · have hjl : j < n.kids.length := by have := HND.out; omega
        obtain ⟨b, off, rfl, hBk, hcell⟩ := HDF.out (by omega)
        have t0 : wr.cell? ⟨b, off + j, none⟩ = some (.int .i64 n.kids[j]) := (hBw.cell (p := ⟨b, off + j, none⟩) hBk).trans (hcell j hjl).1
        have hkj := HKID.out n.kids[j] (List.getElem_mem hjl)
        obtain ⟨kn, hkn⟩ : ∃ kn : Nat, (kn : Int) = n.kids[j] := ⟨n.kids[j].toNat, by omega⟩
        have hdg := datL_get (ts := ts) (k := kn) (by omega)
        rw [← hkn] at t0 hkj
        have hk3 : kn < ts.length := by omega
        have tk : wr.cell? ⟨tb, kn, none⟩ = some (.string ts[kn]) := (hBw.cell (p := ⟨tb, kn, none⟩) htb).trans (HTK.out kn hk3)
        have hsz := HTS.out ts[kn] (List.getElem_mem hk3)
        have hk5 : (kn : Int) < (tm : Int) := by omega
        have hk6 : (0 : Int) ≤ (kn : Int) := by omega
        have hki : (j : Int) < (nd : Int) := by omega
        have hk0 : (0 : Int) ≤ (j : Int) := by omega
        have hpl : j < P.length := by have := HPL.out; omega
        have hfr : (rowS nd ((P.take j).map mkB))[j]? = some (.string ⟨#[]⟩) := by
          have h := rowS_zero (n := nd) (ts := (P.take j).map mkB) (by rw [List.length_map, List.length_take]; omega)
          rw [List.length_map, List.length_take, Nat.min_eq_left (Nat.le_of_lt hpl)] at h
          exact h
        have c0 : wr.cell? ⟨w.heap.size + 1, j, none⟩ = some (.string ⟨#[]⟩) := cell_row hrow hfr
        have f0 : wr.frozen? ⟨w.heap.size + 1, j, none⟩ = false := frozen_of_row wr _ j _ _ hrow
        have HNEXT := hid (show ∀ T : ByteArray, P[j] = T.data.toList → (rowS nd ((P.take j).map mkB)).set j (.string T) = rowS nd ((P.take (j + 1)).map mkB) from fun T hTe => by
          have h := rowS_set (n := nd) (ts := (P.take j).map mkB) T (by rw [List.length_map, List.length_take]; omega)
          rw [List.length_map, List.length_take, Nat.min_eq_left (Nat.le_of_lt hpl)] at h
          rw [h, List.take_succ_eq_append_getElem hpl, List.map_append, List.map_cons, List.map_nil, hTe, mkB_of])
        have hpg := partsT_get (ob := false) (keys := n.keys) (kids := n.kids) (ts := datL ts) (i := j) hjl (fun h => by cases h)
        rw [HP.out, List.getElem?_eq_getElem hpl] at hpg
        injection hpg with hpg
        rw [← hkn, hdg] at hpg
        obtain ⟨T, hT1⟩ : ∃ T, ts[kn] = T := ⟨_, rfl⟩
        rw [hT1] at tk hsz hpg
        have hbne : w.heap.size + 1 ≠ b := fun e => by have h9 : b < w.heap.size := hBk; omega
        have HBNE := hid hbne
        have HPG := hid (show P[j] = T.data.toList from hpg)
        clear hcell hkn hrow hfr hpg hT1 hdg
        go_wp2
        go_roundw
        case rel =>
          refine ⟨j + 1, by omega, by go_num, ?_, HB.out.setCell (p := ⟨w.heap.size + 1, j, none⟩) (Nat.le_refl _) _⟩
          rw [← HNEXT.out T HPG.out]
          exact set_row HROW.out
        case measure => simp [intOf]; omega
      · have hki : ¬ (j : Int) < (nd : Int) := by omega
        have hje : j = nd := by omega
        have HFULL := hid (show P.take j = P from List.take_of_length_le (by have := HPL.out; omega))
        skip
        have HLEN := hid (show (joinC P).length ≤ 140737488355328 by
          have h1 := joinC_le P (by rw [← HP.out]; exact partsT_le (fun h => by cases h) HTS.out)
          have h2 : P.length * 8001 ≤ 2000000 * 8001 := Nat.mul_le_mul_right _ (by have := HPL.out; omega)
          omega)
        have CJN : Calls Tryd.prog 131 #[.slice (some ⟨w.heap.size + 1, 0, none⟩) nd nd, .string ⟨#[44]⟩] wr fun e w' => e = .returned (.string (mkB (joinC P))) ∧ Below wr.heap.size wr w' := by
          have hml : (P.map mkB).length = nd := by rw [List.length_map]; exact HPL.out
          have hmm : (P.map mkB).map (fun x => x.data.toList) = P := by
            rw [List.map_map]
            exact List.map_id'' (fun x => mkB_data x) P
          have h := Tryd.strings_Join (w.heap.size + 1) 0 nd (P.map mkB) ⟨#[44]⟩ wr (fun q x hq => by
            have hql : q < (P.map mkB).length := (List.getElem?_eq_some_iff.1 hq).1
            have hqe : (P.map mkB)[q] = x := (List.getElem?_eq_some_iff.1 hq).2
            have hr := HROW.out
            rw [HFULL.out] at hr
            rw [Nat.zero_add]
            refine cell_row hr ?_
            rw [rowS_get hql, hqe]) hprl (by rw [hml]; omega) (by rw [hml]; exact Nat.le_refl _) (by
            rw [hmm, show (⟨#[44]⟩ : ByteArray).data.toList = [44] from rfl, ← joinC_lib]
            exact HLEN.out)
          rw [hml, hmm, show (⟨#[44]⟩ : ByteArray).data.toList = [44] from rfl, ← joinC_lib] at h
          exact h
        have HCJ := hid CJN
        have HJL := hid (show (mkB (joinC P)).size ≤ 140737488355328 by rw [mkB_size]; exact HLEN.out)
        obtain ⟨J, hJ⟩ : ∃ J, mkB (joinC P) = J := ⟨_, rfl⟩
        have HJE := hid (show J.data.toList = joinC P by rw [← hJ, mkB_data])
        rw [hJ] at HCJ HJL
        have hjz := HJL.out
        have z1 : ¬ 9223372036854775807 < 1 + J.size := by omega
        have z2 : ¬ 9223372036854775807 < 1 + J.size + 1 := by omega
        clear CJN hje hJ hrow
        go_wp2_with fail
        refine HCJ.out.mono ?_
        rintro e w3 ⟨rfl, hb3⟩
        have HB3 := hid (show Below w.heap.size w w3 from hBw.trans (hb3.mono hBw.size))
        clear hb3
        go_wp2
        go_ret2
        refine ⟨_, true, rfl, stepJ_some HS.out ?_, HB3.out⟩
        simp only [ByteArray.data_append, Array.toList_append, HJE.out]
        rfl
  have k6 : (n.kind == 6) = false := by rw [beq_eq_false_iff_ne]; exact p6
  by_cases p7 : n.kind = 7
  · as_aux_lemma =>
    have k7 : (n.kind == 7) = true := by rw [p7]; rfl
    by_cases hkeq : n.keys.length = n.kids.length
    rotate_left
    · have HS := hid (show nodeT n (datL ts) = none by unfold nodeT; rw [p7, if_neg (by decide), if_neg (by decide), if_neg (by decide), if_neg (by decide), if_neg (by decide), if_neg (by decide), if_pos rfl, if_neg (fun h => hkeq h.1)])
      have e1 : ((n.keys.length : Int) != (n.kids.length : Int)) = true := by rw [bne_iff_ne]; omega
      have e2 : ¬ (n.keys.length : Int) = (n.kids.length : Int) := by omega
      clear p7 hkeq
      go_enter Tryd.func96, Tryd.ntmps96
      go_wp2
      go_ret2
      exact ⟨⟨#[]⟩, false, rfl, stepJ_none HS.out, HBW.out _ HB0.out⟩
    have e1 : ((n.keys.length : Int) != (n.kids.length : Int)) = false := by rw [bne_eq_false_iff_eq]; omega
    have e2 : (n.keys.length : Int) = (n.kids.length : Int) := by omega
    have HKEQ := hid hkeq
    have HS := hid (show (∀ k ∈ n.keys, okText k = true) → nodeT n (datL ts) = some (123 :: (joinC (partsT true n.keys n.kids (datL ts)) ++ [125])) from fun h => by unfold nodeT; rw [p7, if_neg (by decide), if_neg (by decide), if_neg (by decide), if_neg (by decide), if_neg (by decide), if_neg (by decide), if_pos rfl, if_pos ⟨hkeq, h⟩])
    have HSN := hid (show (¬ ∀ k ∈ n.keys, okText k = true) → nodeT n (datL ts) = none from fun h => by unfold nodeT; rw [p7, if_neg (by decide), if_neg (by decide), if_neg (by decide), if_neg (by decide), if_neg (by decide), if_neg (by decide), if_pos rfl, if_neg (fun h2 => h h2.2)])
    obtain ⟨qa, qcap, hqv, hq1, hq2, hQF⟩ := rdStrs HKR.out
    obtain ⟨rfl, rfl⟩ : ka = qa ∧ kc = qcap := by simpa using hqv
    have HQF := hid hQF
    have CK := hid (fun (K : ByteArray) (w : World) (h : Tabs w) => implTextOk K w h)
    have CJ := hid (fun (K : ByteArray) (w : World) (h : K.size ≤ 1000000) => implJStr K w h)
    clear hqv hQF hkeq
    have hmk := run_make_row' (P := Tryd.prog) 73 9 _ 16 Tryd.underlying73 info_strT rfl .i64 .i64 n.kids.length (by omega) (by omega)
    obtain ⟨da', dcap', hdv, hd1, hd2, hDF⟩ := rdInts HDR.out
    obtain ⟨rfl, rfl⟩ : da = da' ∧ dc = dcap' := by simpa using hdv
    have HDF := hid hDF
    obtain ⟨P, hP⟩ : ∃ P, partsT true n.keys n.kids (datL ts) = P := ⟨_, rfl⟩
    have HP := hid hP
    obtain ⟨nd, hnd⟩ : ∃ x, n.kids.length = x := ⟨_, rfl⟩
    have HND := hid hnd
    have HPL := hid (show P.length = nd by rw [← hP, ← hnd]; exact partsT_len (fun h => by exact HKEQ.out))
    have W0e : (w.alloc (.cells #[.int .i64 n.kind, .string n.text, .slice ka n.keys.length kc, .slice da n.kids.length dc] 75)).heap.size = w.heap.size + 1 := by simp
    have HM := hid (made_rowS (w.alloc (.cells #[.int .i64 n.kind, .string n.text, .slice ka n.keys.length kc, .slice da n.kids.length dc] 75)) nd 9)
    rw [W0e] at HM
    have HA1 := hid (show Below (w.heap.size + 1) (w.alloc (.cells #[.int .i64 n.kind, .string n.text, .slice ka n.keys.length kc, .slice da n.kids.length dc] 75)) ((w.alloc (.cells #[.int .i64 n.kind, .string n.text, .slice ka n.keys.length kc, .slice da n.kids.length dc] 75)).alloc (.cells (madeCells #[.string ⟨#[]⟩] nd) 9)) by have h := ext_alloc (w.alloc (.cells #[.int .i64 n.kind, .string n.text, .slice ka n.keys.length kc, .slice da n.kids.length dc] 75)) (.cells (madeCells #[.string ⟨#[]⟩] nd) 9); rw [W0e] at h; exact h)
    rw [hP] at HS
    rw [hnd] at hmk HBX HBW HSZ HB0 HA1 HM y3 hkl hd1 ⊢
    clear hdv hDF p7 hP W0e
    rw [hnd] at e1 e2
    clear hnd
    go_enter Tryd.func96, Tryd.ntmps96
    go_wp2
    clear hmk
    go_loopw [54] (fun i wr => ∃ (j : Nat), j ≤ nd ∧ i = .int .i64 (j : Int) ∧ wr.heap[w.heap.size + 1]? = some (.cells (rowS nd ((P.take j).map mkB)).toArray 9 (0, 0)) ∧ Hid (∀ q (h : q < n.keys.length), q < j → okText n.keys[q] = true) ∧ Below (w.heap.size + 1) (w.alloc (.cells #[.int .i64 n.kind, .string n.text, .slice ka n.keys.length kc, .slice da nd dc] 75)) wr) (fun i _ => nd - (intOf i).toNat)
    case atStart => exact ⟨0, Nat.zero_le _, rfl, by first | exact HM.out | (have := HM.out; simpa using this), hid (fun q h h2 => absurd h2 (by omega)), HA1.out⟩
    case round =>
      obtain ⟨j, hj, rfl, hrow, HKO, hB⟩ := hrel
      clear y0 y1 y2 y3
      obtain ⟨y0, y1, y2, y3⟩ := HBX.out _ hB
      have hBw := HBW.out _ hB
      have hsr := HSZ.out _ hB
      have hprl : w.heap.size + 1 < wr.heap.size := (Array.getElem?_eq_some_iff.1 hrow).1
      have HROW := hid hrow
      have HB := hid hB
      by_cases hlt : j < nd
      · have hjl : j < n.kids.length := by have := HND.out; omega
        obtain ⟨b, off, rfl, hBk, hcell⟩ := HDF.out (by omega)
        have t0 : wr.cell? ⟨b, off + j, none⟩ = some (.int .i64 n.kids[j]) := (hBw.cell (p := ⟨b, off + j, none⟩) hBk).trans (hcell j hjl).1
        have hkj := HKID.out n.kids[j] (List.getElem_mem hjl)
        obtain ⟨kn, hkn⟩ : ∃ kn : Nat, (kn : Int) = n.kids[j] := ⟨n.kids[j].toNat, by omega⟩
        have hdg := datL_get (ts := ts) (k := kn) (by omega)
        rw [← hkn] at t0 hkj
        have hk3 : kn < ts.length := by omega
        have tk : wr.cell? ⟨tb, kn, none⟩ = some (.string ts[kn]) := (hBw.cell (p := ⟨tb, kn, none⟩) htb).trans (HTK.out kn hk3)
        have hsz := HTS.out ts[kn] (List.getElem_mem hk3)
        have hk5 : (kn : Int) < (tm : Int) := by omega
        have hk6 : (0 : Int) ≤ (kn : Int) := by omega
        have hki : (j : Int) < (nd : Int) := by omega
        have hk0 : (0 : Int) ≤ (j : Int) := by omega
        have hpl : j < P.length := by have := HPL.out; omega
        have hfr : (rowS nd ((P.take j).map mkB))[j]? = some (.string ⟨#[]⟩) := by
          have h := rowS_zero (n := nd) (ts := (P.take j).map mkB) (by rw [List.length_map, List.length_take]; omega)
          rw [List.length_map, List.length_take, Nat.min_eq_left (Nat.le_of_lt hpl)] at h
          exact h
        have c0 : wr.cell? ⟨w.heap.size + 1, j, none⟩ = some (.string ⟨#[]⟩) := cell_row hrow hfr
        have f0 : wr.frozen? ⟨w.heap.size + 1, j, none⟩ = false := frozen_of_row wr _ j _ _ hrow
        have HNEXT := hid (show ∀ T : ByteArray, P[j] = T.data.toList → (rowS nd ((P.take j).map mkB)).set j (.string T) = rowS nd ((P.take (j + 1)).map mkB) from fun T hTe => by
          have h := rowS_set (n := nd) (ts := (P.take j).map mkB) T (by rw [List.length_map, List.length_take]; omega)
          rw [List.length_map, List.length_take, Nat.min_eq_left (Nat.le_of_lt hpl)] at h
          rw [h, List.take_succ_eq_append_getElem hpl, List.map_append, List.map_cons, List.map_nil, hTe, mkB_of])
        have hpg := partsT_get (ob := true) (keys := n.keys) (kids := n.kids) (ts := datL ts) (i := j) hjl (fun h => by have := HKEQ.out; omega)
        rw [HP.out, List.getElem?_eq_getElem hpl] at hpg
        injection hpg with hpg
        rw [← hkn, hdg] at hpg
        obtain ⟨T, hT1⟩ : ∃ T, ts[kn] = T := ⟨_, rfl⟩
        rw [hT1] at tk hsz hpg
        have hbne : w.heap.size + 1 ≠ b := fun e => by have h9 : b < w.heap.size := hBk; omega
        have HBNE := hid hbne
        have hjk : j < n.keys.length := by have := HKEQ.out; have := HND.out; omega
        obtain ⟨qb, qoff, rfl, hqB, hqc⟩ := HQF.out (by omega)
        have q0 : wr.cell? ⟨qb, qoff + j, none⟩ = some (.string n.keys[j]) := (hBw.cell (p := ⟨qb, qoff + j, none⟩) hqB).trans (hqc j hjk).1
        obtain ⟨KY, hK⟩ : ∃ KY, n.keys[j] = KY := ⟨_, rfl⟩
        have HKE := hid (show n.keys[j] = KY from hK)
        rw [hK] at q0
        have HPG := hid (show P[j] = quoT KY.data.toList ++ 58 :: T.data.toList by rw [hpg, ← hK]; rfl)
        have hmem : KY ∈ n.keys := by rw [← hK]; exact List.getElem_mem hjk
        have HMEM := hid hmem
        have hbq : ¬ w.heap.size + 1 = qb := fun e => by have h9 : qb < w.heap.size := hqB; omega
        have htbn : ¬ w.heap.size + 1 = tb := by omega
        obtain ⟨w2, hw2⟩ : ∃ x, wr.setCell ⟨w.heap.size + 1, j, none⟩ (.string T) = x := ⟨_, rfl⟩
        have HB2 := hid (HB.out.setCell (p := ⟨w.heap.size + 1, j, none⟩) (Nat.le_refl _) (.string T))
        rw [hw2] at HB2
        have HROW2 := hid (show w2.heap[w.heap.size + 1]? = some (.cells ((rowS nd ((P.take j).map mkB)).set j (.string T)).toArray 9 (0, 0)) by rw [← hw2]; exact set_row HROW.out)
        have tk2 : w2.cell? ⟨tb, kn, none⟩ = some (.string T) := by
          have h1 := ((HBW.out _ HB2.out).cell (p := ⟨tb, kn, none⟩) htb).trans (HTK.out kn hk3)
          rw [hT1] at h1
          exact h1
        have q2 : w2.cell? ⟨qb, qoff + j, none⟩ = some (.string KY) := by
          have h1 := ((HBW.out _ HB2.out).cell (p := ⟨qb, qoff + j, none⟩) hqB).trans (hqc j hjk).1
          rw [hK] at h1
          exact h1
        obtain ⟨x0, x1, x2, x3⟩ := HBX.out _ HB2.out
        have HTK2 := hid tk2
        have HQ2 := hid q2
        have CKQ := hid (CK.out KY w2 (tabs_below HT.out (HBW.out _ HB2.out)))
        have HLN := hid (fun (h : okText KY = true) => okText_size h)
        obtain ⟨kb, hkb2⟩ : ∃ x, okText KY = x := ⟨_, rfl⟩
        rw [hkb2] at CKQ HLN
        have HKB := hid hkb2
        have HHT := hid hT1
        have HQC := hid (hqc j hjk)
        have HHK := hid hK
        have HRL := hid (List.getElem?_eq_some_iff.1 hfr).1
        clear hcell hkn hrow hfr hpg hT1 hdg hqc hK hkb2
        go_upto_region 21 with fail
        try rw [hw2]
        clear hw2 c0 f0 q0 t0 tk y0 y1 y2 y3
        go_wp2_with fail
        refine CKQ.out.mono ?_
        rintro e w3 ⟨rfl, hb3⟩
        have HB3 := hid (HB2.out.trans (hb3.mono (HSZ.out _ HB2.out)))
        cases kb with
        | false =>
          have HNO := hid (HSN.out (fun h => by have h1 := h KY HMEM.out; rw [HKB.out] at h1; cases h1))
          clear hb3
          go_wp2
          go_ret2
          exact ⟨⟨#[]⟩, false, rfl, stepJ_none HNO.out, HBW.out _ HB3.out⟩
        | true =>
        have hks := HLN.out rfl
        have CJQ := hid (fun w => CJ.out KY w (by omega))
        have hJz : (mkB (quoT KY.data.toList)).size ≤ 7000 := by
          rw [mkB_size]
          have h1 := quoT_len KY.data.toList
          rw [Lib.size_eq] at hks
          omega
        have HJD := hid (show (mkB (quoT KY.data.toList)).data.toList = quoT KY.data.toList from mkB_data _)
        obtain ⟨J, hJ⟩ : ∃ J, mkB (quoT KY.data.toList) = J := ⟨_, rfl⟩
        rw [hJ] at CJQ hJz HJD
        have hBw3 := HBW.out _ HB3.out
        have hT1 := HHT.out
        have hK := HHK.out
        have tk3 : w3.cell? ⟨tb, kn, none⟩ = some (.string T) := by
          have h1 := (hBw3.cell (p := ⟨tb, kn, none⟩) htb).trans (HTK.out kn hk3)
          rw [hT1] at h1
          exact h1
        have q3 : w3.cell? ⟨qb, qoff + j, none⟩ = some (.string KY) := by
          have h1 := (hBw3.cell (p := ⟨qb, qoff + j, none⟩) hqB).trans HQC.out.1
          rw [hK] at h1
          exact h1
        have x23 := (HBX.out _ HB3.out).2.2.1
        have HTB := hid htb
        have HQB := hid hqB
        have HROW3 := hid ((hb3.block (w.heap.size + 1) (Array.getElem?_eq_some_iff.1 HROW2.out).1).trans HROW2.out)
        have z1 : ¬ 9223372036854775807 < J.size + 1 := by omega
        have z2 : ¬ 9223372036854775807 < J.size + 1 + T.size := by omega
        clear hJ hb3 tk2 q2 x0 x1 x2 x3 hT1 hK
        go_upto_region 24 with fail
        refine wp_region_held_drew (S := fun w' => w'.cell? ⟨w.heap.size, 2, none⟩ = some (.slice (some ⟨qb, qoff, none⟩) n.keys.length kc) ∧ w'.cell? ⟨qb, qoff + j, none⟩ = some (.string KY) ∧ w'.cell? ⟨tb, kn, none⟩ = some (.string T)) (by kernel_rfl) ?_ (fun hHeld => ?_)
        · exact ⟨x23, q3, tk3⟩
        refine wpAnyH_take (i := 0) (v := ?_) rfl (by kernel_rfl) (by kernel_rfl) (by kernel_rfl) (fun _ _ _ h => h) (Or.inl ⟨by rfl, ?_⟩) (by assumption) ?_
        rotate_left
        · (intro w' hSw; (try dsimp only at hSw); go_simp; try (with_reducible rfl))
        change wpAnyH _ _ _ _ _ _ _ (Act.put _ (some 76) _) _
        try simp only [Act.put, List.setIfInBounds_toArray, List.set_cons_zero, List.set_cons_succ]
        refine wpAnyH_take (i := 1) (v := ?_) rfl (by kernel_rfl) (by kernel_rfl) (by kernel_rfl) (fun _ _ _ h => h) (Or.inl ⟨by rfl, ?_⟩) (by assumption) ?_
        rotate_left
        · (intro w' hSw; (try dsimp only at hSw); go_simp; try (with_reducible rfl))
        change wpAnyH _ _ _ _ _ _ _ (Act.put _ (some 77) _) _
        try simp only [Act.put, List.setIfInBounds_toArray, List.set_cons_zero, List.set_cons_succ]
        refine wpAnyH_take (i := 2) (v := ?_) rfl (by kernel_rfl) (by kernel_rfl) (by kernel_rfl) (fun _ _ _ h => h) (Or.inl ⟨by rfl, ?_⟩) (by assumption) ?_
        rotate_left
        · (intro w' hSw; (try dsimp only at hSw); go_simp; try (with_reducible rfl))
        change wpAnyH _ _ _ _ _ _ _ (Act.put _ (some 78) _) _
        try simp only [Act.put, List.setIfInBounds_toArray, List.set_cons_zero, List.set_cons_succ]
        refine wpAnyH_take (i := 3) (v := ?_) rfl (by kernel_rfl) (by kernel_rfl) (by kernel_rfl) (fun _ _ _ h => h) (Or.inl ⟨by rfl, ?_⟩) (by assumption) ?_
        rotate_left
        · (intro w' hSw; (try dsimp only at hSw); go_simp; try (with_reducible rfl))
        change wpAnyH _ _ _ _ _ _ _ (Act.put _ (some 79) _) _
        try simp only [Act.put, List.setIfInBounds_toArray, List.set_cons_zero, List.set_cons_succ]
        refine wpAnyH_take (i := 4) (v := ?_) rfl (by kernel_rfl) (by kernel_rfl) (by kernel_rfl) (fun _ _ _ h => h) (Or.inl ⟨by rfl, ?_⟩) (by assumption) ?_
        rotate_left
        · (intro w' hSw; (try dsimp only at hSw); go_simp; try (with_reducible rfl))
        change wpAnyH _ _ _ _ _ _ _ (Act.put _ (some 80) _) _
        try simp only [Act.put, List.setIfInBounds_toArray, List.set_cons_zero, List.set_cons_succ]
        refine wpAnyH_take (i := 5) (v := ?_) rfl (by kernel_rfl) (by kernel_rfl) (by kernel_rfl) (fun _ _ _ h => h) (Or.inl ⟨by rfl, ?_⟩) (by assumption) ?_
        rotate_left
        · (intro w' hSw; (try dsimp only at hSw); go_simp; try (with_reducible rfl))
        change wpAnyH _ _ _ _ _ _ _ (Act.put _ (some 81) _) _
        try simp only [Act.put, List.setIfInBounds_toArray, List.set_cons_zero, List.set_cons_succ]
        refine wpAnyH_take (i := 6) (v := ?_) rfl (by kernel_rfl) (by kernel_rfl) (by kernel_rfl) (fun _ _ _ h => h) (Or.inl ⟨by rfl, ?_⟩) (by assumption) ?_
        rotate_left
        · (intro w' hSw; (try dsimp only at hSw); go_simp; try (with_reducible rfl))
        change wpAnyH _ _ _ _ _ _ _ (Act.put _ (some 82) _) _
        try simp only [Act.put, List.setIfInBounds_toArray, List.set_cons_zero, List.set_cons_succ]
        refine wpAnyH_take (i := 9) (v := ?_) rfl (by kernel_rfl) (by kernel_rfl) (by kernel_rfl) (fun _ _ _ h => h) (Or.inl ⟨by rfl, ?_⟩) (by assumption) ?_
        rotate_left
        · (intro w' hSw; (try dsimp only at hSw); go_simp; try (with_reducible rfl))
        change wpAnyH _ _ _ _ _ _ _ (Act.put _ (some 85) _) _
        try simp only [Act.put, List.setIfInBounds_toArray, List.set_cons_zero, List.set_cons_succ]
        refine wpAnyH_take (i := 10) (v := ?_) rfl (by kernel_rfl) (by kernel_rfl) (by kernel_rfl) (fun _ _ _ h => h) (Or.inl ⟨by rfl, ?_⟩) (by assumption) ?_
        rotate_left
        · (intro w' hSw; (try dsimp only at hSw); go_simp; try (with_reducible rfl))
        change wpAnyH _ _ _ _ _ _ _ (Act.put _ (some 86) _) _
        try simp only [Act.put, List.setIfInBounds_toArray, List.set_cons_zero, List.set_cons_succ]
        refine wpAnyH_take (i := 11) (v := ?_) rfl (by kernel_rfl) (by kernel_rfl) (by kernel_rfl) (fun _ _ _ h => h) (Or.inl ⟨by rfl, ?_⟩) (by assumption) ?_
        rotate_left
        · (intro w' hSw; (try dsimp only at hSw); go_simp; try (with_reducible rfl))
        change wpAnyH _ _ _ _ _ _ _ (Act.put _ (some 87) _) _
        try simp only [Act.put, List.setIfInBounds_toArray, List.set_cons_zero, List.set_cons_succ]
        refine wpAnyH_take (i := 12) (v := ?_) rfl (by kernel_rfl) (by kernel_rfl) (by kernel_rfl) (fun _ _ _ h => h) (Or.inl ⟨by rfl, ?_⟩) (by assumption) ?_
        rotate_left
        · (intro w' hSw; (try dsimp only at hSw); go_simp; try (with_reducible rfl))
        change wpAnyH _ _ _ _ _ _ _ (Act.put _ (some 88) _) _
        try simp only [Act.put, List.setIfInBounds_toArray, List.set_cons_zero, List.set_cons_succ]
        refine wpAnyH_ready (rs := [7]) (by kernel_rfl) (by simp) ?_
        refine AllReadyH.cons (i := 7) rfl (fun K hK => ?_) AllReadyH.nil
        simp only [List.getElem_toArray, List.getElem_cons_succ, List.getElem_cons_zero]
        rw [if_pos (by rfl)]
        go_simp
        (go_at_call 130; refine (CJQ.out _).mono ?_; rintro e w4 ⟨rfl, hb4⟩; have HB4 := hid (HB3.out.drew.trans (hb4.mono (HSZ.out _ HB3.out.drew))); have hS5 : w4.cell? ⟨w.heap.size, 2, none⟩ = some (.slice (some ⟨qb, qoff, none⟩) n.keys.length kc) ∧ w4.cell? ⟨qb, qoff + j, none⟩ = some (.string KY) ∧ w4.cell? ⟨tb, kn, none⟩ = some (.string T) := ⟨(HBX.out _ HB4.out).2.2.1, (hb4.cell (p := ⟨qb, qoff + j, none⟩) (Nat.lt_of_lt_of_le (show qb < w.heap.size from HQB.out) hBw3.size)).trans q3, (hb4.cell (p := ⟨tb, kn, none⟩) (Nat.lt_of_lt_of_le (show tb < w.heap.size from HTB.out) hBw3.size)).trans tk3⟩; have HROW4 := hid ((hb4.block (w.heap.size + 1) (show w.heap.size + 1 < w3.drew.heap.size from (Array.getElem?_eq_some_iff.1 HROW3.out).1)).trans HROW3.out); clear hb4; go_wp2_with fail)
        have hOld := hHeld
        clear hHeld
        refine hK.out _ _ ?_ (fun hHeld => ?_)
        · exact hS5
        clear hK K hOld
        try simp only [Act.put, List.setIfInBounds_toArray, List.set_cons_zero, List.set_cons_succ]
        refine wpAnyH_take (i := 8) (v := ?_) rfl (by kernel_rfl) (by kernel_rfl) (by kernel_rfl) (fun _ _ _ h => h) (Or.inl ⟨by rfl, ?_⟩) (by assumption) ?_
        rotate_left
        · (intro w' hSw; (try dsimp only at hSw); go_simp; try (with_reducible rfl))
        change wpAnyH _ _ _ _ _ _ _ (Act.put _ (some 84) _) _
        try simp only [Act.put, List.setIfInBounds_toArray, List.set_cons_zero, List.set_cons_succ]
        refine wpAnyH_take (i := 13) (v := ?_) rfl (by kernel_rfl) (by kernel_rfl) (by kernel_rfl) (fun _ _ _ h => h) (Or.inl ⟨by rfl, ?_⟩) (by assumption) ?_
        rotate_left
        · (intro w' hSw; (try dsimp only at hSw); go_simp; try (with_reducible rfl))
        change wpAnyH _ _ _ _ _ _ _ (Act.put _ (some 89) _) _
        try simp only [Act.put, List.setIfInBounds_toArray, List.set_cons_zero, List.set_cons_succ]
        refine wpAnyH_take (i := 14) (v := ?_) rfl (by kernel_rfl) (by kernel_rfl) (by kernel_rfl) (fun _ _ _ h => h) (Or.inl ⟨by rfl, ?_⟩) (by assumption) ?_
        rotate_left
        · (intro w' hSw; (try dsimp only at hSw); go_simp; try (with_reducible rfl))
        change wpAnyH _ _ _ _ _ _ _ (Act.put _ (some 90) _) _
        try simp only [Act.put, List.setIfInBounds_toArray, List.set_cons_zero, List.set_cons_succ]
        have c4 : w4.cell? ⟨w.heap.size + 1, j, none⟩ = some (.string T) := cell_row HROW4.out (by rw [List.getElem?_set_self HRL.out])
        have f4 : w4.frozen? ⟨w.heap.size + 1, j, none⟩ = false := frozen_of_row w4 _ j _ _ HROW4.out
        refine wpAnyH_ready (rs := [15]) (by kernel_rfl) (by simp) ?_
        refine AllReadyH.cons (i := 15) rfl (fun K hK => ?_) AllReadyH.nil
        simp only [List.getElem_toArray, List.getElem_cons_succ, List.getElem_cons_zero]
        rw [if_pos (by rfl)]
        go_simp
        have hOld := hHeld
        clear hHeld
        refine hK.out _ _ ?_ (fun hHeld => ?_)
        · exact ⟨(World.cell?_setCell_far _ _ _ _ (by show w.heap.size + 1 ≠ w.heap.size; omega)).trans hOld.1, (World.cell?_setCell_far _ _ _ _ hbq).trans hOld.2.1, (World.cell?_setCell_far _ _ _ _ htbn).trans hOld.2.2⟩
        clear hK K hOld
        try simp only [Act.put, List.setIfInBounds_toArray, List.set_cons_zero, List.set_cons_succ]
        refine wpAnyH_done (by kernel_rfl) ?_ _
        clear hHeld
        go_wp2
        go_roundw
        case rel =>
          refine ⟨j + 1, by omega, by go_num, ?_, hid (fun q h h2 => ?_), HB4.out.setCell (p := ⟨w.heap.size + 1, j, none⟩) (Nat.le_refl _) _⟩
          · rw [← HNEXT.out (J ++ ⟨#[58]⟩ ++ T) (by rw [HPG.out]; simp only [ByteArray.data_append, Array.toList_append, HJD.out]; simp)]
            have h1 := set_row (m := j) (v := .string (J ++ ⟨#[58]⟩ ++ T)) HROW4.out
            rw [List.set_set] at h1
            exact h1
          · rcases Nat.lt_or_ge q j with h3 | h3
            · exact HKO.out q h h3
            · obtain rfl : q = j := by omega
              rw [HKE.out]
              exact HKB.out
        case measure => simp [intOf]; omega
      · have hki : ¬ (j : Int) < (nd : Int) := by omega
        have hje : j = nd := by omega
        have HFULL := hid (show P.take j = P from List.take_of_length_le (by have := HPL.out; omega))
        have HAK := hid (show ∀ k ∈ n.keys, okText k = true from fun k hk => by obtain ⟨q, hq, rfl⟩ := List.getElem_of_mem hk; exact HKO.out q hq (by have := HKEQ.out; have := HND.out; omega))
        have HLEN := hid (show (joinC P).length ≤ 140737488355328 by
          have h1 := joinC_le P (by rw [← HP.out]; exact partsT_le (fun h => fun k hk => okText_size (HAK.out k hk)) HTS.out)
          have h2 : P.length * 8001 ≤ 2000000 * 8001 := Nat.mul_le_mul_right _ (by have := HPL.out; omega)
          omega)
        have CJN : Calls Tryd.prog 131 #[.slice (some ⟨w.heap.size + 1, 0, none⟩) nd nd, .string ⟨#[44]⟩] wr fun e w' => e = .returned (.string (mkB (joinC P))) ∧ Below wr.heap.size wr w' := by
          have hml : (P.map mkB).length = nd := by rw [List.length_map]; exact HPL.out
          have hmm : (P.map mkB).map (fun x => x.data.toList) = P := by
            rw [List.map_map]
            exact List.map_id'' (fun x => mkB_data x) P
          have h := Tryd.strings_Join (w.heap.size + 1) 0 nd (P.map mkB) ⟨#[44]⟩ wr (fun q x hq => by
            have hql : q < (P.map mkB).length := (List.getElem?_eq_some_iff.1 hq).1
            have hqe : (P.map mkB)[q] = x := (List.getElem?_eq_some_iff.1 hq).2
            have hr := HROW.out
            rw [HFULL.out] at hr
            rw [Nat.zero_add]
            refine cell_row hr ?_
            rw [rowS_get hql, hqe]) hprl (by rw [hml]; omega) (by rw [hml]; exact Nat.le_refl _) (by
            rw [hmm, show (⟨#[44]⟩ : ByteArray).data.toList = [44] from rfl, ← joinC_lib]
            exact HLEN.out)
          rw [hml, hmm, show (⟨#[44]⟩ : ByteArray).data.toList = [44] from rfl, ← joinC_lib] at h
          exact h
        have HCJ := hid CJN
        have HJL := hid (show (mkB (joinC P)).size ≤ 140737488355328 by rw [mkB_size]; exact HLEN.out)
        obtain ⟨J, hJ⟩ : ∃ J, mkB (joinC P) = J := ⟨_, rfl⟩
        have HJE := hid (show J.data.toList = joinC P by rw [← hJ, mkB_data])
        rw [hJ] at HCJ HJL
        have hjz := HJL.out
        have z1 : ¬ 9223372036854775807 < 1 + J.size := by omega
        have z2 : ¬ 9223372036854775807 < 1 + J.size + 1 := by omega
        clear CJN hje hJ hrow
        go_wp2_with fail
        refine HCJ.out.mono ?_
        rintro e w3 ⟨rfl, hb3⟩
        have HB3 := hid (show Below w.heap.size w w3 from hBw.trans (hb3.mono hBw.size))
        clear hb3
        go_wp2
        go_ret2
        refine ⟨_, true, rfl, stepJ_some (HS.out HAK.out) ?_, HB3.out⟩
        simp only [ByteArray.data_append, Array.toList_append, HJE.out]
        rfl
  have k7 : (n.kind == 7) = false := by rw [beq_eq_false_iff_ne]; exact p7
  have HS := hid (nodeT_kind (ts := datL ts) p1 p2 p3 p4 p5 p6 p7)
  clear p1 p2 p3 p4 p5 p6 p7
  go_enter Tryd.func96, Tryd.ntmps96
  go_wp2
  go_ret2
  exact ⟨⟨#[]⟩, false, rfl, stepJ_none HS.out, HBW.out _ HB0.out⟩
end Go.Proofs.YtlfkfofeenakhaaDoor

namespace Go.Proofs.YtlfkfofeenakhaaDoor
open Go.RowKit
set_option linter.unusedVariables false
set_option linter.unusedSimpArgs false

theorem jtxP_no {ns : List JNode} (h : treeB (kidsJ ns) = false) : jtxP ns = ⟨#[]⟩ := by unfold jtxP; rw [h]; rfl
theorem jtxP_go {ns : List JNode} (h : treeB (kidsJ ns) = true) : jtxP ns = match textsJ ns [] with | none => ⟨#[]⟩ | some ts => ts.getLastD ⟨#[]⟩ := by unfold jtxP; rw [h]; rfl
theorem getLastD_atJ {ts : List ByteArray} {n : Nat} (h : ts.length = n) (h0 : 0 < n) : ts.getLastD ⟨#[]⟩ = ts[n - 1]'(by omega) := by
  subst h
  have hne : ts ≠ [] := by intro e; rw [e] at h0; exact absurd h0 (Nat.lt_irrefl _)
  rw [List.getLastD_eq_getLast?, List.getLast?_eq_getElem?, List.getElem?_eq_getElem (by omega)]
  rfl
theorem kidsJ_get {ns : List JNode} {i : Nat} (h : i < ns.length) : (kidsJ ns)[i]'(by simpa [kidsJ] using h) = ns[i].kids := by simp [kidsJ]
theorem info_intsJ : (Tryd.prog.info? 61).map (fun i => (i.zero, i.size, i.bytes)) = some (some (.slice none 0 0), 1, 24) := by kernel_rfl
set_option maxHeartbeats 32000000 in
set_option maxRecDepth 100000 in
theorem implJTextL {v : Value} {ns : List JNode} (w : World) (hT : Tabs w) (h : Rd.rd (Old w) w [v] ns) (hn : ns.length ≤ 2000000) (hf : (kidsJ ns).flatten.length ≤ 1000000000000) (hk : ∀ n ∈ ns, n.kids.length ≤ 2000000 ∧ n.keys.length ≤ 2000000) :
    Calls Tryd.prog 49 #[.agg #[v]] w fun e w' => e = .returned (.string (jtxP ns)) ∧ Below w.heap.size w w' := by
  obtain ⟨a, cap, rfl, h1, h2, hc⟩ := rdJNodes h
  obtain ⟨n, hnn⟩ : ∃ n, ns.length = n := ⟨_, rfl⟩
  have HNN := hid hnn
  have hkn : (kidsJ ns).length = n := by simp [kidsJ, hnn]
  have HKN := hid hkn
  have HC := hid hc
  have HK := hid hk
  have HT := hid hT
  rw [hnn] at hn h1 ⊢
  have hmk := run_make_row' (P := Tryd.prog) 108 61 _ 24 Tryd.underlying108 info_intsJ rfl .i64 .i64 n (by omega) (by omega)
  have hmk2 := run_make_row' (P := Tryd.prog) 73 9 _ 16 Tryd.underlying73 info_strT rfl .i64 .i64 n (by omega) (by omega)
  have HMK2 := hid hmk2
  have hal := ext_alloc w (.cells #[.slice a n cap] 24)
  have e0 : (w.alloc (.cells #[.slice a n cap] 24)).heap.size = w.heap.size + 1 := by simp
  have hW0 := heap_alloc_new w (.cells #[.slice a n cap] 24)
  have HBX := hid (fun (w' : World) (hb : Below (w.heap.size + 1) (w.alloc (.cells #[.slice a n cap] 24)) w') => (show w'.cell? ⟨w.heap.size, 0, none⟩ = some (.slice a n cap) from cell_of_row _ _ 0 _ _ _ ((hb.block w.heap.size (by omega)).trans hW0)))
  have HBW := hid (fun (w' : World) (hb : Below (w.heap.size + 1) (w.alloc (.cells #[.slice a n cap] 24)) w') => (show Below w.heap.size w w' from hal.trans (hb.mono (Nat.le_succ _))))
  have HSZ := hid (fun (w' : World) (hb : Below (w.heap.size + 1) (w.alloc (.cells #[.slice a n cap] 24)) w') => (show w.heap.size + 1 ≤ w'.heap.size from by have := hb.size; rw [e0] at this; exact this))
  have HFI := hid (fill_made (w.alloc (.cells #[.slice a n cap] 24)) (Value.slice none 0 0) n 61)
  rw [e0] at HFI
  have HA1 := hid (show Below (w.heap.size + 1) (w.alloc (.cells #[.slice a n cap] 24)) ((w.alloc (.cells #[.slice a n cap] 24)).alloc (.cells (madeCells #[.slice none 0 0] n) 61)) by have h := ext_alloc (w.alloc (.cells #[.slice a n cap] 24)) (.cells (madeCells #[.slice none 0 0] n) 61); rw [e0] at h; exact h)
  clear hc h hkn hnn hk hT hal hW0 e0 hmk2
  go_enter Tryd.func49, Tryd.ntmps49
  go_wp2
  clear hmk
  go_loopw [18] (fun iv wr => ∃ (i : Nat) (css : List (List Value)), i ≤ n ∧ iv = .int .i64 (i : Int) ∧ wr.heap[w.heap.size + 1]? = some (.cells (css.flatten ++ List.replicate (n - i) (Value.slice none 0 0)).toArray 61 (0, 0)) ∧ Below (w.heap.size + 1) (w.alloc (.cells #[.slice a n cap] 24)) wr ∧ Each (Old w) w css ((kidsJ ns).take i)) (fun iv _ => n - (intOf iv).toNat)
  case atStart => exact ⟨0, [], Nat.zero_le _, rfl, by first | exact HFI.out | (have := HFI.out; simpa using this), HA1.out, Each.nil⟩
  case round =>
    obtain ⟨i, css, hi, rfl, hg, hb, he⟩ := hrel
    by_cases hlt : i < n
    · have hik : i < ns.length := by rw [HNN.out]; exact hlt
      obtain ⟨b, off, rfl, hB, hcell⟩ := HC.out (by omega)
      obtain ⟨us, uk, ⟨d0, d1, d2, d3⟩, _, _, hrs, hrk⟩ := hcell i hik
      obtain ⟨sa, sc, rfl, _⟩ := rdStrs hrs
      obtain ⟨ka, kc, rfl, _⟩ := rdInts hrk
      have hbw := HBW.out _ hb
      have hbc := fun o => hbw.cell (p := ⟨b, o, none⟩) hB
      have e0 := (hbc _).trans d0
      have e1 := (hbc _).trans d1
      have e2 := (hbc _).trans d2
      have e3 := (hbc _).trans d3
      have hcl := each_take he (by rw [HKN.out]; exact hi)
      have hold := fill_old hg he.len hcl hlt
      have hfr : wr.frozen? ⟨w.heap.size + 1, i, none⟩ = false := frozen_of_row wr _ _ _ _ hg
      have hlti : (i : Int) < (n : Int) := by omega
      have hi0 : (0 : Int) ≤ (i : Int) := by omega
      have hsz : w.heap.size + 1 < wr.heap.size := (Array.getElem?_eq_some_iff.1 hg).1
      have hne : ¬ wr.heap.size = w.heap.size + 1 := by omega
      have hne2 : ¬ w.heap.size + 1 = wr.heap.size := by omega
      have HG := hid hg
      have HE := hid he
      have HB := hid hb
      have HCL := hid hcl
      have HRK := hid hrk
      clear hcell hbc d0 d1 d2 d3 hg he hcl hb hrk hbw
      go_wp2
      go_roundw
      case rel =>
        refine ⟨i + 1, css ++ [[.slice ka ns[i].kids.length kc]], by omega, by go_num, ?_, ?_, ?_⟩
        · exact (heap_alloc_old _ _ (by simp; omega)).trans (fill_set HG.out HE.out.len HCL.out hlt)
        · exact (HB.out.setCell (p := ⟨w.heap.size + 1, i, none⟩) (Nat.le_refl _) _).alloc (by simp; omega) _
        · exact each_next HE.out (by rw [HKN.out]; exact hlt) (by rw [kidsJ_get hik]; exact HRK.out)
      case measure => simp [intOf]; omega
    · obtain rfl : i = n := by omega
      rw [List.take_of_length_le (by rw [HKN.out]; exact Nat.le_refl _)] at he
      rw [Nat.sub_self] at hg
      have hbw := HBW.out _ hb
      have hrd := rd_of_block (S := Old wr) (xs := kidsJ ns) (cap := i) hg ((he.same (fun b hb' => hbw.block b hb')).mono (T := Old wr) (fun b hb' => Nat.lt_of_lt_of_le hb' hbw.size)) (Array.getElem?_eq_some_iff.1 hg).1 (by rw [HKN.out]; exact Nat.le_refl _) (by omega)
      rw [HKN.out] at hrd
      have CT := hid (implIsTree wr hrd (by rw [HKN.out]; omega) hf)
      have HB := hid hb
      obtain ⟨q, hq⟩ : ∃ q, treeB (kidsJ ns) = q := ⟨_, rfl⟩
      rw [hq] at CT
      have HQ := hid hq
      clear hg he hb hrd hlt hq hbw
      cases q with
      | false =>
        go_wp2_with fail
        refine CT.out.mono ?_
        rintro e w5 ⟨rfl, hb5⟩
        have HB5 := hid ((HBW.out _ HB.out).trans (hb5.mono (HBW.out _ HB.out).size))
        clear hb5
        go_wp2
        go_ret
        rw [jtxP_no HQ.out]
        exact ⟨rfl, HB5.out⟩
      | true =>
      have htree := treeB_iff.1 HQ.out
      have hpos : 0 < i := by have h9 := htree.1; rw [HKN.out] at h9; exact h9
      have HTREE := hid htree
      clear htree
      go_wp2_with fail
      refine CT.out.mono ?_
      rintro e w1 ⟨rfl, hb5⟩
      have HB1 := hid (HB.out.trans (hb5.mono (HSZ.out _ HB.out)))
      clear hb5
      have x0 := HBX.out _ HB1.out
      have hs1 := HSZ.out _ HB1.out
      have hs2 : w.heap.size < w1.heap.size := by omega
      obtain ⟨B, hB⟩ : ∃ B, w1.heap.size = B := ⟨_, rfl⟩
      have HBB := hid hB
      have HM := hid (made_rowS w1 i 9)
      rw [hB] at HM
      have HA2 := hid (HB1.out.trans ((ext_alloc w1 (.cells (madeCells #[.string ⟨#[]⟩] i) 9)).mono hs1))
      have hBs : w.heap.size + 1 ≤ B := by rw [← hB]; exact hs1
      have hmk2 := HMK2.out
      clear hB
      go_wp2
      rw [HBB.out]
      clear hmk2
      go_loopw [39] (fun iv wr => ∃ (j : Nat) (ts : List ByteArray), j ≤ i ∧ ts.length = j ∧ iv = .int .i64 (j : Int) ∧ wr.heap[B]? = some (.cells (rowS i ts).toArray 9 (0, 0)) ∧ Hid (textsJ ns [] = textsJ (ns.drop j) ts) ∧ Hid (∀ t ∈ ts, t.size ≤ 1000) ∧ Below (w.heap.size + 1) (w.alloc (.cells #[.slice a i cap] 24)) wr) (fun iv _ => i - (intOf iv).toNat)
      case atStart => exact ⟨0, [], Nat.zero_le _, rfl, rfl, HM.out, hid rfl, hid (fun t ht => by cases ht), HA2.out⟩
      case round =>
        obtain ⟨j, ts, hj, htj, rfl, hrow, HGO, HTS, hB⟩ := hrel
        clear x0
        have x0 := HBX.out _ hB
        have hBw := HBW.out _ hB
        have hsr := HSZ.out _ hB
        have hBlt : B < wr.heap.size := (Array.getElem?_eq_some_iff.1 hrow).1
        have HB3 := hid hB
        by_cases hlt : j < i
        · have hik : j < ns.length := by rw [HNN.out]; exact hlt
          obtain ⟨b, off, rfl, hBk, hcell⟩ := HC.out (by omega)
          obtain ⟨us, uk, ⟨d0, d1, d2, d3⟩, g1, g2, hrs, hrk⟩ := hcell j hik
          obtain ⟨sa, sc, rfl, _⟩ := rdStrs hrs
          obtain ⟨ka, kc, rfl, _⟩ := rdInts hrk
          have hbc := fun o => hBw.cell (p := ⟨b, o, none⟩) hBk
          have e0 := (hbc _).trans d0
          have e1 := (hbc _).trans d1
          have e2 := (hbc _).trans d2
          have e3 := (hbc _).trans d3
          have HKL := hid (HK.out ns[j] (List.getElem_mem hik))
          have HKID := hid (show ∀ k ∈ ns[j].kids, 0 ≤ k ∧ k < (ts.length : Int) from fun k hk => by
            rw [htj]
            exact treeJ_kid HTREE.out hik hk)
          have HSTEP := hid (fun (t : ByteArray) (h : stepJ ts ns[j] = some t) => textsJ_step hik h)
          have HBAD := hid (fun (h : stepJ ts ns[j] = none) => textsJ_bad hik h)
          have hrd : Rd.rd (Old w) w [.int .i64 ns[j].kind, .string ns[j].text, .slice sa ns[j].keys.length sc, .slice ka ns[j].kids.length kc] ns[j] := rdJN_mk g1 g2 hrs hrk
          obtain ⟨N, hN⟩ : ∃ N, ns[j] = N := ⟨_, rfl⟩
          rw [hN] at e0 e1 e2 e3 HKL HKID HSTEP HBAD hrd
          have HROW2 := hid hrow
          have htk : ∀ k (hk : k < ts.length), wr.cell? ⟨B, k, none⟩ = some (.string ts[k]) := fun k hk => cell_row hrow (rowS_get hk)
          have e6 := ext_alloc wr (.cells #[.int .i64 N.kind, .string N.text, .slice sa N.keys.length sc, .slice ka N.kids.length kc] 75)
          have HCN := hid (implJNode (tb := B) (tm := i) (tc := i) (ts := ts) (n := N) (wr.alloc (.cells #[.int .i64 N.kind, .string N.text, .slice sa N.keys.length sc, .slice ka N.kids.length kc] 75)) (tabs_below HT.out (hBw.trans (e6.mono hBw.size))) (Nat.lt_of_lt_of_le hBlt e6.size) (fun k hk => (e6.cell (p := ⟨B, k, none⟩) hBlt).trans (htk k hk)) (by omega) HTS.out (Rd.later (hBw.trans (e6.mono hBw.size)) hrd) HKID.out HKL.out.1 HKL.out.2)
          have hwl : w.heap.size < wr.heap.size := by omega
          have hki : (j : Int) < (i : Int) := by omega
          have hk0 : (0 : Int) ≤ (j : Int) := by omega
          have c0 : wr.cell? ⟨B, j, none⟩ = some (.string ⟨#[]⟩) := cell_row hrow (by rw [← htj]; exact rowS_zero (by omega))
          have HTJ := hid htj
          have E6 := hid e6
          clear hcell hbc d0 d1 d2 d3 g1 g2 hrs hrk hN hrow htk htj e6 hrd
          go_wp2_with fail
          refine HCN.out.mono ?_
          rintro e w3 ⟨s, ok, rfl, hst, hb3⟩
          have hB3 := ext_trans E6.out hb3
          have HST := hid hst
          have HR3 := hid ((hB3.block B hBlt).trans HROW2.out)
          have c3 : w3.cell? ⟨B, j, none⟩ = some (.string ⟨#[]⟩) := (hB3.cell (p := ⟨B, j, none⟩) hBlt).trans c0
          have f3 : w3.frozen? ⟨B, j, none⟩ = false := frozen_of_row w3 _ j _ _ HR3.out
          have hBB := HB3.out.trans (hB3.mono hsr)
          have HBB := hid hBB
          clear hst c0 hb3 hB3 hBB
          cases ok with
          | false =>
            have HNO := hid (HBAD.out HST.out.symm)
            go_wp2
            go_ret
            rw [jtxP_go HQ.out, HGO.out, HNO.out]
            exact ⟨rfl, HBW.out _ HBB.out⟩
          | true =>
            by_cases hlong : (1000 : Int) < (s.size : Int)
            · have HNO := hid (HBAD.out (by rw [← HST.out, if_neg (by omega)]))
              go_wp2
              go_ret
              rw [jtxP_go HQ.out, HGO.out, HNO.out]
              exact ⟨rfl, HBW.out _ HBB.out⟩
            · have HYES := hid (HSTEP.out s (by rw [← HST.out, if_pos ⟨rfl, by omega⟩]))
              have hs1000 : s.size ≤ 1000 := by omega
              go_wp2
              go_roundw
              case rel =>
                refine ⟨j + 1, ts ++ [s], by omega, by rw [List.length_append, HTJ.out]; rfl, by go_num, ?_, hid (HGO.out.trans HYES.out), hid (fun t ht => ?_), HBB.out.setCell (p := ⟨B, j, none⟩) (by show _ ≤ B; omega) _⟩
                · rw [← rowS_set s (by rw [HTJ.out]; exact hlt), HTJ.out]
                  exact set_row HR3.out
                · rcases List.mem_append.1 ht with h | h
                  · exact HTS.out t h
                  · rw [List.mem_singleton] at h; subst h; exact hs1000
              case measure => simp [intOf]; omega
        · have hie : j = i := by omega
          have hlen : ts.length = i := by omega
          have g1 : IntKind.i64.wrap ((i : Int) - 1) = ((i - 1 : Nat) : Int) := by rw [show (i : Int) - 1 = ((i - 1 : Nat) : Int) by omega]; exact IntWalk.i64_in _ (by omega)
          have g2 : (i : Int) - 1 = ((i - 1 : Nat) : Int) := by omega
          have hlast : wr.cell? ⟨B, i - 1, none⟩ = some (.string (ts[i - 1]'(by omega))) := cell_row hrow (rowS_get (by omega))
          have HL := hid (show jtxP ns = ts[i - 1]'(by omega) by
            rw [jtxP_go HQ.out, HGO.out, textsJ_end (by rw [HNN.out]; omega)]
            exact getLastD_atJ hlen hpos)
          obtain ⟨t, ht⟩ : ∃ t, ts[i - 1]'(by omega) = t := ⟨_, rfl⟩
          rw [ht] at hlast HL
          have hki : ¬ (j : Int) < (i : Int) := by omega
          have hm1 : (0 : Int) ≤ ((i - 1 : Nat) : Int) := by omega
          have hm2 : ((i - 1 : Nat) : Int) < (i : Int) := by omega
          have HBw := hid hBw
          clear hie hlen ht hrow g2 hBw hB
          go_wp2
          go_ret
          rw [HL.out]
          exact ⟨rfl, HBw.out⟩
theorem implJsonText {v : Value} {ns : List JNode} (w : World) (hT : Tabs w) (h : Rd.rd (Old w) w [v] ns) (hn : ns.length ≤ 2000000) (hf : (kidsJ ns).flatten.length ≤ 1000000000000) (hk : ∀ n ∈ ns, n.kids.length ≤ 2000000 ∧ n.keys.length ≤ 2000000) :
    Calls Tryd.prog 21 #[.agg #[v]] w fun e w' => e = .returned (.string (jtxP ns)) ∧ Below w.heap.size w w' := by
  have hal := ext_alloc w (.cells #[v] 24)
  have CJ := hid (implJTextL (w.alloc (.cells #[v] 24)) (tabs_below hT hal) (Rd.later hal h) hn hf hk)
  have HAL := hid hal
  clear h hal hT
  go_enter Tryd.func21, Tryd.ntmps21
  go_wp2_with fail
  refine CJ.out.mono ?_
  rintro e w1 ⟨rfl, hb⟩
  have HB := hid (show Below w.heap.size w w1 from ext_trans HAL.out hb)
  clear hb
  go_wp2
  go_ret
  exact ⟨rfl, HB.out⟩
end Go.Proofs.YtlfkfofeenakhaaDoor

namespace Go.Proofs.YtlfkfofeenakhaaDoor
open Go.RowKit
set_option linter.unusedVariables false
set_option linter.unusedSimpArgs false

def rxOf (n : JNode) : RxNode := ⟨0, 0, 0, false, [], n.kids⟩
theorem kidsOf_rx (ns : List JNode) : kidsOf (ns.map rxOf) = kidsJ ns := by unfold kidsOf kidsJ; rw [List.map_map]; rfl
theorem info_rxJ : (Tryd.prog.info? 103).map (fun i => (i.zero, i.size, i.bytes)) = some (some (.agg #[.int .i64 0, .int .i64 0, .int .i64 0, .bool false, .slice none 0 0, .slice none 0 0]), 6, 80) := by kernel_rfl
theorem rdRx {S : Nat → Prop} {w : World} {ka : Option Addr} {nk kc : Nat} {n : JNode} (h : Rd.rd S w [.slice ka nk kc] n.kids) : Rd.rd S w [.int .i64 0, .int .i64 0, .int .i64 0, .bool false, .slice none 0 0, .slice ka nk kc] (rxOf n) :=
  ⟨[.int .i64 0], _, rfl, ⟨rfl, by show -9223372036854775808 ≤ (0 : Int) ∧ (0 : Int) ≤ 9223372036854775807; omega⟩, [.int .i64 0], _, rfl, ⟨rfl, by show -9223372036854775808 ≤ (0 : Int) ∧ (0 : Int) ≤ 9223372036854775807; omega⟩, [.int .i64 0], _, rfl, ⟨rfl, by show -9223372036854775808 ≤ (0 : Int) ∧ (0 : Int) ≤ 9223372036854775807; omega⟩, [.bool false], _, rfl, rfl, [.slice none 0 0], [.slice ka nk kc], rfl, rd_noInt, h⟩
set_option maxHeartbeats 16000000 in
set_option maxRecDepth 100000 in
theorem specL11Tree {v : Value} {ns : List JNode} (w : World) (h : Rd.rd (Old w) w [v] ns) (hn : ns.length ≤ 2000000) :
    Calls Tryd.prog 45 #[.agg #[v]] w fun e w' => e = .returned (.bool (treeB (kidsJ ns))) ∧ Below w.heap.size w w' := by
  obtain ⟨ii, hi, hz0, hz1, hz2⟩ := info_parts info_rxJ
  obtain ⟨a, cap, rfl, h1, h2, hc⟩ := rdJNodes h
  obtain ⟨n, hnn⟩ : ∃ n, ns.length = n := ⟨_, rfl⟩
  have HNN := hid hnn
  have HC := hid hc
  rw [hnn] at hn h1 ⊢
  have e0 : ((w.alloc (.cells #[.slice a n cap] 24)).alloc (.cells #[.slice none 0 0] 32)).heap.size = w.heap.size + 1 + 1 := by simp
  have HB0 := hid (show Below w.heap.size w ((w.alloc (.cells #[.slice a n cap] 24)).alloc (.cells #[.slice none 0 0] 32)) from (ext_alloc w _).trans ((ext_alloc _ _).mono (by simp)))
  have HX0 := hid (show ((w.alloc (.cells #[.slice a n cap] 24)).alloc (.cells #[.slice none 0 0] 32)).heap[w.heap.size + 1]? = some (.cells #[.slice none 0 0] 32 (0, 0)) from by
    have h := heap_alloc_new (w.alloc (.cells #[.slice a n cap] 24)) (.cells #[.slice none 0 0] 32)
    rw [show (w.alloc (.cells #[.slice a n cap] 24)).heap.size = w.heap.size + 1 by simp] at h
    exact h)
  have HJ0 := hid (show ((w.alloc (.cells #[.slice a n cap] 24)).alloc (.cells #[.slice none 0 0] 32)).heap[w.heap.size]? = some (.cells #[.slice a n cap] 24 (0, 0)) from ((ext_alloc (w.alloc (.cells #[.slice a n cap] 24)) _).block w.heap.size (by simp)).trans (heap_alloc_new w _))
  clear hc h hnn e0
  go_enter Tryd.func45, Tryd.ntmps45
  go_wp2
  go_loopw [4] (fun iv wr => ∃ (i : Nat) (vx : Value) (css : List (List Value)), i ≤ n ∧ iv = .int .i64 (i : Int) ∧ Hid (wr.heap[w.heap.size + 1]? = some (.cells #[vx] 32 (0, 0))) ∧ Hid (wr.heap[w.heap.size]? = some (.cells #[.slice a n cap] 24 (0, 0))) ∧ Hid (wr.ownsRow (w.heap.size + 1 + 1) 103 6 vx i css.flatten) ∧ Hid (Below w.heap.size w wr) ∧ Hid (Each (Old w) w css ((ns.take i).map rxOf))) (fun iv _ => n - (intOf iv).toNat)
  case atStart => exact ⟨0, .slice none 0 0, [], Nat.zero_le _, rfl, HX0, HJ0, hid (World.ownsRow_nil _ _ _ _), HB0, hid Each.nil⟩
  case round =>
    obtain ⟨i, vx, css, hil, rfl, HXB, HJB, HOW, HB, HEA⟩ := hrel
    have y0 : wr.cell? ⟨w.heap.size, 0, none⟩ = some (.slice a n cap) := cell_of_row _ _ 0 _ _ _ HJB.out
    have HXL := hid (Array.getElem?_eq_some_iff.1 HXB.out).1
    by_cases hlt : i < n
    · have hik : i < ns.length := by rw [HNN.out]; exact hlt
      obtain ⟨b, off, rfl, hBk, hcell⟩ := HC.out (by omega)
      obtain ⟨us, uk, ⟨d0, d1, d2, d3⟩, g1, g2, hrs, hrk⟩ := hcell i hik
      obtain ⟨ka, kc, rfl, _⟩ := rdInts hrk
      obtain ⟨nk, hnk⟩ : ∃ x, ns[i].kids.length = x := ⟨_, rfl⟩
      rw [hnk] at d3 hrk
      have HBK := hid (show b < w.heap.size from hBk)
      have HD3 := hid d3
      have e3 : wr.cell? ⟨b, off + i * 4 + 3, none⟩ = some (.slice ka nk kc) := (HB.out.cell (p := ⟨b, off + i * 4 + 3, none⟩) HBK.out).trans d3
      have hlti : (i : Int) < (n : Int) := by omega
      have hi0 : (0 : Int) ≤ (i : Int) := by omega
      have cX0 : wr.drew.cell? ⟨w.heap.size + 1, 0, none⟩ = some vx := cell_of_row _ _ 0 _ _ _ (show wr.drew.heap[w.heap.size + 1]? = _ from HXB.out)
      have hS0 : wr.drew.cell? ⟨w.heap.size, 0, none⟩ = some (.slice (some ⟨b, off, none⟩) n cap) ∧ wr.drew.cell? ⟨b, off + i * 4 + 3, none⟩ = some (.slice ka nk kc) := ⟨y0, e3⟩
      have HFAR := hid (fun (p : Addr) (hp : p.block < wr.heap.size) => (ext_alloc wr.drew (.cells #[.int .i64 0, .int .i64 0, .int .i64 0, .bool false, .slice none 0 0, .slice ka nk kc] 103)).cell (p := p) hp)
      have cX1 : (wr.drew.alloc (.cells #[.int .i64 0, .int .i64 0, .int .i64 0, .bool false, .slice none 0 0, .slice ka nk kc] 103)).cell? ⟨w.heap.size + 1, 0, none⟩ = some vx := (HFAR.out ⟨w.heap.size + 1, 0, none⟩ HXL.out).trans cX0
      have hS1 : (wr.drew.alloc (.cells #[.int .i64 0, .int .i64 0, .int .i64 0, .bool false, .slice none 0 0, .slice ka nk kc] 103)).cell? ⟨w.heap.size, 0, none⟩ = some (.slice (some ⟨b, off, none⟩) n cap) ∧ (wr.drew.alloc (.cells #[.int .i64 0, .int .i64 0, .int .i64 0, .bool false, .slice none 0 0, .slice ka nk kc] 103)).cell? ⟨b, off + i * 4 + 3, none⟩ = some (.slice ka nk kc) := ⟨(HFAR.out ⟨w.heap.size, 0, none⟩ (by have := HXL.out; show w.heap.size < _; omega)).trans hS0.1, (HFAR.out ⟨b, off + i * 4 + 3, none⟩ (by have := HXL.out; have := HBK.out; show b < _; omega)).trans hS0.2⟩
      have HNEW := hid (show (wr.drew.alloc (.cells #[.int .i64 0, .int .i64 0, .int .i64 0, .bool false, .slice none 0 0, .slice ka nk kc] 103)).heap[wr.heap.size]? = some (.cells #[.int .i64 0, .int .i64 0, .int .i64 0, .bool false, .slice none 0 0, .slice ka nk kc] 103 (0, 0)) from heap_alloc_new wr.drew _)
      have HRK := hid hrk
      have FIN := hid (fun (w5 : World) (g5 cap5 : Nat) (uu : Unit) (hb5 : Below w.heap.size w w5) (hx5 : w5.heap[w.heap.size + 1]? = some (.cells #[vx] 32 (0, 0))) (hj5 : w5.heap[w.heap.size]? = some (.cells #[.slice (some ⟨b, off, none⟩) n cap] 24 (0, 0))) (ho5 : w5.ownsRow (w.heap.size + 1 + 1) 103 6 (.slice (some ⟨g5, 0, none⟩) (i + 1) cap5) (i + 1) (css.flatten ++ [.int .i64 0, .int .i64 0, .int .i64 0, .bool false, .slice none 0 0, .slice ka nk kc])) => (show ∃ (i' : Nat) (vx' : Value) (css' : List (List Value)), i' ≤ n ∧ Value.int .i64 ((i : Int) + 1) = .int .i64 (i' : Int) ∧ Hid ((w5.setCell ⟨w.heap.size + 1, 0, none⟩ (.slice (some ⟨g5, 0, none⟩) (i + 1) cap5)).heap[w.heap.size + 1]? = some (.cells #[vx'] 32 (0, 0))) ∧ Hid ((w5.setCell ⟨w.heap.size + 1, 0, none⟩ (.slice (some ⟨g5, 0, none⟩) (i + 1) cap5)).heap[w.heap.size]? = some (.cells #[.slice (some ⟨b, off, none⟩) n cap] 24 (0, 0))) ∧ Hid ((w5.setCell ⟨w.heap.size + 1, 0, none⟩ (.slice (some ⟨g5, 0, none⟩) (i + 1) cap5)).ownsRow (w.heap.size + 1 + 1) 103 6 vx' i' css'.flatten) ∧ Hid (Below w.heap.size w (w5.setCell ⟨w.heap.size + 1, 0, none⟩ (.slice (some ⟨g5, 0, none⟩) (i + 1) cap5))) ∧ Hid (Each (Old w) w css' ((ns.take i').map rxOf)) from by
        refine ⟨i + 1, .slice (some ⟨g5, 0, none⟩) (i + 1) cap5, css ++ [[.int .i64 0, .int .i64 0, .int .i64 0, .bool false, .slice none 0 0, .slice ka nk kc]], by omega, by rw [show ((i + 1 : Nat) : Int) = (i : Int) + 1 by omega], hid ((heap_setCell_same w5 _ 0 _ _ _ hx5).trans rfl), hid ((Below.heap_setCell w5 ⟨w.heap.size + 1, 0, none⟩ _ w.heap.size (by show w.heap.size ≠ w.heap.size + 1; omega)).trans hj5), hid ?_, hid (hb5.setCell (p := ⟨w.heap.size + 1, 0, none⟩) (Nat.le_succ _) _), hid ?_⟩
        · rw [List.flatten_append]
          have h9 := ownsRow_setCell_below (a := ⟨w.heap.size + 1, 0, none⟩) ho5 (by show w.heap.size + 1 < _; omega) (.slice (some ⟨g5, 0, none⟩) (i + 1) cap5)
          simpa using h9
        · rw [List.take_succ_eq_append_getElem hik, List.map_append]
          exact HEA.out.snoc (rdRx HRK.out)))
      clear hcell d0 d1 d2 d3 g1 g2 hrs hrk hBk hnk
      go_upto_region 5 with fail
      refine wp_region_held_drew (S := fun w' => w'.cell? ⟨w.heap.size, 0, none⟩ = some (.slice (some ⟨b, off, none⟩) n cap) ∧ w'.cell? ⟨b, off + i * 4 + 3, none⟩ = some (.slice ka nk kc)) (by kernel_rfl) ?_ (fun hHeld => ?_)
      · exact hS0
      refine wpAnyH_take (i := 0) (v := ?_) rfl (by kernel_rfl) (by kernel_rfl) (by kernel_rfl) (fun _ _ _ h => h) (Or.inl ⟨by rfl, ?_⟩) (by assumption) ?_
      rotate_left
      · (intro w' hSw; (try dsimp only at hSw); go_simp; try (with_reducible rfl))
      change wpAnyH _ _ _ _ _ _ _ (Act.put _ (some 13) _) _
      try simp only [Act.put, List.setIfInBounds_toArray, List.set_cons_zero, List.set_cons_succ]
      refine wpAnyH_take (i := 2) (v := ?_) rfl (by kernel_rfl) (by kernel_rfl) (by kernel_rfl) (fun _ _ _ h => h) (Or.inl ⟨by rfl, ?_⟩) (by assumption) ?_
      rotate_left
      · (intro w' hSw; (try dsimp only at hSw); go_simp; try (with_reducible rfl))
      change wpAnyH _ _ _ _ _ _ _ (Act.put _ (some 15) _) _
      try simp only [Act.put, List.setIfInBounds_toArray, List.set_cons_zero, List.set_cons_succ]
      refine wpAnyH_take (i := 3) (v := ?_) rfl (by kernel_rfl) (by kernel_rfl) (by kernel_rfl) (fun _ _ _ h => h) (Or.inl ⟨by rfl, ?_⟩) (by assumption) ?_
      rotate_left
      · (intro w' hSw; (try dsimp only at hSw); go_simp; try (with_reducible rfl))
      change wpAnyH _ _ _ _ _ _ _ (Act.put _ (some 16) _) _
      try simp only [Act.put, List.setIfInBounds_toArray, List.set_cons_zero, List.set_cons_succ]
      refine wpAnyH_take (i := 4) (v := ?_) rfl (by kernel_rfl) (by kernel_rfl) (by kernel_rfl) (fun _ _ _ h => h) (Or.inl ⟨by rfl, ?_⟩) (by assumption) ?_
      rotate_left
      · (intro w' hSw; (try dsimp only at hSw); go_simp; try (with_reducible rfl))
      change wpAnyH _ _ _ _ _ _ _ (Act.put _ (some 17) _) _
      try simp only [Act.put, List.setIfInBounds_toArray, List.set_cons_zero, List.set_cons_succ]
      refine wpAnyH_take (i := 5) (v := ?_) rfl (by kernel_rfl) (by kernel_rfl) (by kernel_rfl) (fun _ _ _ h => h) (Or.inl ⟨by rfl, ?_⟩) (by assumption) ?_
      rotate_left
      · (intro w' hSw; (try dsimp only at hSw); go_simp; try (with_reducible rfl))
      change wpAnyH _ _ _ _ _ _ _ (Act.put _ (some 18) _) _
      try simp only [Act.put, List.setIfInBounds_toArray, List.set_cons_zero, List.set_cons_succ]
      refine wpAnyH_take (i := 6) (v := ?_) rfl (by kernel_rfl) (by kernel_rfl) (by kernel_rfl) (fun _ _ _ h => h) (Or.inl ⟨by rfl, ?_⟩) (by assumption) ?_
      rotate_left
      · (intro w' hSw; (try dsimp only at hSw); go_simp; try (with_reducible rfl))
      change wpAnyH _ _ _ _ _ _ _ (Act.put _ (some 19) _) _
      try simp only [Act.put, List.setIfInBounds_toArray, List.set_cons_zero, List.set_cons_succ]
      refine wpAnyH_take (i := 7) (v := ?_) rfl (by kernel_rfl) (by kernel_rfl) (by kernel_rfl) (fun _ _ _ h => h) (Or.inl ⟨by rfl, ?_⟩) (by assumption) ?_
      rotate_left
      · (intro w' hSw; (try dsimp only at hSw); go_simp; try (with_reducible rfl))
      change wpAnyH _ _ _ _ _ _ _ (Act.put _ (some 20) _) _
      try simp only [Act.put, List.setIfInBounds_toArray, List.set_cons_zero, List.set_cons_succ]
      refine wpAnyH_take (i := 8) (v := ?_) rfl (by kernel_rfl) (by kernel_rfl) (by kernel_rfl) (fun _ _ _ h => h) (Or.inl ⟨by rfl, ?_⟩) (by assumption) ?_
      rotate_left
      · (intro w' hSw; (try dsimp only at hSw); go_simp; try (with_reducible rfl))
      change wpAnyH _ _ _ _ _ _ _ (Act.put _ (some 21) _) _
      try simp only [Act.put, List.setIfInBounds_toArray, List.set_cons_zero, List.set_cons_succ]
      refine wpAnyH_ready (rs := [1, 9]) (by kernel_rfl) (by simp) ?_
      refine AllReadyH.cons (i := 1) rfl (fun K hK => ?_) ?_
      simp only [List.getElem_toArray, List.getElem_cons_succ, List.getElem_cons_zero]
      rw [if_pos (by rfl)]
      have cX : wr.drew.cell? ⟨w.heap.size + 1, 0, none⟩ = some vx := cX0
      have cXr : wr.cell? ⟨w.heap.size + 1, 0, none⟩ = some vx := cX0
      have hxl := HXL.out
      have hne9 : ¬ wr.heap.size = w.heap.size + 1 := by omega
      go_simp
      refine hK.out _ _ ?_ (fun hHeld => ?_)
      · exact hS0
      clear cX cXr hxl hne9
      clear hK K
      try simp only [Act.put, List.setIfInBounds_toArray, List.set_cons_zero, List.set_cons_succ]
      refine wpAnyH_ready (rs := [9]) (by kernel_rfl) (by simp) ?_
      refine AllReadyH.cons (i := 9) rfl (fun K hK => ?_) AllReadyH.nil
      simp only [List.getElem_toArray, List.getElem_cons_succ, List.getElem_cons_zero]
      rw [if_pos (by rfl)]
      go_simp
      refine hK.out _ _ ?_ (fun hHeld => ?_)
      · exact hS1
      clear hK K
      try simp only [Act.put, List.setIfInBounds_toArray, List.set_cons_zero, List.set_cons_succ]
      refine wpAnyH_ready (rs := [10]) (by kernel_rfl) (by simp) ?_
      refine AllReadyH.cons (i := 10) rfl (fun K hK => ?_) AllReadyH.nil
      simp only [List.getElem_toArray, List.getElem_cons_succ, List.getElem_cons_zero]
      rw [if_pos (by rfl)]
      refine wp_append_lies _ (.tmp 14) (.tmp 22) 30 rfl (w.heap.size + 1 + 1) 103 ii (.agg #[.int .i64 0, .int .i64 0, .int .i64 0, .bool false, .slice none 0 0, .slice none 0 0]) 6 80 Tryd.underlying30 hi hz0 hz1 hz2 rfl (by decide) vx i css.flatten (by first | rfl | simp [Act.eval, Act.put]) (HOW.out.drew.alloc _) ⟨wr.heap.size, 0, none⟩ 1 1 [.int .i64 0, .int .i64 0, .int .i64 0, .bool false, .slice none 0 0, .slice ka nk kc] (by first | rfl | simp [Act.eval, Act.put]) rfl (World.news_of_block (cs := #[.int .i64 0, .int .i64 0, .int .i64 0, .bool false, .slice none 0 0, .slice ka nk kc]) (t := 103) (fr := (0, 0)) HNEW.out) (by intro u hu; simp at hu; rcases hu with rfl | rfl | rfl | rfl | rfl <;> rfl) (by decide) (by unfold maxLen; omega) (by omega) (by have := HXL.out; simp; omega) _ rfl ?_
      intro g5 cap5 w5 hown5 hgrow5 hat5 hlt5
      have HB5 := hid (show Below w.heap.size w w5 from (HB.out.drew.trans ((ext_alloc wr.drew (.cells #[.int .i64 0, .int .i64 0, .int .i64 0, .bool false, .slice none 0 0, .slice ka nk kc] 103)).mono HB.out.size)).grown hgrow5 (by have := HB.out.size; simp; omega) (fun q hq => by have := ((HOW.out.drew.alloc (.cells #[.int .i64 0, .int .i64 0, .int .i64 0, .bool false, .slice none 0 0, .slice ka nk kc] 103)).lt q hq).1; omega))
      have HX5 := hid (show w5.heap[w.heap.size + 1]? = some (.cells #[vx] 32 (0, 0)) from (hgrow5.block (w.heap.size + 1) (by have := HXL.out; simp; omega) (fun e => by have := (HOW.out.lt _ e.symm).1; omega)).trans (((ext_alloc wr.drew (.cells #[.int .i64 0, .int .i64 0, .int .i64 0, .bool false, .slice none 0 0, .slice ka nk kc] 103)).block (w.heap.size + 1) HXL.out).trans HXB.out))
      have HJ5 := hid (show w5.heap[w.heap.size]? = some (.cells #[.slice (some ⟨b, off, none⟩) n cap] 24 (0, 0)) from (hgrow5.block w.heap.size (by have := HXL.out; simp; omega) (fun e => by have := (HOW.out.lt _ e.symm).1; omega)).trans (((ext_alloc wr.drew (.cells #[.int .i64 0, .int .i64 0, .int .i64 0, .bool false, .slice none 0 0, .slice ka nk kc] 103)).block w.heap.size (by have := HXL.out; show w.heap.size < wr.heap.size; omega)).trans HJB.out))
      have HO5 := hid hown5
      have hS5 : w5.cell? ⟨w.heap.size, 0, none⟩ = some (.slice (some ⟨b, off, none⟩) n cap) ∧ w5.cell? ⟨b, off + i * 4 + 3, none⟩ = some (.slice ka nk kc) := ⟨cell_of_row _ _ 0 _ _ _ HJ5.out, (HB5.out.cell (p := ⟨b, off + i * 4 + 3, none⟩) HBK.out).trans HD3.out⟩
      have hX5 : w5.cell? ⟨w.heap.size + 1, 0, none⟩ = some vx := cell_of_row _ _ 0 _ _ _ HX5.out
      have fX5 : w5.frozen? ⟨w.heap.size + 1, 0, none⟩ = false := frozen_of_row _ _ 0 _ _ HX5.out
      have hn1 : ¬ w.heap.size + 1 = w.heap.size := by omega
      have hn2 : ¬ w.heap.size + 1 = b := by have := HBK.out; omega
      have HEX := hid ((HEA.out.same (fun b hb => HB5.out.block b hb)))
      clear hown5 hgrow5 hat5 hlt5
      refine hK.out _ _ ?_ (fun hHeld => ?_)
      · exact hS5
      clear hK K
      try simp only [Act.put, List.setIfInBounds_toArray, List.set_cons_zero, List.set_cons_succ]
      refine wpAnyH_take (i := 11) (v := ?_) rfl (by kernel_rfl) (by kernel_rfl) (by kernel_rfl) (fun _ _ _ h => h) (Or.inl ⟨by rfl, ?_⟩) (by assumption) ?_
      rotate_left
      · (intro w' hSw; (try dsimp only at hSw); go_simp; try (with_reducible rfl))
      change wpAnyH _ _ _ _ _ _ _ (Act.put _ (some 24) _) _
      try simp only [Act.put, List.setIfInBounds_toArray, List.set_cons_zero, List.set_cons_succ]
      refine wpAnyH_ready (rs := [12]) (by kernel_rfl) (by simp) ?_
      refine AllReadyH.cons (i := 12) rfl (fun K hK => ?_) AllReadyH.nil
      simp only [List.getElem_toArray, List.getElem_cons_succ, List.getElem_cons_zero]
      rw [if_pos (by rfl)]
      go_simp
      refine hK.out _ _ ?_ (fun hHeld => ?_)
      · exact ⟨(World.cell?_setCell_far _ _ _ _ (by show w.heap.size + 1 ≠ w.heap.size; omega)).trans hS5.1, (World.cell?_setCell_far _ _ _ _ hn2).trans hS5.2⟩
      clear hK K
      try simp only [Act.put, List.setIfInBounds_toArray, List.set_cons_zero, List.set_cons_succ]
      refine wpAnyH_done (by kernel_rfl) ?_ _
      clear hHeld
      go_wp2
      go_roundw
      case rel => exact FIN.out w5 g5 cap5 () HB5.out HX5.out HJ5.out HO5.out
      case measure => simp [intOf]; omega
      refine AllReadyH.cons (i := 9) rfl (fun K hK => ?_) AllReadyH.nil
      simp only [List.getElem_toArray, List.getElem_cons_succ, List.getElem_cons_zero]
      rw [if_pos (by rfl)]
      go_simp
      refine hK.out _ _ ?_ (fun hHeld => ?_)
      · exact hS1
      clear hK K
      try simp only [Act.put, List.setIfInBounds_toArray, List.set_cons_zero, List.set_cons_succ]
      refine wpAnyH_ready (rs := [1]) (by kernel_rfl) (by simp) ?_
      refine AllReadyH.cons (i := 1) rfl (fun K hK => ?_) AllReadyH.nil
      simp only [List.getElem_toArray, List.getElem_cons_succ, List.getElem_cons_zero]
      rw [if_pos (by rfl)]
      have cX : (wr.drew.alloc (.cells #[.int .i64 0, .int .i64 0, .int .i64 0, .bool false, .slice none 0 0, .slice ka nk kc] 103)).cell? ⟨w.heap.size + 1, 0, none⟩ = some vx := cX1
      have cXr : wr.cell? ⟨w.heap.size + 1, 0, none⟩ = some vx := cX0
      have hxl := HXL.out
      have hne9 : ¬ wr.heap.size = w.heap.size + 1 := by omega
      go_simp
      refine hK.out _ _ ?_ (fun hHeld => ?_)
      · exact hS1
      clear cX cXr hxl hne9
      clear hK K
      try simp only [Act.put, List.setIfInBounds_toArray, List.set_cons_zero, List.set_cons_succ]
      refine wpAnyH_ready (rs := [10]) (by kernel_rfl) (by simp) ?_
      refine AllReadyH.cons (i := 10) rfl (fun K hK => ?_) AllReadyH.nil
      simp only [List.getElem_toArray, List.getElem_cons_succ, List.getElem_cons_zero]
      rw [if_pos (by rfl)]
      refine wp_append_lies _ (.tmp 14) (.tmp 22) 30 rfl (w.heap.size + 1 + 1) 103 ii (.agg #[.int .i64 0, .int .i64 0, .int .i64 0, .bool false, .slice none 0 0, .slice none 0 0]) 6 80 Tryd.underlying30 hi hz0 hz1 hz2 rfl (by decide) vx i css.flatten (by first | rfl | simp [Act.eval, Act.put]) (HOW.out.drew.alloc _) ⟨wr.heap.size, 0, none⟩ 1 1 [.int .i64 0, .int .i64 0, .int .i64 0, .bool false, .slice none 0 0, .slice ka nk kc] (by first | rfl | simp [Act.eval, Act.put]) rfl (World.news_of_block (cs := #[.int .i64 0, .int .i64 0, .int .i64 0, .bool false, .slice none 0 0, .slice ka nk kc]) (t := 103) (fr := (0, 0)) HNEW.out) (by intro u hu; simp at hu; rcases hu with rfl | rfl | rfl | rfl | rfl <;> rfl) (by decide) (by unfold maxLen; omega) (by omega) (by have := HXL.out; simp; omega) _ rfl ?_
      intro g5 cap5 w5 hown5 hgrow5 hat5 hlt5
      have HB5 := hid (show Below w.heap.size w w5 from (HB.out.drew.trans ((ext_alloc wr.drew (.cells #[.int .i64 0, .int .i64 0, .int .i64 0, .bool false, .slice none 0 0, .slice ka nk kc] 103)).mono HB.out.size)).grown hgrow5 (by have := HB.out.size; simp; omega) (fun q hq => by have := ((HOW.out.drew.alloc (.cells #[.int .i64 0, .int .i64 0, .int .i64 0, .bool false, .slice none 0 0, .slice ka nk kc] 103)).lt q hq).1; omega))
      have HX5 := hid (show w5.heap[w.heap.size + 1]? = some (.cells #[vx] 32 (0, 0)) from (hgrow5.block (w.heap.size + 1) (by have := HXL.out; simp; omega) (fun e => by have := (HOW.out.lt _ e.symm).1; omega)).trans (((ext_alloc wr.drew (.cells #[.int .i64 0, .int .i64 0, .int .i64 0, .bool false, .slice none 0 0, .slice ka nk kc] 103)).block (w.heap.size + 1) HXL.out).trans HXB.out))
      have HJ5 := hid (show w5.heap[w.heap.size]? = some (.cells #[.slice (some ⟨b, off, none⟩) n cap] 24 (0, 0)) from (hgrow5.block w.heap.size (by have := HXL.out; simp; omega) (fun e => by have := (HOW.out.lt _ e.symm).1; omega)).trans (((ext_alloc wr.drew (.cells #[.int .i64 0, .int .i64 0, .int .i64 0, .bool false, .slice none 0 0, .slice ka nk kc] 103)).block w.heap.size (by have := HXL.out; show w.heap.size < wr.heap.size; omega)).trans HJB.out))
      have HO5 := hid hown5
      have hS5 : w5.cell? ⟨w.heap.size, 0, none⟩ = some (.slice (some ⟨b, off, none⟩) n cap) ∧ w5.cell? ⟨b, off + i * 4 + 3, none⟩ = some (.slice ka nk kc) := ⟨cell_of_row _ _ 0 _ _ _ HJ5.out, (HB5.out.cell (p := ⟨b, off + i * 4 + 3, none⟩) HBK.out).trans HD3.out⟩
      have hX5 : w5.cell? ⟨w.heap.size + 1, 0, none⟩ = some vx := cell_of_row _ _ 0 _ _ _ HX5.out
      have fX5 : w5.frozen? ⟨w.heap.size + 1, 0, none⟩ = false := frozen_of_row _ _ 0 _ _ HX5.out
      have hn1 : ¬ w.heap.size + 1 = w.heap.size := by omega
      have hn2 : ¬ w.heap.size + 1 = b := by have := HBK.out; omega
      have HEX := hid ((HEA.out.same (fun b hb => HB5.out.block b hb)))
      clear hown5 hgrow5 hat5 hlt5
      refine hK.out _ _ ?_ (fun hHeld => ?_)
      · exact hS5
      clear hK K
      try simp only [Act.put, List.setIfInBounds_toArray, List.set_cons_zero, List.set_cons_succ]
      refine wpAnyH_take (i := 11) (v := ?_) rfl (by kernel_rfl) (by kernel_rfl) (by kernel_rfl) (fun _ _ _ h => h) (Or.inl ⟨by rfl, ?_⟩) (by assumption) ?_
      rotate_left
      · (intro w' hSw; (try dsimp only at hSw); go_simp; try (with_reducible rfl))
      change wpAnyH _ _ _ _ _ _ _ (Act.put _ (some 24) _) _
      try simp only [Act.put, List.setIfInBounds_toArray, List.set_cons_zero, List.set_cons_succ]
      refine wpAnyH_ready (rs := [12]) (by kernel_rfl) (by simp) ?_
      refine AllReadyH.cons (i := 12) rfl (fun K hK => ?_) AllReadyH.nil
      simp only [List.getElem_toArray, List.getElem_cons_succ, List.getElem_cons_zero]
      rw [if_pos (by rfl)]
      go_simp
      refine hK.out _ _ ?_ (fun hHeld => ?_)
      · exact ⟨(World.cell?_setCell_far _ _ _ _ (by show w.heap.size + 1 ≠ w.heap.size; omega)).trans hS5.1, (World.cell?_setCell_far _ _ _ _ hn2).trans hS5.2⟩
      clear hK K
      try simp only [Act.put, List.setIfInBounds_toArray, List.set_cons_zero, List.set_cons_succ]
      refine wpAnyH_done (by kernel_rfl) ?_ _
      clear hHeld
      go_wp2
      go_roundw
      case rel => exact FIN.out w5 g5 cap5 () HB5.out HX5.out HJ5.out HO5.out
      case measure => simp [intOf]; omega
    · obtain rfl : i = n := by omega
      have hea := HEA.out
      rw [List.take_of_length_le (by rw [HNN.out]; exact Nat.le_refl _)] at hea
      have hlm : (ns.map rxOf).length = i := by rw [List.length_map]; exact HNN.out
      have how := HOW.out
      have hrd : Rd.rd (Old wr) wr [vx] (ns.map rxOf) := rd_of_own (base := w.heap.size + 1 + 1) (css := css) (by rw [hlm]; exact how) ((hea.same (fun b hb => HB.out.block b hb)).mono (fun b hb => Nat.lt_of_lt_of_le hb HB.out.size)) (fun b _ hb => hb)
      have CT := hid (specTree wr hrd (by rw [hlm]; exact hn))
      rw [kidsOf_rx] at CT
      have cX : wr.cell? ⟨w.heap.size + 1, 0, none⟩ = some vx := cell_of_row _ _ 0 _ _ _ HXB.out
      clear hea how hrd hlm
      go_wp2_with fail
      refine CT.out.mono ?_
      rintro e w5 ⟨rfl, hb5⟩
      have HB5 := hid (HB.out.trans (hb5.mono HB.out.size))
      clear hb5
      go_wp2
      go_ret
      exact ⟨rfl, HB5.out⟩
end Go.Proofs.YtlfkfofeenakhaaDoor

namespace Go.Proofs.YtlfkfofeenakhaaDoor
open Go.RowKit
set_option linter.unusedVariables false
set_option linter.unusedSimpArgs false

theorem info_u8K : (Tryd.prog.info? 5).map (fun i => (i.zero, i.size, i.bytes)) = some (some (.int .u8 0), 1, 1) := by kernel_rfl
theorem bvJ_cons (b : UInt8) (l : List UInt8) : byteVals (b :: l) = .int .u8 (b.toNat : Int) :: byteVals l := rfl
def escKChk (c : Nat) : Bool := decide (escT (UInt8.ofNat c) = if c = 34 then [92, 34] else if c = 92 then [92, 92] else if c = 8 then [92, 98] else if c = 12 then [92, 102] else if c = 10 then [92, 110] else if c = 13 then [92, 114] else if c = 9 then [92, 116] else if c < 32 then [92, 117, 48, 48, hx (c / 16), hx (c % 16)] else [UInt8.ofNat c])
set_option maxRecDepth 100000 in
theorem escK_256 : ∀ c, c < 256 → escKChk c = true := by decide
theorem escK {c : Nat} (hc : c < 256) : escT (UInt8.ofNat c) = if c = 34 then [92, 34] else if c = 92 then [92, 92] else if c = 8 then [92, 98] else if c = 12 then [92, 102] else if c = 10 then [92, 110] else if c = 13 then [92, 114] else if c = 9 then [92, 116] else if c < 32 then [92, 117, 48, 48, hx (c / 16), hx (c % 16)] else [UInt8.ofNat c] := of_decide_eq_true (escK_256 c hc)
set_option maxHeartbeats 16000000 in
set_option maxRecDepth 100000 in
theorem specJStrT (s : ByteArray) (w : World) :
    Calls Tryd.prog 47 #[.string s] w fun e w' => e = .returned (.string (jstrP s)) ∧ Below w.heap.size w w' := by
  obtain ⟨i0, hi, hz0, hz1, hz2⟩ := info_parts info_u8K
  have CK := hid (specTextOk s w)
  have hln := okText_size (s := s)
  obtain ⟨B, hB⟩ : ∃ B, okText s = B := ⟨_, rfl⟩
  rw [hB] at CK hln
  obtain ⟨R, hR⟩ : ∃ R, jstrP s = R := ⟨_, rfl⟩
  have HR := hid (show R = if B = true then mkB (quoT s.data.toList) else ⟨#[]⟩ by rw [← hR, ← hB]; rfl)
  rw [hR]
  clear hB hR
  cases B with
  | false =>
    have HR2 := hid (show R = ⟨#[]⟩ from HR.out)
    clear hi hz0 hz1 hz2
    go_enter Tryd.func47, Tryd.ntmps47
    go_wp2_with fail
    refine CK.out.mono ?_
    rintro e w1 ⟨rfl, hb1⟩
    have HB1 := hid hb1
    clear hb1
    go_wp2
    go_ret
    rw [HR2.out]
    exact ⟨rfl, HB1.out⟩
  | true =>
    have hsz : s.size ≤ 1000 := hln rfl
    obtain ⟨l, hl⟩ : ∃ l, s.data.toList = l := ⟨_, rfl⟩
    have hsl : s.size = l.length := by rw [Lib.size_eq, hl]
    have HR2 := hid (show R = mkB (quoT l) by rw [HR.out, hl]; rfl)
    have HL := hid hl
    have HSL := hid hsl
    clear hl hsl hln
    go_enter Tryd.func47, Tryd.ntmps47
    go_wp2_with fail
    refine CK.out.mono ?_
    rintro e w1 ⟨rfl, hb1⟩
    go_wp2
    go_loopw [3, 4] (fun out i wr => ∃ k : Nat, k ≤ s.size ∧ i = .int .i64 (k : Int) ∧ wr.ownsRow w.heap.size 5 1 out (quoH l k).length (byteVals (quoH l k)) ∧ Below w.heap.size w wr) (fun _ i _ => s.size - (intOf i).toNat)
    case atStart => exact ⟨0, Nat.zero_le _, rfl, World.ownsRow_lit w1 #[.int .u8 34] 1 hb1.size (by decide) rfl, ext_trans hb1 (ext_alloc _ _)⟩
    case round =>
      obtain ⟨k, hk, rfl, hown, hb⟩ := hrel
      have hlen := quoH_len l k
      by_cases hlt : k < s.size
      · obtain ⟨x, hx⟩ : ∃ x, s[k] = x := ⟨_, rfl⟩
        have hkl : k < l.length := by rw [← HSL.out]; exact hlt
        have hlx : l[k] = x := by
          rw [← hx]
          have := get_list s k hlt
          rw [← this]
          congr 1
          exact HL.out.symm
        have hstep := quoH_succ hkl
        rw [hlx] at hstep
        obtain ⟨c, hc⟩ : ∃ c, x.toNat = c := ⟨_, rfl⟩
        have hcx : UInt8.ofNat c = x := by rw [← hc]; exact UInt8.ofNat_toNat
        have hc256 : c < 256 := by rw [← hc]; exact x.toNat_lt
        have hix : ((s[k] : UInt8).toNat : Int) = (c : Int) := by rw [hx, hc]
        have hi1 : (0 : Int) ≤ (k : Int) := by omega
        have hi2 : (k : Int) < (s.size : Int) := by omega
        rw [← hcx, escK hc256] at hstep
        have HST := hid hstep
        have HCT := hid (show ((UInt8.ofNat c).toNat : Int) = (c : Int) by rw [UInt8.toNat_ofNat']; omega)
        clear hlx hx hc hcx hstep
        by_cases hc : c = 34
        · skip
          have e34 : ((c : Int) == 34) = true := by rw [hc]; rfl
          have HE := hid (show quoH l (k + 1) = quoH l k ++ [92, 34] by rw [HST.out, if_pos hc])
          subst hc
          go_wp2_with ((at_builtin; refine wpList_append_own _ rfl _ _ 44 rfl w.heap.size 5 i0 (.int .u8 0) 1 1 Tryd.underlying44 hi hz0 hz1 hz2 rfl (by decide) _ _ _ rfl (hown.alloc _) ⟨wr.heap.size, 0, none⟩ 2 2 [.int .u8 92, .int .u8 34] rfl rfl (cells_new wr #[.int .u8 92, .int .u8 34] _) (by intro u hu; simp at hu; first | (subst hu; rfl) | (rcases hu with rfl | rfl <;> rfl)) (by unfold maxLen; omega) (by omega) (by simp; exact Nat.le_trans hb.size (by omega)) ?_))
          intro v' w2 hown2 hgrow _
          have hlt' := (hown.alloc (.cells #[.int .u8 92, .int .u8 34] 5)).lt
          have hB2 : Below w.heap.size w w2 := (ext_trans hb (ext_alloc _ _)).grown hgrow (ext_trans hb (ext_alloc _ _)).size (fun q hq => (hlt' q hq).1)
          clear hi hz0 hz1 hz2 hgrow hown hlt'
          go_wp2
          go_roundw
          case rel => exact ⟨k + 1, by omega, by go_num, by rw [HE.out, byteVals_append, List.length_append]; exact hown2, hB2⟩
          case measure => simp [intOf]; omega
        have n34 : c ≠ 34 := hc
        clear hc
        by_cases hc : c = 92
        · skip
          have e34 : ((c : Int) == 34) = false := by rw [beq_eq_false_iff_ne]; omega
          have e92 : ((c : Int) == 92) = true := by rw [hc]; rfl
          have HE := hid (show quoH l (k + 1) = quoH l k ++ [92, 92] by rw [HST.out, if_neg (by omega), if_pos hc])
          subst hc
          go_wp2_with ((at_builtin; refine wpList_append_own _ rfl _ _ 44 rfl w.heap.size 5 i0 (.int .u8 0) 1 1 Tryd.underlying44 hi hz0 hz1 hz2 rfl (by decide) _ _ _ rfl (hown.alloc _) ⟨wr.heap.size, 0, none⟩ 2 2 [.int .u8 92, .int .u8 92] rfl rfl (cells_new wr #[.int .u8 92, .int .u8 92] _) (by intro u hu; simp at hu; first | (subst hu; rfl) | (rcases hu with rfl | rfl <;> rfl)) (by unfold maxLen; omega) (by omega) (by simp; exact Nat.le_trans hb.size (by omega)) ?_))
          intro v' w2 hown2 hgrow _
          have hlt' := (hown.alloc (.cells #[.int .u8 92, .int .u8 92] 5)).lt
          have hB2 : Below w.heap.size w w2 := (ext_trans hb (ext_alloc _ _)).grown hgrow (ext_trans hb (ext_alloc _ _)).size (fun q hq => (hlt' q hq).1)
          clear hi hz0 hz1 hz2 hgrow hown hlt'
          go_wp2
          go_roundw
          case rel => exact ⟨k + 1, by omega, by go_num, by rw [HE.out, byteVals_append, List.length_append]; exact hown2, hB2⟩
          case measure => simp [intOf]; omega
        have n92 : c ≠ 92 := hc
        clear hc
        by_cases hc : c = 8
        · skip
          have e34 : ((c : Int) == 34) = false := by rw [beq_eq_false_iff_ne]; omega
          have e92 : ((c : Int) == 92) = false := by rw [beq_eq_false_iff_ne]; omega
          have e8 : ((c : Int) == 8) = true := by rw [hc]; rfl
          have HE := hid (show quoH l (k + 1) = quoH l k ++ [92, 98] by rw [HST.out, if_neg (by omega), if_neg (by omega), if_pos hc])
          clear hc
          go_wp2_with ((at_builtin; refine wpList_append_own _ rfl _ _ 44 rfl w.heap.size 5 i0 (.int .u8 0) 1 1 Tryd.underlying44 hi hz0 hz1 hz2 rfl (by decide) _ _ _ rfl (hown.alloc _) ⟨wr.heap.size, 0, none⟩ 2 2 [.int .u8 92, .int .u8 98] rfl rfl (cells_new wr #[.int .u8 92, .int .u8 98] _) (by intro u hu; simp at hu; first | (subst hu; rfl) | (rcases hu with rfl | rfl <;> rfl)) (by unfold maxLen; omega) (by omega) (by simp; exact Nat.le_trans hb.size (by omega)) ?_))
          intro v' w2 hown2 hgrow _
          have hlt' := (hown.alloc (.cells #[.int .u8 92, .int .u8 98] 5)).lt
          have hB2 : Below w.heap.size w w2 := (ext_trans hb (ext_alloc _ _)).grown hgrow (ext_trans hb (ext_alloc _ _)).size (fun q hq => (hlt' q hq).1)
          clear hi hz0 hz1 hz2 hgrow hown hlt'
          go_wp2
          go_roundw
          case rel => exact ⟨k + 1, by omega, by go_num, by rw [HE.out, byteVals_append, List.length_append]; exact hown2, hB2⟩
          case measure => simp [intOf]; omega
        have n8 : c ≠ 8 := hc
        clear hc
        by_cases hc : c = 12
        · skip
          have e34 : ((c : Int) == 34) = false := by rw [beq_eq_false_iff_ne]; omega
          have e92 : ((c : Int) == 92) = false := by rw [beq_eq_false_iff_ne]; omega
          have e8 : ((c : Int) == 8) = false := by rw [beq_eq_false_iff_ne]; omega
          have e12 : ((c : Int) == 12) = true := by rw [hc]; rfl
          have HE := hid (show quoH l (k + 1) = quoH l k ++ [92, 102] by rw [HST.out, if_neg (by omega), if_neg (by omega), if_neg (by omega), if_pos hc])
          clear hc
          go_wp2_with ((at_builtin; refine wpList_append_own _ rfl _ _ 44 rfl w.heap.size 5 i0 (.int .u8 0) 1 1 Tryd.underlying44 hi hz0 hz1 hz2 rfl (by decide) _ _ _ rfl (hown.alloc _) ⟨wr.heap.size, 0, none⟩ 2 2 [.int .u8 92, .int .u8 102] rfl rfl (cells_new wr #[.int .u8 92, .int .u8 102] _) (by intro u hu; simp at hu; first | (subst hu; rfl) | (rcases hu with rfl | rfl <;> rfl)) (by unfold maxLen; omega) (by omega) (by simp; exact Nat.le_trans hb.size (by omega)) ?_))
          intro v' w2 hown2 hgrow _
          have hlt' := (hown.alloc (.cells #[.int .u8 92, .int .u8 102] 5)).lt
          have hB2 : Below w.heap.size w w2 := (ext_trans hb (ext_alloc _ _)).grown hgrow (ext_trans hb (ext_alloc _ _)).size (fun q hq => (hlt' q hq).1)
          clear hi hz0 hz1 hz2 hgrow hown hlt'
          go_wp2
          go_roundw
          case rel => exact ⟨k + 1, by omega, by go_num, by rw [HE.out, byteVals_append, List.length_append]; exact hown2, hB2⟩
          case measure => simp [intOf]; omega
        have n12 : c ≠ 12 := hc
        clear hc
        by_cases hc : c = 10
        · skip
          have e34 : ((c : Int) == 34) = false := by rw [beq_eq_false_iff_ne]; omega
          have e92 : ((c : Int) == 92) = false := by rw [beq_eq_false_iff_ne]; omega
          have e8 : ((c : Int) == 8) = false := by rw [beq_eq_false_iff_ne]; omega
          have e12 : ((c : Int) == 12) = false := by rw [beq_eq_false_iff_ne]; omega
          have e10 : ((c : Int) == 10) = true := by rw [hc]; rfl
          have HE := hid (show quoH l (k + 1) = quoH l k ++ [92, 110] by rw [HST.out, if_neg (by omega), if_neg (by omega), if_neg (by omega), if_neg (by omega), if_pos hc])
          clear hc
          go_wp2_with ((at_builtin; refine wpList_append_own _ rfl _ _ 44 rfl w.heap.size 5 i0 (.int .u8 0) 1 1 Tryd.underlying44 hi hz0 hz1 hz2 rfl (by decide) _ _ _ rfl (hown.alloc _) ⟨wr.heap.size, 0, none⟩ 2 2 [.int .u8 92, .int .u8 110] rfl rfl (cells_new wr #[.int .u8 92, .int .u8 110] _) (by intro u hu; simp at hu; first | (subst hu; rfl) | (rcases hu with rfl | rfl <;> rfl)) (by unfold maxLen; omega) (by omega) (by simp; exact Nat.le_trans hb.size (by omega)) ?_))
          intro v' w2 hown2 hgrow _
          have hlt' := (hown.alloc (.cells #[.int .u8 92, .int .u8 110] 5)).lt
          have hB2 : Below w.heap.size w w2 := (ext_trans hb (ext_alloc _ _)).grown hgrow (ext_trans hb (ext_alloc _ _)).size (fun q hq => (hlt' q hq).1)
          clear hi hz0 hz1 hz2 hgrow hown hlt'
          go_wp2
          go_roundw
          case rel => exact ⟨k + 1, by omega, by go_num, by rw [HE.out, byteVals_append, List.length_append]; exact hown2, hB2⟩
          case measure => simp [intOf]; omega
        have n10 : c ≠ 10 := hc
        clear hc
        by_cases hc : c = 13
        · skip
          have e34 : ((c : Int) == 34) = false := by rw [beq_eq_false_iff_ne]; omega
          have e92 : ((c : Int) == 92) = false := by rw [beq_eq_false_iff_ne]; omega
          have e8 : ((c : Int) == 8) = false := by rw [beq_eq_false_iff_ne]; omega
          have e12 : ((c : Int) == 12) = false := by rw [beq_eq_false_iff_ne]; omega
          have e10 : ((c : Int) == 10) = false := by rw [beq_eq_false_iff_ne]; omega
          have e13 : ((c : Int) == 13) = true := by rw [hc]; rfl
          have HE := hid (show quoH l (k + 1) = quoH l k ++ [92, 114] by rw [HST.out, if_neg (by omega), if_neg (by omega), if_neg (by omega), if_neg (by omega), if_neg (by omega), if_pos hc])
          clear hc
          go_wp2_with ((at_builtin; refine wpList_append_own _ rfl _ _ 44 rfl w.heap.size 5 i0 (.int .u8 0) 1 1 Tryd.underlying44 hi hz0 hz1 hz2 rfl (by decide) _ _ _ rfl (hown.alloc _) ⟨wr.heap.size, 0, none⟩ 2 2 [.int .u8 92, .int .u8 114] rfl rfl (cells_new wr #[.int .u8 92, .int .u8 114] _) (by intro u hu; simp at hu; first | (subst hu; rfl) | (rcases hu with rfl | rfl <;> rfl)) (by unfold maxLen; omega) (by omega) (by simp; exact Nat.le_trans hb.size (by omega)) ?_))
          intro v' w2 hown2 hgrow _
          have hlt' := (hown.alloc (.cells #[.int .u8 92, .int .u8 114] 5)).lt
          have hB2 : Below w.heap.size w w2 := (ext_trans hb (ext_alloc _ _)).grown hgrow (ext_trans hb (ext_alloc _ _)).size (fun q hq => (hlt' q hq).1)
          clear hi hz0 hz1 hz2 hgrow hown hlt'
          go_wp2
          go_roundw
          case rel => exact ⟨k + 1, by omega, by go_num, by rw [HE.out, byteVals_append, List.length_append]; exact hown2, hB2⟩
          case measure => simp [intOf]; omega
        have n13 : c ≠ 13 := hc
        clear hc
        by_cases hc : c = 9
        · skip
          have e34 : ((c : Int) == 34) = false := by rw [beq_eq_false_iff_ne]; omega
          have e92 : ((c : Int) == 92) = false := by rw [beq_eq_false_iff_ne]; omega
          have e8 : ((c : Int) == 8) = false := by rw [beq_eq_false_iff_ne]; omega
          have e12 : ((c : Int) == 12) = false := by rw [beq_eq_false_iff_ne]; omega
          have e10 : ((c : Int) == 10) = false := by rw [beq_eq_false_iff_ne]; omega
          have e13 : ((c : Int) == 13) = false := by rw [beq_eq_false_iff_ne]; omega
          have e9 : ((c : Int) == 9) = true := by rw [hc]; rfl
          have HE := hid (show quoH l (k + 1) = quoH l k ++ [92, 116] by rw [HST.out, if_neg (by omega), if_neg (by omega), if_neg (by omega), if_neg (by omega), if_neg (by omega), if_neg (by omega), if_pos hc])
          clear hc
          go_wp2_with ((at_builtin; refine wpList_append_own _ rfl _ _ 44 rfl w.heap.size 5 i0 (.int .u8 0) 1 1 Tryd.underlying44 hi hz0 hz1 hz2 rfl (by decide) _ _ _ rfl (hown.alloc _) ⟨wr.heap.size, 0, none⟩ 2 2 [.int .u8 92, .int .u8 116] rfl rfl (cells_new wr #[.int .u8 92, .int .u8 116] _) (by intro u hu; simp at hu; first | (subst hu; rfl) | (rcases hu with rfl | rfl <;> rfl)) (by unfold maxLen; omega) (by omega) (by simp; exact Nat.le_trans hb.size (by omega)) ?_))
          intro v' w2 hown2 hgrow _
          have hlt' := (hown.alloc (.cells #[.int .u8 92, .int .u8 116] 5)).lt
          have hB2 : Below w.heap.size w w2 := (ext_trans hb (ext_alloc _ _)).grown hgrow (ext_trans hb (ext_alloc _ _)).size (fun q hq => (hlt' q hq).1)
          clear hi hz0 hz1 hz2 hgrow hown hlt'
          go_wp2
          go_roundw
          case rel => exact ⟨k + 1, by omega, by go_num, by rw [HE.out, byteVals_append, List.length_append]; exact hown2, hB2⟩
          case measure => simp [intOf]; omega
        have n9 : c ≠ 9 := hc
        clear hc
        by_cases h32 : c < 32
        · skip
          have e34 : ((c : Int) == 34) = false := by rw [beq_eq_false_iff_ne]; omega
          have e92 : ((c : Int) == 92) = false := by rw [beq_eq_false_iff_ne]; omega
          have e8 : ((c : Int) == 8) = false := by rw [beq_eq_false_iff_ne]; omega
          have e12 : ((c : Int) == 12) = false := by rw [beq_eq_false_iff_ne]; omega
          have e10 : ((c : Int) == 10) = false := by rw [beq_eq_false_iff_ne]; omega
          have e13 : ((c : Int) == 13) = false := by rw [beq_eq_false_iff_ne]; omega
          have e9 : ((c : Int) == 9) = false := by rw [beq_eq_false_iff_ne]; omega
          have h32i : (c : Int) < 32 := by omega
          have HE0 := hid (show quoH l (k + 1) = (quoH l k ++ [92, 117, 48, 48]) ++ [hx (c / 16), hx (c % 16)] by rw [HST.out, if_neg n34, if_neg n92, if_neg n8, if_neg n12, if_neg n10, if_neg n13, if_neg n9, if_pos h32]; simp)
          obtain ⟨A, hA⟩ : ∃ A, c / 16 = A := ⟨_, rfl⟩
          obtain ⟨B, hB⟩ : ∃ B, c % 16 = B := ⟨_, rfl⟩
          obtain ⟨YA, hYA⟩ : ∃ Y, hx A = Y := ⟨_, rfl⟩
          obtain ⟨YB, hYB⟩ : ∃ Y, hx B = Y := ⟨_, rfl⟩
          have HE := hid (show quoH l (k + 1) = (quoH l k ++ [92, 117, 48, 48]) ++ [YA, YB] by rw [HE0.out, hA, hB, hYA, hYB])
          obtain ⟨ha8, hax⟩ := hxB_at (show A < 16 by omega)
          obtain ⟨hb8, hbx⟩ := hxB_at (show B < 16 by omega)
          rw [hYA] at hax
          rw [hYB] at hbx
          have hja : ((((⟨#[48, 49, 50, 51, 52, 53, 54, 55, 56, 57, 97, 98, 99, 100, 101, 102]⟩ : ByteArray)[A]'ha8).toNat : Nat) : Int) = (YA.toNat : Int) := by rw [hax]
          have hjb : ((((⟨#[48, 49, 50, 51, 52, 53, 54, 55, 56, 57, 97, 98, 99, 100, 101, 102]⟩ : ByteArray)[B]'hb8).toNat : Nat) : Int) = (YB.toNat : Int) := by rw [hbx]
          have hwA : IntKind.u8.wrap (A : Int) = (A : Int) := by rw [IntKind.wrap_u8]; omega
          have hwB : (c : Int).tmod 16 = (B : Int) := by rw [Int.tmod_eq_emod_of_nonneg (by omega)]; omega
          have hwA2 : (c : Int) / 16 = (A : Int) := by omega
          have hwB2 : IntKind.u8.wrap (B : Int) = (B : Int) := by rw [IntKind.wrap_u8]; omega
          have ha0 : (0 : Int) ≤ (A : Int) := by omega
          have ha1 : (A : Int) < 16 := by omega
          have hb0 : (0 : Int) ≤ (B : Int) := by omega
          have hb1' : (B : Int) < 16 := by omega
          clear hax hbx hYA hYB HE0 hA hB
          go_wp2_with ((at_builtin; refine Lib.wpList_append_own_string _ rfl _ _ 44 9 rfl w.heap.size 5 i0 Tryd.underlying44 Tryd.underlying9 hi hz0 hz1 hz2 _ _ _ rfl hown ⟨#[92, 117, 48, 48]⟩ rfl (by show _ + 4 ≤ _; unfold maxLen; omega) (by show _ + 4 ≤ _; omega) hb.size ?_))
          intro v2 w2 hown2 hgrow2 _
          have hB2 : Below w.heap.size w w2 := hb.grown hgrow2 hb.size (fun q hq => (hown.lt q hq).1)
          have hown3 : w2.ownsRow w.heap.size 5 1 v2 (quoH l k ++ [92, 117, 48, 48]).length (byteVals (quoH l k ++ [92, 117, 48, 48])) := by
            rw [byteVals_append, List.length_append]
            exact hown2
          obtain ⟨Q4, hQ4⟩ : ∃ q, quoH l k ++ [92, 117, 48, 48] = q := ⟨_, rfl⟩
          have hl4 : Q4.length ≤ 7000 := by rw [← hQ4, List.length_append]; show _ + 4 ≤ _; omega
          rw [hQ4] at hown3 HE
          obtain ⟨n4, hn4⟩ : ∃ q, Q4.length = q := ⟨_, rfl⟩
          have HQL := hid hn4
          rw [hn4] at hown3 hl4
          obtain ⟨oa2, oc2, rfl⟩ := own_slice hown3
          have HO3 := hid hown3
          have HB2 := hid hB2
          clear hown2 hgrow2 hown3 hB2 hown hQ4 hn4
          go_upto_region 22 with fail
          have hHeld := trivial
          refine wp_region_held_drew (S := fun _ => True) (by kernel_rfl) trivial (fun hHeld => ?_)
          refine wpAnyH_take (i := 0) (v := ?_) rfl (by kernel_rfl) (by kernel_rfl) (by kernel_rfl) (fun _ _ _ h => h) (Or.inl ⟨by rfl, ?_⟩) (by assumption) ?_
          rotate_left
          · (intro w' hSw; (try dsimp only at hSw); go_simp; try (with_reducible rfl))
          change wpAnyH _ _ _ _ _ _ _ (Act.put _ (some 85) _) _
          try simp only [Act.put, List.setIfInBounds_toArray, List.set_cons_zero, List.set_cons_succ]
          refine wpAnyH_take (i := 1) (v := ?_) rfl (by kernel_rfl) (by kernel_rfl) (by kernel_rfl) (fun _ _ _ h => h) (Or.inl ⟨by rfl, ?_⟩) (by assumption) ?_
          rotate_left
          · (intro w' hSw; (try dsimp only at hSw); go_simp; try (with_reducible rfl))
          change wpAnyH _ _ _ _ _ _ _ (Act.put _ (some 86) _) _
          try simp only [Act.put, List.setIfInBounds_toArray, List.set_cons_zero, List.set_cons_succ]
          refine wpAnyH_take (i := 2) (v := ?_) rfl (by kernel_rfl) (by kernel_rfl) (by kernel_rfl) (fun _ _ _ h => h) (Or.inl ⟨by rfl, ?_⟩) (by assumption) ?_
          rotate_left
          · (intro w' hSw; (try dsimp only at hSw); go_simp; try (with_reducible rfl))
          change wpAnyH _ _ _ _ _ _ _ (Act.put _ (some 87) _) _
          try simp only [Act.put, List.setIfInBounds_toArray, List.set_cons_zero, List.set_cons_succ]
          refine wpAnyH_take (i := 3) (v := ?_) rfl (by kernel_rfl) (by kernel_rfl) (by kernel_rfl) (fun _ _ _ h => h) (Or.inl ⟨by rfl, ?_⟩) (by assumption) ?_
          rotate_left
          · (intro w' hSw; (try dsimp only at hSw); go_simp; try (with_reducible rfl))
          change wpAnyH _ _ _ _ _ _ _ (Act.put _ (some 88) _) _
          try simp only [Act.put, List.setIfInBounds_toArray, List.set_cons_zero, List.set_cons_succ]
          refine wpAnyH_take (i := 4) (v := ?_) rfl (by kernel_rfl) (by kernel_rfl) (by kernel_rfl) (fun _ _ _ h => h) (Or.inl ⟨by rfl, ?_⟩) (by assumption) ?_
          rotate_left
          · (intro w' hSw; (try dsimp only at hSw); go_simp; try (with_reducible rfl))
          change wpAnyH _ _ _ _ _ _ _ (Act.put _ (some 89) _) _
          try simp only [Act.put, List.setIfInBounds_toArray, List.set_cons_zero, List.set_cons_succ]
          refine wpAnyH_take (i := 5) (v := ?_) rfl (by kernel_rfl) (by kernel_rfl) (by kernel_rfl) (fun _ _ _ h => h) (Or.inl ⟨by rfl, ?_⟩) (by assumption) ?_
          rotate_left
          · (intro w' hSw; (try dsimp only at hSw); go_simp; try (with_reducible rfl))
          change wpAnyH _ _ _ _ _ _ _ (Act.put _ (some 90) _) _
          try simp only [Act.put, List.setIfInBounds_toArray, List.set_cons_zero, List.set_cons_succ]
          refine wpAnyH_take (i := 6) (v := ?_) rfl (by kernel_rfl) (by kernel_rfl) (by kernel_rfl) (fun _ _ _ h => h) (Or.inl ⟨by rfl, ?_⟩) (by assumption) ?_
          rotate_left
          · (intro w' hSw; (try dsimp only at hSw); go_simp; try (with_reducible rfl))
          change wpAnyH _ _ _ _ _ _ _ (Act.put _ (some 91) _) _
          try simp only [Act.put, List.setIfInBounds_toArray, List.set_cons_zero, List.set_cons_succ]
          refine wpAnyH_take (i := 7) (v := ?_) rfl (by kernel_rfl) (by kernel_rfl) (by kernel_rfl) (fun _ _ _ h => h) (Or.inl ⟨by rfl, ?_⟩) (by assumption) ?_
          rotate_left
          · (intro w' hSw; (try dsimp only at hSw); go_simp; try (with_reducible rfl))
          change wpAnyH _ _ _ _ _ _ _ (Act.put _ (some 92) _) _
          try simp only [Act.put, List.setIfInBounds_toArray, List.set_cons_zero, List.set_cons_succ]
          refine wpAnyH_take (i := 8) (v := ?_) rfl (by kernel_rfl) (by kernel_rfl) (by kernel_rfl) (fun _ _ _ h => h) (Or.inl ⟨by rfl, ?_⟩) (by assumption) ?_
          rotate_left
          · (intro w' hSw; (try dsimp only at hSw); go_simp; try (with_reducible rfl))
          change wpAnyH _ _ _ _ _ _ _ (Act.put _ (some 93) _) _
          try simp only [Act.put, List.setIfInBounds_toArray, List.set_cons_zero, List.set_cons_succ]
          refine wpAnyH_take (i := 9) (v := ?_) rfl (by kernel_rfl) (by kernel_rfl) (by kernel_rfl) (fun _ _ _ h => h) (Or.inl ⟨by rfl, ?_⟩) (by assumption) ?_
          rotate_left
          · (intro w' hSw; (try dsimp only at hSw); go_simp; try (with_reducible rfl))
          change wpAnyH _ _ _ _ _ _ _ (Act.put _ (some 94) _) _
          try simp only [Act.put, List.setIfInBounds_toArray, List.set_cons_zero, List.set_cons_succ]
          refine wpAnyH_take (i := 10) (v := ?_) rfl (by kernel_rfl) (by kernel_rfl) (by kernel_rfl) (fun _ _ _ h => h) (Or.inl ⟨by rfl, ?_⟩) (by assumption) ?_
          rotate_left
          · (intro w' hSw; (try dsimp only at hSw); go_simp; try (with_reducible rfl))
          change wpAnyH _ _ _ _ _ _ _ (Act.put _ (some 95) _) _
          try simp only [Act.put, List.setIfInBounds_toArray, List.set_cons_zero, List.set_cons_succ]
          refine wpAnyH_ready (rs := [11]) (by kernel_rfl) (by simp) ?_
          refine AllReadyH.cons (i := 11) rfl (fun K hK => ?_) AllReadyH.nil
          simp only [List.getElem_toArray, List.getElem_cons_succ, List.getElem_cons_zero]
          rw [if_pos (by rfl)]
          go_simp
          refine hK.out _ _ trivial (fun hHeld => ?_)
          clear hK K
          try simp only [Act.put, List.setIfInBounds_toArray, List.set_cons_zero, List.set_cons_succ]
          refine wpAnyH_ready (rs := [12]) (by kernel_rfl) (by simp) ?_
          refine AllReadyH.cons (i := 12) rfl (fun K hK => ?_) AllReadyH.nil
          simp only [List.getElem_toArray, List.getElem_cons_succ, List.getElem_cons_zero]
          rw [if_pos (by rfl)]
          refine wp_append_own _ (.tmp 85) (.tmp 96) 44 rfl w.heap.size 5 i0 (.int .u8 0) 1 1 Tryd.underlying44 hi hz0 hz1 hz2 rfl (by decide) (.slice oa2 n4 oc2) n4 (byteVals Q4) (by first | rfl | simp [Act.eval, Act.put]) (HO3.out.drew.alloc _) ⟨w2.heap.size, 0, none⟩ 2 2 [.int .u8 (YA.toNat : Int), .int .u8 (YB.toNat : Int)] (by first | rfl | simp [Act.eval, Act.put]) rfl (cells_new w2.drew #[.int .u8 (YA.toNat : Int), .int .u8 (YB.toNat : Int)] _) (by intro u hu; simp at hu; rcases hu with rfl | rfl <;> rfl) (by unfold maxLen; omega) (by omega) (by have := HB2.out.size; simp; omega) ?_
          intro v' w3 hown3 hgrow _
          have hB3 : Below w.heap.size w w3 := (ext_trans HB2.out.drew (ext_alloc _ _)).grown hgrow (ext_trans HB2.out.drew (ext_alloc _ _)).size (fun q hq => ((HO3.out.drew.alloc (.cells #[.int .u8 (YA.toNat : Int), .int .u8 (YB.toNat : Int)] 5)).lt q hq).1)
          have hown4 : w3.ownsRow w.heap.size 5 1 v' (quoH l (k + 1)).length (byteVals (quoH l (k + 1))) := by
            rw [HE.out, byteVals_append, List.length_append, HQL.out]
            exact hown3
          have HB3 := hid hB3
          have HO4 := hid hown4
          clear hown3 hgrow hB3 hown4
          refine hK.out _ _ trivial (fun hHeld => ?_)
          clear hK K
          try simp only [Act.put, List.setIfInBounds_toArray, List.set_cons_zero, List.set_cons_succ]
          refine wpAnyH_take (i := 13) (v := ?_) rfl (by kernel_rfl) (by kernel_rfl) (by kernel_rfl) (fun _ _ _ h => h) (Or.inl ⟨by rfl, ?_⟩) (by assumption) ?_
          rotate_left
          · (intro w' hSw; (try dsimp only at hSw); go_simp; try (with_reducible rfl))
          change wpAnyH _ _ _ _ _ _ _ (Act.put _ (some 3) _) _
          try simp only [Act.put, List.setIfInBounds_toArray, List.set_cons_zero, List.set_cons_succ]
          refine wpAnyH_done (by kernel_rfl) ?_ _
          go_wp2
          go_roundw
          case rel => exact ⟨k + 1, by omega, by go_num, HO4.out, HB3.out⟩
          case measure => simp [intOf]; omega
        · skip
          have e34 : ((c : Int) == 34) = false := by rw [beq_eq_false_iff_ne]; omega
          have e92 : ((c : Int) == 92) = false := by rw [beq_eq_false_iff_ne]; omega
          have e8 : ((c : Int) == 8) = false := by rw [beq_eq_false_iff_ne]; omega
          have e12 : ((c : Int) == 12) = false := by rw [beq_eq_false_iff_ne]; omega
          have e10 : ((c : Int) == 10) = false := by rw [beq_eq_false_iff_ne]; omega
          have e13 : ((c : Int) == 13) = false := by rw [beq_eq_false_iff_ne]; omega
          have e9 : ((c : Int) == 9) = false := by rw [beq_eq_false_iff_ne]; omega
          have h32i : ¬ (c : Int) < 32 := by omega
          have HE := hid (show quoH l (k + 1) = quoH l k ++ [UInt8.ofNat c] by rw [HST.out, if_neg n34, if_neg n92, if_neg n8, if_neg n12, if_neg n10, if_neg n13, if_neg n9, if_neg h32])
          clear n34 n92 n8 n12 n10 n13 n9
          go_wp2_with ((at_builtin; refine wpList_append_own _ rfl _ _ 44 rfl w.heap.size 5 i0 (.int .u8 0) 1 1 Tryd.underlying44 hi hz0 hz1 hz2 rfl (by decide) _ _ _ rfl (hown.alloc _) ⟨wr.heap.size, 0, none⟩ 1 1 [.int .u8 (c : Int)] rfl rfl (cells_new wr #[.int .u8 (c : Int)] _) (by intro u hu; simp at hu; first | (subst hu; rfl) | (rcases hu with rfl | rfl <;> rfl)) (by unfold maxLen; omega) (by omega) (by simp; exact Nat.le_trans hb.size (by omega)) ?_))
          intro v' w2 hown2 hgrow _
          have hlt' := (hown.alloc (.cells #[.int .u8 (c : Int)] 5)).lt
          have hB2 : Below w.heap.size w w2 := (ext_trans hb (ext_alloc _ _)).grown hgrow (ext_trans hb (ext_alloc _ _)).size (fun q hq => (hlt' q hq).1)
          clear hi hz0 hz1 hz2 hgrow hown hlt'
          have hown3 : w2.ownsRow w.heap.size 5 1 v' (quoH l (k + 1)).length (byteVals (quoH l (k + 1))) := by
            rw [HE.out, byteVals_append, List.length_append, bvJ_cons, HCT.out]
            exact hown2
          go_wp2
          go_roundw
          case rel => exact ⟨k + 1, by omega, by go_num, hown3, hB2⟩
          case measure => simp [intOf]; omega
      · obtain rfl : k = s.size := by omega
        have HQ := hid (show quoT l = quoH l s.size ++ [34] by rw [HSL.out]; exact quoH_all l)
        clear hlt
        go_wp2_with ((at_builtin; refine wpList_append_own _ rfl _ _ 44 rfl w.heap.size 5 i0 (.int .u8 0) 1 1 Tryd.underlying44 hi hz0 hz1 hz2 rfl (by decide) _ _ _ rfl (hown.alloc _) ⟨wr.heap.size, 0, none⟩ 1 1 [.int .u8 34] rfl rfl (cells_new wr #[.int .u8 34] _) (by intro u hu; simp at hu; first | (subst hu; rfl) | (rcases hu with rfl | rfl <;> rfl)) (by unfold maxLen; omega) (by omega) (by simp; exact Nat.le_trans hb.size (by omega)) ?_))
        intro v' w2 hown2 hgrow _
        have hlt' := (hown.alloc (.cells #[.int .u8 34] 5)).lt
        have hB2 : Below w.heap.size w w2 := (ext_trans hb (ext_alloc _ _)).grown hgrow (ext_trans hb (ext_alloc _ _)).size (fun q hq => (hlt' q hq).1)
        clear hi hz0 hz1 hz2 hgrow hown hlt'
        have hown3 : w2.ownsRow w.heap.size 5 1 v' (quoT l).length (byteVals (quoT l)) := by rw [HQ.out, byteVals_append, List.length_append]; exact hown2
        have hcv := own_string (P := Tryd.prog) (src := 44) (dst := 9) hown3 Tryd.underlying44 Tryd.underlying5 Tryd.underlying9
        clear hown2
        obtain ⟨oa, oc, rfl⟩ := own_slice hown3
        clear hown3
        go_wp2
        go_ret
        rw [HR2.out]
        exact ⟨rfl, hB2⟩
end Go.Proofs.YtlfkfofeenakhaaDoor

namespace Go.Proofs.YtlfkfofeenakhaaDoor
open Go.RowKit
set_option linter.unusedVariables false
set_option linter.unusedSimpArgs false

theorem joinC_snocJ : ∀ (l : List (List UInt8)) (a : List UInt8), joinC (l ++ [a]) = if l = [] then a else joinC l ++ 44 :: a
  | [], a => rfl
  | [b], a => rfl
  | b :: c :: r, a => by
    have := joinC_snocJ (c :: r) a
    rw [if_neg (by simp)] at this ⊢
    show b ++ 44 :: joinC (c :: r ++ [a]) = (b ++ 44 :: joinC (c :: r)) ++ 44 :: a
    rw [this]
    simp
theorem joinC_take_le (P : List (List UInt8)) (m : Nat) : (joinC (P.take m)).length ≤ (joinC P).length := by
  induction P using snocInd with
  | h0 => simp
  | h1 l x ih =>
    by_cases h : m ≤ l.length
    · rw [List.take_append_of_le_length h, joinC_snocJ]
      split
      · rename_i e; subst e; simp [joinC]
      · rw [List.length_append]; omega
    · rw [List.take_of_length_le (by rw [List.length_append, List.length_singleton]; omega)]
      exact Nat.le_refl _
theorem stepJ_long {ts : List ByteArray} {n : JNode} (h : ∀ t, nodeT n (datL ts) = some t → 1000 < t.length) : stepJ ts n = none := by
  unfold stepJ
  cases hn : nodeT n (datL ts) with
  | none => rfl
  | some t => dsimp only; rw [if_neg (by have := h t hn; omega)]
theorem stepJ_nn {ts : List ByteArray} {n : JNode} (h : nodeT n (datL ts) = none) : stepJ ts n = none := by unfold stepJ; rw [h]
theorem stepJ_ok {ts : List ByteArray} {n : JNode} {s : ByteArray} (h : nodeT n (datL ts) = some s.data.toList) (hs : s.size ≤ 1000) : stepJ ts n = some s := by
  unfold stepJ
  rw [h]
  dsimp only
  rw [if_pos (by rw [← Lib.size_eq]; exact hs), mkB_of]
set_option maxHeartbeats 64000000 in
set_option maxRecDepth 100000 in
theorem specJsonText {v : Value} {ns : List JNode} (w : World) (h : Rd.rd (Old w) w [v] ns) (hn : ns.length ≤ 2000000) (hk : ∀ n ∈ ns, n.kids.length ≤ 2000000 ∧ n.keys.length ≤ 2000000) :
    Calls Tryd.prog 19 #[.agg #[v]] w fun e w' => e = .returned (.string (jtxP ns)) ∧ Below w.heap.size w w' := by
  obtain ⟨a, cap, rfl, h1, h2, hc⟩ := rdJNodes h
  obtain ⟨n, hnn⟩ : ∃ n, ns.length = n := ⟨_, rfl⟩
  have HNN := hid hnn
  have HC := hid hc
  have HK := hid hk
  have CT := hid (specL11Tree (w.alloc (.cells #[.slice a n cap] 24)) (Rd.later (ext_alloc w _) h) hn)
  rw [hnn] at hn h1 CT ⊢
  have hmk := run_make_row' (P := Tryd.prog) 73 9 _ 16 Tryd.underlying73 info_strT rfl .i64 .i64 n (by omega) (by omega)
  have HMK := hid hmk
  have hal := ext_alloc w (.cells #[.slice a n cap] 24)
  have e0 : (w.alloc (.cells #[.slice a n cap] 24)).heap.size = w.heap.size + 1 := by simp
  have hW0 := heap_alloc_new w (.cells #[.slice a n cap] 24)
  have HBX := hid (fun (w' : World) (hb : Below (w.heap.size + 1) (w.alloc (.cells #[.slice a n cap] 24)) w') => (show w'.cell? ⟨w.heap.size, 0, none⟩ = some (.slice a n cap) from cell_of_row _ _ 0 _ _ _ ((hb.block w.heap.size (by omega)).trans hW0)))
  have HBW := hid (fun (w' : World) (hb : Below (w.heap.size + 1) (w.alloc (.cells #[.slice a n cap] 24)) w') => (show Below w.heap.size w w' from hal.trans (hb.mono (Nat.le_succ _))))
  have HSZ := hid (fun (w' : World) (hb : Below (w.heap.size + 1) (w.alloc (.cells #[.slice a n cap] 24)) w') => (show w.heap.size + 1 ≤ w'.heap.size from by have := hb.size; rw [e0] at this; exact this))
  have HB0 := hid (Below.refl (w.heap.size + 1) (w.alloc (.cells #[.slice a n cap] 24)))
  obtain ⟨q, hq⟩ : ∃ q, treeB (kidsJ ns) = q := ⟨_, rfl⟩
  rw [hq] at CT
  have HQ := hid hq
  have x0 := HBX.out _ HB0.out
  clear hc h hnn hk hal hW0 e0 hmk hq
  cases q with
  | false =>
    go_enter Tryd.func19, Tryd.ntmps19
    go_wp2_with fail
    refine CT.out.mono ?_
    rintro e w1 ⟨rfl, hb1⟩
    have HB1 := hid (ext_trans (ext_alloc w _) hb1)
    clear hb1
    go_wp2
    go_ret
    rw [jtxP_no HQ.out]
    exact ⟨rfl, HB1.out⟩
  | true =>
  have htree := treeB_iff.1 HQ.out
  have hpos : 0 < n := by have h9 := htree.1; rw [show (kidsJ ns).length = n by simp [kidsJ, HNN.out]] at h9; exact h9
  have HTREE := hid htree
  clear htree
  go_enter Tryd.func19, Tryd.ntmps19
  go_wp2_with fail
  refine CT.out.mono ?_
  rintro e w1 ⟨rfl, hb1⟩
  have HB1 := hid (HB0.out.trans (hb1.mono (HSZ.out _ HB0.out)))
  clear hb1 x0
  have x0 := HBX.out _ HB1.out
  have hs1 := HSZ.out _ HB1.out
  have hs2 : w.heap.size < w1.heap.size := by omega
  obtain ⟨B, hB⟩ : ∃ B, w1.heap.size = B := ⟨_, rfl⟩
  have HBB := hid hB
  have HM := hid (made_rowS w1 n 9)
  rw [hB] at HM
  have HA2 := hid (HB1.out.trans ((ext_alloc w1 (.cells (madeCells #[.string ⟨#[]⟩] n) 9)).mono hs1))
  have hBs : w.heap.size + 1 ≤ B := by rw [← hB]; exact hs1
  have hmk2 := HMK.out
  clear hB
  go_wp2
  rw [HBB.out]
  clear hmk2
  go_loopw [4] (fun iv wr => ∃ (j : Nat) (ts : List ByteArray), j ≤ n ∧ ts.length = j ∧ iv = .int .i64 (j : Int) ∧ wr.heap[B]? = some (.cells (rowS n ts).toArray 9 (0, 0)) ∧ Hid (textsJ ns [] = textsJ (ns.drop j) ts) ∧ Hid (∀ t ∈ ts, t.size ≤ 1000) ∧ Below (w.heap.size + 1) (w.alloc (.cells #[.slice a n cap] 24)) wr) (fun iv _ => n - (intOf iv).toNat)
  case atStart => exact ⟨0, [], Nat.zero_le _, rfl, rfl, HM.out, hid rfl, hid (fun t ht => by cases ht), HA2.out⟩
  case round =>
    obtain ⟨j, ts, hj, htj, rfl, hrow, HGO, HTS, hB⟩ := hrel
    clear x0
    have x0 := HBX.out _ hB
    have hBw := HBW.out _ hB
    have hsr := HSZ.out _ hB
    have hBlt : B < wr.heap.size := (Array.getElem?_eq_some_iff.1 hrow).1
    have HB3 := hid hB
    by_cases hlt : j < n
    · have hik : j < ns.length := by rw [HNN.out]; exact hlt
      obtain ⟨b, off, rfl, hBk, hcell⟩ := HC.out (by omega)
      obtain ⟨us, uk, ⟨d0, d1, d2, d3⟩, g1, g2, hrs, hrk⟩ := hcell j hik
      obtain ⟨sa, sc, rfl, _, _, hSF⟩ := rdStrs hrs
      obtain ⟨ka, kc, rfl, _, _, hKF⟩ := rdInts hrk
      have hbc := fun o => hBw.cell (p := ⟨b, o, none⟩) hBk
      have e0 := (hbc _).trans d0
      have e1 := (hbc _).trans d1
      have e2 := (hbc _).trans d2
      have e3 := (hbc _).trans d3
      have HKL := hid (HK.out ns[j] (List.getElem_mem hik))
      have HKID := hid (show ∀ k ∈ ns[j].kids, 0 ≤ k ∧ k < (ts.length : Int) from fun k hk => by
        rw [htj]
        exact treeJ_kid HTREE.out hik hk)
      have HSTEP := hid (fun (t : ByteArray) (h : stepJ ts ns[j] = some t) => textsJ_step hik h)
      have HBAD := hid (fun (h : stepJ ts ns[j] = none) => textsJ_bad hik h)
      obtain ⟨N, hN⟩ : ∃ N, ns[j] = N := ⟨_, rfl⟩
      rw [hN] at e0 e1 e2 e3 HKL HKID HSTEP HBAD hSF hKF
      have HSF := hid hSF
      have HKF := hid hKF
      have HROW := hid hrow
      have HTK := hid (show ∀ k (hk : k < ts.length), wr.cell? ⟨B, k, none⟩ = some (.string ts[k]) from fun k hk => cell_row hrow (rowS_get hk))
      have hnew := heap_alloc_new wr (.cells #[.int .i64 N.kind, .string N.text, .slice sa N.keys.length sc, .slice ka N.kids.length kc] 75)
      have hali := ext_alloc wr (.cells #[.int .i64 N.kind, .string N.text, .slice sa N.keys.length sc, .slice ka N.kids.length kc] 75)
      have e9 : (wr.alloc (.cells #[.int .i64 N.kind, .string N.text, .slice sa N.keys.length sc, .slice ka N.kids.length kc] 75)).heap.size = wr.heap.size + 1 := by simp
      have HNX := hid (fun (w' : World) (hb : Below (wr.heap.size + 1) (wr.alloc (.cells #[.int .i64 N.kind, .string N.text, .slice sa N.keys.length sc, .slice ka N.kids.length kc] 75)) w') => (show w'.cell? ⟨wr.heap.size, 0, none⟩ = some (.int .i64 N.kind) ∧ w'.cell? ⟨wr.heap.size, 1, none⟩ = some (.string N.text) ∧ w'.cell? ⟨wr.heap.size, 2, none⟩ = some (.slice sa N.keys.length sc) ∧ w'.cell? ⟨wr.heap.size, 3, none⟩ = some (.slice ka N.kids.length kc) from
        have h := (hb.block wr.heap.size (by omega)).trans hnew
        ⟨cell_of_row _ _ 0 _ _ _ h, cell_of_row _ _ 1 _ _ _ h, cell_of_row _ _ 2 _ _ _ h, cell_of_row _ _ 3 _ _ _ h⟩))
      have HNW := hid (fun (w' : World) (hb : Below (wr.heap.size + 1) (wr.alloc (.cells #[.int .i64 N.kind, .string N.text, .slice sa N.keys.length sc, .slice ka N.kids.length kc] 75)) w') => (show Below wr.heap.size wr w' from hali.trans (hb.mono (Nat.le_succ _))))
      have HNS := hid (fun (w' : World) (hb : Below (wr.heap.size + 1) (wr.alloc (.cells #[.int .i64 N.kind, .string N.text, .slice sa N.keys.length sc, .slice ka N.kids.length kc] 75)) w') => (show wr.heap.size + 1 ≤ w'.heap.size from by have := hb.size; rw [e9] at this; exact this))
      have HN0 := hid (Below.refl (wr.heap.size + 1) (wr.alloc (.cells #[.int .i64 N.kind, .string N.text, .slice sa N.keys.length sc, .slice ka N.kids.length kc] 75)))
      have HWALL := hid (fun (w' : World) (hb : Below wr.heap.size wr w') => HB3.out.trans (hb.mono hsr))
      have hwl : w.heap.size < wr.heap.size := by omega
      have hki : (j : Int) < (n : Int) := by omega
      have hk0 : (0 : Int) ≤ (j : Int) := by omega
      have HTJ := hid htj
      have HHB := hid hB
      obtain ⟨y0, y1, y2, y3⟩ := HNX.out _ HN0.out
      have HY0 := hid y0
      obtain ⟨w9, hw9⟩ : ∃ x, (wr.alloc (.cells #[.int .i64 N.kind, .string N.text, .slice sa N.keys.length sc, .slice ka N.kids.length kc] 75)) = x := ⟨_, rfl⟩
      have HW9 := hid hw9
      rw [hw9] at y0 y1 y2 y3 HNX HNW HNS HN0
      clear hcell hbc d0 d1 d2 d3 g1 g2 hrs hrk hN hrow htj hSF hKF hnew hali e9 hB hw9
      have FAIL := hid (show stepJ ts N = none → jtxP ns = ⟨#[]⟩ from fun h => by rw [jtxP_go HQ.out, HGO.out, HBAD.out h])
      go_upto_block 2 with fail
      rw [HW9.out]
      clear e0 e1 e2 e3
      go_cut [6, 7] from 15 to 126 (fun v6 v7 wx => ∃ sx : ByteArray, v6 = .string sx ∧ Hid (nodeT N (datL ts) = some sx.data.toList) ∧ Hid (Below (wr.heap.size + 1) w9 wx))
      case first =>
        by_cases hkk : N.kind = 1
        · as_aux_lemma =>
          have k1 : (N.kind == 1) = true := by rw [hkk]; rfl
          have HS := hid (show nodeT N (datL ts) = some [110, 117, 108, 108] by unfold nodeT; rw [hkk]; rfl)
          clear hkk
          go_wp2
          go_meet
          case rel => exact ⟨⟨#[110, 117, 108, 108]⟩, rfl, HS, HN0⟩
        have k1 : (N.kind == 1) = false := by rw [beq_eq_false_iff_ne]; exact hkk
        have nk1 : N.kind ≠ 1 := hkk
        clear hkk
        by_cases hkk : N.kind = 2
        · as_aux_lemma =>
          have k1 : (N.kind == 1) = false := by rw [hkk]; rfl
          have k2 : (N.kind == 2) = true := by rw [hkk]; rfl
          have HS := hid (show nodeT N (datL ts) = some [116, 114, 117, 101] by unfold nodeT; rw [hkk]; rfl)
          clear hkk
          go_wp2
          go_meet
          case rel => exact ⟨⟨#[116, 114, 117, 101]⟩, rfl, HS, HN0⟩
        have k2 : (N.kind == 2) = false := by rw [beq_eq_false_iff_ne]; exact hkk
        have nk2 : N.kind ≠ 2 := hkk
        clear hkk
        by_cases hkk : N.kind = 3
        · as_aux_lemma =>
          have k1 : (N.kind == 1) = false := by rw [hkk]; rfl
          have k2 : (N.kind == 2) = false := by rw [hkk]; rfl
          have k3 : (N.kind == 3) = true := by rw [hkk]; rfl
          have HS := hid (show nodeT N (datL ts) = some [102, 97, 108, 115, 101] by unfold nodeT; rw [hkk]; rfl)
          clear hkk
          go_wp2
          go_meet
          case rel => exact ⟨⟨#[102, 97, 108, 115, 101]⟩, rfl, HS, HN0⟩
        have k3 : (N.kind == 3) = false := by rw [beq_eq_false_iff_ne]; exact hkk
        have nk3 : N.kind ≠ 3 := hkk
        clear hkk
        by_cases hkk : N.kind = 4
        · as_aux_lemma =>
          have k4 : (N.kind == 4) = true := by rw [hkk]; rfl
          have HS := hid (show nodeT N (datL ts) = if numB N.text = true then some N.text.data.toList else none by unfold nodeT; rw [hkk]; rfl)
          have CN := hid (specJNumberT N.text w9)
          obtain ⟨q, hq⟩ : ∃ q, numB N.text = q := ⟨_, rfl⟩
          rw [hq] at CN HS
          clear hkk hq
          go_wp2_with fail
          refine CN.out.mono ?_
          rintro e w4 ⟨rfl, hb4⟩
          have HB4 := hid (HN0.out.trans (hb4.mono (HNS.out _ HN0.out)))
          clear hb4 y0 y1 y2 y3
          obtain ⟨y0, y1, y2, y3⟩ := HNX.out _ HB4.out
          cases q with
          | false =>
            have SNO := hid (stepJ_nn (show nodeT N (datL ts) = none from HS.out))
            go_wp2
            go_ret
            rw [FAIL.out SNO.out]
            exact ⟨rfl, HBW.out _ (HWALL.out _ (HNW.out _ HB4.out))⟩
          | true =>
            go_wp2
            go_meet
            case rel => exact ⟨N.text, rfl, HS, HB4⟩
        have k4 : (N.kind == 4) = false := by rw [beq_eq_false_iff_ne]; exact hkk
        have nk4 : N.kind ≠ 4 := hkk
        clear hkk
        by_cases hkk : N.kind = 5
        · as_aux_lemma =>
          have k5 : (N.kind == 5) = true := by rw [hkk]; rfl
          have HS := hid (show nodeT N (datL ts) = if okText N.text = true then some (quoT N.text.data.toList) else none by unfold nodeT; rw [hkk]; rfl)
          have CK := hid (specTextOk N.text w9)
          have CJ := hid (fun w => specJStrT N.text w)
          have HJ := hid (show jstrP N.text = if okText N.text = true then mkB (quoT N.text.data.toList) else ⟨#[]⟩ from rfl)
          obtain ⟨q, hq⟩ : ∃ q, okText N.text = q := ⟨_, rfl⟩
          obtain ⟨JT, hJT⟩ : ∃ x, jstrP N.text = x := ⟨_, rfl⟩
          rw [hq] at CK HS HJ
          rw [hJT] at CJ HJ
          clear hkk hq hJT
          go_wp2_with fail
          refine CK.out.mono ?_
          rintro e w4 ⟨rfl, hb4⟩
          have HB4 := hid (HN0.out.trans (hb4.mono (HNS.out _ HN0.out)))
          clear hb4 y0 y1 y2 y3
          obtain ⟨y0, y1, y2, y3⟩ := HNX.out _ HB4.out
          cases q with
          | false =>
            have SNO := hid (stepJ_nn (show nodeT N (datL ts) = none from HS.out))
            go_wp2
            go_ret
            rw [FAIL.out SNO.out]
            exact ⟨rfl, HBW.out _ (HWALL.out _ (HNW.out _ HB4.out))⟩
          | true =>
            have HS2 := hid (show nodeT N (datL ts) = some JT.data.toList by rw [HS.out, HJ.out, if_pos rfl, if_pos rfl, mkB_data])
            go_wp2_with fail
            refine (CJ.out _).mono ?_
            rintro e w5 ⟨rfl, hb5⟩
            have HB5 := hid (HB4.out.trans (hb5.mono (HNS.out _ HB4.out)))
            clear hb5
            go_wp2
            go_meet
            case rel => exact ⟨JT, rfl, HS2, HB5⟩
        have k5 : (N.kind == 5) = false := by rw [beq_eq_false_iff_ne]; exact hkk
        have nk5 : N.kind ≠ 5 := hkk
        clear hkk
        by_cases hkk : N.kind = 6
        · as_aux_lemma =>
          have k6 : (N.kind == 6) = true := by rw [hkk]; rfl
          have k7 : (N.kind == 7) = false := by rw [hkk]; rfl
          have HS := hid (show nodeT N (datL ts) = some (91 :: (joinC (partsT false N.keys N.kids (datL ts)) ++ [93])) by unfold nodeT; rw [hkk]; rfl)
          clear hkk
          obtain ⟨P, hP⟩ : ∃ P, partsT false N.keys N.kids (datL ts) = P := ⟨_, rfl⟩
          have HP := hid hP
          obtain ⟨L, hL⟩ : ∃ x, N.kids.length = x := ⟨_, rfl⟩
          have HLL := hid hL
          have HPL := hid (show P.length = L by rw [← hP, ← hL]; exact partsT_len (fun h => by cases h))
          rw [hP] at HS
          have hL2 : L ≤ 2000000 := by rw [← hL]; exact HKL.out.1
          have LONG := hid (show ∀ m : Nat, 1000 < 1 + (joinC (P.take m)).length → stepJ ts N = none from fun m hm => stepJ_long (fun t ht => by
            have h2 := joinC_take_le P m
            rw [HS.out] at ht
            injection ht with ht
            rw [← ht, List.length_cons, List.length_append]
            omega))
          rw [hL] at y3 HNX
          clear hP hL
          go_upto_region 33 with fail
          go_loopw [6, 7] (fun sv iv wq => ∃ (m : Nat) (sb : ByteArray), m ≤ L ∧ sv = .string sb ∧ iv = .int .i64 (m : Int) ∧ sb.size ≤ 1000 ∧ Hid (sb.data.toList = 91 :: joinC (P.take m)) ∧ Hid (Below (wr.heap.size + 1) w9 wq)) (fun _ iv _ => L - (intOf iv).toNat)
          case atStart => exact ⟨0, ⟨#[91]⟩, Nat.zero_le _, rfl, rfl, (by show 1 ≤ 1000; decide), hid rfl, HN0⟩
          case round =>
            obtain ⟨m, sb, hm, rfl, rfl, hsb, HSB, HBQ⟩ := hrel
            clear y0 y1 y2 y3
            obtain ⟨y0, y1, y2, y3⟩ := HNX.out _ HBQ.out
            have hbq := HBW.out _ (HWALL.out _ (HNW.out _ HBQ.out))
            have HBQW := hid hbq
            by_cases hlm : m < L
            · have hml : m < N.kids.length := by have := HLL.out; omega
              obtain ⟨kb, koff, rfl, hkb, hkc⟩ := HKF.out (by omega)
              have t0 : wr.cell? ⟨kb, koff + m, none⟩ = some (.int .i64 N.kids[m]) := (hbq.cell (p := ⟨kb, koff + m, none⟩) hkb).trans (hkc m hml).1
              have hkj := HKID.out N.kids[m] (List.getElem_mem hml)
              obtain ⟨kn, hkn⟩ : ∃ kn : Nat, (kn : Int) = N.kids[m] := ⟨N.kids[m].toNat, by omega⟩
              have hdg := datL_get (ts := ts) (k := kn) (by omega)
              rw [← hkn] at t0 hkj
              have hk3 : kn < ts.length := by omega
              have tk : wr.cell? ⟨B, kn, none⟩ = some (.string ts[kn]) := ((HNW.out _ HBQ.out).cell (p := ⟨B, kn, none⟩) hBlt).trans (HTK.out kn hk3)
              have hsz := HTS.out ts[kn] (List.getElem_mem hk3)
              have hk5 : (kn : Int) < (n : Int) := by have := HTJ.out; omega
              have hk6 : (0 : Int) ≤ (kn : Int) := by omega
              have hmi : (m : Int) < (L : Int) := by omega
              have hm0 : (0 : Int) ≤ (m : Int) := by omega
              have hpl : m < P.length := by have := HPL.out; omega
              have hpg := partsT_get (ob := false) (keys := N.keys) (kids := N.kids) (ts := datL ts) (i := m) hml (fun h => by cases h)
              rw [HP.out, List.getElem?_eq_getElem hpl] at hpg
              injection hpg with hpg
              rw [← hkn, hdg] at hpg
              obtain ⟨T, hT1⟩ : ∃ T, ts[kn] = T := ⟨_, rfl⟩
              rw [hT1] at tk hsz hpg
              have HPG := hid (show P[m] = T.data.toList from hpg)
              have HKC := hid (show w.cell? ⟨kb, koff + m, none⟩ = some (.int .i64 (kn : Int)) by have h1 := (hkc m hml).1; rw [← hkn] at h1; exact h1)
              have HNX2 := hid (show P.take (m + 1) = P.take m ++ [P[m]] from List.take_succ_eq_append_getElem hpl)
              have HTE := hid (show P.take m = [] ↔ m = 0 by rw [← List.length_eq_zero_iff, List.length_take]; omega)
              have HT1 := hid hT1
              have HQC := trivial
              clear hkc hkn hdg hpg hT1
              by_cases hmz : m = 0
              · have hm1 : ¬ (0 : Int) < (m : Int) := by omega
                have HMZ := hid hmz
                clear hmz
                have z4 : ¬ 9223372036854775807 < sb.size + T.size := by omega
                have HB6 := HBQ
                have HDA := hid (show (sb ++ T).data.toList = 91 :: joinC (P.take (m + 1)) by
                  rw [HNX2.out, joinC_snocJ]
                  simp only [ByteArray.data_append, Array.toList_append, HPG.out, HSB.out]
                  rw [if_pos (HTE.out.2 HMZ.out), HTE.out.2 HMZ.out]
                  simp [joinC])
                have HSZE := hid (show (sb ++ T).size = sb.size + T.size by simp only [ByteArray.size_append] <;> rfl)
                by_cases hl : 1000 < sb.size + T.size
                · have hli : (1000 : Int) < (sb.size : Int) + (T.size : Int) := by omega
                  have SNO := hid (LONG.out (m + 1) (by
                    have h1 := congrArg List.length HDA.out
                    rw [List.length_cons, ← Lib.size_eq, HSZE.out] at h1
                    omega))
                  have HB4 := HBQ
                  clear hl
                  go_wp2
                  go_ret
                  rw [FAIL.out SNO.out]
                  exact ⟨rfl, HBW.out _ (HWALL.out _ (HNW.out _ HB4.out))⟩
                · have hli : ¬ (1000 : Int) < (sb.size : Int) + (T.size : Int) := by omega
                  have HLE := hid (show (sb ++ T).size ≤ 1000 by rw [HSZE.out]; omega)
                  clear hl
                  go_wp2
                  go_roundw
                  case rel => exact ⟨m + 1, sb ++ T, by omega, rfl, by go_num, HLE.out, HDA, HBQ⟩
                  case measure => simp [intOf]; omega
              · have hm1 : (0 : Int) < (m : Int) := by omega
                have HMZ := hid hmz
                clear hmz
                have z0 : ¬ 9223372036854775807 < sb.size + 1 := by omega
                have z4 : ¬ 9223372036854775807 < sb.size + 1 + T.size := by omega
                have HB6 := HBQ
                have HDA := hid (show (sb ++ ⟨#[44]⟩ ++ T).data.toList = 91 :: joinC (P.take (m + 1)) by
                  rw [HNX2.out, joinC_snocJ]
                  simp only [ByteArray.data_append, Array.toList_append, HPG.out, HSB.out]
                  rw [if_neg (fun h => HMZ.out (HTE.out.1 h))]
                  simp [joinC])
                have HSZE := hid (show (sb ++ ⟨#[44]⟩ ++ T).size = sb.size + 1 + T.size by simp only [ByteArray.size_append] <;> rfl)
                by_cases hl : 1000 < sb.size + 1 + T.size
                · have hli : (1000 : Int) < (sb.size : Int) + 1 + (T.size : Int) := by omega
                  have SNO := hid (LONG.out (m + 1) (by
                    have h1 := congrArg List.length HDA.out
                    rw [List.length_cons, ← Lib.size_eq, HSZE.out] at h1
                    omega))
                  have HB4 := HBQ
                  clear hl
                  go_wp2
                  go_ret
                  rw [FAIL.out SNO.out]
                  exact ⟨rfl, HBW.out _ (HWALL.out _ (HNW.out _ HB4.out))⟩
                · have hli : ¬ (1000 : Int) < (sb.size : Int) + 1 + (T.size : Int) := by omega
                  have HLE := hid (show (sb ++ ⟨#[44]⟩ ++ T).size ≤ 1000 by rw [HSZE.out]; omega)
                  clear hl
                  go_wp2
                  go_roundw
                  case rel => exact ⟨m + 1, sb ++ ⟨#[44]⟩ ++ T, by omega, rfl, by go_num, HLE.out, HDA, HBQ⟩
                  case measure => simp [intOf]; omega
            · have hmi : ¬ (m : Int) < (L : Int) := by omega
              have hme : m = L := by omega
              have HFULL := hid (show P.take m = P from List.take_of_length_le (by have := HPL.out; omega))
              skip
              have z1 : ¬ 9223372036854775807 < sb.size + 1 := by omega
              have HFIN := hid (show nodeT N (datL ts) = some (sb ++ ⟨#[93]⟩).data.toList by
                rw [HS.out]
                simp only [ByteArray.data_append, Array.toList_append, HSB.out, HFULL.out]
                rfl)
              clear hme
              go_wp2
              go_meet
              case rel => exact ⟨_, rfl, HFIN, HBQ⟩
        have k6 : (N.kind == 6) = false := by rw [beq_eq_false_iff_ne]; exact hkk
        have nk6 : N.kind ≠ 6 := hkk
        clear hkk
        by_cases hkk : N.kind = 7
        · as_aux_lemma =>
          have k7 : (N.kind == 7) = true := by rw [hkk]; rfl
          by_cases hkeq : N.keys.length = N.kids.length
          rotate_left
          · have SNO := hid (stepJ_nn (show nodeT N (datL ts) = none by unfold nodeT; rw [hkk, if_neg (by decide), if_neg (by decide), if_neg (by decide), if_neg (by decide), if_neg (by decide), if_neg (by decide), if_pos rfl, if_neg (fun h => hkeq h.1)]))
            have e1 : ((N.keys.length : Int) != (N.kids.length : Int)) = true := by rw [bne_iff_ne]; omega
            have e2 : ¬ (N.keys.length : Int) = (N.kids.length : Int) := by omega
            have HB4 := HN0
            clear hkk hkeq
            go_wp2
            go_ret
            rw [FAIL.out SNO.out]
            exact ⟨rfl, HBW.out _ (HWALL.out _ (HNW.out _ HB4.out))⟩
          have e1 : ((N.keys.length : Int) != (N.kids.length : Int)) = false := by rw [bne_eq_false_iff_eq]; omega
          have e2 : (N.keys.length : Int) = (N.kids.length : Int) := by omega
          have HKEQ := hid hkeq
          have HS := hid (show (∀ k ∈ N.keys, okText k = true) → nodeT N (datL ts) = some (123 :: (joinC (partsT true N.keys N.kids (datL ts)) ++ [125])) from fun h => by unfold nodeT; rw [hkk, if_neg (by decide), if_neg (by decide), if_neg (by decide), if_neg (by decide), if_neg (by decide), if_neg (by decide), if_pos rfl, if_pos ⟨hkeq, h⟩])
          have HSN := hid (show (¬ ∀ k ∈ N.keys, okText k = true) → nodeT N (datL ts) = none from fun h => by unfold nodeT; rw [hkk, if_neg (by decide), if_neg (by decide), if_neg (by decide), if_neg (by decide), if_neg (by decide), if_neg (by decide), if_pos rfl, if_neg (fun h2 => h h2.2)])
          have CK := hid (fun (K : ByteArray) (w : World) => specTextOk K w)
          have CJ := hid (fun (K : ByteArray) (w : World) => specJStrT K w)
          clear hkk hkeq
          obtain ⟨P, hP⟩ : ∃ P, partsT true N.keys N.kids (datL ts) = P := ⟨_, rfl⟩
          have HP := hid hP
          obtain ⟨L, hL⟩ : ∃ x, N.kids.length = x := ⟨_, rfl⟩
          have HLL := hid hL
          have HPL := hid (show P.length = L by rw [← hP, ← hL]; exact partsT_len (fun h => by exact HKEQ.out))
          rw [hP] at HS
          have hL2 : L ≤ 2000000 := by rw [← hL]; exact HKL.out.1
          have LONG := hid (show ∀ m : Nat, 1000 < 1 + (joinC (P.take m)).length → stepJ ts N = none from fun m hm => stepJ_long (fun t ht => by
            have h2 := joinC_take_le P m
            by_cases hall : ∀ k ∈ N.keys, okText k = true
            rotate_left
            · rw [HSN.out hall] at ht; cases ht
            rw [HS.out hall] at ht
            injection ht with ht
            rw [← ht, List.length_cons, List.length_append]
            omega))
          rw [hL] at y3 HNX e1 e2
          clear hP hL
          go_upto_region 33 with fail
          go_loopw [6, 7] (fun sv iv wq => ∃ (m : Nat) (sb : ByteArray), m ≤ L ∧ sv = .string sb ∧ iv = .int .i64 (m : Int) ∧ sb.size ≤ 1000 ∧ Hid (sb.data.toList = 123 :: joinC (P.take m)) ∧ Hid (∀ q (h : q < N.keys.length), q < m → okText N.keys[q] = true) ∧ Hid (Below (wr.heap.size + 1) w9 wq)) (fun _ iv _ => L - (intOf iv).toNat)
          case atStart => exact ⟨0, ⟨#[123]⟩, Nat.zero_le _, rfl, rfl, (by show 1 ≤ 1000; decide), hid rfl, hid (fun q h h2 => absurd h2 (by omega)), HN0⟩
          case round =>
            obtain ⟨m, sb, hm, rfl, rfl, hsb, HSB, HKO, HBQ⟩ := hrel
            clear y0 y1 y2 y3
            obtain ⟨y0, y1, y2, y3⟩ := HNX.out _ HBQ.out
            have hbq := HBW.out _ (HWALL.out _ (HNW.out _ HBQ.out))
            have HBQW := hid hbq
            by_cases hlm : m < L
            · have hml : m < N.kids.length := by have := HLL.out; omega
              obtain ⟨kb, koff, rfl, hkb, hkc⟩ := HKF.out (by omega)
              have t0 : wr.cell? ⟨kb, koff + m, none⟩ = some (.int .i64 N.kids[m]) := (hbq.cell (p := ⟨kb, koff + m, none⟩) hkb).trans (hkc m hml).1
              have hkj := HKID.out N.kids[m] (List.getElem_mem hml)
              obtain ⟨kn, hkn⟩ : ∃ kn : Nat, (kn : Int) = N.kids[m] := ⟨N.kids[m].toNat, by omega⟩
              have hdg := datL_get (ts := ts) (k := kn) (by omega)
              rw [← hkn] at t0 hkj
              have hk3 : kn < ts.length := by omega
              have tk : wr.cell? ⟨B, kn, none⟩ = some (.string ts[kn]) := ((HNW.out _ HBQ.out).cell (p := ⟨B, kn, none⟩) hBlt).trans (HTK.out kn hk3)
              have hsz := HTS.out ts[kn] (List.getElem_mem hk3)
              have hk5 : (kn : Int) < (n : Int) := by have := HTJ.out; omega
              have hk6 : (0 : Int) ≤ (kn : Int) := by omega
              have hmi : (m : Int) < (L : Int) := by omega
              have hm0 : (0 : Int) ≤ (m : Int) := by omega
              have hpl : m < P.length := by have := HPL.out; omega
              have hpg := partsT_get (ob := true) (keys := N.keys) (kids := N.kids) (ts := datL ts) (i := m) hml (fun h => by have := HKEQ.out; omega)
              rw [HP.out, List.getElem?_eq_getElem hpl] at hpg
              injection hpg with hpg
              rw [← hkn, hdg] at hpg
              obtain ⟨T, hT1⟩ : ∃ T, ts[kn] = T := ⟨_, rfl⟩
              rw [hT1] at tk hsz hpg
              have hjk : m < N.keys.length := by have := HKEQ.out; omega
              obtain ⟨qb, qoff, rfl, hqB, hqc⟩ := HSF.out (by omega)
              have q0 : wr.cell? ⟨qb, qoff + m, none⟩ = some (.string N.keys[m]) := (hbq.cell (p := ⟨qb, qoff + m, none⟩) hqB).trans (hqc m hjk).1
              have hjki : (m : Int) < (N.keys.length : Int) := by omega
              obtain ⟨K, hK⟩ : ∃ K, N.keys[m] = K := ⟨_, rfl⟩
              have HKE := hid (show N.keys[m] = K from hK)
              rw [hK] at q0
              have HPG := hid (show P[m] = quoT K.data.toList ++ 58 :: T.data.toList by rw [hpg, ← hK]; rfl)
              have HMEM := hid (show K ∈ N.keys by rw [← hK]; exact List.getElem_mem hjk)
              have CKQ := hid (fun w => CK.out K w)
              have HLN := hid (fun (h : okText K = true) => okText_size h)
              have HJP := hid (show jstrP K = if okText K = true then mkB (quoT K.data.toList) else ⟨#[]⟩ from rfl)
              obtain ⟨kk, hkb2⟩ : ∃ x, okText K = x := ⟨_, rfl⟩
              rw [hkb2] at CKQ HLN HJP
              have HKB := hid hkb2
              clear hK hkb2
              have HKC := hid (show w.cell? ⟨kb, koff + m, none⟩ = some (.int .i64 (kn : Int)) by have h1 := (hkc m hml).1; rw [← hkn] at h1; exact h1)
              have HNX2 := hid (show P.take (m + 1) = P.take m ++ [P[m]] from List.take_succ_eq_append_getElem hpl)
              have HTE := hid (show P.take m = [] ↔ m = 0 by rw [← List.length_eq_zero_iff, List.length_take]; omega)
              have HT1 := hid hT1
              have HQC := hid (hqc m hjk).1
              clear hkc hkn hdg hpg hT1 hqc
              by_cases hmz : m = 0
              · have hm1 : ¬ (0 : Int) < (m : Int) := by omega
                have HMZ := hid hmz
                clear hmz
                go_wp2_with fail
                refine (CKQ.out _).mono ?_
                rintro e w5 ⟨rfl, hb5⟩
                have HB4 := hid (HBQ.out.trans (hb5.mono (HNS.out _ HBQ.out)))
                clear hb5 y0 y1 y2 y3
                obtain ⟨y0, y1, y2, y3⟩ := HNX.out _ HB4.out
                cases kk with
                | false =>
                  have SNO := hid (stepJ_nn (HSN.out (fun h => by have h1 := h K HMEM.out; rw [HKB.out] at h1; cases h1)))
                  go_wp2
                  go_ret
                  rw [FAIL.out SNO.out]
                  exact ⟨rfl, HBW.out _ (HWALL.out _ (HNW.out _ HB4.out))⟩
                | true =>
                have hks := HLN.out rfl
                have hJz : (mkB (quoT K.data.toList)).size ≤ 7000 := by
                  rw [mkB_size]
                  have h1 := quoT_len K.data.toList
                  rw [Lib.size_eq] at hks
                  omega
                have HJD := hid (show (mkB (quoT K.data.toList)).data.toList = quoT K.data.toList from mkB_data _)
                have HJE := hid (show jstrP K = mkB (quoT K.data.toList) from HJP.out)
                have CJQ := hid (fun w => CJ.out K w)
                rw [HJE.out] at CJQ
                obtain ⟨J, hJ⟩ : ∃ J, mkB (quoT K.data.toList) = J := ⟨_, rfl⟩
                rw [hJ] at CJQ hJz HJD
                have hb5w := HBW.out _ (HWALL.out _ (HNW.out _ HB4.out))
                have q1 : w5.cell? ⟨qb, qoff + m, none⟩ = some (.string K) := by
                  have h1 := (hb5w.cell (p := ⟨qb, qoff + m, none⟩) hqB).trans HQC.out
                  rw [HKE.out] at h1
                  exact h1
                have z2 : ¬ 9223372036854775807 < sb.size + J.size := by omega
                have z3 : ¬ 9223372036854775807 < sb.size + J.size + 1 := by omega
                have z4 : ¬ 9223372036854775807 < sb.size + J.size + 1 + T.size := by omega
                clear hJ
                go_wp2_with fail
                refine (CJQ.out _).mono ?_
                rintro e w6 ⟨rfl, hb6⟩
                have HB6 := hid (HB4.out.trans (hb6.mono (HNS.out _ HB4.out)))
                clear hb6 y0 y1 y2 y3 t0 tk
                obtain ⟨y0, y1, y2, y3⟩ := HNX.out _ HB6.out
                have hb6w := HBW.out _ (HWALL.out _ (HNW.out _ HB6.out))
                have t0 : w6.cell? ⟨kb, koff + m, none⟩ = some (.int .i64 (kn : Int)) := by
                  have h1 := HKC.out
                  exact (hb6w.cell (p := ⟨kb, koff + m, none⟩) hkb).trans h1
                have tk : w6.cell? ⟨B, kn, none⟩ = some (.string T) := by
                  have h1 := ((HNW.out _ HB6.out).cell (p := ⟨B, kn, none⟩) hBlt).trans (HTK.out kn hk3)
                  rw [HT1.out] at h1
                  exact h1
                have HDA := hid (show (sb ++ J ++ ⟨#[58]⟩ ++ T).data.toList = 123 :: joinC (P.take (m + 1)) by
                  rw [HNX2.out, joinC_snocJ]
                  simp only [ByteArray.data_append, Array.toList_append, HJD.out, HPG.out, HSB.out]
                  rw [if_pos (HTE.out.2 HMZ.out), HTE.out.2 HMZ.out]
                  simp [joinC])
                have HSZE := hid (show (sb ++ J ++ ⟨#[58]⟩ ++ T).size = sb.size + J.size + 1 + T.size by simp only [ByteArray.size_append] <;> rfl)
                by_cases hl : 1000 < sb.size + J.size + 1 + T.size
                · have hli : (1000 : Int) < (sb.size : Int) + (J.size : Int) + 1 + (T.size : Int) := by omega
                  have SNO := hid (LONG.out (m + 1) (by
                    have h1 := congrArg List.length HDA.out
                    rw [List.length_cons, ← Lib.size_eq, HSZE.out] at h1
                    omega))
                  have HB4 := HB6
                  clear hl
                  go_wp2
                  go_ret
                  rw [FAIL.out SNO.out]
                  exact ⟨rfl, HBW.out _ (HWALL.out _ (HNW.out _ HB4.out))⟩
                · have hli : ¬ (1000 : Int) < (sb.size : Int) + (J.size : Int) + 1 + (T.size : Int) := by omega
                  have HLE := hid (show (sb ++ J ++ ⟨#[58]⟩ ++ T).size ≤ 1000 by rw [HSZE.out]; omega)
                  clear hl
                  go_wp2
                  go_roundw
                  case rel => exact ⟨m + 1, sb ++ J ++ ⟨#[58]⟩ ++ T, by omega, rfl, by go_num, HLE.out, HDA, hid (fun q h h2 => by
                    rcases Nat.lt_or_ge q m with h3 | h3
                    · exact HKO.out q h h3
                    · obtain rfl : q = m := by omega
                      rw [HKE.out]
                      exact HKB.out), HB6⟩
                  case measure => simp [intOf]; omega
              · have hm1 : (0 : Int) < (m : Int) := by omega
                have HMZ := hid hmz
                clear hmz
                have z0 : ¬ 9223372036854775807 < sb.size + 1 := by omega
                go_wp2_with fail
                refine (CKQ.out _).mono ?_
                rintro e w5 ⟨rfl, hb5⟩
                have HB4 := hid (HBQ.out.trans (hb5.mono (HNS.out _ HBQ.out)))
                clear hb5 y0 y1 y2 y3
                obtain ⟨y0, y1, y2, y3⟩ := HNX.out _ HB4.out
                cases kk with
                | false =>
                  have SNO := hid (stepJ_nn (HSN.out (fun h => by have h1 := h K HMEM.out; rw [HKB.out] at h1; cases h1)))
                  go_wp2
                  go_ret
                  rw [FAIL.out SNO.out]
                  exact ⟨rfl, HBW.out _ (HWALL.out _ (HNW.out _ HB4.out))⟩
                | true =>
                have hks := HLN.out rfl
                have hJz : (mkB (quoT K.data.toList)).size ≤ 7000 := by
                  rw [mkB_size]
                  have h1 := quoT_len K.data.toList
                  rw [Lib.size_eq] at hks
                  omega
                have HJD := hid (show (mkB (quoT K.data.toList)).data.toList = quoT K.data.toList from mkB_data _)
                have HJE := hid (show jstrP K = mkB (quoT K.data.toList) from HJP.out)
                have CJQ := hid (fun w => CJ.out K w)
                rw [HJE.out] at CJQ
                obtain ⟨J, hJ⟩ : ∃ J, mkB (quoT K.data.toList) = J := ⟨_, rfl⟩
                rw [hJ] at CJQ hJz HJD
                have hb5w := HBW.out _ (HWALL.out _ (HNW.out _ HB4.out))
                have q1 : w5.cell? ⟨qb, qoff + m, none⟩ = some (.string K) := by
                  have h1 := (hb5w.cell (p := ⟨qb, qoff + m, none⟩) hqB).trans HQC.out
                  rw [HKE.out] at h1
                  exact h1
                have z2 : ¬ 9223372036854775807 < sb.size + 1 + J.size := by omega
                have z3 : ¬ 9223372036854775807 < sb.size + 1 + J.size + 1 := by omega
                have z4 : ¬ 9223372036854775807 < sb.size + 1 + J.size + 1 + T.size := by omega
                clear hJ
                go_wp2_with fail
                refine (CJQ.out _).mono ?_
                rintro e w6 ⟨rfl, hb6⟩
                have HB6 := hid (HB4.out.trans (hb6.mono (HNS.out _ HB4.out)))
                clear hb6 y0 y1 y2 y3 t0 tk
                obtain ⟨y0, y1, y2, y3⟩ := HNX.out _ HB6.out
                have hb6w := HBW.out _ (HWALL.out _ (HNW.out _ HB6.out))
                have t0 : w6.cell? ⟨kb, koff + m, none⟩ = some (.int .i64 (kn : Int)) := by
                  have h1 := HKC.out
                  exact (hb6w.cell (p := ⟨kb, koff + m, none⟩) hkb).trans h1
                have tk : w6.cell? ⟨B, kn, none⟩ = some (.string T) := by
                  have h1 := ((HNW.out _ HB6.out).cell (p := ⟨B, kn, none⟩) hBlt).trans (HTK.out kn hk3)
                  rw [HT1.out] at h1
                  exact h1
                have HDA := hid (show (sb ++ ⟨#[44]⟩ ++ J ++ ⟨#[58]⟩ ++ T).data.toList = 123 :: joinC (P.take (m + 1)) by
                  rw [HNX2.out, joinC_snocJ]
                  simp only [ByteArray.data_append, Array.toList_append, HJD.out, HPG.out, HSB.out]
                  rw [if_neg (fun h => HMZ.out (HTE.out.1 h))]
                  simp [joinC])
                have HSZE := hid (show (sb ++ ⟨#[44]⟩ ++ J ++ ⟨#[58]⟩ ++ T).size = sb.size + 1 + J.size + 1 + T.size by simp only [ByteArray.size_append] <;> rfl)
                by_cases hl : 1000 < sb.size + 1 + J.size + 1 + T.size
                · have hli : (1000 : Int) < (sb.size : Int) + 1 + (J.size : Int) + 1 + (T.size : Int) := by omega
                  have SNO := hid (LONG.out (m + 1) (by
                    have h1 := congrArg List.length HDA.out
                    rw [List.length_cons, ← Lib.size_eq, HSZE.out] at h1
                    omega))
                  have HB4 := HB6
                  clear hl
                  go_wp2
                  go_ret
                  rw [FAIL.out SNO.out]
                  exact ⟨rfl, HBW.out _ (HWALL.out _ (HNW.out _ HB4.out))⟩
                · have hli : ¬ (1000 : Int) < (sb.size : Int) + 1 + (J.size : Int) + 1 + (T.size : Int) := by omega
                  have HLE := hid (show (sb ++ ⟨#[44]⟩ ++ J ++ ⟨#[58]⟩ ++ T).size ≤ 1000 by rw [HSZE.out]; omega)
                  clear hl
                  go_wp2
                  go_roundw
                  case rel => exact ⟨m + 1, sb ++ ⟨#[44]⟩ ++ J ++ ⟨#[58]⟩ ++ T, by omega, rfl, by go_num, HLE.out, HDA, hid (fun q h h2 => by
                    rcases Nat.lt_or_ge q m with h3 | h3
                    · exact HKO.out q h h3
                    · obtain rfl : q = m := by omega
                      rw [HKE.out]
                      exact HKB.out), HB6⟩
                  case measure => simp [intOf]; omega
            · have hmi : ¬ (m : Int) < (L : Int) := by omega
              have hme : m = L := by omega
              have HFULL := hid (show P.take m = P from List.take_of_length_le (by have := HPL.out; omega))
              have HAK := hid (show ∀ k ∈ N.keys, okText k = true from fun k hk => by obtain ⟨q, hq, rfl⟩ := List.getElem_of_mem hk; exact HKO.out q hq (by have := HKEQ.out; have := HLL.out; omega))
              have z1 : ¬ 9223372036854775807 < sb.size + 1 := by omega
              have HFIN := hid (show nodeT N (datL ts) = some (sb ++ ⟨#[125]⟩).data.toList by
                rw [HS.out HAK.out]
                simp only [ByteArray.data_append, Array.toList_append, HSB.out, HFULL.out]
                rfl)
              clear hme
              go_wp2
              go_meet
              case rel => exact ⟨_, rfl, HFIN, HBQ⟩
        have k7 : (N.kind == 7) = false := by rw [beq_eq_false_iff_ne]; exact hkk
        have nk7 : N.kind ≠ 7 := hkk
        clear hkk
        have SNO := hid (stepJ_nn (nodeT_kind (ts := datL ts) nk1 nk2 nk3 nk4 nk5 nk6 nk7))
        have HB4 := HN0
        clear nk1 nk2 nk3 nk4 nk5 nk6 nk7
        go_wp2
        go_ret
        rw [FAIL.out SNO.out]
        exact ⟨rfl, HBW.out _ (HWALL.out _ (HNW.out _ HB4.out))⟩
      case rest =>
      obtain ⟨sx, rfl, HNT, HBC⟩ := hcut
      have hBc := HWALL.out _ (HNW.out _ HBC.out)
      have HBCW := hid hBc
      have HR3 := hid (((HNW.out _ HBC.out).block B hBlt).trans HROW.out)
      by_cases hl : 1000 < sx.size
      · have hli : (1000 : Int) < (sx.size : Int) := by omega
        have SNO := hid (stepJ_long (fun t ht => by rw [HNT.out] at ht; injection ht with ht; rw [← ht, ← Lib.size_eq]; exact hl))
        clear hl
        go_wp2
        go_ret
        rw [FAIL.out SNO.out]
        exact ⟨rfl, HBW.out _ HBCW.out⟩
      · have hli : ¬ (1000 : Int) < (sx.size : Int) := by omega
        have hs1000 : sx.size ≤ 1000 := by omega
        have HYES := hid (HSTEP.out sx (stepJ_ok HNT.out hs1000))
        have c3 : wc.cell? ⟨B, j, none⟩ = some (.string ⟨#[]⟩) := cell_row HR3.out (by rw [← HTJ.out]; exact rowS_zero (by have := HTJ.out; omega))
        have f3 : wc.frozen? ⟨B, j, none⟩ = false := frozen_of_row wc _ j _ _ HR3.out
        clear hBc
        go_wp2
        go_roundw
        case rel =>
          refine ⟨j + 1, ts ++ [sx], by omega, by rw [List.length_append, HTJ.out]; rfl, by go_num, ?_, hid (HGO.out.trans HYES.out), hid (fun t ht => ?_), HBCW.out.setCell (p := ⟨B, j, none⟩) (by show _ ≤ B; omega) _⟩
          · rw [← rowS_set sx (by rw [HTJ.out]; exact hlt), HTJ.out]
            exact set_row HR3.out
          · rcases List.mem_append.1 ht with h | h
            · exact HTS.out t h
            · rw [List.mem_singleton] at h; subst h; exact hs1000
        case measure => simp [intOf]; omega
    · have hie : j = n := by omega
      have hlen : ts.length = n := by omega
      have g1 : IntKind.i64.wrap ((n : Int) - 1) = ((n - 1 : Nat) : Int) := by rw [show (n : Int) - 1 = ((n - 1 : Nat) : Int) by omega]; exact IntWalk.i64_in _ (by omega)
      have g2 : (n : Int) - 1 = ((n - 1 : Nat) : Int) := by omega
      have hlast : wr.cell? ⟨B, n - 1, none⟩ = some (.string (ts[n - 1]'(by omega))) := cell_row hrow (rowS_get (by omega))
      have HL := hid (show jtxP ns = ts[n - 1]'(by omega) by
        rw [jtxP_go HQ.out, HGO.out, textsJ_end (by rw [HNN.out]; omega)]
        exact getLastD_atJ hlen hpos)
      obtain ⟨t, ht⟩ : ∃ t, ts[n - 1]'(by omega) = t := ⟨_, rfl⟩
      rw [ht] at hlast HL
      have hki : ¬ (j : Int) < (n : Int) := by omega
      have hm1 : (0 : Int) ≤ ((n - 1 : Nat) : Int) := by omega
      have hm2 : ((n - 1 : Nat) : Int) < (n : Int) := by omega
      have HBw := hid hBw
      clear hie hlen ht hrow g2 hBw hB
      go_wp2
      go_ret
      rw [HL.out]
      exact ⟨rfl, HBw.out⟩
end Go.Proofs.YtlfkfofeenakhaaDoor

namespace Go.Proofs.YtlfkfofeenakhaaDoor
open Go.RowKit
set_option linter.unusedVariables false
set_option linter.unusedSimpArgs false

theorem keeps_setAll {B : Nat} {w1 : World} {g : Nat} (o : Nat) : ∀ (i : Nat) (cs : List Value) {W : World}, Keeps B w1 W → g < B → Keeps B w1 (setAll W g o i cs)
  | _, [], _, h, _ => h
  | i, c :: r, _, h, hg => keeps_setAll o (i + 1) r (h.set hg c) hg
theorem below_setAll {B : Nat} {w1 : World} {g : Nat} (o : Nat) : ∀ (i : Nat) (cs : List Value) {W : World}, Below B w1 W → B ≤ g → Below B w1 (setAll W g o i cs)
  | _, [], _, h, _ => h
  | i, c :: r, _, h, hg => below_setAll o (i + 1) r (h.setCell hg c) hg
theorem blk_stay {W w1 : World} {g : Nat} {o : Obj} (h : W.heap[g]? = some o) (hb : Below W.heap.size W w1) : w1.heap[g]? = some o := (hb.block g (Array.getElem?_eq_some_iff.1 h).1).trans h
theorem blk_set {W : World} {g : Nat} {p : Addr} {o : Obj} (h : W.heap[g]? = some o) (hp : g ≠ p.block) (u : Value) : (W.setCell p u).heap[g]? = some o := (Below.heap_setCell W p u g hp).trans h
theorem blk_alloc {W : World} {g : Nat} {o : Obj} (h : W.heap[g]? = some o) (o' : Obj) : (W.alloc o').heap[g]? = some o := blk_stay h (ext_alloc W o')
theorem rdConf {S : Nat → Prop} {w : World} {cs : List Value} {x : Conf} (h : Rd.rd S w cs x) : cs = [.int .i64 x.tag, .string x.fs, .string x.rs, .string x.ofs, .string x.ors, .bool x.head] ∧ (-9223372036854775808 ≤ x.tag ∧ x.tag ≤ 9223372036854775807) ∧ (x.fs.size ≤ 9223372036854775807) ∧ (x.rs.size ≤ 9223372036854775807) ∧ (x.ofs.size ≤ 9223372036854775807) ∧ (x.ors.size ≤ 9223372036854775807) := by
  obtain ⟨_, _, rfl, ⟨rfl, h0⟩, ⟨_, _, rfl, ⟨rfl, h1⟩, ⟨_, _, rfl, ⟨rfl, h2⟩, ⟨_, _, rfl, ⟨rfl, h3⟩, ⟨_, _, rfl, ⟨rfl, h4⟩, rfl⟩⟩⟩⟩⟩ := h
  exact ⟨rfl, h0, h1, h2, h3, h4⟩
theorem rdConf_mk {S : Nat → Prop} {w : World} {x : Conf} (h0 : -9223372036854775808 ≤ x.tag ∧ x.tag ≤ 9223372036854775807) (h1 : x.fs.size ≤ 9223372036854775807) (h2 : x.rs.size ≤ 9223372036854775807) (h3 : x.ofs.size ≤ 9223372036854775807) (h4 : x.ors.size ≤ 9223372036854775807) : Rd.rd S w [.int .i64 x.tag, .string x.fs, .string x.rs, .string x.ofs, .string x.ors, .bool x.head] x :=
  ⟨_, _, rfl, ⟨rfl, h0⟩, ⟨_, _, rfl, ⟨rfl, h1⟩, ⟨_, _, rfl, ⟨rfl, h2⟩, ⟨_, _, rfl, ⟨rfl, h3⟩, ⟨_, _, rfl, ⟨rfl, h4⟩, rfl⟩⟩⟩⟩⟩
instance : Sz Conf := ⟨fun x => x.fs.size + x.rs.size + x.ofs.size + x.ors.size⟩

theorem rdFile {S : Nat → Prop} {w : World} {cs : List Value} {x : File} (h : Rd.rd S w cs x) : cs = [.string x.name, .string x.text] ∧ (x.name.size ≤ 9223372036854775807) ∧ (x.text.size ≤ 9223372036854775807) := by
  obtain ⟨_, _, rfl, ⟨rfl, h0⟩, ⟨rfl, h1⟩⟩ := h
  exact ⟨rfl, h0, h1⟩
theorem rdFile_mk {S : Nat → Prop} {w : World} {x : File} (h0 : x.name.size ≤ 9223372036854775807) (h1 : x.text.size ≤ 9223372036854775807) : Rd.rd S w [.string x.name, .string x.text] x :=
  ⟨_, _, rfl, ⟨rfl, h0⟩, ⟨rfl, h1⟩⟩
instance : Sz File := ⟨fun x => x.name.size + x.text.size⟩


end Go.Proofs.YtlfkfofeenakhaaDoor

namespace Go.Proofs.YtlfkfofeenakhaaDoor
open Go.RowKit
set_option linter.unusedVariables false
set_option linter.unusedSimpArgs false

theorem rdJNode {S : Nat → Prop} {w : World} {cs : List Value} {x : JNode} (h : Rd.rd S w cs x) : ∃ (a2 : Option Addr) (c2 : Nat), ∃ (a3 : Option Addr) (c3 : Nat), cs = [.int .i64 x.kind, .string x.text, .slice a2 x.keys.length c2, .slice a3 x.kids.length c3] ∧ (-9223372036854775808 ≤ x.kind ∧ x.kind ≤ 9223372036854775807) ∧ (x.text.size ≤ 9223372036854775807) ∧ (Rd.rd S w [.slice a2 x.keys.length c2] x.keys) ∧ (Rd.rd S w [.slice a3 x.kids.length c3] x.kids) := by
  obtain ⟨_, _, rfl, ⟨rfl, h0⟩, ⟨_, _, rfl, ⟨rfl, h1⟩, ⟨_, _, rfl, h2, h3⟩⟩⟩ := h
  obtain ⟨a2, c2, e2⟩ := rdSlc h2
  subst e2
  obtain ⟨a3, c3, e3⟩ := rdSlc h3
  subst e3
  exact ⟨a2, c2, a3, c3, rfl, h0, h1, h2, h3⟩
theorem rdJNode_mk {S : Nat → Prop} {w : World} {x : JNode} {a2 : Option Addr} {c2 : Nat} {a3 : Option Addr} {c3 : Nat} (h0 : -9223372036854775808 ≤ x.kind ∧ x.kind ≤ 9223372036854775807) (h1 : x.text.size ≤ 9223372036854775807) (h2 : Rd.rd S w [.slice a2 x.keys.length c2] x.keys) (h3 : Rd.rd S w [.slice a3 x.kids.length c3] x.kids) : Rd.rd S w [.int .i64 x.kind, .string x.text, .slice a2 x.keys.length c2, .slice a3 x.kids.length c3] x :=
  ⟨_, _, rfl, ⟨rfl, h0⟩, ⟨_, _, rfl, ⟨rfl, h1⟩, ⟨_, _, rfl, h2, h3⟩⟩⟩
instance : Sz JNode := ⟨fun x => x.text.size + Sz.sz x.keys + Sz.sz x.kids⟩
set_option maxHeartbeats 1000000 in
theorem szJNode_any {cs : Array Value} {x : JNode} (left : Int) (w : World) (h : Rd.rd (Old w) w cs.toList x) (h3 : 0 ≤ left) (h4 : left ≤ 1048576) :
    Calls Tryd.prog 92 #[.agg cs, .int .i64 left] w fun e w' => e = .returned (.int .i64 (szOut left (Sz.sz x))) ∧ Below w.heap.size w w' := by
  obtain ⟨a2, c2, a3, c3, hcs, f0, f1, f2, f3⟩ := rdJNode h
  obtain rfl := arr_of_list hcs
  clear hcs
  have hsz : Sz.sz x = x.text.size + Sz.sz x.keys + Sz.sz x.kids := rfl
  rw [hsz]; clear hsz
  generalize hg_keys : Sz.sz x.keys = n_keys
  have Hg_keys := hid hg_keys; clear hg_keys
  generalize hg_kids : Sz.sz x.kids = n_kids
  have Hg_kids := hid hg_kids; clear hg_kids
  by_cases k0 : (x.text.size : Int) ≤ left
  · skip
    by_cases k1 : (x.text.size : Int) + (n_keys : Int) ≤ left
    · skip
      by_cases k2 : (x.text.size : Int) + (n_keys : Int) + (n_kids : Int) ≤ left
      · skip
        go_enter Tryd.func92, Tryd.ntmps92
        go_wp2_with fail
        refine (szStrs_any _ _ (by exact Rd.later (ext_alloc _ _) (f2)) (by omega) (by omega)).mono ?_
        rintro e w1 ⟨rfl, hb0⟩
        rw [Hg_keys.out, szOut_val (by omega)]
        obtain ⟨hc0, hf0⟩ := bcell hb0
        have hl0 : w.heap.size < w1.heap.size := by have := hb0.size; (try simp at this); omega
        go_wp2_with fail
        refine (szInts_any _ _ (by exact Rd.later (ext_trans (ext_alloc _ _) hb0) (f3)) (by omega) (by omega)).mono ?_
        rintro e w2 ⟨rfl, hb1⟩
        rw [Hg_kids.out, szOut_val (by omega)]
        obtain ⟨hc1, hf1⟩ := bcell hb1
        have hl1 : w.heap.size < w2.heap.size := by have := hb1.size; (try simp at this); omega
        go_wp2
        go_ret
        exact ⟨end_int (by rw [szOut_val (by omega)] <;> omega), (ext_trans (ext_trans (ext_alloc _ _) hb0) hb1)⟩
      · skip
        go_enter Tryd.func92, Tryd.ntmps92
        go_wp2_with fail
        refine (szStrs_any _ _ (by exact Rd.later (ext_alloc _ _) (f2)) (by omega) (by omega)).mono ?_
        rintro e w1 ⟨rfl, hb0⟩
        rw [Hg_keys.out, szOut_val (by omega)]
        obtain ⟨hc0, hf0⟩ := bcell hb0
        have hl0 : w.heap.size < w1.heap.size := by have := hb0.size; (try simp at this); omega
        go_wp2_with fail
        refine (szInts_any _ _ (by exact Rd.later (ext_trans (ext_alloc _ _) hb0) (f3)) (by omega) (by omega)).mono ?_
        rintro e w2 ⟨rfl, hb1⟩
        rw [Hg_kids.out, szOut_bad (by omega)]
        obtain ⟨hc1, hf1⟩ := bcell hb1
        have hl1 : w.heap.size < w2.heap.size := by have := hb1.size; (try simp at this); omega
        go_wp2
        go_ret
        exact ⟨end_int (by rw [szOut_bad (by omega)]), (ext_trans (ext_trans (ext_alloc _ _) hb0) hb1)⟩
    · skip
      go_enter Tryd.func92, Tryd.ntmps92
      go_wp2_with fail
      refine (szStrs_any _ _ (by exact Rd.later (ext_alloc _ _) (f2)) (by omega) (by omega)).mono ?_
      rintro e w1 ⟨rfl, hb0⟩
      rw [Hg_keys.out, szOut_bad (by omega)]
      obtain ⟨hc0, hf0⟩ := bcell hb0
      have hl0 : w.heap.size < w1.heap.size := by have := hb0.size; (try simp at this); omega
      go_wp2
      go_ret
      exact ⟨end_int (by rw [szOut_bad (by omega)]), (ext_trans (ext_alloc _ _) hb0)⟩
  · skip
    go_enter Tryd.func92, Tryd.ntmps92
    go_wp2_with fail
    go_wp2
    go_ret
    exact ⟨end_int (by rw [szOut_bad (by omega)]), (ext_alloc _ _)⟩
set_option maxHeartbeats 2000000 in
theorem toJNode_any {cs : Array Value} {x : JNode} (w : World) (h : Rd.rd (Old w) w cs.toList x) (hn : Sz.sz x ≤ 1048576) :
    Calls Tryd.prog 94 #[.agg cs] w fun e w' => ∃ cs' : Array Value, e = .returned (.agg cs') ∧ Rd.rd (New w.heap.size w') w' cs'.toList x ∧ Below w.heap.size w w' := by
  obtain ⟨a2, c2, a3, c3, hcs, f0, f1, f2, f3⟩ := rdJNode h
  obtain rfl := arr_of_list hcs
  clear hcs h
  have hn_keys : Sz.sz x.keys ≤ 1048576 := Nat.le_trans (by show _ ≤ x.text.size + Sz.sz x.keys + Sz.sz x.kids; omega) hn
  have hn_kids : Sz.sz x.kids ≤ 1048576 := Nat.le_trans (by show _ ≤ x.text.size + Sz.sz x.keys + Sz.sz x.kids; omega) hn
  have HN := hid hn
  clear hn
  go_enter Tryd.func94, Tryd.ntmps94
  go_wp2_with fail
  refine (toStrs_any _ (by exact Rd.later (by repeat' (first | (with_reducible exact Below.refl _ _) | (with_reducible refine Below.setCell ?_ ?_ _) | (with_reducible refine Below.alloc ?_ ?_ _) | (simp; done) | (simp; omega) | omega)) (f2)) hn_keys).mono ?_
  rintro e w1 ⟨r0, rfl, hr0, hb0⟩
  obtain ⟨r0_a, r0_c, e0⟩ := rdSlc hr0
  obtain rfl : r0 = .slice r0_a x.keys.length r0_c := by simpa using e0
  clear e0
  have hB1 : Below w.heap.size w w1 := ext_trans (by repeat' (first | (with_reducible exact Below.refl _ _) | (with_reducible refine Below.setCell ?_ ?_ _) | (with_reducible refine Below.alloc ?_ ?_ _) | (simp; done) | (simp; omega) | omega)) hb0
  obtain ⟨hc0, hf0⟩ := bcell hb0
  have hl0 : w.heap.size + 1 + 1 < w1.heap.size := by have := hb0.size; (try simp at this); omega
  have hl0' : w.heap.size + 1 < w1.heap.size := by omega
  have hl0'' : w.heap.size < w1.heap.size := by omega
  go_wp2_with fail
  refine (toInts_any _ (by exact Rd.later (by repeat' (first | (with_reducible exact hB1) | (with_reducible exact Below.refl _ _) | (with_reducible refine Below.setCell ?_ ?_ _) | (with_reducible refine Below.alloc ?_ ?_ _) | (simp; done) | (simp; omega) | omega)) (f3)) hn_kids).mono ?_
  rintro e w2 ⟨r1, rfl, hr1, hb1⟩
  obtain ⟨r1_a, r1_c, e1⟩ := rdSlc hr1
  obtain rfl : r1 = .slice r1_a x.kids.length r1_c := by simpa using e1
  clear e1
  have hB2 : Below w.heap.size w w2 := ext_trans (by repeat' (first | (with_reducible exact hB1) | (with_reducible exact Below.refl _ _) | (with_reducible refine Below.setCell ?_ ?_ _) | (with_reducible refine Below.alloc ?_ ?_ _) | (simp; done) | (simp; omega) | omega)) hb1
  obtain ⟨hc1, hf1⟩ := bcell hb1
  have hl1 : w.heap.size + 1 + 1 < w2.heap.size := by have := hb1.size; (try simp at this); omega
  have hl1' : w.heap.size + 1 < w2.heap.size := by omega
  have hl1'' : w.heap.size < w2.heap.size := by omega
  go_wp2
  refine bodyPost_ret (v := .agg #[.int .i64 x.kind, .string x.text, .slice r0_a x.keys.length r0_c, .slice r1_a x.kids.length r1_c]) (by simp [results, Tryd.results94, go_sem, hc0, hl0', hc1, hl1']) rfl ⟨_, rfl, ?_, ?_⟩
  · exact rdJNode_mk f0 f1 (Keeps.rd (by repeat' (first | (with_reducible exact Keeps.refl _ _) | (with_reducible refine Keeps.call ?_ hb1) | (with_reducible refine Keeps.set ?_ ?_ _) | (with_reducible refine Keeps.alloc ?_ _) | (simp; done) | (simp; omega) | omega)) (by first | (simp; done) | (simp; omega) | omega) hr0) (Keeps.rd (by repeat' (first | (with_reducible exact Keeps.refl _ _) | (with_reducible refine Keeps.set ?_ ?_ _) | (with_reducible refine Keeps.alloc ?_ _) | (simp; done) | (simp; omega) | omega)) (by first | (simp; done) | (simp; omega) | omega) hr1)
  · exact (by repeat' (first | (with_reducible exact hB2) | (with_reducible exact hB1) | (with_reducible exact Below.refl _ _) | (with_reducible refine Below.setCell ?_ ?_ _) | (with_reducible refine Below.alloc ?_ ?_ _) | (simp; done) | (simp; omega) | omega))
set_option maxHeartbeats 2000000 in
theorem eqJNode_same {cs cs' : Array Value} {x : JNode} (w : World) (h : Rd.rd (Old w) w cs.toList x) (h' : Rd.rd (Old w) w cs'.toList x) :
    Calls Tryd.prog 79 #[.agg cs, .agg cs'] w fun e w' => e = .returned (.bool true) ∧ Below w.heap.size w w' := by
  obtain ⟨a2, c2, a3, c3, hcs, f0, f1, f2, f3⟩ := rdJNode h
  obtain rfl := arr_of_list hcs
  obtain ⟨ga2, gc2, ga3, gc3, hcs', gf0, gf1, gf2, gf3⟩ := rdJNode h'
  obtain rfl := arr_of_list hcs'
  clear hcs hcs' h h'
  go_enter Tryd.func79, Tryd.ntmps79
  go_wp2_with fail
  refine (eqStrs_same _ (by exact Rd.later (by repeat' (first | (with_reducible exact Below.refl _ _) | (with_reducible refine Below.setCell ?_ ?_ _) | (with_reducible refine Below.alloc ?_ ?_ _) | (simp; done) | (simp; omega) | omega)) f2) (by exact Rd.later (by repeat' (first | (with_reducible exact Below.refl _ _) | (with_reducible refine Below.setCell ?_ ?_ _) | (with_reducible refine Below.alloc ?_ ?_ _) | (simp; done) | (simp; omega) | omega)) gf2)).mono ?_
  rintro e w1 ⟨rfl, hb0⟩
  have hB1 : Below w.heap.size w w1 := ext_trans (by repeat' (first | (with_reducible exact Below.refl _ _) | (with_reducible refine Below.setCell ?_ ?_ _) | (with_reducible refine Below.alloc ?_ ?_ _) | (simp; done) | (simp; omega) | omega)) hb0
  obtain ⟨hc0, hf0⟩ := bcell hb0
  have hl0 : w.heap.size + 1 < w1.heap.size := by have := hb0.size; (try simp at this); omega
  have hl0' : w.heap.size < w1.heap.size := by omega
  go_wp2_with fail
  refine (eqInts_same _ (by exact Rd.later (by repeat' (first | (with_reducible exact hB1) | (with_reducible exact Below.refl _ _) | (with_reducible refine Below.setCell ?_ ?_ _) | (with_reducible refine Below.alloc ?_ ?_ _) | (simp; done) | (simp; omega) | omega)) f3) (by exact Rd.later (by repeat' (first | (with_reducible exact hB1) | (with_reducible exact Below.refl _ _) | (with_reducible refine Below.setCell ?_ ?_ _) | (with_reducible refine Below.alloc ?_ ?_ _) | (simp; done) | (simp; omega) | omega)) gf3)).mono ?_
  rintro e w2 ⟨rfl, hb1⟩
  have hB2 : Below w.heap.size w w2 := ext_trans (by repeat' (first | (with_reducible exact hB1) | (with_reducible exact Below.refl _ _) | (with_reducible refine Below.setCell ?_ ?_ _) | (with_reducible refine Below.alloc ?_ ?_ _) | (simp; done) | (simp; omega) | omega)) hb1
  obtain ⟨hc1, hf1⟩ := bcell hb1
  have hl1 : w.heap.size + 1 < w2.heap.size := by have := hb1.size; (try simp at this); omega
  have hl1' : w.heap.size < w2.heap.size := by omega
  go_wp2
  go_ret
  exact ⟨rfl, (by repeat' (first | (with_reducible exact hB2) | (with_reducible exact hB1) | (with_reducible exact Below.refl _ _) | (with_reducible refine Below.setCell ?_ ?_ _) | (with_reducible refine Below.alloc ?_ ?_ _) | (simp; done) | (simp; omega) | omega))⟩

set_option maxHeartbeats 1000000 in
theorem szJNodeS_any {v : Value} {xs : List JNode} (left : Int) (w : World) (h : Rd.rd (Old w) w [v] xs) (h3 : 0 ≤ left) (h4 : left ≤ 1048576) :
    Calls Tryd.prog 44 #[v, .int .i64 left] w fun e w' => e = .returned (.int .i64 (szOut left (Sz.sz xs))) ∧ Below w.heap.size w w' := by
  obtain ⟨a, cap, hv, h1, h2, hc⟩ := h
  obtain rfl : v = .slice a xs.length cap := by simpa using hv
  clear hv
  have hss : Sz.sz xs = xs.length + sumTo Sz.sz xs xs.length := rfl
  rw [hss]; clear hss
  by_cases hl : (xs.length : Int) ≤ left
  · go_enter Tryd.func44, Tryd.ntmps44
    go_wp2
    go_loopw [1, 5] (fun l i wr => ∃ k : Nat, k ≤ xs.length ∧ i = .int .i64 k ∧ 0 ≤ left - xs.length - sumTo Sz.sz xs k ∧ l = .int .i64 (left - xs.length - sumTo Sz.sz xs k) ∧ Below w.heap.size w wr) (fun _ i _ => xs.length - (intOf i).toNat)
    case atStart => exact ⟨0, Nat.zero_le _, rfl, by rw [sumTo_zero]; omega, by rw [sumTo_zero]; simp, Below.refl _ _⟩
    case round =>
      obtain ⟨k, hk, rfl, hr, rfl, hb⟩ := hrel
      by_cases hlt : k < xs.length
      · have HS := hid (sumTo_succ Sz.sz xs k hlt)
        have HM := hid (sumTo_le Sz.sz xs (show k + 1 ≤ xs.length by omega))
        obtain ⟨b, off, rfl, hB, hrow⟩ := hc (by omega)
        obtain ⟨cs, hcell, hx⟩ := hrow k hlt
        obtain ⟨a2, c2, a3, c3, hcs, f0, f1, f2, f3⟩ := rdJNode hx
        subst hcs
        have t0 : wr.cell? ⟨b, off + k * 4, none⟩ = some (.int .i64 xs[k].kind) := (hb.cell (p := ⟨b, off + k * 4, none⟩) hB).trans (hcell 0 (by decide))
        have t1 : wr.cell? ⟨b, off + k * 4 + 1, none⟩ = some (.string xs[k].text) := (hb.cell (p := ⟨b, off + k * 4 + 1, none⟩) hB).trans (hcell 1 (by decide))
        have t2 : wr.cell? ⟨b, off + k * 4 + 2, none⟩ = some (.slice a2 xs[k].keys.length c2) := (hb.cell (p := ⟨b, off + k * 4 + 2, none⟩) hB).trans (hcell 2 (by decide))
        have t3 : wr.cell? ⟨b, off + k * 4 + 3, none⟩ = some (.slice a3 xs[k].kids.length c3) := (hb.cell (p := ⟨b, off + k * 4 + 3, none⟩) hB).trans (hcell 3 (by decide))
        clear hrow hcell
        clear hc
        have hx' := Rd.later hb hx
        go_wp2_with fail
        refine (szJNode_any _ _ (by exact hx') (by omega) (by omega)).mono ?_
        rintro e w1 ⟨rfl, hb1⟩
        have hB1 := ext_trans hb hb1
        by_cases hfit : ((Sz.sz xs[k] : Nat) : Int) ≤ left - xs.length - sumTo Sz.sz xs k
        · rw [szOut_val hfit]
          go_wp2
          go_roundw
          case rel => exact ⟨k + 1, by omega, by go_num, by rw [HS.out]; omega, by rw [HS.out]; go_num, hB1⟩
          case measure => simp [intOf]; omega
        · rw [szOut_bad (by omega)]
          go_wp2
          go_ret
          exact ⟨end_int (by have := HS.out; have := HM.out; rw [szOut_bad (by omega)]), hB1⟩
      · have : k = xs.length := by omega
        subst this
        clear hc
        go_wp2
        go_ret
        exact ⟨end_int (by rw [szOut_val (by omega)]; omega), hb⟩
  · clear hc
    go_enter Tryd.func44, Tryd.ntmps44
    go_wp2
    go_ret
    exact ⟨end_int (by rw [szOut_bad (by omega)]), Below.refl _ _⟩
theorem info_JNode : (Tryd.prog.info? 75).map (fun i => (i.zero.isSome, i.size, i.bytes)) = some (true, 4, 72) := by kernel_rfl
set_option maxHeartbeats 2000000 in
theorem toJNodeS_any {v : Value} {xs : List JNode} (w : World) (h : Rd.rd (Old w) w [v] xs) (hsz : Sz.sz xs ≤ 1048576) :
    Calls Tryd.prog 48 #[v] w fun e w' => ∃ u, e = .returned u ∧ Rd.rd (New w.heap.size w') w' [u] xs ∧ Below w.heap.size w w' := by
  obtain ⟨a, cap, hv, h1, h2, hc⟩ := h
  obtain rfl : v = .slice a xs.length cap := by simpa using hv
  clear hv
  have hn : xs.length ≤ 1048576 := Nat.le_trans (sz_len xs) hsz
  have HZ := hid (sz_each hsz)
  clear hsz
  obtain ⟨zc, hzl, hmk⟩ := make_cells (P := Tryd.prog) (t := 22) (e := 75) (n := 4) (bytes := 72) Tryd.underlying22 info_JNode xs.length (by omega) (by omega)
  go_enter Tryd.func48, Tryd.ntmps48
  go_wp2
  clear hmk
  go_loopw [4] (fun i wr => ∃ (k : Nat) (css : List (List Value)) (rest : List Value), k ≤ xs.length ∧ i = .int .i64 k ∧ Below w.heap.size w wr ∧ w.heap.size < wr.heap.size ∧ wr.heap[w.heap.size]? = some (.cells (css.flatten ++ rest).toArray 75 (0, 0)) ∧ rest.length = (xs.length - k) * 4 ∧ Each (New (w.heap.size + 1) wr) wr css (xs.take k)) (fun i _ => xs.length - (intOf i).toNat)
  case atStart => exact ⟨0, [], zc, Nat.zero_le _, rfl, ext_alloc _ _, by simp, by simpa using heap_alloc_new w _, by simpa using hzl, Each.nil⟩
  case round =>
    obtain ⟨k, css, rest, hk, rfl, hb, hsz, hg, hrl, he⟩ := hrel
    by_cases hlt : k < xs.length
    · have hcl := each_take he hk
      obtain ⟨b, off, rfl, hB, hrow⟩ := hc (by omega)
      obtain ⟨cs, hcell, hx⟩ := hrow k hlt
      obtain ⟨a2, c2, a3, c3, hcs, f0, f1, f2, f3⟩ := rdJNode hx
      subst hcs
      have t0 : wr.cell? ⟨b, off + k * 4, none⟩ = some (.int .i64 xs[k].kind) := (hb.cell (p := ⟨b, off + k * 4, none⟩) hB).trans (hcell 0 (by decide))
      have t1 : wr.cell? ⟨b, off + k * 4 + 1, none⟩ = some (.string xs[k].text) := (hb.cell (p := ⟨b, off + k * 4 + 1, none⟩) hB).trans (hcell 1 (by decide))
      have t2 : wr.cell? ⟨b, off + k * 4 + 2, none⟩ = some (.slice a2 xs[k].keys.length c2) := (hb.cell (p := ⟨b, off + k * 4 + 2, none⟩) hB).trans (hcell 2 (by decide))
      have t3 : wr.cell? ⟨b, off + k * 4 + 3, none⟩ = some (.slice a3 xs[k].kids.length c3) := (hb.cell (p := ⟨b, off + k * 4 + 3, none⟩) hB).trans (hcell 3 (by decide))
      clear hrow hcell
      clear hc
      have hx' := Rd.later hb hx
      have HR := hid hrl
      have HG := hid hg
      have HE := hid he
      have HL := hid hcl
      have hrn : 4 ≤ rest.length := by rw [hrl]; have := Nat.mul_le_mul_right 4 (show 1 ≤ xs.length - k by omega); omega
      clear hrl hg he hcl
      go_wp2_with fail
      refine (toJNode_any _ (by exact hx') (HZ.out k hlt)).mono ?_
      rintro e w1 ⟨cs1, rfl, hr1, hb1⟩
      obtain ⟨ra2, rc2, ra3, rc3, hcs1, rf0, rf1, rf2, rf3⟩ := rdJNode hr1
      obtain rfl := arr_of_list hcs1
      have HX := hid hr1
      clear hcs1 hr1
      have hB1 := ext_trans hb hb1
      have HG1 := hid ((hb1.block _ hsz).trans HG.out)
      obtain ⟨o0, s0⟩ : ∃ v, w1.cell? ⟨w.heap.size, k * 4, none⟩ = some v := row_get (n := 4) HG1.out HE.out.len HL.out hrn (j := 0) (by decide)
      obtain ⟨o1, s1⟩ : ∃ v, w1.cell? ⟨w.heap.size, k * 4 + 1, none⟩ = some v := row_get (n := 4) HG1.out HE.out.len HL.out hrn (j := 1) (by decide)
      obtain ⟨o2, s2⟩ : ∃ v, w1.cell? ⟨w.heap.size, k * 4 + 2, none⟩ = some v := row_get (n := 4) HG1.out HE.out.len HL.out hrn (j := 2) (by decide)
      obtain ⟨o3, s3⟩ : ∃ v, w1.cell? ⟨w.heap.size, k * 4 + 3, none⟩ = some v := row_get (n := 4) HG1.out HE.out.len HL.out hrn (j := 3) (by decide)
      have z0 : w1.frozen? ⟨w.heap.size, k * 4, none⟩ = false := frozen_of_row w1 w.heap.size _ _ _ HG1.out
      have z1 : w1.frozen? ⟨w.heap.size, k * 4 + 1, none⟩ = false := frozen_of_row w1 w.heap.size _ _ _ HG1.out
      have z2 : w1.frozen? ⟨w.heap.size, k * 4 + 2, none⟩ = false := frozen_of_row w1 w.heap.size _ _ _ HG1.out
      have z3 : w1.frozen? ⟨w.heap.size, k * 4 + 3, none⟩ = false := frozen_of_row w1 w.heap.size _ _ _ HG1.out
      have hl1 : w.heap.size < w1.heap.size := by have := hb1.size; omega
      go_wp2
      go_roundw
      case rel =>
        obtain ⟨rest', hg', hrl', hs', hB', he'⟩ := row_next (g := w.heap.size) (n := 4) rfl hlt HG1.out HE.out HL.out HR.out hsz hb1 hB1 HX.out
        exact ⟨k + 1, _, rest', by omega, by go_num, hB', hs', hg', hrl', he'⟩
      case measure => simp [intOf]; omega
    · have : k = xs.length := by omega
      subst this
      clear hc
      have HG := hid hg
      have HE := hid he
      clear hg he hrl
      go_wp2
      go_ret
      refine ⟨_, rfl, ?_, hb⟩
      have he := HE.out
      rw [List.take_length] at he
      exact rd_of_block HG.out (he.mono (T := New w.heap.size wr) (fun b (hb' : w.heap.size + 1 ≤ b ∧ b < wr.heap.size) => ⟨by omega, hb'.2⟩)) ⟨Nat.le_refl _, hsz⟩ (Nat.le_refl _) (by omega)
set_option maxHeartbeats 4000000 in
theorem eqJNodeS_same {v u : Value} {xs : List JNode} (w : World) (h : Rd.rd (Old w) w [v] xs) (h' : Rd.rd (Old w) w [u] xs) :
    Calls Tryd.prog 34 #[v, u] w fun e w' => e = .returned (.bool true) ∧ Below w.heap.size w w' := by
  obtain ⟨a, cap, hv, h1, h2, hc⟩ := h
  obtain rfl : v = .slice a xs.length cap := by simpa using hv
  obtain ⟨a', cap', hv', h1', h2', hc'⟩ := h'
  obtain rfl : u = .slice a' xs.length cap' := by simpa using hv'
  clear hv hv'
  go_enter Tryd.func34, Tryd.ntmps34
  go_wp2
  go_loopw [5] (fun i wr => ∃ k : Nat, k ≤ xs.length ∧ i = .int .i64 k ∧ Below w.heap.size w wr) (fun i _ => xs.length - (intOf i).toNat)
  case atStart => exact ⟨0, Nat.zero_le _, rfl, Below.refl _ _⟩
  case round =>
    obtain ⟨k, hk, rfl, hb⟩ := hrel
    by_cases hlt : k < xs.length
    · skip
      obtain ⟨b, off, rfl, hB, hrow⟩ := hc (by omega)
      obtain ⟨cs, hcell, hx⟩ := hrow k hlt
      obtain ⟨a2, c2, a3, c3, hcs, f0, f1, f2, f3⟩ := rdJNode hx
      subst hcs
      have t0 : wr.cell? ⟨b, off + k * 4, none⟩ = some (.int .i64 xs[k].kind) := (hb.cell (p := ⟨b, off + k * 4, none⟩) hB).trans (hcell 0 (by decide))
      have t1 : wr.cell? ⟨b, off + k * 4 + 1, none⟩ = some (.string xs[k].text) := (hb.cell (p := ⟨b, off + k * 4 + 1, none⟩) hB).trans (hcell 1 (by decide))
      have t2 : wr.cell? ⟨b, off + k * 4 + 2, none⟩ = some (.slice a2 xs[k].keys.length c2) := (hb.cell (p := ⟨b, off + k * 4 + 2, none⟩) hB).trans (hcell 2 (by decide))
      have t3 : wr.cell? ⟨b, off + k * 4 + 3, none⟩ = some (.slice a3 xs[k].kids.length c3) := (hb.cell (p := ⟨b, off + k * 4 + 3, none⟩) hB).trans (hcell 3 (by decide))
      clear hrow hcell
      obtain ⟨b', off', rfl, hBq, hrowq⟩ := hc' (by omega)
      obtain ⟨csq, hcellq, hxq⟩ := hrowq k hlt
      obtain ⟨qa2, qc2, qa3, qc3, hcsq, qf0, qf1, qf2, qf3⟩ := rdJNode hxq
      subst hcsq
      have tq0 : wr.cell? ⟨b', off' + k * 4, none⟩ = some (.int .i64 xs[k].kind) := (hb.cell (p := ⟨b', off' + k * 4, none⟩) hBq).trans (hcellq 0 (by decide))
      have tq1 : wr.cell? ⟨b', off' + k * 4 + 1, none⟩ = some (.string xs[k].text) := (hb.cell (p := ⟨b', off' + k * 4 + 1, none⟩) hBq).trans (hcellq 1 (by decide))
      have tq2 : wr.cell? ⟨b', off' + k * 4 + 2, none⟩ = some (.slice qa2 xs[k].keys.length qc2) := (hb.cell (p := ⟨b', off' + k * 4 + 2, none⟩) hBq).trans (hcellq 2 (by decide))
      have tq3 : wr.cell? ⟨b', off' + k * 4 + 3, none⟩ = some (.slice qa3 xs[k].kids.length qc3) := (hb.cell (p := ⟨b', off' + k * 4 + 3, none⟩) hBq).trans (hcellq 3 (by decide))
      clear hrowq hcellq
      clear hc hc'
      have hx' := Rd.later hb hx
      have hqx' := Rd.later hb hxq
      have hi1 : (0 : Int) ≤ k := by omega
      have hi2 : (k : Int) < xs.length := by omega
      have hwr : wr.heap.size ≤ wr.heap.size := Nat.le_refl _
      go_wp2_with fail
      go_region_held3 (fun w' => w'.cell? ⟨b, off + k * 4, none⟩ = some (.int .i64 xs[k].kind) ∧ w'.cell? ⟨b, off + k * 4 + 1, none⟩ = some (.string xs[k].text) ∧ w'.cell? ⟨b, off + k * 4 + 2, none⟩ = some (.slice a2 xs[k].keys.length c2) ∧ w'.cell? ⟨b, off + k * 4 + 3, none⟩ = some (.slice a3 xs[k].kids.length c3) ∧ w'.cell? ⟨b', off' + k * 4, none⟩ = some (.int .i64 xs[k].kind) ∧ w'.cell? ⟨b', off' + k * 4 + 1, none⟩ = some (.string xs[k].text) ∧ w'.cell? ⟨b', off' + k * 4 + 2, none⟩ = some (.slice qa2 xs[k].keys.length qc2) ∧ w'.cell? ⟨b', off' + k * 4 + 3, none⟩ = some (.slice qa3 xs[k].kids.length qc3)) (simp [*])
        ((go_at_call 79; refine (eqJNode_same _ (by exact Rd.later (by repeat' (first | (with_reducible exact Below.refl _ _) | (with_reducible refine Below.drew ?_))) hx') (by exact Rd.later (by repeat' (first | (with_reducible exact Below.refl _ _) | (with_reducible refine Below.drew ?_))) hqx')).mono ?_; rintro e w1 ⟨rfl, hb1⟩; have hk1 := keeps_cells hb1; have hbx := ext_trans (by repeat' (first | (with_reducible exact hb) | (with_reducible refine Below.drew ?_)) : Below w.heap.size w _) hb1))
      go_wp2
      go_roundw
      case rel => exact ⟨k + 1, by omega, by go_num, by repeat' (first | (with_reducible exact hbx) | (with_reducible refine Below.drew ?_))⟩
      case measure => simp [intOf]; omega
    · have : k = xs.length := by omega
      subst this
      clear hc hc'
      go_wp2
      go_ret
      exact ⟨rfl, hb⟩

theorem rdJson {S : Nat → Prop} {w : World} {cs : List Value} {x : Json} (h : Rd.rd S w cs x) : ∃ (a0 : Option Addr) (c0 : Nat), cs = [.slice a0 x.nodes.length c0] ∧ (Rd.rd S w [.slice a0 x.nodes.length c0] x.nodes) := by
  have h0 : Rd.rd S w cs x.nodes := h
  obtain ⟨a0, c0, e0⟩ := rdSlc h0
  subst e0
  exact ⟨a0, c0, rfl, h0⟩
theorem rdJson_mk {S : Nat → Prop} {w : World} {x : Json} {a0 : Option Addr} {c0 : Nat} (h0 : Rd.rd S w [.slice a0 x.nodes.length c0] x.nodes) : Rd.rd S w [.slice a0 x.nodes.length c0] x :=
  h0
instance : Sz Json := ⟨fun x => Sz.sz x.nodes⟩
set_option maxHeartbeats 1000000 in
theorem szJson_any {cs : Array Value} {x : Json} (left : Int) (w : World) (h : Rd.rd (Old w) w cs.toList x) (h3 : 0 ≤ left) (h4 : left ≤ 1048576) :
    Calls Tryd.prog 18 #[.agg cs, .int .i64 left] w fun e w' => e = .returned (.int .i64 (szOut left (Sz.sz x))) ∧ Below w.heap.size w w' := by
  obtain ⟨a0, c0, hcs, f0⟩ := rdJson h
  obtain rfl := arr_of_list hcs
  clear hcs
  have hsz : Sz.sz x = Sz.sz x.nodes := rfl
  rw [hsz]; clear hsz
  generalize hg_nodes : Sz.sz x.nodes = n_nodes
  have Hg_nodes := hid hg_nodes; clear hg_nodes
  by_cases k0 : (n_nodes : Int) ≤ left
  · skip
    go_enter Tryd.func18, Tryd.ntmps18
    go_wp2_with fail
    refine (szJNodeS_any _ _ (by exact Rd.later (ext_alloc _ _) (f0)) (by omega) (by omega)).mono ?_
    rintro e w1 ⟨rfl, hb0⟩
    rw [Hg_nodes.out, szOut_val (by omega)]
    obtain ⟨hc0, hf0⟩ := bcell hb0
    have hl0 : w.heap.size < w1.heap.size := by have := hb0.size; (try simp at this); omega
    go_wp2
    go_ret
    exact ⟨end_int (by rw [szOut_val (by omega)] <;> omega), (ext_trans (ext_alloc _ _) hb0)⟩
  · skip
    go_enter Tryd.func18, Tryd.ntmps18
    go_wp2_with fail
    refine (szJNodeS_any _ _ (by exact Rd.later (ext_alloc _ _) (f0)) (by omega) (by omega)).mono ?_
    rintro e w1 ⟨rfl, hb0⟩
    rw [Hg_nodes.out, szOut_bad (by omega)]
    obtain ⟨hc0, hf0⟩ := bcell hb0
    have hl0 : w.heap.size < w1.heap.size := by have := hb0.size; (try simp at this); omega
    go_wp2
    go_ret
    exact ⟨end_int (by rw [szOut_bad (by omega)]), (ext_trans (ext_alloc _ _) hb0)⟩
set_option maxHeartbeats 2000000 in
theorem toJson_any {cs : Array Value} {x : Json} (w : World) (h : Rd.rd (Old w) w cs.toList x) (hn : Sz.sz x ≤ 1048576) :
    Calls Tryd.prog 20 #[.agg cs] w fun e w' => ∃ cs' : Array Value, e = .returned (.agg cs') ∧ Rd.rd (New w.heap.size w') w' cs'.toList x ∧ Below w.heap.size w w' := by
  obtain ⟨a0, c0, hcs, f0⟩ := rdJson h
  obtain rfl := arr_of_list hcs
  clear hcs h
  have hn_nodes : Sz.sz x.nodes ≤ 1048576 := Nat.le_trans (by show _ ≤ Sz.sz x.nodes; omega) hn
  have HN := hid hn
  clear hn
  go_enter Tryd.func20, Tryd.ntmps20
  go_wp2_with fail
  refine (toJNodeS_any _ (by exact Rd.later (by repeat' (first | (with_reducible exact Below.refl _ _) | (with_reducible refine Below.setCell ?_ ?_ _) | (with_reducible refine Below.alloc ?_ ?_ _) | (simp; done) | (simp; omega) | omega)) (f0)) hn_nodes).mono ?_
  rintro e w1 ⟨r0, rfl, hr0, hb0⟩
  obtain ⟨r0_a, r0_c, e0⟩ := rdSlc hr0
  obtain rfl : r0 = .slice r0_a x.nodes.length r0_c := by simpa using e0
  clear e0
  have hB1 : Below w.heap.size w w1 := ext_trans (by repeat' (first | (with_reducible exact Below.refl _ _) | (with_reducible refine Below.setCell ?_ ?_ _) | (with_reducible refine Below.alloc ?_ ?_ _) | (simp; done) | (simp; omega) | omega)) hb0
  obtain ⟨hc0, hf0⟩ := bcell hb0
  have hl0 : w.heap.size + 1 + 1 < w1.heap.size := by have := hb0.size; (try simp at this); omega
  have hl0' : w.heap.size + 1 < w1.heap.size := by omega
  have hl0'' : w.heap.size < w1.heap.size := by omega
  go_wp2
  refine bodyPost_ret (v := .agg #[.slice r0_a x.nodes.length r0_c]) (by simp [results, Tryd.results20, go_sem, hc0, hl0']) rfl ⟨_, rfl, ?_, ?_⟩
  · exact rdJson_mk (Keeps.rd (by repeat' (first | (with_reducible exact Keeps.refl _ _) | (with_reducible refine Keeps.set ?_ ?_ _) | (with_reducible refine Keeps.alloc ?_ _) | (simp; done) | (simp; omega) | omega)) (by first | (simp; done) | (simp; omega) | omega) hr0)
  · exact (by repeat' (first | (with_reducible exact hB1) | (with_reducible exact Below.refl _ _) | (with_reducible refine Below.setCell ?_ ?_ _) | (with_reducible refine Below.alloc ?_ ?_ _) | (simp; done) | (simp; omega) | omega))
set_option maxHeartbeats 2000000 in
theorem eqJson_same {cs cs' : Array Value} {x : Json} (w : World) (h : Rd.rd (Old w) w cs.toList x) (h' : Rd.rd (Old w) w cs'.toList x) :
    Calls Tryd.prog 10 #[.agg cs, .agg cs'] w fun e w' => e = .returned (.bool true) ∧ Below w.heap.size w w' := by
  obtain ⟨a0, c0, hcs, f0⟩ := rdJson h
  obtain rfl := arr_of_list hcs
  obtain ⟨ga0, gc0, hcs', gf0⟩ := rdJson h'
  obtain rfl := arr_of_list hcs'
  clear hcs hcs' h h'
  go_enter Tryd.func10, Tryd.ntmps10
  go_wp2_with fail
  refine (eqJNodeS_same _ (by exact Rd.later (by repeat' (first | (with_reducible exact Below.refl _ _) | (with_reducible refine Below.setCell ?_ ?_ _) | (with_reducible refine Below.alloc ?_ ?_ _) | (simp; done) | (simp; omega) | omega)) f0) (by exact Rd.later (by repeat' (first | (with_reducible exact Below.refl _ _) | (with_reducible refine Below.setCell ?_ ?_ _) | (with_reducible refine Below.alloc ?_ ?_ _) | (simp; done) | (simp; omega) | omega)) gf0)).mono ?_
  rintro e w1 ⟨rfl, hb0⟩
  have hB1 : Below w.heap.size w w1 := ext_trans (by repeat' (first | (with_reducible exact Below.refl _ _) | (with_reducible refine Below.setCell ?_ ?_ _) | (with_reducible refine Below.alloc ?_ ?_ _) | (simp; done) | (simp; omega) | omega)) hb0
  obtain ⟨hc0, hf0⟩ := bcell hb0
  have hl0 : w.heap.size + 1 < w1.heap.size := by have := hb0.size; (try simp at this); omega
  have hl0' : w.heap.size < w1.heap.size := by omega
  go_wp2
  go_ret
  exact ⟨rfl, (by repeat' (first | (with_reducible exact hB1) | (with_reducible exact Below.refl _ _) | (with_reducible refine Below.setCell ?_ ?_ _) | (with_reducible refine Below.alloc ?_ ?_ _) | (simp; done) | (simp; omega) | omega))⟩

end Go.Proofs.YtlfkfofeenakhaaDoor

namespace Go.Proofs.YtlfkfofeenakhaaDoor
open Go.RowKit
set_option linter.unusedVariables false
set_option linter.unusedSimpArgs false

theorem kidsJ_sum : ∀ (ns : List JNode), (kidsJ ns).flatten.length ≤ sumTo Sz.sz ns ns.length := by
  intro ns
  have h : ∀ k, k ≤ ns.length → ((kidsJ ns).take k).flatten.length ≤ sumTo Sz.sz ns k := by
    intro k
    induction k with
    | zero => intro _; simp
    | succ k ih =>
      intro hk
      have hk' : k < ns.length := by omega
      have e := sumTo_succ (Sz.sz : JNode → Nat) ns k hk'
      have h1 := ih (by omega)
      have hkk : k < (kidsJ ns).length := by simpa [kidsJ] using hk'
      have e2 : (kidsJ ns)[k] = ns[k].kids := by simp [kidsJ]
      rw [List.take_add_one, List.getElem?_eq_getElem hkk, List.flatten_append, List.length_append, e2]
      have h2 : ns[k].kids.length ≤ Sz.sz ns[k] := by
        have := sz_len ns[k].kids
        show _ ≤ ns[k].text.size + Sz.sz ns[k].keys + Sz.sz ns[k].kids
        omega
      simp only [Option.toList_some, List.flatten_cons, List.flatten_nil, List.append_nil]
      omega
  have := h ns.length (Nat.le_refl _)
  rw [show (kidsJ ns).take ns.length = kidsJ ns from List.take_of_length_le (by simp [kidsJ])] at this
  exact this
theorem js_sizes {x : Json} (h : Sz.sz x ≤ 1048576) : x.nodes.length ≤ 2000000 ∧ (kidsJ x.nodes).flatten.length ≤ 1000000000000 ∧ ∀ n ∈ x.nodes, n.kids.length ≤ 2000000 ∧ n.keys.length ≤ 2000000 := by
  have h0 : Sz.sz x.nodes ≤ 1048576 := h
  have e : Sz.sz x.nodes = x.nodes.length + sumTo Sz.sz x.nodes x.nodes.length := rfl
  have h1 := kidsJ_sum x.nodes
  refine ⟨by omega, by omega, fun n hn => ?_⟩
  obtain ⟨k, hk, rfl⟩ := List.mem_iff_getElem.1 hn
  have h2 := sz_each h0 k hk
  have h3 := sz_len x.nodes[k].kids
  have h5 := sz_len x.nodes[k].keys
  have h4 : Sz.sz x.nodes[k] = x.nodes[k].text.size + Sz.sz x.nodes[k].keys + Sz.sz x.nodes[k].kids := rfl
  omega
theorem specJsonTextL {cs : Array Value} {x : Json} (w : World) (h : Rd.rd (Old w) w cs.toList x) (hs : Sz.sz x ≤ 1048576) :
    Calls Tryd.prog 19 #[.agg cs] w fun e w' => e = .returned (.string (jtxP x.nodes)) ∧ Below w.heap.size w w' := by
  obtain ⟨a0, c0, hcs, h0⟩ := rdJson h
  obtain rfl := arr_of_list hcs
  exact specJsonText w h0 (js_sizes hs).1 (js_sizes hs).2.2
theorem implJsonTextL {cs : Array Value} {x : Json} (w : World) (h : Rd.rd (Old w) w cs.toList x) (hs : Sz.sz x ≤ 1048576) (hT : Tabs w) :
    Calls Tryd.prog 21 #[.agg cs] w fun e w' => e = .returned (.string (jtxP x.nodes)) ∧ Below w.heap.size w w' := by
  obtain ⟨a0, c0, hcs, h0⟩ := rdJson h
  obtain rfl := arr_of_list hcs
  have := js_sizes hs
  exact implJsonText w hT h0 this.1 this.2.1 this.2.2
end Go.Proofs.YtlfkfofeenakhaaDoor

namespace Go.Proofs.YtlfkfofeenakhaaDoor
open Go.RowKit
set_option linter.unusedVariables false
set_option linter.unusedSimpArgs false

set_option maxHeartbeats 4000000 in
theorem fnExactJsonText_walk (W : World) (hT : Tabs W) {cs0 : Array Value} {x0 : Json} (h0 : Rd.rd (Old W) W cs0.toList x0) :
    Calls Tryd.prog 5 #[.agg cs0] W fun e w' => e = .returned (.bool true) ∧ Below W.heap.size W w' := by
  obtain ⟨p0a0, p0c0, hcs0, p0f0⟩ := rdJson h0
  obtain rfl := arr_of_list hcs0
  clear hcs0
  by_cases hz0 : (Sz.sz x0 : Int) ≤ 1048576
  rotate_left
  · go_enter Tryd.func5, Tryd.ntmps5
    go_wp2_with fail
    refine (szJson_any _ _ (by exact Rd.later (by repeat' (first | (with_reducible exact Below.refl _ _) | (with_reducible refine ext_trans ?_ (ext_alloc _ _)) | (with_reducible refine Below.drew ?_) | (with_reducible refine Below.setCell ?_ ?_ _) | (simp; done) | (simp; omega) | omega)) h0) (by omega) (by omega)).mono ?_
    rintro e w0 ⟨rfl, hb0⟩
    rw [szOut_bad (by omega)]
    obtain ⟨hc0, hf0⟩ := bcell hb0
    have hl0_0 : W.heap.size < w0.heap.size := by have := hb0.size; (try simp at this); omega
    go_wp2
    go_ret
    exact ⟨rfl, (by repeat' (first | (with_reducible exact Below.refl _ _) | (with_reducible refine ext_trans ?_ hb0) | (with_reducible refine ext_trans ?_ (ext_alloc _ _)) | (with_reducible refine Below.drew ?_) | (with_reducible refine Below.setCell ?_ ?_ _) | (simp; done) | (simp; omega) | omega))⟩
  go_enter Tryd.func5, Tryd.ntmps5
  go_wp2_with fail
  refine (szJson_any _ _ (by exact Rd.later (by repeat' (first | (with_reducible exact Below.refl _ _) | (with_reducible refine ext_trans ?_ (ext_alloc _ _)) | (with_reducible refine Below.drew ?_) | (with_reducible refine Below.setCell ?_ ?_ _) | (simp; done) | (simp; omega) | omega)) h0) (by omega) (by omega)).mono ?_
  rintro e w0 ⟨rfl, hb0⟩
  rw [szOut_val (by omega)]
  obtain ⟨hc0, hf0⟩ := bcell hb0
  have hl0_0 : W.heap.size < w0.heap.size := by have := hb0.size; (try simp at this); omega
  have hzz0 : Sz.sz x0 ≤ 1048576 := by omega
  go_wp2_with fail
  refine (toJson_any _ (by exact Rd.later (by repeat' (first | (with_reducible exact Below.refl _ _) | (with_reducible refine ext_trans ?_ hb0) | (with_reducible refine ext_trans ?_ (ext_alloc _ _)) | (with_reducible refine Below.drew ?_) | (with_reducible refine Below.setCell ?_ ?_ _) | (simp; done) | (simp; omega) | omega)) h0) hzz0).mono ?_
  rintro e w1 ⟨q1, rfl, hr1, hb1⟩
  replace hr1 := Rd.old hr1
  obtain ⟨q1a0, q1c0, hcs1, q1f0⟩ := rdJson hr1
  obtain rfl := arr_of_list hcs1
  clear hcs1 q1f0
  obtain ⟨hc1, hf1⟩ := bcell hb1
  have hl1_0 : W.heap.size < w1.heap.size := by have := hb1.size; (try simp at this); omega
  go_wp2_with fail
  refine (specJsonTextL  _ (by exact Rd.later (by repeat' (first | (with_reducible exact Below.refl _ _) | (with_reducible refine ext_trans ?_ hb1) | (with_reducible refine ext_trans ?_ hb0) | (with_reducible refine ext_trans ?_ (ext_alloc _ _)) | (with_reducible refine Below.drew ?_) | (with_reducible refine Below.setCell ?_ ?_ _) | (simp; done) | (simp; omega) | omega)) hr1) (by omega)).mono ?_
  rintro e w2 ⟨rfl, hb2⟩
  obtain ⟨hc2, hf2⟩ := bcell hb2
  have hl2_0 : W.heap.size < w2.heap.size := by have := hb2.size; (try simp at this); omega
  go_wp2_with fail
  refine (toJson_any _ (by exact Rd.later (by repeat' (first | (with_reducible exact Below.refl _ _) | (with_reducible refine ext_trans ?_ hb2) | (with_reducible refine ext_trans ?_ hb1) | (with_reducible refine ext_trans ?_ hb0) | (with_reducible refine ext_trans ?_ (ext_alloc _ _)) | (with_reducible refine Below.drew ?_) | (with_reducible refine Below.setCell ?_ ?_ _) | (simp; done) | (simp; omega) | omega)) h0) hzz0).mono ?_
  rintro e w3 ⟨q3, rfl, hr3, hb3⟩
  replace hr3 := Rd.old hr3
  obtain ⟨q3a0, q3c0, hcs3, q3f0⟩ := rdJson hr3
  obtain rfl := arr_of_list hcs3
  clear hcs3 q3f0
  obtain ⟨hc3, hf3⟩ := bcell hb3
  have hl3_0 : W.heap.size < w3.heap.size := by have := hb3.size; (try simp at this); omega
  go_wp2_with fail
  refine (implJsonTextL  _ (by exact Rd.later (by repeat' (first | (with_reducible exact Below.refl _ _) | (with_reducible refine ext_trans ?_ hb3) | (with_reducible refine ext_trans ?_ hb2) | (with_reducible refine ext_trans ?_ hb1) | (with_reducible refine ext_trans ?_ hb0) | (with_reducible refine ext_trans ?_ (ext_alloc _ _)) | (with_reducible refine Below.drew ?_) | (with_reducible refine Below.setCell ?_ ?_ _) | (simp; done) | (simp; omega) | omega)) hr3) (by omega) (tabs_below hT (by repeat' (first | (with_reducible exact Below.refl _ _) | (with_reducible refine ext_trans ?_ hb3) | (with_reducible refine ext_trans ?_ hb2) | (with_reducible refine ext_trans ?_ hb1) | (with_reducible refine ext_trans ?_ hb0) | (with_reducible refine ext_trans ?_ (ext_alloc _ _)) | (with_reducible refine Below.drew ?_) | (with_reducible refine Below.setCell ?_ ?_ _) | (simp; done) | (simp; omega) | omega)))).mono ?_
  rintro e w4 ⟨rfl, hb4⟩
  obtain ⟨hc4, hf4⟩ := bcell hb4
  have hl4_0 : W.heap.size < w4.heap.size := by have := hb4.size; (try simp at this); omega
  have hl4_1 : w3.heap.size < w4.heap.size := by have := hb4.size; (try simp at this); omega
  go_wp2_with fail
  have d_x0_0 : w4.cell? ⟨w3.heap.size, 0, none⟩ = some (.slice q3a0 x0.nodes.length q3c0) := keeps_cells ((by repeat' (first | (with_reducible exact Below.refl _ _) | (with_reducible refine ext_trans ?_ hb4) | (with_reducible refine ext_trans ?_ hb3) | (with_reducible refine ext_trans ?_ hb2) | (with_reducible refine ext_trans ?_ hb1) | (with_reducible refine ext_trans ?_ hb0) | (with_reducible refine ext_trans ?_ (ext_alloc _ _)) | (with_reducible refine Below.drew ?_) | (with_reducible refine Below.setCell ?_ ?_ _) | (simp; done) | (simp; omega) | omega)) : Below (w3.alloc (.cells #[.slice q3a0 x0.nodes.length q3c0] 24)).heap.size (w3.alloc (.cells #[.slice q3a0 x0.nodes.length q3c0] 24)) w4) _ _ (by simp)
  have d_aJ_0 : w4.cell? ⟨W.heap.size, 0, none⟩ = some (.slice p0a0 x0.nodes.length p0c0) := keeps_cells ((by repeat' (first | (with_reducible exact Below.refl _ _) | (with_reducible refine ext_trans ?_ hb4) | (with_reducible refine ext_trans ?_ hb3) | (with_reducible refine ext_trans ?_ hb2) | (with_reducible refine ext_trans ?_ hb1) | (with_reducible refine ext_trans ?_ hb0) | (with_reducible refine ext_trans ?_ (ext_alloc _ _)) | (with_reducible refine Below.drew ?_) | (with_reducible refine Below.setCell ?_ ?_ _) | (simp; done) | (simp; omega) | omega)) : Below (W.alloc (.cells #[.slice p0a0 x0.nodes.length p0c0] 39)).heap.size (W.alloc (.cells #[.slice p0a0 x0.nodes.length p0c0] 39)) w4) _ _ (by simp)
  go_region_held3 (fun w' => w'.cell? ⟨w3.heap.size, 0, none⟩ = some (.slice q3a0 x0.nodes.length q3c0) ∧ w'.cell? ⟨W.heap.size, 0, none⟩ = some (.slice p0a0 x0.nodes.length p0c0)) (simp [*])
    (first | (go_at_call 20; refine (toJson_any _ (by exact Rd.later (by repeat' (first | (with_reducible exact Below.refl _ _) | (with_reducible refine ext_trans ?_ hb4) | (with_reducible refine ext_trans ?_ hb3) | (with_reducible refine ext_trans ?_ hb2) | (with_reducible refine ext_trans ?_ hb1) | (with_reducible refine ext_trans ?_ hb0) | (with_reducible refine ext_trans ?_ (ext_alloc _ _)) | (with_reducible refine Below.drew ?_) | (with_reducible refine Below.setCell ?_ ?_ _) | (simp; done) | (simp; omega) | omega)) h0) hzz0).mono ?_; rintro e w5 ⟨q5, rfl, hr5, hb5⟩; replace hr5 := Rd.old hr5; have hkc5 := keeps_cells hb5) | (go_at_call 10; refine (eqJson_same _ (by exact Rd.later (by repeat' (first | (with_reducible exact Below.refl _ _) | (with_reducible refine ext_trans ?_ hb5) | (with_reducible refine ext_trans ?_ hb4) | (with_reducible refine ext_trans ?_ hb3) | (with_reducible refine ext_trans ?_ hb2) | (with_reducible refine ext_trans ?_ hb1) | (with_reducible refine ext_trans ?_ hb0) | (with_reducible refine ext_trans ?_ (ext_alloc _ _)) | (with_reducible refine Below.drew ?_) | (with_reducible refine Below.setCell ?_ ?_ _) | (simp; done) | (simp; omega) | omega)) hr3) (by exact Rd.later (by repeat' (first | (with_reducible exact Below.refl _ _) | (with_reducible refine ext_trans ?_ hb5) | (with_reducible refine ext_trans ?_ hb4) | (with_reducible refine ext_trans ?_ hb3) | (with_reducible refine ext_trans ?_ hb2) | (with_reducible refine ext_trans ?_ hb1) | (with_reducible refine ext_trans ?_ hb0) | (with_reducible refine ext_trans ?_ (ext_alloc _ _)) | (with_reducible refine Below.drew ?_) | (with_reducible refine Below.setCell ?_ ?_ _) | (simp; done) | (simp; omega) | omega)) hr5)).mono ?_; rintro e w6 ⟨rfl, hb6⟩; have hkc6 := keeps_cells hb6))
  go_wp2
  go_ret
  exact ⟨rfl, (by repeat' (first | (with_reducible exact Below.refl _ _) | (with_reducible refine ext_trans ?_ hb6) | (with_reducible refine ext_trans ?_ hb5) | (with_reducible refine ext_trans ?_ hb4) | (with_reducible refine ext_trans ?_ hb3) | (with_reducible refine ext_trans ?_ hb2) | (with_reducible refine ext_trans ?_ hb1) | (with_reducible refine ext_trans ?_ hb0) | (with_reducible refine ext_trans ?_ (ext_alloc _ _)) | (with_reducible refine Below.drew ?_) | (with_reducible refine Below.setCell ?_ ?_ _) | (simp; done) | (simp; omega) | omega))⟩
end Go.Proofs.YtlfkfofeenakhaaDoor
