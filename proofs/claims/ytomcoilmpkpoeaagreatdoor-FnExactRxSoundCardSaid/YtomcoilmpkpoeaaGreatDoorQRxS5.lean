/-
  What is proved here: the reference's bracket expressions. No condition but that the reader, its list and its nodes lie in memory, and sizes.
-/
import Derived.Test.YtomcoilmpkpoeaaGreatDoorQRxS4
import Derived.Test.YtomcoilmpkpoeaaGreatDoorQRxAddS
import Derived.Test.YtomcoilmpkpoeaaGreatDoorQRxI8
namespace Go.Proofs.YtomcoilmpkpoeaaGreatDoor
open Go.RowKit
set_option linter.unusedVariables false
set_option linter.unusedSimpArgs false

/-- an answer of a node's index; where the reader then stands, its code, and its nodes -/
def NodeS (X : Nat → Prop) (w w' : World) (g cap d : Nat) (a : Option Addr) (l : List Nat) (nv : Value) (M : Nat) (r : RR) (e : Ending) : Prop :=
  (∃ kid j ns' nv', r = .ok kid j ns' ∧ e = .returned (.int .i64 ((kid : Nat) : Int)) ∧ w'.heap[g]? = some (.cells #[.slice a l.length cap, .int .i64 ((j : Nat) : Int), .int .i64 ((0 : Nat) : Int), .int .i64 ((0 : Nat) : Int), .int .i64 ((d : Nat) : Int), nv'] 87 (0, 0)) ∧ RxNs X g nv' w' ns' ∧ RowOn w nv.ownBlock nv'.ownBlock)
  ∨ (∃ c q x j nv' ns', r = .er c q ∧ e = .returned (.int .i64 ((x : Nat) : Int)) ∧ c ≠ 0 ∧ w'.heap[g]? = some (.cells #[.slice a l.length cap, .int .i64 ((j : Nat) : Int), .int .i64 ((c : Nat) : Int), .int .i64 ((q : Nat) : Int), .int .i64 ((d : Nat) : Int), nv'] 87 (0, 0)) ∧ RxNs X g nv' w' ns' ∧ RowOn w nv.ownBlock nv'.ownBlock ∧ ns'.length ≤ M ∧ j ≤ 4000 ∧ x ≤ 100000)
theorem NodeS.up {X : Nat → Prop} {w w1 w' : World} {g cap d M M' : Nat} {a : Option Addr} {l : List Nat} {nv nv1 : Value} {r : RR} {e : Ending} (h : NodeS X w1 w' g cap d a l nv1 M r e) (hr : RowOn w nv.ownBlock nv1.ownBlock) (hs : w.heap.size ≤ w1.heap.size) (hM : M ≤ M') : NodeS X w w' g cap d a l nv M' r e := by
  rcases h with ⟨kid, j, ns', nv', h1, h2, h3, h4, h5⟩ | ⟨c, q, x, j, nv', ns', h1, h2, h3, h4, h5, h6, h7, h8⟩
  · exact Or.inl ⟨kid, j, ns', nv', h1, h2, h3, h4, hr.trans h5 hs⟩
  · exact Or.inr ⟨c, q, x, j, nv', ns', h1, h2, h3, h4, h5, hr.trans h6 hs, Nat.le_trans h7 hM, h8⟩
theorem Qt.down {w w' : World} {n : Nat} (h : Qt w w') : Qt w (w'.drewN n) := h.trans (Qt.one _ _)
theorem specPutAt {X : Nat → Prop} {g cap i d c q : Nat} {a : Option Addr} {l : List Nat} {nv : Value} {ns : List RxNode} (n : RxNode) (w : World) {a1 a2 : Option Addr} {m1 m2 k1 k2 : Nat} (hb : w.heap[g]? = some (.cells #[.slice a l.length cap, .int .i64 ((i : Nat) : Int), .int .i64 ((c : Nat) : Int), .int .i64 ((q : Nat) : Int), .int .i64 ((d : Nat) : Int), nv] 87 (0, 0)))
    (hn : RxNs X g nv w ns) (hlen : ns.length ≤ 100000) (hk : -9223372036854775808 ≤ n.kind ∧ n.kind ≤ 9223372036854775807) (hl : -9223372036854775808 ≤ n.lo ∧ n.lo ≤ 9223372036854775807) (hh : -9223372036854775808 ≤ n.hi ∧ n.hi ≤ 9223372036854775807)
    (hs : Rd.rd (Beside X g nv.ownBlock w) w [.slice a1 m1 k1] n.set) (hd : Rd.rd (Beside X g nv.ownBlock w) w [.slice a2 m2 k2] n.kids) :
    Calls Tryz.prog 116 #[.pointer (some ⟨g, 0, none⟩), .agg #[.int .i64 n.kind, .int .i64 n.lo, .int .i64 n.hi, .bool n.neg, .slice a1 m1 k1, .slice a2 m2 k2]] w fun e w' => specPutNE X g i d c q (.slice a l.length cap) nv w w' ns n e :=
  specPutN w hb hn (rdNode_mk hk hl hh hs hd) hlen
/-- a name's letters -/
def nmP (c : Nat) : Bool := c != 58 && decide (c < 128)
def nmRun (l : List Nat) (k : Nat) : List Nat := (l.drop k).takeWhile nmP
theorem nmRun_len (l : List Nat) (k : Nat) : (nmRun l k).length ≤ l.length - k := by
  unfold nmRun
  exact Nat.le_trans (List.Sublist.length_le (List.takeWhile_sublist _)) (by rw [List.length_drop]; exact Nat.le_refl _)
theorem nmRun_take (l : List Nat) (k m : Nat) (h : m < (nmRun l k).length) : (nmRun l k).take (m + 1) = (nmRun l k).take m ++ [gN l (k + m)] ∧ ¬ gN l (k + m) = 58 ∧ gN l (k + m) < 128 := by
  have h1 := takeWhile_pt (p := nmP) (l := l.drop k) (m := m) h
  rw [gN_drop] at h1
  unfold nmP at h1
  simp only [Bool.and_eq_true, bne_iff_ne, decide_eq_true_eq] at h1
  refine ⟨?_, h1.1, h1.2⟩
  rw [List.take_succ_eq_append_getElem h]
  have h2 := nmRun_len l k
  have e : (nmRun l k)[m] = gN l (k + m) := by
    have hl : m < (l.drop k).length := by rw [List.length_drop]; omega
    rw [← gN_drop, gN_at hl]
    unfold nmRun at h ⊢
    exact (List.takeWhile_prefix nmP (l := l.drop k)).getElem h
  rw [e]
theorem nmRun_stop (l : List Nat) (k : Nat) (h : k + (nmRun l k).length < l.length) : gN l (k + (nmRun l k).length) = 58 ∨ 128 ≤ gN l (k + (nmRun l k).length) := by
  have h1 := takeWhile_lt (p := nmP) (l := l.drop k) (by show (nmRun l k).length < _; rw [List.length_drop]; omega)
  rw [gN_drop] at h1
  change nmP (gN l (k + (nmRun l k).length)) = false at h1
  unfold nmP at h1
  simp only [Bool.and_eq_false_iff, bne_eq_false_iff_eq, decide_eq_false_iff_not] at h1
  omega
theorem classOf_high {nm : List Nat} {c : Nat} (h : c ∈ nm) (hc : 128 ≤ c) : classOf nm = [] := by
  unfold classOf
  repeat' split
  all_goals first | rfl | (exfalso; subst nm; simp at h; omega) | (exfalso; rename_i e; rw [e] at h; simp at h; omega)
theorem name_more : ∀ x : List Nat, ¬ x.takeWhile (fun c => c != 58) = x.takeWhile nmP → ∃ t c, x.takeWhile (fun c => c != 58) = x.takeWhile nmP ++ c :: t ∧ 128 ≤ c
  | [], he => absurd rfl he
  | b :: r, he => by
    by_cases h58 : b = 58
    · subst h58; exact absurd rfl he
    · by_cases h128 : b < 128
      · have e1 : (b != 58) = true := by simpa using h58
        have e2 : nmP b = true := by unfold nmP; simp [h58, h128]
        rw [List.takeWhile_cons_of_pos (by simpa using e1), List.takeWhile_cons_of_pos e2] at he ⊢
        obtain ⟨t, c, h1, h2⟩ := name_more r (fun e => he (by rw [e]))
        exact ⟨t, c, by rw [h1]; rfl, h2⟩
      · have e1 : (b != 58) = true := by simpa using h58
        have e2 : ¬ nmP b = true := by unfold nmP; simp [h128]
        rw [List.takeWhile_cons_of_pos (by simpa using e1), List.takeWhile_cons_of_neg e2]
        exact ⟨_, b, rfl, by omega⟩
/-- the name's letters are the name where it ends as it must -/
theorem item_class {l : List Nat} {i : Nat} (h : gN l i = 91 ∧ gN l (i + 1) = 58) : itemAt l i = if classOf (nmRun l (i + 2)) = [] ∨ ¬ (gN l (i + 2 + (nmRun l (i + 2)).length) = 58 ∧ gN l (i + 2 + (nmRun l (i + 2)).length + 1) = 93) then .er 4 0 else .ok (classOf (nmRun l (i + 2))) (i + 2 + (nmRun l (i + 2)).length + 2) := by
  unfold itemAt
  rw [if_pos h]
  clear h
  generalize i + 2 = k
  by_cases he : nameAtC l k = nmRun l k
  · rw [he]
  · have hsub : ∃ t c, (l.drop k).takeWhile (fun c => c != 58) = nmRun l k ++ c :: t ∧ 128 ≤ c := name_more (l.drop k) he
    obtain ⟨t, c, h1, h2⟩ := hsub
    have hn : nameAtC l k = nmRun l k ++ c :: t := h1
    have hcl : classOf (nameAtC l k) = [] := classOf_high (c := c) (by rw [hn]; simp) h2
    rw [if_pos (Or.inl hcl)]
    have hst := nmRun_stop l k (by
      have := congrArg List.length h1
      have h3 : ((l.drop k).takeWhile (fun c => c != 58)).length ≤ (l.drop k).length := List.Sublist.length_le (List.takeWhile_sublist _)
      rw [List.length_drop] at h3
      simp only [List.length_append, List.length_cons] at this
      omega)
    have hc : gN l (k + (nmRun l k).length) = c := by
      have h5 : ((l.drop k).takeWhile (fun c => c != 58))[(nmRun l k).length]? = some c := by rw [h1]; simp
      have h6 : ((l.drop k).takeWhile (fun c => c != 58))[(nmRun l k).length]? = (l.drop k)[(nmRun l k).length]? := by
        obtain ⟨t2, ht2⟩ := List.takeWhile_prefix (fun c => c != 58) (l := l.drop k)
        conv => rhs; rw [← ht2]
        rw [List.getElem?_append_left (by rw [h1]; simp)]
      rw [h6, List.getElem?_drop] at h5
      unfold gN
      rw [List.getD_eq_getElem?_getD, h5]; rfl
    rw [if_pos (Or.inr (by rw [hc]; omega))]
end Go.Proofs.YtomcoilmpkpoeaaGreatDoor
