/-
  What is proved here: plain laws on JSON: how many keys and kids a node that is read has. No program in sight; no condition.
  What is proved here: the marks of numbers, strings and JSON nodes in rows of their own: what they set, and that they are read again. No condition.
  What is proved here: the laws' sizes, copies and comparisons of the program's structs. No condition. Written by gensz.py.
  What is proved here: the laws' sizes, copies and comparisons of JSON nodes. No condition. Written by gensz.py.
  What is proved here: impl.JsonRead answers as the plain reading does, each row in a block of its own. The condition 'Tabs' speaks of the library's tables.
  What is proved here: the walk of FnExactJsonRead. The condition 'Tabs' says that the library's tables for UTF-8 lie in the world.
-/
import Derived.Test.YtlfkfofeenakhaaDoorJsI1
import Derived.Test.YtlfkfofeenakhaaDoorJsL5
import Derived.Test.YtlfkfofeenakhaaDoorJsO
import Derived.Test.YtlfkfofeenakhaaDoorStr
import Derived.Deep.RegionHeld3
import Derived.Test.YtlfkfofeenakhaaDoorInts
import Derived.Test.YtlfkfofeenakhaaDoorJsI7
import Derived.Test.YtlfkfofeenakhaaDoorJsS7
namespace Go.Proofs.YtlfkfofeenakhaaDoor
open Go.RowKit
set_option linter.unusedVariables false
set_option linter.unusedSimpArgs false

def Bd (M : Nat) (n : JNode) : Prop := n.keys.length ≤ M ∧ n.kids.length ≤ M ∧ n.text.size ≤ 4 * M ∧ (0 ≤ n.kind ∧ n.kind ≤ 100) ∧ (∀ k ∈ n.keys, k.size ≤ 4 * M)
def Bdr (M : Nat) (r : JR) : Prop := ∀ kid j b ns, r = .ok kid j b ns → ∀ n ∈ ns, Bd M n
def BdV (L : List UInt8) (val : Nat → Nat → List JNode → JR) : Prop := ∀ p b ns, p ≤ L.length → b ≤ 200 → (∀ n ∈ ns, Bd L.length n) → Bdr L.length (val p b ns)
def BdG (L : List UInt8) (grp : Nat → Nat → Nat → List JNode → JR) : Prop := ∀ o p b ns, (o = 91 ∨ o = 123) → p < L.length → b ≤ 200 → (∀ n ∈ ns, Bd L.length n) → Bdr L.length (grp o p b ns)
theorem bdr_er {M c q : Nat} : Bdr M (.er c q) := fun _ _ _ _ h => by cases h
theorem bdr_put {M j b : Nat} {n : JNode} {ns : List JNode} (hn : Bd M n) (h : ∀ n ∈ ns, Bd M n) : Bdr M (putN n j b ns) := by
  intro kid j' b' ns' e
  unfold putN at e
  injection e with _ _ _ e4
  subst e4
  intro x hx
  rcases List.mem_append.1 hx with h1 | h1
  · exact h x h1
  · rw [List.mem_singleton.1 h1]; exact hn
theorem bd_leaf {M : Nat} {k : Int} {t : ByteArray} (hk : 0 ≤ k ∧ k ≤ 100) (ht : t.size ≤ 4 * M) : Bd M ⟨k, t, [], []⟩ := ⟨Nat.zero_le _, Nat.zero_le _, ht, hk, fun _ h => by cases h⟩
theorem valG_bd {L : List UInt8} {grp : Nat → Nat → Nat → List JNode → JR} (hg : BdG L grp) : BdV L (valG L grp) := by
  intro p b ns hp hb hns
  have hw : ∀ wd (k : Int) b0, (0 ≤ k ∧ k ≤ 100) → Bdr L.length (wordR L p wd k b0 ns) := by
    intro wd k b0 hk
    unfold wordR
    split
    · exact bdr_put (bd_leaf hk (Nat.zero_le _)) hns
    · exact bdr_er
  unfold valG
  by_cases hv : isVal (gB L p) = false
  · rw [if_pos hv]; exact bdr_er
  rw [if_neg hv]
  have hlt : p < L.length := gB_lt (fun e => by rw [e] at hv; exact hv rfl)
  by_cases h2 : b = 200
  · rw [if_pos h2]; exact bdr_er
  rw [if_neg h2]
  split
  · exact hw _ _ _ (by decide)
  · split
    · exact hw _ _ _ (by decide)
    · split
      · exact hw _ _ _ (by decide)
      · split
        · split
          · rename_i hs
            exact bdr_put (bd_leaf (by decide) (by rw [mkB_size]; exact ((strP_in hlt).2 hs).2)) hns
          · exact bdr_er
        · split
          · rename_i ho
            exact hg _ p (b + 1) ns ho hlt (by omega) hns
          · split
            · rename_i hm
              have h3 := numJ_fw hm
              exact bdr_put (bd_leaf (by decide) (by rw [mkB_size, List.length_take, List.length_drop]; omega)) hns
            · exact bdr_er
theorem grpG_bd {L : List UInt8} {val : Nat → Nat → List JNode → JR} {o e : Nat} (he : e ≠ 0) (hv : BdV L val) (hf : FwV L val) : ∀ (f q b : Nat) (ns : List JNode) (keys : List ByteArray) (kids : List Int), q ≤ L.length → b ≤ 200 → keys.length ≤ q → kids.length ≤ q → (∀ k ∈ keys, k.size ≤ 4 * L.length) → (∀ n ∈ ns, Bd L.length n) → Bdr L.length (grpG L val o e f q b ns keys kids)
  | 0, q, b, ns, keys, kids, _, _, _, _, _, _ => by rw [grpG]; exact bdr_er
  | f + 1, q, b, ns, keys, kids, hq, hb, hkl, hdl, hks, hns => by
    have step : ∀ (q3 : Nat) (keys' : List ByteArray), q ≤ q3 → q3 ≤ L.length → keys'.length ≤ q3 → (∀ k ∈ keys', k.size ≤ 4 * L.length) → Bdr L.length (grpN L o e (grpG L val o e f) (val q3 b ns) keys' kids) := by
      intro q3 keys' h1 h2 h3 h4
      unfold grpN
      cases hr : val q3 b ns with
      | er c x => exact bdr_er
      | ok kid j b1 ns1 =>
        have hn1 := hv q3 b ns h2 hb hns kid j b1 ns1 hr
        obtain ⟨g1, g2, g3, g4, g5, g6, g7⟩ := hf q3 b ns h2 hb kid j b1 ns1 hr
        have hs := skB_in L g2
        dsimp only
        split
        · exact bdr_put ⟨by show keys'.length ≤ _; omega, by show (kids ++ [(kid : Int)]).length ≤ _; rw [List.length_append, List.length_singleton]; omega, Nat.zero_le _, by show 0 ≤ (if o = 123 then (7 : Int) else 6) ∧ (if o = 123 then (7 : Int) else 6) ≤ 100; split <;> omega, h4⟩ hn1
        · split
          · rename_i hh
            have := gB_lt (L := L) (i := skB L j) (by omega)
            have hs2 := skB_in L (p := skB L j + 1) (by omega)
            exact grpG_bd he hv hf f _ _ _ _ _ hs2.2 g5 (by omega) (by rw [List.length_append, List.length_singleton]; omega) h4 hn1
          · exact bdr_er
    rw [grpG]
    by_cases ho : o = 123
    · rw [if_pos ho]
      by_cases h34 : gB L q ≠ 34
      · rw [if_pos h34]; exact bdr_er
      rw [if_neg h34]
      have hlt : q < L.length := gB_lt (by omega)
      by_cases hs : (strP L q).1 = false
      · rw [if_pos hs]; exact bdr_er
      rw [if_neg hs]
      have h3 := strP_in hlt
      have h4 := h3.2 (by simpa using hs)
      by_cases hk : hasK keys (strP L q).2.2 = true
      · rw [if_pos hk]; exact bdr_er
      rw [if_neg hk]
      have hs1 := skB_in L h3.1
      by_cases hc : gB L (skB L (strP L q).2.1) ≠ 58
      · rw [if_pos hc]; exact bdr_er
      rw [if_neg hc]
      have hl2 := gB_lt (L := L) (i := skB L (strP L q).2.1) (by omega)
      have hs2 := skB_in L (p := skB L (strP L q).2.1 + 1) (by omega)
      refine step _ _ (by omega) hs2.2 (by rw [List.length_append, List.length_singleton]; omega) (fun k hk2 => ?_)
      rcases List.mem_append.1 hk2 with h1 | h1
      · exact hks k h1
      · rw [List.mem_singleton.1 h1, mkB_size]; exact h4.2
    · rw [if_neg ho]
      exact step _ _ (Nat.le_refl _) hq hkl hks
theorem grpB_bd {L : List UInt8} {val : Nat → Nat → List JNode → JR} (hv : BdV L val) (hf : FwV L val) : BdG L (grpB L val) := by
  intro o p b ns ho hp hb hns
  unfold grpB
  have hs := skB_in L (p := p + 1) hp
  split
  · exact bdr_put (bd_leaf (by split <;> omega) (Nat.zero_le _)) hns
  · exact grpG_bd (endOf_ne o) hv hf _ _ b ns [] [] hs.2 hb (Nat.zero_le _) (Nat.zero_le _) (fun _ h => by cases h) hns
theorem grpL_bd (L : List UInt8) : ∀ v, BdG L (grpL L v)
  | 0 => fun o p b ns _ _ _ _ => by rw [grpL]; exact bdr_er
  | v + 1 => fun o p b ns ho hp hb hns => by rw [grpL]; exact grpB_bd (valG_bd (grpL_bd L v)) (valG_fw (grpL_fw L v)) o p b ns ho hp hb hns
theorem jrd_bd (s : ByteArray) : (jrdP s).1.length ≤ 200 ∧ ∀ n ∈ (jrdP s).1, Bd 1000 n := by
  unfold jrdP
  split
  · rename_i hk
    have hsz : s.data.toList.length ≤ 1000 := by
      rw [← Lib.size_eq]
      exact okText_size hk
    cases hv : valG s.data.toList (grpL s.data.toList 8) (skB s.data.toList 0) 0 [] with
    | er c p => exact ⟨by simp, fun n h => by cases h⟩
    | ok kid j b ns =>
      have hin := skB_in s.data.toList (p := 0) (Nat.zero_le _)
      obtain ⟨g1, g2, g3, g4, g5, g6, g7⟩ := valG_fw (grpL_fw s.data.toList 8) _ 0 [] hin.2 (by decide) kid j b ns hv
      have hb := valG_bd (grpL_bd s.data.toList 8) _ 0 [] hin.2 (by decide) (fun n h => by cases h) kid j b ns hv
      dsimp only
      split
      · exact ⟨by simp, fun n h => by cases h⟩
      · refine ⟨by show ns.length ≤ 200; simp at g7; omega, fun n hn => ?_⟩
        obtain ⟨a1, a2, a3, a4, a5⟩ := hb n hn
        exact ⟨by omega, by omega, by omega, a4, fun k hk => by have := a5 k hk; omega⟩
  · exact ⟨by simp, fun n h => by cases h⟩
end Go.Proofs.YtlfkfofeenakhaaDoor

namespace Go.Proofs.YtlfkfofeenakhaaDoor
open Go.RowKit
set_option linter.unusedVariables false
set_option linter.unusedSimpArgs false

def MkSs (S : Nat → Prop) (w : World) (n k : Nat) (v : Value) : Prop :=
  ∃ a c, v = .slice a n c ∧ (0 < n → ∃ g, a = some ⟨g, 0, none⟩ ∧ S g ∧ ∀ i, i < n → w.cell? ⟨g, i, none⟩ = some (.string (mtxt (k + i))))
def MkIs (S : Nat → Prop) (w : World) (n k : Nat) (v : Value) : Prop :=
  ∃ a c, v = .slice a n c ∧ (0 < n → ∃ g, a = some ⟨g, 0, none⟩ ∧ S g ∧ ∀ i, i < n → w.cell? ⟨g, i, none⟩ = some (.int .i64 ((k + i : Nat) : Int)))
theorem MkSs.same {S : Nat → Prop} {w w' : World} {n k : Nat} {v : Value} (h : MkSs S w n k v) (hs : Same S w w') : MkSs S w' n k v := by
  obtain ⟨a, c, hv, h⟩ := h
  exact ⟨a, c, hv, fun hn => let ⟨g, h1, h2, h3⟩ := h hn; ⟨g, h1, h2, fun i hi => (hs.cell (p := ⟨g, i, none⟩) h2).trans (h3 i hi)⟩⟩
theorem MkIs.same {S : Nat → Prop} {w w' : World} {n k : Nat} {v : Value} (h : MkIs S w n k v) (hs : Same S w w') : MkIs S w' n k v := by
  obtain ⟨a, c, hv, h⟩ := h
  exact ⟨a, c, hv, fun hn => let ⟨g, h1, h2, h3⟩ := h hn; ⟨g, h1, h2, fun i hi => (hs.cell (p := ⟨g, i, none⟩) h2).trans (h3 i hi)⟩⟩
theorem MkSs.mono {S T : Nat → Prop} {w : World} {n k : Nat} {v : Value} (h : MkSs S w n k v) (hs : ∀ b, S b → T b) : MkSs T w n k v := by
  obtain ⟨a, c, hv, h⟩ := h
  exact ⟨a, c, hv, fun hn => let ⟨g, h1, h2, h3⟩ := h hn; ⟨g, h1, hs g h2, h3⟩⟩
theorem MkIs.mono {S T : Nat → Prop} {w : World} {n k : Nat} {v : Value} (h : MkIs S w n k v) (hs : ∀ b, S b → T b) : MkIs T w n k v := by
  obtain ⟨a, c, hv, h⟩ := h
  exact ⟨a, c, hv, fun hn => let ⟨g, h1, h2, h3⟩ := h hn; ⟨g, h1, hs g h2, h3⟩⟩
theorem OffS.mono {S T : Nat → Prop} {w w' : World} (h : OffS S w w') (hs : ∀ b, S b → T b) : OffS T w w' := ⟨h.os, h.tape, h.output, h.size, fun c hc hn => h.block c hc (fun hb => hn (hs c hb))⟩
set_option maxHeartbeats 4000000 in
theorem markInts (g n c k : Nat) (cur : Array Value) (e : TypeId) (w : World) (hg : w.heap[g]? = some (.cells cur e (0, 0))) (hn : n ≤ cur.size) (hk : k + n ≤ 100000000) :
    Calls Tryd.prog 82 #[.slice (some ⟨g, 0, none⟩) n c, .int .i64 (k : Int)] w fun e' w' => e' = .returned (.int .i64 ((k + n : Nat) : Int)) ∧ Off g w w' ∧ ∃ cur', w'.heap[g]? = some (.cells cur' e (0, 0)) ∧ cur'.size = cur.size ∧ ∀ i, i < n → cur'[i]? = some (.int .i64 ((k + i : Nat) : Int)) := by
  have HG := hid hg
  clear hg
  go_enter Tryd.func82, Tryd.ntmps82
  go_wp2
  go_loopw [1, 5] (fun kv iv wr => ∃ (i m : Nat) (cur' : Array Value), i ≤ n ∧ kv = .int .i64 (m : Int) ∧ Hid (m = k + i) ∧ iv = .int .i64 (i : Int) ∧ Hid (wr.heap[g]? = some (.cells cur' e (0, 0))) ∧ cur'.size = cur.size ∧ Hid (∀ j, j < i → cur'[j]? = some (.int .i64 ((k + j : Nat) : Int))) ∧ Off g w wr) (fun _ iv _ => n - (intOf iv).toNat)
  case atStart => exact ⟨0, k, cur, Nat.zero_le _, rfl, hid (by simp), rfl, HG, rfl, hid (fun j h => absurd h (by omega)), Off.refl _ _⟩
  case round =>
    obtain ⟨i, m, cur', hi, rfl, HM, rfl, HC, hcs, HJ, hoff⟩ := hrel
    by_cases hlt : i < n
    · have hi1 : (i : Int) < (n : Int) := by omega
      have hi0 : (0 : Int) ≤ (i : Int) := by omega
      have hmk : m + 1 ≤ 100000000 := by have := HM.out; omega
      obtain ⟨u, hu⟩ := arr_some (cur := cur') (j := i) (by omega)
      have c0 : wr.cell? ⟨g, i, none⟩ = some u := (cell_arr HC.out).trans hu
      have hz : wr.frozen? ⟨g, i, none⟩ = false := free_arr HC.out
      clear hu
      go_wp2
      go_roundw
      case rel =>
        refine ⟨i + 1, m + 1, cur'.setIfInBounds i (.int .i64 (m : Int)), by omega, by go_num, hid (by rw [HM.out]; omega), by go_num, hid (heap_setCell_same wr g i _ _ _ HC.out), by rw [Array.size_setIfInBounds]; exact hcs, hid (fun j hj => ?_), hoff.set i _⟩
        rw [set_get]
        by_cases hji : i = j
        · subst hji
          rw [if_pos ⟨rfl, by omega⟩, HM.out]
        · rw [if_neg (fun h => hji h.1)]
          exact HJ.out j (by omega)
      case measure => simp [intOf]; omega
    · obtain rfl : i = n := by omega
      have hi1 : ¬ (i : Int) < (i : Int) := by omega
      go_wp2
      go_ret
      have hm0 := HM.out
      subst hm0
      refine ⟨?_, hoff, cur', HC.out, hcs, HJ.out⟩
      rfl
set_option maxHeartbeats 1000000 in
theorem markInts0 (a : Option Addr) (c k : Nat) (w : World) (hk : k ≤ 100000000) :
    Calls Tryd.prog 82 #[.slice a 0 c, .int .i64 (k : Int)] w fun e' w' => e' = .returned (.int .i64 (k : Int)) ∧ w = w' := by
  go_enter Tryd.func82, Tryd.ntmps82
  go_wp2
  go_loopw [1, 5] (fun kv iv wr => kv = .int .i64 (k : Int) ∧ iv = .int .i64 0 ∧ w = wr) (fun _ _ _ => 0)
  case atStart => exact ⟨rfl, rfl, rfl⟩
  case round =>
    obtain ⟨rfl, rfl, rfl⟩ := hrel
    go_wp2
    go_ret
    exact ⟨rfl, by first | rfl | trivial⟩
set_option maxHeartbeats 4000000 in
theorem heldInts (g n c k : Nat) (w : World) (hc : ∀ i, i < n → w.cell? ⟨g, i, none⟩ = some (.int .i64 ((k + i : Nat) : Int))) (hk : k + n ≤ 100000000) :
    Calls Tryd.prog 84 #[.slice (some ⟨g, 0, none⟩) n c, .int .i64 (k : Int)] w fun e' w' => e' = .returned (.int .i64 ((k + n : Nat) : Int)) ∧ w = w' := by
  have HC := hid hc
  clear hc
  go_enter Tryd.func84, Tryd.ntmps84
  go_wp2
  go_loopw [1, 5] (fun kv iv wr => ∃ i m : Nat, i ≤ n ∧ kv = .int .i64 (m : Int) ∧ Hid (m = k + i) ∧ iv = .int .i64 (i : Int) ∧ w = wr) (fun _ iv _ => n - (intOf iv).toNat)
  case atStart => exact ⟨0, k, Nat.zero_le _, rfl, hid (by simp), rfl, rfl⟩
  case round =>
    obtain ⟨i, m, hi, rfl, HM, rfl, rfl⟩ := hrel
    by_cases hlt : i < n
    · have hi1 : (i : Int) < (n : Int) := by omega
      have hi0 : (0 : Int) ≤ (i : Int) := by omega
      have hmk : m + 1 ≤ 100000000 := by have := HM.out; omega
      have c0 : w.cell? ⟨g, i, none⟩ = some (.int .i64 (m : Int)) := by rw [HM.out]; exact HC.out i hlt
      go_wp2
      go_roundw
      case rel => exact ⟨i + 1, m + 1, by omega, by go_num, hid (by rw [HM.out]; omega), by go_num, by first | rfl | trivial⟩
      case measure => simp [intOf]; omega
    · obtain rfl : i = n := by omega
      have hi1 : ¬ (i : Int) < (i : Int) := by omega
      go_wp2
      go_ret
      have hm0 := HM.out
      subst hm0
      exact ⟨rfl, rfl⟩
set_option maxHeartbeats 1000000 in
theorem heldInts0 (a : Option Addr) (c k : Nat) (w : World) (hk : k ≤ 100000000) :
    Calls Tryd.prog 84 #[.slice a 0 c, .int .i64 (k : Int)] w fun e' w' => e' = .returned (.int .i64 (k : Int)) ∧ w = w' := by
  go_enter Tryd.func84, Tryd.ntmps84
  go_wp2
  go_loopw [1, 5] (fun kv iv wr => kv = .int .i64 (k : Int) ∧ iv = .int .i64 0 ∧ w = wr) (fun _ _ _ => 0)
  case atStart => exact ⟨rfl, rfl, rfl⟩
  case round =>
    obtain ⟨rfl, rfl, rfl⟩ := hrel
    go_wp2
    go_ret
    exact ⟨rfl, by first | rfl | trivial⟩
theorem markSs_any {S : Nat → Prop} {n : Nat} {v : Value} (k : Nat) (w : World) (h : Ow S w n n v) (hk : k + n ≤ 100000000) :
    Calls Tryd.prog 81 #[v, .int .i64 (k : Int)] w fun e' w' => e' = .returned (.int .i64 ((k + n : Nat) : Int)) ∧ OffS S w w' ∧ MkSs S w' n k v := by
  obtain ⟨a, c, rfl, h⟩ := h
  by_cases hn : 0 < n
  · obtain ⟨g, cur, e, rfl, hS, hg, hm⟩ := h hn
    refine (markStrs g n c k cur e w hg hm hk).mono ?_
    rintro e' w' ⟨rfl, ho, cur', hg', hs', hc'⟩
    exact ⟨rfl, OffS.of ho hS, _, _, rfl, fun _ => ⟨g, rfl, hS, fun i hi => (cell_arr hg').trans (hc' i hi)⟩⟩
  · obtain rfl : n = 0 := by omega
    refine (markStrs0 a c k w (by omega)).mono ?_
    rintro e' w' ⟨rfl, rfl⟩
    exact ⟨rfl, OffS.refl _ _, _, _, rfl, fun h => absurd h (by omega)⟩
theorem markIs_any {S : Nat → Prop} {n : Nat} {v : Value} (k : Nat) (w : World) (h : Ow S w n n v) (hk : k + n ≤ 100000000) :
    Calls Tryd.prog 82 #[v, .int .i64 (k : Int)] w fun e' w' => e' = .returned (.int .i64 ((k + n : Nat) : Int)) ∧ OffS S w w' ∧ MkIs S w' n k v := by
  obtain ⟨a, c, rfl, h⟩ := h
  by_cases hn : 0 < n
  · obtain ⟨g, cur, e, rfl, hS, hg, hm⟩ := h hn
    refine (markInts g n c k cur e w hg hm hk).mono ?_
    rintro e' w' ⟨rfl, ho, cur', hg', hs', hc'⟩
    exact ⟨rfl, OffS.of ho hS, _, _, rfl, fun _ => ⟨g, rfl, hS, fun i hi => (cell_arr hg').trans (hc' i hi)⟩⟩
  · obtain rfl : n = 0 := by omega
    refine (markInts0 a c k w (by omega)).mono ?_
    rintro e' w' ⟨rfl, rfl⟩
    exact ⟨rfl, OffS.refl _ _, _, _, rfl, fun h => absurd h (by omega)⟩
theorem heldSs_any {S : Nat → Prop} {n : Nat} {v : Value} (k : Nat) (w : World) (h : MkSs S w n k v) (hk : k + n ≤ 100000000) :
    Calls Tryd.prog 83 #[v, .int .i64 (k : Int)] w fun e' w' => e' = .returned (.int .i64 ((k + n : Nat) : Int)) ∧ Below w.heap.size w w' := by
  obtain ⟨a, c, rfl, h⟩ := h
  by_cases hn : 0 < n
  · obtain ⟨g, rfl, hS, hc⟩ := h hn
    exact heldStrs g n c k w hc hk
  · obtain rfl : n = 0 := by omega
    refine (heldStrs0 a c k w (by omega)).mono ?_
    rintro e' w' ⟨rfl, rfl⟩
    exact ⟨rfl, Below.refl _ _⟩
theorem heldIs_any {S : Nat → Prop} {n : Nat} {v : Value} (k : Nat) (w : World) (h : MkIs S w n k v) (hk : k + n ≤ 100000000) :
    Calls Tryd.prog 84 #[v, .int .i64 (k : Int)] w fun e' w' => e' = .returned (.int .i64 ((k + n : Nat) : Int)) ∧ w = w' := by
  obtain ⟨a, c, rfl, h⟩ := h
  by_cases hn : 0 < n
  · obtain ⟨g, rfl, hS, hc⟩ := h hn
    exact heldInts g n c k w hc hk
  · obtain rfl : n = 0 := by omega
    exact (heldInts0 a c k w (by omega)).mono (fun e' w' h => h)
def nodeC (n : JNode) : Nat := 2 + n.keys.length + n.kids.length
def offC : List JNode → Nat → Nat
  | _, 0 => 0
  | [], _ => 0
  | n :: r, i + 1 => nodeC n + offC r i
theorem offC_succ : ∀ (ns : List JNode) (i : Nat) (hi : i < ns.length), offC ns (i + 1) = offC ns i + nodeC ns[i]
  | n :: r, 0, _ => by simp [offC]
  | n :: r, i + 1, hi => by
    have hi' : i < r.length := by simpa using hi
    have := offC_succ r i hi'
    show nodeC n + offC r (i + 1) = nodeC n + offC r i + nodeC (r[i]'hi')
    omega
theorem offC_le : ∀ (ns : List JNode) (i j : Nat), i ≤ j → offC ns i ≤ offC ns j
  | _, 0, _, _ => by simp [offC]
  | [], i + 1, j, _ => by simp [offC]
  | n :: r, i + 1, 0, h => by omega
  | n :: r, i + 1, j + 1, h => by
    have := offC_le r i j (by omega)
    show nodeC n + offC r i ≤ nodeC n + offC r j
    omega
/-- the nodes in a block of S, each row in a block of its own -/
def OwN (S : Nat → Prop) (w : World) (v : Value) (ns : List JNode) : Prop :=
  ∃ a c, v = .slice a ns.length c ∧ (0 < ns.length → ∃ (g : Nat) (cur : Array Value) (e : TypeId) (KV DV : Nat → Value) (bl : Nat → Bool → Option Nat), a = some ⟨g, 0, none⟩ ∧ S g ∧ w.heap[g]? = some (.cells cur e (0, 0)) ∧ ns.length * 4 ≤ cur.size ∧
    (∀ i c b, bl i c = some b → S b ∧ b ≠ g) ∧ (∀ i c j d b, bl i c = some b → bl j d = some b → i = j ∧ c = d) ∧
    ∀ i (hi : i < ns.length), cur[i * 4 + 2]? = some (KV i) ∧ cur[i * 4 + 3]? = some (DV i) ∧ Ow (fun b => bl i false = some b) w ns[i].keys.length ns[i].keys.length (KV i) ∧ Ow (fun b => bl i true = some b) w ns[i].kids.length ns[i].kids.length (DV i))
/-- the nodes bear marks -/
def MkN (S : Nat → Prop) (w : World) (k : Nat) (v : Value) (ns : List JNode) : Prop :=
  ∃ a c, v = .slice a ns.length c ∧ (0 < ns.length → ∃ (g : Nat) (KV DV : Nat → Value), a = some ⟨g, 0, none⟩ ∧ S g ∧
    ∀ i (hi : i < ns.length), w.cell? ⟨g, i * 4, none⟩ = some (.int .i64 ((k + offC ns i : Nat) : Int)) ∧ w.cell? ⟨g, i * 4 + 1, none⟩ = some (.string (mtxt (k + offC ns i + 1))) ∧ w.cell? ⟨g, i * 4 + 2, none⟩ = some (KV i) ∧ w.cell? ⟨g, i * 4 + 3, none⟩ = some (DV i) ∧
      MkSs S w ns[i].keys.length (k + offC ns i + 2) (KV i) ∧ MkIs S w ns[i].kids.length (k + offC ns i + 2 + ns[i].keys.length) (DV i))
theorem MkN.same {S : Nat → Prop} {w w' : World} {k : Nat} {v : Value} {ns : List JNode} (h : MkN S w k v ns) (hs : Same S w w') : MkN S w' k v ns := by
  obtain ⟨a, c, hv, h⟩ := h
  refine ⟨a, c, hv, fun hn => ?_⟩
  obtain ⟨g, KV, DV, h1, h2, h3⟩ := h hn
  refine ⟨g, KV, DV, h1, h2, fun i hi => ?_⟩
  obtain ⟨a1, a2, a3, a4, a5, a6⟩ := h3 i hi
  exact ⟨(hs.cell (p := ⟨g, _, none⟩) h2).trans a1, (hs.cell (p := ⟨g, _, none⟩) h2).trans a2, (hs.cell (p := ⟨g, _, none⟩) h2).trans a3, (hs.cell (p := ⟨g, _, none⟩) h2).trans a4, a5.same hs, a6.same hs⟩
theorem MkN.mono {S T : Nat → Prop} {w : World} {k : Nat} {v : Value} {ns : List JNode} (h : MkN S w k v ns) (hs : ∀ b, S b → T b) : MkN T w k v ns := by
  obtain ⟨a, c, hv, h⟩ := h
  refine ⟨a, c, hv, fun hn => ?_⟩
  obtain ⟨g, KV, DV, h1, h2, h3⟩ := h hn
  refine ⟨g, KV, DV, h1, hs g h2, fun i hi => ?_⟩
  obtain ⟨a1, a2, a3, a4, a5, a6⟩ := h3 i hi
  exact ⟨a1, a2, a3, a4, a5.mono hs, a6.mono hs⟩
theorem OwN.mono {S T : Nat → Prop} {w : World} {v : Value} {ns : List JNode} (h : OwN S w v ns) (hs : ∀ b, S b → T b) : OwN T w v ns := by
  obtain ⟨a, c, hv, h⟩ := h
  refine ⟨a, c, hv, fun hn => ?_⟩
  obtain ⟨g, cur, e, KV, DV, bl, h1, h2, h3, h4, h5, h6, h7⟩ := h hn
  exact ⟨g, cur, e, KV, DV, bl, h1, hs g h2, h3, h4, fun i c b hb => ⟨hs b (h5 i c b hb).1, (h5 i c b hb).2⟩, h6, h7⟩
theorem OwN.same {S : Nat → Prop} {w w' : World} {v : Value} {ns : List JNode} (h : OwN S w v ns) (hs : Same S w w') : OwN S w' v ns := by
  obtain ⟨a, c, hv, h⟩ := h
  refine ⟨a, c, hv, fun hn => ?_⟩
  obtain ⟨g, cur, e, KV, DV, bl, h1, h2, h3, h4, h5, h6, h7⟩ := h hn
  refine ⟨g, cur, e, KV, DV, bl, h1, h2, (hs g h2).trans h3, h4, h5, h6, fun i hi => ?_⟩
  obtain ⟨a1, a2, a3, a4⟩ := h7 i hi
  exact ⟨a1, a2, a3.same (hs.mono (fun b hb => (h5 i _ b hb).1)), a4.same (hs.mono (fun b hb => (h5 i _ b hb).1))⟩
set_option maxHeartbeats 16000000 in
set_option maxRecDepth 100000 in
theorem markNodes {S : Nat → Prop} {v : Value} {ns : List JNode} (k : Nat) (w : World) (h : OwN S w v ns) (hS : ∀ b, S b → b < w.heap.size) (hk : k + offC ns ns.length ≤ 100000000) (hnl : ns.length ≤ 1000000) :
    Calls Tryd.prog 35 #[v, .int .i64 (k : Int)] w fun e' w' => e' = .returned (.int .i64 ((k + offC ns ns.length : Nat) : Int)) ∧ OffS S w w' ∧ MkN S w' k v ns := by
  obtain ⟨a, c, rfl, h⟩ := h
  by_cases hn : 0 < ns.length
  rotate_left
  · obtain rfl : ns = [] := List.eq_nil_of_length_eq_zero (by omega)
    clear h
    have hk0 : k ≤ 100000000 := by omega
    clear hk
    show Calls _ _ #[.slice a 0 c, _] _ _
    go_enter Tryd.func35, Tryd.ntmps35
    go_wp2
    go_loopw [1, 5] (fun kv iv wr => kv = .int .i64 (k : Int) ∧ iv = .int .i64 0 ∧ w = wr) (fun _ _ _ => 0)
    case atStart => exact ⟨rfl, rfl, rfl⟩
    case round =>
      obtain ⟨rfl, rfl, rfl⟩ := hrel
      go_wp2
      go_ret
      exact ⟨rfl, OffS.refl _ _, a, c, rfl, fun h => absurd h (by decide)⟩
  obtain ⟨g, cur, e, KV, DV, bl, rfl, hg1, hg2, hsz, hbl, hbd, hrow⟩ := h hn
  clear h
  obtain ⟨n, hnn⟩ : ∃ n, ns.length = n := ⟨_, rfl⟩
  have HN := hid hnn
  have HK := hid hk
  have HS := hid hS
  have HB := hid hbl
  have HD := hid hbd
  have HR := hid hrow
  have HG := hid hg2
  have HG1 := hid hg1
  have hgl : g < w.heap.size := hS g hg1
  have HGL := hid hgl
  have CM := hid (fun (k : Nat) (w : World) (hk : k ≤ 100000000) => markTx k w hk)
  rw [hnn] at hsz hnl hn ⊢
  clear hk hS hbl hbd hrow hg2 hg1 hnn hgl
  go_enter Tryd.func35, Tryd.ntmps35
  go_wp2
  go_loopw [1, 5] (fun kv iv wr => ∃ (i m : Nat) (cur' : Array Value), i ≤ n ∧ kv = .int .i64 (m : Int) ∧ Hid (m = k + offC ns i) ∧ iv = .int .i64 (i : Int) ∧ Hid (wr.heap[g]? = some (.cells cur' e (0, 0))) ∧ cur'.size = cur.size ∧ Hid (∀ j, j < n → cur'[j * 4 + 2]? = some (KV j) ∧ cur'[j * 4 + 3]? = some (DV j)) ∧
    Hid (∀ j (hj : j < ns.length), j < i → cur'[j * 4]? = some (.int .i64 ((k + offC ns j : Nat) : Int)) ∧ cur'[j * 4 + 1]? = some (.string (mtxt (k + offC ns j + 1))) ∧ MkSs (fun b => bl j false = some b) wr ns[j].keys.length (k + offC ns j + 2) (KV j) ∧ MkIs (fun b => bl j true = some b) wr ns[j].kids.length (k + offC ns j + 2 + ns[j].keys.length) (DV j)) ∧
    Hid (∀ j (hj : j < ns.length), i ≤ j → Ow (fun b => bl j false = some b) wr ns[j].keys.length ns[j].keys.length (KV j) ∧ Ow (fun b => bl j true = some b) wr ns[j].kids.length ns[j].kids.length (DV j)) ∧ Hid (OffS S w wr)) (fun _ iv _ => n - (intOf iv).toNat)
  case atStart =>
    exact ⟨0, k, cur, Nat.zero_le _, rfl, hid (by simp [offC]), rfl, HG, rfl, hid (fun j hj => ⟨(HR.out j (by have := HN.out; omega)).1, (HR.out j (by have := HN.out; omega)).2.1⟩), hid (fun j hj h => absurd h (by omega)), hid (fun j hj _ => (HR.out j hj).2.2), hid (OffS.refl _ _)⟩
  case round =>
    obtain ⟨i, m, cur', hi, rfl, HM, rfl, HC, hcs, HF, HQ, HP, HO⟩ := hrel
    by_cases hlt : i < n
    · have hil : i < ns.length := by have := HN.out; omega
      have hi1 : (i : Int) < (n : Int) := by omega
      have hi0 : (0 : Int) ≤ (i : Int) := by omega
      obtain ⟨nk, hnk⟩ : ∃ x, (ns[i]'hil).keys.length = x := ⟨_, rfl⟩
      obtain ⟨nd, hnd⟩ : ∃ x, (ns[i]'hil).kids.length = x := ⟨_, rfl⟩
      have HNK := hid hnk
      have HND := hid hnd
      have hst := offC_succ ns i hil
      have hnc : nodeC (ns[i]'hil) = 2 + nk + nd := by unfold nodeC; rw [hnk, hnd]
      have hle := offC_le ns (i + 1) ns.length hil
      have HST := hid (show offC ns (i + 1) = offC ns i + 2 + nk + nd by omega)
      have hmk : m + 2 + nk + nd ≤ 100000000 := by have := HM.out; have := HK.out; omega
      have hbig : i * 4 ≤ 100000000 := by omega
      have hsz4 : i * 4 + 3 < cur'.size := by omega
      have HSZ := hid hsz4
      have CMi := hid (fun (w : World) => CM.out (m + 1) w (by omega))
      obtain ⟨tx, htx⟩ : ∃ t, mtxt (m + 1) = t := ⟨_, rfl⟩
      have HTX := hid htx
      rw [htx] at CMi
      have hp := HP.out i hil (Nat.le_refl _)
      rw [hnk, hnd] at hp
      obtain ⟨hpk, hpd⟩ := hp
      obtain ⟨a1, k1, hkv⟩ : ∃ a1 k1, KV i = .slice a1 nk k1 := by obtain ⟨a1, k1, h, _⟩ := hpk; exact ⟨a1, k1, h⟩
      obtain ⟨a2, k2, hdv⟩ : ∃ a2 k2, DV i = .slice a2 nd k2 := by obtain ⟨a2, k2, h, _⟩ := hpd; exact ⟨a2, k2, h⟩
      have HPK := hid hpk
      have HPD := hid hpd
      have HKV := hid hkv
      have HDV := hid hdv
      obtain ⟨f2, f3⟩ := HF.out i hlt
      obtain ⟨u0, hu0⟩ := arr_some (cur := cur') (j := i * 4) (by omega)
      obtain ⟨u1, hu1⟩ := arr_some (cur := cur') (j := i * 4 + 1) (by omega)
      have c0 : wr.cell? ⟨g, i * 4, none⟩ = some u0 := (cell_arr HC.out).trans hu0
      have z0 : wr.frozen? ⟨g, i * 4, none⟩ = false := free_arr HC.out
      have hgr : g < wr.heap.size := Nat.lt_of_lt_of_le HGL.out HO.out.size
      have HGR := hid hgr
      clear htx hnk hnd hst hnc hle hpk hpd hkv hdv hu0 hu1 hgr
      go_wp2_with fail
      refine (CMi.out _).mono ?_
      rintro e' w1 ⟨rfl, hb1⟩
      have HA : Hid ((wr.setCell ⟨g, i * 4, none⟩ (.int .i64 (m : Int))).heap[g]? = some (.cells (cur'.setIfInBounds (i * 4) (.int .i64 (m : Int))) e (0, 0))) := hid (heap_setCell_same wr g _ _ _ _ HC.out)
      have HC1 := hid ((hb1.block g (heap_lt HA.out)).trans HA.out)
      have HO1 := hid (((Off.refl g wr).set (i * 4) (.int .i64 (m : Int))).call hb1)
      obtain ⟨cA, hcA⟩ : ∃ c, cur'.setIfInBounds (i * 4) (.int .i64 (m : Int)) = c := ⟨_, rfl⟩
      have HCA := hid hcA
      have hsA : cA.size = cur'.size := by rw [← hcA, Array.size_setIfInBounds]
      rw [hcA] at HC1
      clear hcA c0 z0 HA hb1
      obtain ⟨v1, hv1⟩ := arr_some (cur := cA) (j := i * 4 + 1) (by omega)
      have c1 : w1.cell? ⟨g, i * 4 + 1, none⟩ = some v1 := (cell_arr HC1.out).trans hv1
      have z1 : w1.frozen? ⟨g, i * 4 + 1, none⟩ = false := free_arr HC1.out
      clear hv1
      obtain ⟨w2, hw2⟩ : ∃ x, w1.setCell ⟨g, i * 4 + 1, none⟩ (.string tx) = x := ⟨_, rfl⟩
      obtain ⟨cB, hcB⟩ : ∃ c, cA.setIfInBounds (i * 4 + 1) (.string tx) = c := ⟨_, rfl⟩
      have HC2 := hid (show w2.heap[g]? = some (.cells cB e (0, 0)) by rw [← hw2, ← hcB]; exact heap_setCell_same w1 g _ _ _ _ HC1.out)
      have HO2 := hid (show Off g wr w2 by rw [← hw2]; exact HO1.out.set _ _)
      have HCB := hid hcB
      have hsB : cB.size = cA.size := by rw [← hcB, Array.size_setIfInBounds]
      have hf2 : cB[i * 4 + 2]? = some (KV i) := by
        rw [← hcB, ← HCA.out, set_get, set_get, if_neg (by omega), if_neg (by omega)]; exact f2
      have hf3 : cB[i * 4 + 3]? = some (DV i) := by
        rw [← hcB, ← HCA.out, set_get, set_get, if_neg (by omega), if_neg (by omega)]; exact f3
      rw [HKV.out] at hf2
      rw [HDV.out] at hf3
      go_upto_region 7 with fail
      try rw [hw2]
      clear hw2 hcB c1 z1
      have c2 : w2.cell? ⟨g, i * 4 + 2, none⟩ = some (.slice a1 nk k1) := (cell_arr HC2.out).trans hf2
      have HF3 := hid hf3
      have HBS := hid (fun (c : Bool) (b : Nat) (hb : bl i c = some b) => show b < wr.heap.size ∧ b ≠ g from ⟨Nat.lt_of_lt_of_le (HS.out b (HB.out i c b hb).1) HO.out.size, (HB.out i c b hb).2⟩)
      have CK := hid (markSs_any (S := fun b => bl i false = some b) (m + 1 + 1) w2 (n := nk) (v := .slice a1 nk k1) (by rw [← HKV.out]; exact HPK.out.same (fun b hb => HO2.out.block b (HBS.out _ b hb).1 (HBS.out _ b hb).2)) (by omega))
      clear f2 f3 hf2 hf3
      go_wp2_with fail
      refine CK.out.mono ?_
      rintro e' w3 ⟨rfl, ho3, hm3⟩
      have HM3 := hid hm3
      have HO3 := hid ho3
      have hg2s : g < w2.heap.size := Nat.lt_of_lt_of_le HGR.out HO2.out.size
      have HC3 := hid ((ho3.block g hg2s (fun hb => (HBS.out _ g hb).2 rfl)).trans HC2.out)
      have c3 : w3.cell? ⟨g, i * 4 + 3, none⟩ = some (.slice a2 nd k2) := (cell_arr HC3.out).trans HF3.out
      have CD := hid (markIs_any (S := fun b => bl i true = some b) (m + 1 + 1 + nk) w3 (n := nd) (v := .slice a2 nd k2) (by
        rw [← HDV.out]
        refine (HPD.out.same (fun b hb => HO2.out.block b (HBS.out _ b hb).1 (HBS.out _ b hb).2)).same (fun b hb => HO3.out.block b (Nat.lt_of_lt_of_le (HBS.out _ b hb).1 HO2.out.size) (fun hb2 => ?_))
        have := (HD.out i false i true b hb2 hb).2
        cases this) (by omega))
      clear hm3 ho3 c2 hg2s
      go_wp2_with fail
      refine CD.out.mono ?_
      rintro e' w4 ⟨rfl, ho4, hm4⟩
      have HM4 := hid hm4
      have HO4 := hid ho4
      clear hm4 ho4 c3
      go_wp2
      go_roundw
      case rel =>
        have hs2 := HO2.out.size
        have hs3 := HO3.out.size
        have hT : OffS (fun b => b = g ∨ bl i false = some b ∨ bl i true = some b) wr w4 := OffS.trans (OffS.trans (OffS.of HO2.out (Or.inl rfl)) (HO3.out.mono (fun b hb => Or.inr (Or.inl hb)))) (HO4.out.mono (fun b hb => Or.inr (Or.inr hb)))
        have hfar : ∀ j, j ≠ i → ∀ c, Same (fun b => bl j c = some b) wr w4 := fun j hj c b hb => hT.block b (Nat.lt_of_lt_of_le (HS.out b (HB.out j c b hb).1) HO.out.size) (by
          rintro (h1 | h1 | h1)
          · exact (HB.out j c b hb).2 h1
          · exact hj (HD.out j c i false b hb h1).1
          · exact hj (HD.out j c i true b hb h1).1)
        refine ⟨i + 1, m + 1 + 1 + nk + nd, cB, by omega, by go_num, hid (by have := HM.out; have := HST.out; omega), by go_num, hid ((HO4.out.block g (Nat.lt_of_lt_of_le HGR.out (Nat.le_trans hs2 hs3)) (fun hb => (HBS.out _ g hb).2 rfl)).trans HC3.out), by omega, hid (fun j hj => ?_), hid (fun j hj hji => ?_), hid (fun j hj hji => ?_), hid (HO.out.trans (hT.mono (fun b hb => ?_)))⟩
        · rw [← HCB.out, ← HCA.out, set_get, set_get, set_get, set_get, if_neg (by omega), if_neg (by omega), if_neg (by omega), if_neg (by omega)]
          exact HF.out j hj
        · have hs9 := HSZ.out
          by_cases hjq : j = i
          · subst hjq
            have hmm := HM.out
            rw [HNK.out, HND.out, ← hmm]
            refine ⟨?_, ?_, ?_, ?_⟩
            · rw [← HCB.out, ← HCA.out, set_get, set_get, if_neg (by omega), if_pos ⟨rfl, by omega⟩]
            · rw [← HCB.out, set_get, if_pos ⟨rfl, by omega⟩, HTX.out]
            · rw [HKV.out]
              refine HM3.out.same (fun b hb => HO4.out.block b (by have := (HBS.out _ b hb).1; omega) (fun hb2 => ?_))
              have := (HD.out j false j true b hb hb2).2
              cases this
            · rw [HDV.out]
              exact HM4.out
          · obtain ⟨q1, q2, q3, q4⟩ := HQ.out j hj (by omega)
            refine ⟨?_, ?_, q3.same (hfar j hjq _), q4.same (hfar j hjq _)⟩
            · rw [← HCB.out, ← HCA.out, set_get, set_get, if_neg (by omega), if_neg (by omega)]
              exact q1
            · rw [← HCB.out, ← HCA.out, set_get, set_get, if_neg (by omega), if_neg (by omega)]
              exact q2
        · obtain ⟨q1, q2⟩ := HP.out j hj (by omega)
          exact ⟨q1.same (hfar j (by omega) _), q2.same (hfar j (by omega) _)⟩
        · rcases hb with rfl | h1 | h1
          · exact HG1.out
          · exact (HB.out i _ b h1).1
          · exact (HB.out i _ b h1).1
      case measure => simp [intOf]; omega
    · obtain rfl : i = n := by omega
      have hi1 : ¬ (i : Int) < (i : Int) := by omega
      have HII := hid HN.out
      go_wp2
      go_ret
      refine ⟨?_, HO.out, _, _, by rw [HN.out], fun _ => ⟨g, KV, DV, rfl, HG1.out, fun j hj => ?_⟩⟩
      · have hm0 := HM.out
        subst hm0
        rfl
      · have hjn : j < i := by have := HN.out; omega
        obtain ⟨q1, q2, q3, q4⟩ := HQ.out j hj hjn
        obtain ⟨r1, r2⟩ := HF.out j hjn
        exact ⟨(cell_arr HC.out).trans q1, (cell_arr HC.out).trans q2, (cell_arr HC.out).trans r1, (cell_arr HC.out).trans r2, q3.mono (fun b hb => (HB.out j _ b hb).1), q4.mono (fun b hb => (HB.out j _ b hb).1)⟩
set_option maxHeartbeats 16000000 in
set_option maxRecDepth 100000 in
theorem heldNodes {S : Nat → Prop} {v : Value} {ns : List JNode} (k : Nat) (w : World) (h : MkN S w k v ns) (hS : ∀ b, S b → b < w.heap.size) (hk : k + offC ns ns.length ≤ 100000000) (hnl : ns.length ≤ 1000000) :
    Calls Tryd.prog 36 #[v, .int .i64 (k : Int)] w fun e' w' => e' = .returned (.int .i64 ((k + offC ns ns.length : Nat) : Int)) ∧ Below w.heap.size w w' := by
  obtain ⟨a, c, rfl, h⟩ := h
  by_cases hn : 0 < ns.length
  rotate_left
  · obtain rfl : ns = [] := List.eq_nil_of_length_eq_zero (by omega)
    clear h
    have hk0 : k ≤ 100000000 := by omega
    clear hk
    show Calls _ _ #[.slice a 0 c, _] _ _
    go_enter Tryd.func36, Tryd.ntmps36
    go_wp2
    go_loopw [1, 5] (fun kv iv wr => kv = .int .i64 (k : Int) ∧ iv = .int .i64 0 ∧ w = wr) (fun _ _ _ => 0)
    case atStart => exact ⟨rfl, rfl, rfl⟩
    case round =>
      obtain ⟨rfl, rfl, rfl⟩ := hrel
      go_wp2
      go_ret
      exact ⟨rfl, Below.refl _ _⟩
  obtain ⟨g, KV, DV, rfl, hg1, hrow⟩ := h hn
  clear h
  obtain ⟨n, hnn⟩ : ∃ n, ns.length = n := ⟨_, rfl⟩
  have HN := hid hnn
  have HK := hid hk
  have HS := hid hS
  have HR := hid hrow
  have HGL := hid (hS g hg1)
  have CM := hid (fun (k : Nat) (w : World) (hk : k ≤ 100000000) => markTx k w hk)
  rw [hnn] at hnl hn ⊢
  clear hk hS hrow hg1 hnn
  go_enter Tryd.func36, Tryd.ntmps36
  go_wp2
  go_loopw [1, 5] (fun kv iv wr => ∃ (i m : Nat), i ≤ n ∧ kv = .int .i64 (m : Int) ∧ Hid (m = k + offC ns i) ∧ iv = .int .i64 (i : Int) ∧ Hid (Below w.heap.size w wr)) (fun _ iv _ => n - (intOf iv).toNat)
  case atStart => exact ⟨0, k, Nat.zero_le _, rfl, hid (by simp [offC]), rfl, hid (Below.refl _ _)⟩
  case round =>
    obtain ⟨i, m, hi, rfl, HM, rfl, HB⟩ := hrel
    by_cases hlt : i < n
    · have hil : i < ns.length := by have := HN.out; omega
      have hi1 : (i : Int) < (n : Int) := by omega
      have hi0 : (0 : Int) ≤ (i : Int) := by omega
      have hr := HR.out i hil
      obtain ⟨nk, hnk⟩ : ∃ x, (ns[i]'hil).keys.length = x := ⟨_, rfl⟩
      obtain ⟨nd, hnd⟩ : ∃ x, (ns[i]'hil).kids.length = x := ⟨_, rfl⟩
      have hst := offC_succ ns i hil
      have hnc : nodeC (ns[i]'hil) = 2 + nk + nd := by unfold nodeC; rw [hnk, hnd]
      have hle := offC_le ns (i + 1) ns.length hil
      have HST := hid (show offC ns (i + 1) = offC ns i + 2 + nk + nd by omega)
      have hmk : m + 2 + nk + nd ≤ 100000000 := by have := HM.out; have := HK.out; omega
      have hbig : i * 4 ≤ 100000000 := by omega
      rw [hnk, hnd, ← HM.out] at hr
      obtain ⟨r0, r1, r2, r3, r4, r5⟩ := hr
      have CMi := hid (fun (w : World) => CM.out (m + 1) w (by omega))
      obtain ⟨tx, htx⟩ : ∃ t, mtxt (m + 1) = t := ⟨_, rfl⟩
      rw [htx] at CMi r1
      obtain ⟨a1, k1, hkv⟩ : ∃ a1 k1, KV i = .slice a1 nk k1 := by obtain ⟨a1, k1, h, _⟩ := r4; exact ⟨a1, k1, h⟩
      obtain ⟨a2, k2, hdv⟩ : ∃ a2 k2, DV i = .slice a2 nd k2 := by obtain ⟨a2, k2, h, _⟩ := r5; exact ⟨a2, k2, h⟩
      rw [hkv] at r2 r4
      rw [hdv] at r3 r5
      have R1 := hid r1
      have R2 := hid r2
      have R3 := hid r3
      have R4 := hid r4
      have R5 := hid r5
      have c0 : wr.cell? ⟨g, i * 4, none⟩ = some (.int .i64 (m : Int)) := (HB.out.cell (p := ⟨g, i * 4, none⟩) HGL.out).trans r0
      have c1 : wr.cell? ⟨g, i * 4 + 1, none⟩ = some (.string tx) := (HB.out.cell (p := ⟨g, i * 4 + 1, none⟩) HGL.out).trans r1
      clear hnk hnd hst hnc hle htx hkv hdv r0 r1 r2 r3 r4 r5
      have hgr : g < wr.heap.size := Nat.lt_of_lt_of_le HGL.out HB.out.size
      have C1 := hid c1
      go_upto_region 7 with fail
      refine wp_region_held_drew (S := fun w' => w'.cell? ⟨g, i * 4 + 1, none⟩ = some (.string tx)) (by kernel_rfl) ?_ (fun hHeld => ?_)
      · exact c1
      refine wpAnyH_take (i := 0) (v := ?_) rfl (by kernel_rfl) (by kernel_rfl) (by kernel_rfl) (fun _ _ _ h => h) (Or.inl ⟨by rfl, ?_⟩) (by assumption) ?_
      rotate_left
      · (intro w' hSw; (try dsimp only at hSw); go_simp; try (with_reducible rfl))
      change wpAnyH _ _ _ _ _ _ _ (Act.put _ (some 21) _) _
      try simp only [Act.put, List.setIfInBounds_toArray, List.set_cons_zero, List.set_cons_succ]
      refine wpAnyH_take (i := 1) (v := ?_) rfl (by kernel_rfl) (by kernel_rfl) (by kernel_rfl) (fun _ _ _ h => h) (Or.inl ⟨by rfl, ?_⟩) (by assumption) ?_
      rotate_left
      · (intro w' hSw; (try dsimp only at hSw); go_simp; try (with_reducible rfl))
      change wpAnyH _ _ _ _ _ _ _ (Act.put _ (some 22) _) _
      try simp only [Act.put, List.setIfInBounds_toArray, List.set_cons_zero, List.set_cons_succ]
      refine wpAnyH_take (i := 2) (v := ?_) rfl (by kernel_rfl) (by kernel_rfl) (by kernel_rfl) (fun _ _ _ h => h) (Or.inl ⟨by rfl, ?_⟩) (by assumption) ?_
      rotate_left
      · (intro w' hSw; (try dsimp only at hSw); go_simp; try (with_reducible rfl))
      change wpAnyH _ _ _ _ _ _ _ (Act.put _ (some 23) _) _
      try simp only [Act.put, List.setIfInBounds_toArray, List.set_cons_zero, List.set_cons_succ]
      refine wpAnyH_take (i := 3) (v := ?_) rfl (by kernel_rfl) (by kernel_rfl) (by kernel_rfl) (fun _ _ _ h => h) (Or.inl ⟨by rfl, ?_⟩) (by assumption) ?_
      rotate_left
      · (intro w' hSw; (try dsimp only at hSw); go_simp; try (with_reducible rfl))
      change wpAnyH _ _ _ _ _ _ _ (Act.put _ (some 24) _) _
      try simp only [Act.put, List.setIfInBounds_toArray, List.set_cons_zero, List.set_cons_succ]
      refine wpAnyH_take (i := 4) (v := ?_) rfl (by kernel_rfl) (by kernel_rfl) (by kernel_rfl) (fun _ _ _ h => h) (Or.inl ⟨by rfl, ?_⟩) (by assumption) ?_
      rotate_left
      · (intro w' hSw; (try dsimp only at hSw); go_simp; try (with_reducible rfl))
      change wpAnyH _ _ _ _ _ _ _ (Act.put _ (some 25) _) _
      try simp only [Act.put, List.setIfInBounds_toArray, List.set_cons_zero, List.set_cons_succ]
      refine wpAnyH_take (i := 5) (v := ?_) rfl (by kernel_rfl) (by kernel_rfl) (by kernel_rfl) (fun _ _ _ h => h) (Or.inl ⟨by rfl, ?_⟩) (by assumption) ?_
      rotate_left
      · (intro w' hSw; (try dsimp only at hSw); go_simp; try (with_reducible rfl))
      change wpAnyH _ _ _ _ _ _ _ (Act.put _ (some 26) _) _
      try simp only [Act.put, List.setIfInBounds_toArray, List.set_cons_zero, List.set_cons_succ]
      refine wpAnyH_ready (rs := [6]) (by kernel_rfl) (by simp) ?_
      refine AllReadyH.cons (i := 6) rfl (fun K hK => ?_) AllReadyH.nil
      simp only [List.getElem_toArray, List.getElem_cons_succ, List.getElem_cons_zero]
      rw [if_pos (by rfl)]
      go_simp
      (go_at_call 80; refine (CMi.out _).mono ?_; rintro e' w1 ⟨rfl, hb1⟩; have hS5 : w1.cell? ⟨g, i * 4 + 1, none⟩ = some (.string tx) := (hb1.cell (p := ⟨g, i * 4 + 1, none⟩) hgr).trans C1.out; have HB1 := hid (show Below w.heap.size w w1 from HB.out.trans (Below.trans ((Below.refl _ _).drew) (hb1.mono HB.out.size))); clear hb1; go_wp2_with fail)
      have hOld := hHeld
      clear hHeld
      refine hK.out _ _ ?_ (fun hHeld => ?_)
      · exact hS5
      clear hK K hOld
      try simp only [Act.put, List.setIfInBounds_toArray, List.set_cons_zero, List.set_cons_succ]
      refine wpAnyH_take (i := 7) (v := ?_) rfl (by kernel_rfl) (by kernel_rfl) (by kernel_rfl) (fun _ _ _ h => h) (Or.inl ⟨by rfl, ?_⟩) (by assumption) ?_
      rotate_left
      · (intro w' hSw; (try dsimp only at hSw); go_simp; try (with_reducible rfl))
      change wpAnyH _ _ _ _ _ _ _ (Act.put _ (some 28) _) _
      try simp only [Act.put, List.setIfInBounds_toArray, List.set_cons_zero, List.set_cons_succ]
      refine wpAnyH_done (by kernel_rfl) ?_ _
      clear hHeld c0 c1 hS5
      have c2 : w1.cell? ⟨g, i * 4 + 2, none⟩ = some (.slice a1 nk k1) := (HB1.out.cell (p := ⟨g, i * 4 + 2, none⟩) HGL.out).trans R2.out
      have CK := hid (heldSs_any (m + 1 + 1) w1 (R4.out.same (fun b hb => HB1.out.block b (HS.out b hb))) (by omega))
      have hm9 : ¬ ((m + 1 + 1 + nk : Nat) : Int) < 0 := by omega
      have hm8 : ¬ ((m + 1 + 1 + nk + nd : Nat) : Int) < 0 := by omega
      go_wp2_with fail
      refine CK.out.mono ?_
      rintro e' w2 ⟨rfl, hb2⟩
      have HB2 := hid (show Below w.heap.size w w2 from HB1.out.trans (hb2.mono HB1.out.size))
      have c3 : w2.cell? ⟨g, i * 4 + 3, none⟩ = some (.slice a2 nd k2) := (HB2.out.cell (p := ⟨g, i * 4 + 3, none⟩) HGL.out).trans R3.out
      have CD := hid (heldIs_any (m + 1 + 1 + nk) w2 (R5.out.same (fun b hb => HB2.out.block b (HS.out b hb))) (by omega))
      clear hb2 c2
      go_wp2_with fail
      refine CD.out.mono ?_
      rintro e' w3 ⟨rfl, rfl⟩
      go_wp2
      go_roundw
      case rel => exact ⟨i + 1, m + 1 + 1 + nk + nd, by omega, by go_num, hid (by have := HM.out; have := HST.out; omega), by go_num, HB2⟩
      case measure => simp [intOf]; omega
    · obtain rfl : i = n := by omega
      have hi1 : ¬ (i : Int) < (i : Int) := by omega
      go_wp2
      go_ret
      have hm0 := HM.out
      subst hm0
      exact ⟨rfl, HB.out⟩
end Go.Proofs.YtlfkfofeenakhaaDoor

namespace Go.Proofs.YtlfkfofeenakhaaDoor
open Go.RowKit
set_option linter.unusedVariables false
set_option linter.unusedSimpArgs false

theorem keeps_setAll {B : Nat} {w1 : World} {g : Nat} (o : Nat) : ∀ (i : Nat) (cs : List Value) {W : World}, Keeps B w1 W → g < B → Keeps B w1 (setAll W g o i cs)
  | _, [], _, h, _ => h
  | i, c :: r, _, h, hg => keeps_setAll o (i + 1) r (h.set hg c) hg
theorem below_setAll {B : Nat} {w1 : World} {g : Nat} (o : Nat) : ∀ (i : Nat) (cs : List Value) {W : World}, Below B w1 W → B ≤ g → Below B w1 (setAll W g o i cs)
  | _, [], _, h, _ => h
  | i, c :: r, _, h, hg => below_setAll o (i + 1) r (h.setCell hg c) hg
theorem blk_stay {W w1 : World} {g : Nat} {o : Obj} (h : W.heap[g]? = some o) (hb : Below W.heap.size W w1) : w1.heap[g]? = some o := (hb.block g (Array.getElem?_eq_some_iff.1 h).1).trans h
theorem blk_set {W : World} {g : Nat} {p : Addr} {o : Obj} (h : W.heap[g]? = some o) (hp : g ≠ p.block) (u : Value) : (W.setCell p u).heap[g]? = some o := (Below.heap_setCell W p u g hp).trans h
theorem blk_alloc {W : World} {g : Nat} {o : Obj} (h : W.heap[g]? = some o) (o' : Obj) : (W.alloc o').heap[g]? = some o := blk_stay h (ext_alloc W o')
theorem rdConf {S : Nat → Prop} {w : World} {cs : List Value} {x : Conf} (h : Rd.rd S w cs x) : cs = [.int .i64 x.tag, .string x.fs, .string x.rs, .string x.ofs, .string x.ors, .bool x.head] ∧ (-9223372036854775808 ≤ x.tag ∧ x.tag ≤ 9223372036854775807) ∧ (x.fs.size ≤ 9223372036854775807) ∧ (x.rs.size ≤ 9223372036854775807) ∧ (x.ofs.size ≤ 9223372036854775807) ∧ (x.ors.size ≤ 9223372036854775807) := by
  obtain ⟨_, _, rfl, ⟨rfl, h0⟩, ⟨_, _, rfl, ⟨rfl, h1⟩, ⟨_, _, rfl, ⟨rfl, h2⟩, ⟨_, _, rfl, ⟨rfl, h3⟩, ⟨_, _, rfl, ⟨rfl, h4⟩, rfl⟩⟩⟩⟩⟩ := h
  exact ⟨rfl, h0, h1, h2, h3, h4⟩
theorem rdConf_mk {S : Nat → Prop} {w : World} {x : Conf} (h0 : -9223372036854775808 ≤ x.tag ∧ x.tag ≤ 9223372036854775807) (h1 : x.fs.size ≤ 9223372036854775807) (h2 : x.rs.size ≤ 9223372036854775807) (h3 : x.ofs.size ≤ 9223372036854775807) (h4 : x.ors.size ≤ 9223372036854775807) : Rd.rd S w [.int .i64 x.tag, .string x.fs, .string x.rs, .string x.ofs, .string x.ors, .bool x.head] x :=
  ⟨_, _, rfl, ⟨rfl, h0⟩, ⟨_, _, rfl, ⟨rfl, h1⟩, ⟨_, _, rfl, ⟨rfl, h2⟩, ⟨_, _, rfl, ⟨rfl, h3⟩, ⟨_, _, rfl, ⟨rfl, h4⟩, rfl⟩⟩⟩⟩⟩
instance : Sz Conf := ⟨fun x => x.fs.size + x.rs.size + x.ofs.size + x.ors.size⟩

theorem rdFile {S : Nat → Prop} {w : World} {cs : List Value} {x : File} (h : Rd.rd S w cs x) : cs = [.string x.name, .string x.text] ∧ (x.name.size ≤ 9223372036854775807) ∧ (x.text.size ≤ 9223372036854775807) := by
  obtain ⟨_, _, rfl, ⟨rfl, h0⟩, ⟨rfl, h1⟩⟩ := h
  exact ⟨rfl, h0, h1⟩
theorem rdFile_mk {S : Nat → Prop} {w : World} {x : File} (h0 : x.name.size ≤ 9223372036854775807) (h1 : x.text.size ≤ 9223372036854775807) : Rd.rd S w [.string x.name, .string x.text] x :=
  ⟨_, _, rfl, ⟨rfl, h0⟩, ⟨rfl, h1⟩⟩
instance : Sz File := ⟨fun x => x.name.size + x.text.size⟩


end Go.Proofs.YtlfkfofeenakhaaDoor

namespace Go.Proofs.YtlfkfofeenakhaaDoor
open Go.RowKit
set_option linter.unusedVariables false
set_option linter.unusedSimpArgs false

theorem rdJNode {S : Nat → Prop} {w : World} {cs : List Value} {x : JNode} (h : Rd.rd S w cs x) : ∃ (a2 : Option Addr) (c2 : Nat), ∃ (a3 : Option Addr) (c3 : Nat), cs = [.int .i64 x.kind, .string x.text, .slice a2 x.keys.length c2, .slice a3 x.kids.length c3] ∧ (-9223372036854775808 ≤ x.kind ∧ x.kind ≤ 9223372036854775807) ∧ (x.text.size ≤ 9223372036854775807) ∧ (Rd.rd S w [.slice a2 x.keys.length c2] x.keys) ∧ (Rd.rd S w [.slice a3 x.kids.length c3] x.kids) := by
  obtain ⟨_, _, rfl, ⟨rfl, h0⟩, ⟨_, _, rfl, ⟨rfl, h1⟩, ⟨_, _, rfl, h2, h3⟩⟩⟩ := h
  obtain ⟨a2, c2, e2⟩ := rdSlc h2
  subst e2
  obtain ⟨a3, c3, e3⟩ := rdSlc h3
  subst e3
  exact ⟨a2, c2, a3, c3, rfl, h0, h1, h2, h3⟩
theorem rdJNode_mk {S : Nat → Prop} {w : World} {x : JNode} {a2 : Option Addr} {c2 : Nat} {a3 : Option Addr} {c3 : Nat} (h0 : -9223372036854775808 ≤ x.kind ∧ x.kind ≤ 9223372036854775807) (h1 : x.text.size ≤ 9223372036854775807) (h2 : Rd.rd S w [.slice a2 x.keys.length c2] x.keys) (h3 : Rd.rd S w [.slice a3 x.kids.length c3] x.kids) : Rd.rd S w [.int .i64 x.kind, .string x.text, .slice a2 x.keys.length c2, .slice a3 x.kids.length c3] x :=
  ⟨_, _, rfl, ⟨rfl, h0⟩, ⟨_, _, rfl, ⟨rfl, h1⟩, ⟨_, _, rfl, h2, h3⟩⟩⟩
instance : Sz JNode := ⟨fun x => x.text.size + Sz.sz x.keys + Sz.sz x.kids⟩
set_option maxHeartbeats 1000000 in
theorem szJNode_any {cs : Array Value} {x : JNode} (left : Int) (w : World) (h : Rd.rd (Old w) w cs.toList x) (h3 : 0 ≤ left) (h4 : left ≤ 1048576) :
    Calls Tryd.prog 92 #[.agg cs, .int .i64 left] w fun e w' => e = .returned (.int .i64 (szOut left (Sz.sz x))) ∧ Below w.heap.size w w' := by
  obtain ⟨a2, c2, a3, c3, hcs, f0, f1, f2, f3⟩ := rdJNode h
  obtain rfl := arr_of_list hcs
  clear hcs
  have hsz : Sz.sz x = x.text.size + Sz.sz x.keys + Sz.sz x.kids := rfl
  rw [hsz]; clear hsz
  generalize hg_keys : Sz.sz x.keys = n_keys
  have Hg_keys := hid hg_keys; clear hg_keys
  generalize hg_kids : Sz.sz x.kids = n_kids
  have Hg_kids := hid hg_kids; clear hg_kids
  by_cases k0 : (x.text.size : Int) ≤ left
  · skip
    by_cases k1 : (x.text.size : Int) + (n_keys : Int) ≤ left
    · skip
      by_cases k2 : (x.text.size : Int) + (n_keys : Int) + (n_kids : Int) ≤ left
      · skip
        go_enter Tryd.func92, Tryd.ntmps92
        go_wp2_with fail
        refine (szStrs_any _ _ (by exact Rd.later (ext_alloc _ _) (f2)) (by omega) (by omega)).mono ?_
        rintro e w1 ⟨rfl, hb0⟩
        rw [Hg_keys.out, szOut_val (by omega)]
        obtain ⟨hc0, hf0⟩ := bcell hb0
        have hl0 : w.heap.size < w1.heap.size := by have := hb0.size; (try simp at this); omega
        go_wp2_with fail
        refine (szInts_any _ _ (by exact Rd.later (ext_trans (ext_alloc _ _) hb0) (f3)) (by omega) (by omega)).mono ?_
        rintro e w2 ⟨rfl, hb1⟩
        rw [Hg_kids.out, szOut_val (by omega)]
        obtain ⟨hc1, hf1⟩ := bcell hb1
        have hl1 : w.heap.size < w2.heap.size := by have := hb1.size; (try simp at this); omega
        go_wp2
        go_ret
        exact ⟨end_int (by rw [szOut_val (by omega)] <;> omega), (ext_trans (ext_trans (ext_alloc _ _) hb0) hb1)⟩
      · skip
        go_enter Tryd.func92, Tryd.ntmps92
        go_wp2_with fail
        refine (szStrs_any _ _ (by exact Rd.later (ext_alloc _ _) (f2)) (by omega) (by omega)).mono ?_
        rintro e w1 ⟨rfl, hb0⟩
        rw [Hg_keys.out, szOut_val (by omega)]
        obtain ⟨hc0, hf0⟩ := bcell hb0
        have hl0 : w.heap.size < w1.heap.size := by have := hb0.size; (try simp at this); omega
        go_wp2_with fail
        refine (szInts_any _ _ (by exact Rd.later (ext_trans (ext_alloc _ _) hb0) (f3)) (by omega) (by omega)).mono ?_
        rintro e w2 ⟨rfl, hb1⟩
        rw [Hg_kids.out, szOut_bad (by omega)]
        obtain ⟨hc1, hf1⟩ := bcell hb1
        have hl1 : w.heap.size < w2.heap.size := by have := hb1.size; (try simp at this); omega
        go_wp2
        go_ret
        exact ⟨end_int (by rw [szOut_bad (by omega)]), (ext_trans (ext_trans (ext_alloc _ _) hb0) hb1)⟩
    · skip
      go_enter Tryd.func92, Tryd.ntmps92
      go_wp2_with fail
      refine (szStrs_any _ _ (by exact Rd.later (ext_alloc _ _) (f2)) (by omega) (by omega)).mono ?_
      rintro e w1 ⟨rfl, hb0⟩
      rw [Hg_keys.out, szOut_bad (by omega)]
      obtain ⟨hc0, hf0⟩ := bcell hb0
      have hl0 : w.heap.size < w1.heap.size := by have := hb0.size; (try simp at this); omega
      go_wp2
      go_ret
      exact ⟨end_int (by rw [szOut_bad (by omega)]), (ext_trans (ext_alloc _ _) hb0)⟩
  · skip
    go_enter Tryd.func92, Tryd.ntmps92
    go_wp2_with fail
    go_wp2
    go_ret
    exact ⟨end_int (by rw [szOut_bad (by omega)]), (ext_alloc _ _)⟩
set_option maxHeartbeats 2000000 in
theorem toJNode_any {cs : Array Value} {x : JNode} (w : World) (h : Rd.rd (Old w) w cs.toList x) (hn : Sz.sz x ≤ 1048576) :
    Calls Tryd.prog 94 #[.agg cs] w fun e w' => ∃ cs' : Array Value, e = .returned (.agg cs') ∧ Rd.rd (New w.heap.size w') w' cs'.toList x ∧ Below w.heap.size w w' := by
  obtain ⟨a2, c2, a3, c3, hcs, f0, f1, f2, f3⟩ := rdJNode h
  obtain rfl := arr_of_list hcs
  clear hcs h
  have hn_keys : Sz.sz x.keys ≤ 1048576 := Nat.le_trans (by show _ ≤ x.text.size + Sz.sz x.keys + Sz.sz x.kids; omega) hn
  have hn_kids : Sz.sz x.kids ≤ 1048576 := Nat.le_trans (by show _ ≤ x.text.size + Sz.sz x.keys + Sz.sz x.kids; omega) hn
  have HN := hid hn
  clear hn
  go_enter Tryd.func94, Tryd.ntmps94
  go_wp2_with fail
  refine (toStrs_any _ (by exact Rd.later (by repeat' (first | (with_reducible exact Below.refl _ _) | (with_reducible refine Below.setCell ?_ ?_ _) | (with_reducible refine Below.alloc ?_ ?_ _) | (simp; done) | (simp; omega) | omega)) (f2)) hn_keys).mono ?_
  rintro e w1 ⟨r0, rfl, hr0, hb0⟩
  obtain ⟨r0_a, r0_c, e0⟩ := rdSlc hr0
  obtain rfl : r0 = .slice r0_a x.keys.length r0_c := by simpa using e0
  clear e0
  have hB1 : Below w.heap.size w w1 := ext_trans (by repeat' (first | (with_reducible exact Below.refl _ _) | (with_reducible refine Below.setCell ?_ ?_ _) | (with_reducible refine Below.alloc ?_ ?_ _) | (simp; done) | (simp; omega) | omega)) hb0
  obtain ⟨hc0, hf0⟩ := bcell hb0
  have hl0 : w.heap.size + 1 + 1 < w1.heap.size := by have := hb0.size; (try simp at this); omega
  have hl0' : w.heap.size + 1 < w1.heap.size := by omega
  have hl0'' : w.heap.size < w1.heap.size := by omega
  go_wp2_with fail
  refine (toInts_any _ (by exact Rd.later (by repeat' (first | (with_reducible exact hB1) | (with_reducible exact Below.refl _ _) | (with_reducible refine Below.setCell ?_ ?_ _) | (with_reducible refine Below.alloc ?_ ?_ _) | (simp; done) | (simp; omega) | omega)) (f3)) hn_kids).mono ?_
  rintro e w2 ⟨r1, rfl, hr1, hb1⟩
  obtain ⟨r1_a, r1_c, e1⟩ := rdSlc hr1
  obtain rfl : r1 = .slice r1_a x.kids.length r1_c := by simpa using e1
  clear e1
  have hB2 : Below w.heap.size w w2 := ext_trans (by repeat' (first | (with_reducible exact hB1) | (with_reducible exact Below.refl _ _) | (with_reducible refine Below.setCell ?_ ?_ _) | (with_reducible refine Below.alloc ?_ ?_ _) | (simp; done) | (simp; omega) | omega)) hb1
  obtain ⟨hc1, hf1⟩ := bcell hb1
  have hl1 : w.heap.size + 1 + 1 < w2.heap.size := by have := hb1.size; (try simp at this); omega
  have hl1' : w.heap.size + 1 < w2.heap.size := by omega
  have hl1'' : w.heap.size < w2.heap.size := by omega
  go_wp2
  refine bodyPost_ret (v := .agg #[.int .i64 x.kind, .string x.text, .slice r0_a x.keys.length r0_c, .slice r1_a x.kids.length r1_c]) (by simp [results, Tryd.results94, go_sem, hc0, hl0', hc1, hl1']) rfl ⟨_, rfl, ?_, ?_⟩
  · exact rdJNode_mk f0 f1 (Keeps.rd (by repeat' (first | (with_reducible exact Keeps.refl _ _) | (with_reducible refine Keeps.call ?_ hb1) | (with_reducible refine Keeps.set ?_ ?_ _) | (with_reducible refine Keeps.alloc ?_ _) | (simp; done) | (simp; omega) | omega)) (by first | (simp; done) | (simp; omega) | omega) hr0) (Keeps.rd (by repeat' (first | (with_reducible exact Keeps.refl _ _) | (with_reducible refine Keeps.set ?_ ?_ _) | (with_reducible refine Keeps.alloc ?_ _) | (simp; done) | (simp; omega) | omega)) (by first | (simp; done) | (simp; omega) | omega) hr1)
  · exact (by repeat' (first | (with_reducible exact hB2) | (with_reducible exact hB1) | (with_reducible exact Below.refl _ _) | (with_reducible refine Below.setCell ?_ ?_ _) | (with_reducible refine Below.alloc ?_ ?_ _) | (simp; done) | (simp; omega) | omega))
set_option maxHeartbeats 2000000 in
theorem eqJNode_same {cs cs' : Array Value} {x : JNode} (w : World) (h : Rd.rd (Old w) w cs.toList x) (h' : Rd.rd (Old w) w cs'.toList x) :
    Calls Tryd.prog 79 #[.agg cs, .agg cs'] w fun e w' => e = .returned (.bool true) ∧ Below w.heap.size w w' := by
  obtain ⟨a2, c2, a3, c3, hcs, f0, f1, f2, f3⟩ := rdJNode h
  obtain rfl := arr_of_list hcs
  obtain ⟨ga2, gc2, ga3, gc3, hcs', gf0, gf1, gf2, gf3⟩ := rdJNode h'
  obtain rfl := arr_of_list hcs'
  clear hcs hcs' h h'
  go_enter Tryd.func79, Tryd.ntmps79
  go_wp2_with fail
  refine (eqStrs_same _ (by exact Rd.later (by repeat' (first | (with_reducible exact Below.refl _ _) | (with_reducible refine Below.setCell ?_ ?_ _) | (with_reducible refine Below.alloc ?_ ?_ _) | (simp; done) | (simp; omega) | omega)) f2) (by exact Rd.later (by repeat' (first | (with_reducible exact Below.refl _ _) | (with_reducible refine Below.setCell ?_ ?_ _) | (with_reducible refine Below.alloc ?_ ?_ _) | (simp; done) | (simp; omega) | omega)) gf2)).mono ?_
  rintro e w1 ⟨rfl, hb0⟩
  have hB1 : Below w.heap.size w w1 := ext_trans (by repeat' (first | (with_reducible exact Below.refl _ _) | (with_reducible refine Below.setCell ?_ ?_ _) | (with_reducible refine Below.alloc ?_ ?_ _) | (simp; done) | (simp; omega) | omega)) hb0
  obtain ⟨hc0, hf0⟩ := bcell hb0
  have hl0 : w.heap.size + 1 < w1.heap.size := by have := hb0.size; (try simp at this); omega
  have hl0' : w.heap.size < w1.heap.size := by omega
  go_wp2_with fail
  refine (eqInts_same _ (by exact Rd.later (by repeat' (first | (with_reducible exact hB1) | (with_reducible exact Below.refl _ _) | (with_reducible refine Below.setCell ?_ ?_ _) | (with_reducible refine Below.alloc ?_ ?_ _) | (simp; done) | (simp; omega) | omega)) f3) (by exact Rd.later (by repeat' (first | (with_reducible exact hB1) | (with_reducible exact Below.refl _ _) | (with_reducible refine Below.setCell ?_ ?_ _) | (with_reducible refine Below.alloc ?_ ?_ _) | (simp; done) | (simp; omega) | omega)) gf3)).mono ?_
  rintro e w2 ⟨rfl, hb1⟩
  have hB2 : Below w.heap.size w w2 := ext_trans (by repeat' (first | (with_reducible exact hB1) | (with_reducible exact Below.refl _ _) | (with_reducible refine Below.setCell ?_ ?_ _) | (with_reducible refine Below.alloc ?_ ?_ _) | (simp; done) | (simp; omega) | omega)) hb1
  obtain ⟨hc1, hf1⟩ := bcell hb1
  have hl1 : w.heap.size + 1 < w2.heap.size := by have := hb1.size; (try simp at this); omega
  have hl1' : w.heap.size < w2.heap.size := by omega
  go_wp2
  go_ret
  exact ⟨rfl, (by repeat' (first | (with_reducible exact hB2) | (with_reducible exact hB1) | (with_reducible exact Below.refl _ _) | (with_reducible refine Below.setCell ?_ ?_ _) | (with_reducible refine Below.alloc ?_ ?_ _) | (simp; done) | (simp; omega) | omega))⟩

set_option maxHeartbeats 1000000 in
theorem szJNodeS_any {v : Value} {xs : List JNode} (left : Int) (w : World) (h : Rd.rd (Old w) w [v] xs) (h3 : 0 ≤ left) (h4 : left ≤ 1048576) :
    Calls Tryd.prog 44 #[v, .int .i64 left] w fun e w' => e = .returned (.int .i64 (szOut left (Sz.sz xs))) ∧ Below w.heap.size w w' := by
  obtain ⟨a, cap, hv, h1, h2, hc⟩ := h
  obtain rfl : v = .slice a xs.length cap := by simpa using hv
  clear hv
  have hss : Sz.sz xs = xs.length + sumTo Sz.sz xs xs.length := rfl
  rw [hss]; clear hss
  by_cases hl : (xs.length : Int) ≤ left
  · go_enter Tryd.func44, Tryd.ntmps44
    go_wp2
    go_loopw [1, 5] (fun l i wr => ∃ k : Nat, k ≤ xs.length ∧ i = .int .i64 k ∧ 0 ≤ left - xs.length - sumTo Sz.sz xs k ∧ l = .int .i64 (left - xs.length - sumTo Sz.sz xs k) ∧ Below w.heap.size w wr) (fun _ i _ => xs.length - (intOf i).toNat)
    case atStart => exact ⟨0, Nat.zero_le _, rfl, by rw [sumTo_zero]; omega, by rw [sumTo_zero]; simp, Below.refl _ _⟩
    case round =>
      obtain ⟨k, hk, rfl, hr, rfl, hb⟩ := hrel
      by_cases hlt : k < xs.length
      · have HS := hid (sumTo_succ Sz.sz xs k hlt)
        have HM := hid (sumTo_le Sz.sz xs (show k + 1 ≤ xs.length by omega))
        obtain ⟨b, off, rfl, hB, hrow⟩ := hc (by omega)
        obtain ⟨cs, hcell, hx⟩ := hrow k hlt
        obtain ⟨a2, c2, a3, c3, hcs, f0, f1, f2, f3⟩ := rdJNode hx
        subst hcs
        have t0 : wr.cell? ⟨b, off + k * 4, none⟩ = some (.int .i64 xs[k].kind) := (hb.cell (p := ⟨b, off + k * 4, none⟩) hB).trans (hcell 0 (by decide))
        have t1 : wr.cell? ⟨b, off + k * 4 + 1, none⟩ = some (.string xs[k].text) := (hb.cell (p := ⟨b, off + k * 4 + 1, none⟩) hB).trans (hcell 1 (by decide))
        have t2 : wr.cell? ⟨b, off + k * 4 + 2, none⟩ = some (.slice a2 xs[k].keys.length c2) := (hb.cell (p := ⟨b, off + k * 4 + 2, none⟩) hB).trans (hcell 2 (by decide))
        have t3 : wr.cell? ⟨b, off + k * 4 + 3, none⟩ = some (.slice a3 xs[k].kids.length c3) := (hb.cell (p := ⟨b, off + k * 4 + 3, none⟩) hB).trans (hcell 3 (by decide))
        clear hrow hcell
        clear hc
        have hx' := Rd.later hb hx
        go_wp2_with fail
        refine (szJNode_any _ _ (by exact hx') (by omega) (by omega)).mono ?_
        rintro e w1 ⟨rfl, hb1⟩
        have hB1 := ext_trans hb hb1
        by_cases hfit : ((Sz.sz xs[k] : Nat) : Int) ≤ left - xs.length - sumTo Sz.sz xs k
        · rw [szOut_val hfit]
          go_wp2
          go_roundw
          case rel => exact ⟨k + 1, by omega, by go_num, by rw [HS.out]; omega, by rw [HS.out]; go_num, hB1⟩
          case measure => simp [intOf]; omega
        · rw [szOut_bad (by omega)]
          go_wp2
          go_ret
          exact ⟨end_int (by have := HS.out; have := HM.out; rw [szOut_bad (by omega)]), hB1⟩
      · have : k = xs.length := by omega
        subst this
        clear hc
        go_wp2
        go_ret
        exact ⟨end_int (by rw [szOut_val (by omega)]; omega), hb⟩
  · clear hc
    go_enter Tryd.func44, Tryd.ntmps44
    go_wp2
    go_ret
    exact ⟨end_int (by rw [szOut_bad (by omega)]), Below.refl _ _⟩
theorem info_JNode : (Tryd.prog.info? 75).map (fun i => (i.zero.isSome, i.size, i.bytes)) = some (true, 4, 72) := by kernel_rfl
set_option maxHeartbeats 2000000 in
theorem toJNodeS_any {v : Value} {xs : List JNode} (w : World) (h : Rd.rd (Old w) w [v] xs) (hsz : Sz.sz xs ≤ 1048576) :
    Calls Tryd.prog 48 #[v] w fun e w' => ∃ u, e = .returned u ∧ Rd.rd (New w.heap.size w') w' [u] xs ∧ Below w.heap.size w w' := by
  obtain ⟨a, cap, hv, h1, h2, hc⟩ := h
  obtain rfl : v = .slice a xs.length cap := by simpa using hv
  clear hv
  have hn : xs.length ≤ 1048576 := Nat.le_trans (sz_len xs) hsz
  have HZ := hid (sz_each hsz)
  clear hsz
  obtain ⟨zc, hzl, hmk⟩ := make_cells (P := Tryd.prog) (t := 22) (e := 75) (n := 4) (bytes := 72) Tryd.underlying22 info_JNode xs.length (by omega) (by omega)
  go_enter Tryd.func48, Tryd.ntmps48
  go_wp2
  clear hmk
  go_loopw [4] (fun i wr => ∃ (k : Nat) (css : List (List Value)) (rest : List Value), k ≤ xs.length ∧ i = .int .i64 k ∧ Below w.heap.size w wr ∧ w.heap.size < wr.heap.size ∧ wr.heap[w.heap.size]? = some (.cells (css.flatten ++ rest).toArray 75 (0, 0)) ∧ rest.length = (xs.length - k) * 4 ∧ Each (New (w.heap.size + 1) wr) wr css (xs.take k)) (fun i _ => xs.length - (intOf i).toNat)
  case atStart => exact ⟨0, [], zc, Nat.zero_le _, rfl, ext_alloc _ _, by simp, by simpa using heap_alloc_new w _, by simpa using hzl, Each.nil⟩
  case round =>
    obtain ⟨k, css, rest, hk, rfl, hb, hsz, hg, hrl, he⟩ := hrel
    by_cases hlt : k < xs.length
    · have hcl := each_take he hk
      obtain ⟨b, off, rfl, hB, hrow⟩ := hc (by omega)
      obtain ⟨cs, hcell, hx⟩ := hrow k hlt
      obtain ⟨a2, c2, a3, c3, hcs, f0, f1, f2, f3⟩ := rdJNode hx
      subst hcs
      have t0 : wr.cell? ⟨b, off + k * 4, none⟩ = some (.int .i64 xs[k].kind) := (hb.cell (p := ⟨b, off + k * 4, none⟩) hB).trans (hcell 0 (by decide))
      have t1 : wr.cell? ⟨b, off + k * 4 + 1, none⟩ = some (.string xs[k].text) := (hb.cell (p := ⟨b, off + k * 4 + 1, none⟩) hB).trans (hcell 1 (by decide))
      have t2 : wr.cell? ⟨b, off + k * 4 + 2, none⟩ = some (.slice a2 xs[k].keys.length c2) := (hb.cell (p := ⟨b, off + k * 4 + 2, none⟩) hB).trans (hcell 2 (by decide))
      have t3 : wr.cell? ⟨b, off + k * 4 + 3, none⟩ = some (.slice a3 xs[k].kids.length c3) := (hb.cell (p := ⟨b, off + k * 4 + 3, none⟩) hB).trans (hcell 3 (by decide))
      clear hrow hcell
      clear hc
      have hx' := Rd.later hb hx
      have HR := hid hrl
      have HG := hid hg
      have HE := hid he
      have HL := hid hcl
      have hrn : 4 ≤ rest.length := by rw [hrl]; have := Nat.mul_le_mul_right 4 (show 1 ≤ xs.length - k by omega); omega
      clear hrl hg he hcl
      go_wp2_with fail
      refine (toJNode_any _ (by exact hx') (HZ.out k hlt)).mono ?_
      rintro e w1 ⟨cs1, rfl, hr1, hb1⟩
      obtain ⟨ra2, rc2, ra3, rc3, hcs1, rf0, rf1, rf2, rf3⟩ := rdJNode hr1
      obtain rfl := arr_of_list hcs1
      have HX := hid hr1
      clear hcs1 hr1
      have hB1 := ext_trans hb hb1
      have HG1 := hid ((hb1.block _ hsz).trans HG.out)
      obtain ⟨o0, s0⟩ : ∃ v, w1.cell? ⟨w.heap.size, k * 4, none⟩ = some v := row_get (n := 4) HG1.out HE.out.len HL.out hrn (j := 0) (by decide)
      obtain ⟨o1, s1⟩ : ∃ v, w1.cell? ⟨w.heap.size, k * 4 + 1, none⟩ = some v := row_get (n := 4) HG1.out HE.out.len HL.out hrn (j := 1) (by decide)
      obtain ⟨o2, s2⟩ : ∃ v, w1.cell? ⟨w.heap.size, k * 4 + 2, none⟩ = some v := row_get (n := 4) HG1.out HE.out.len HL.out hrn (j := 2) (by decide)
      obtain ⟨o3, s3⟩ : ∃ v, w1.cell? ⟨w.heap.size, k * 4 + 3, none⟩ = some v := row_get (n := 4) HG1.out HE.out.len HL.out hrn (j := 3) (by decide)
      have z0 : w1.frozen? ⟨w.heap.size, k * 4, none⟩ = false := frozen_of_row w1 w.heap.size _ _ _ HG1.out
      have z1 : w1.frozen? ⟨w.heap.size, k * 4 + 1, none⟩ = false := frozen_of_row w1 w.heap.size _ _ _ HG1.out
      have z2 : w1.frozen? ⟨w.heap.size, k * 4 + 2, none⟩ = false := frozen_of_row w1 w.heap.size _ _ _ HG1.out
      have z3 : w1.frozen? ⟨w.heap.size, k * 4 + 3, none⟩ = false := frozen_of_row w1 w.heap.size _ _ _ HG1.out
      have hl1 : w.heap.size < w1.heap.size := by have := hb1.size; omega
      go_wp2
      go_roundw
      case rel =>
        obtain ⟨rest', hg', hrl', hs', hB', he'⟩ := row_next (g := w.heap.size) (n := 4) rfl hlt HG1.out HE.out HL.out HR.out hsz hb1 hB1 HX.out
        exact ⟨k + 1, _, rest', by omega, by go_num, hB', hs', hg', hrl', he'⟩
      case measure => simp [intOf]; omega
    · have : k = xs.length := by omega
      subst this
      clear hc
      have HG := hid hg
      have HE := hid he
      clear hg he hrl
      go_wp2
      go_ret
      refine ⟨_, rfl, ?_, hb⟩
      have he := HE.out
      rw [List.take_length] at he
      exact rd_of_block HG.out (he.mono (T := New w.heap.size wr) (fun b (hb' : w.heap.size + 1 ≤ b ∧ b < wr.heap.size) => ⟨by omega, hb'.2⟩)) ⟨Nat.le_refl _, hsz⟩ (Nat.le_refl _) (by omega)
set_option maxHeartbeats 4000000 in
theorem eqJNodeS_same {v u : Value} {xs : List JNode} (w : World) (h : Rd.rd (Old w) w [v] xs) (h' : Rd.rd (Old w) w [u] xs) :
    Calls Tryd.prog 34 #[v, u] w fun e w' => e = .returned (.bool true) ∧ Below w.heap.size w w' := by
  obtain ⟨a, cap, hv, h1, h2, hc⟩ := h
  obtain rfl : v = .slice a xs.length cap := by simpa using hv
  obtain ⟨a', cap', hv', h1', h2', hc'⟩ := h'
  obtain rfl : u = .slice a' xs.length cap' := by simpa using hv'
  clear hv hv'
  go_enter Tryd.func34, Tryd.ntmps34
  go_wp2
  go_loopw [5] (fun i wr => ∃ k : Nat, k ≤ xs.length ∧ i = .int .i64 k ∧ Below w.heap.size w wr) (fun i _ => xs.length - (intOf i).toNat)
  case atStart => exact ⟨0, Nat.zero_le _, rfl, Below.refl _ _⟩
  case round =>
    obtain ⟨k, hk, rfl, hb⟩ := hrel
    by_cases hlt : k < xs.length
    · skip
      obtain ⟨b, off, rfl, hB, hrow⟩ := hc (by omega)
      obtain ⟨cs, hcell, hx⟩ := hrow k hlt
      obtain ⟨a2, c2, a3, c3, hcs, f0, f1, f2, f3⟩ := rdJNode hx
      subst hcs
      have t0 : wr.cell? ⟨b, off + k * 4, none⟩ = some (.int .i64 xs[k].kind) := (hb.cell (p := ⟨b, off + k * 4, none⟩) hB).trans (hcell 0 (by decide))
      have t1 : wr.cell? ⟨b, off + k * 4 + 1, none⟩ = some (.string xs[k].text) := (hb.cell (p := ⟨b, off + k * 4 + 1, none⟩) hB).trans (hcell 1 (by decide))
      have t2 : wr.cell? ⟨b, off + k * 4 + 2, none⟩ = some (.slice a2 xs[k].keys.length c2) := (hb.cell (p := ⟨b, off + k * 4 + 2, none⟩) hB).trans (hcell 2 (by decide))
      have t3 : wr.cell? ⟨b, off + k * 4 + 3, none⟩ = some (.slice a3 xs[k].kids.length c3) := (hb.cell (p := ⟨b, off + k * 4 + 3, none⟩) hB).trans (hcell 3 (by decide))
      clear hrow hcell
      obtain ⟨b', off', rfl, hBq, hrowq⟩ := hc' (by omega)
      obtain ⟨csq, hcellq, hxq⟩ := hrowq k hlt
      obtain ⟨qa2, qc2, qa3, qc3, hcsq, qf0, qf1, qf2, qf3⟩ := rdJNode hxq
      subst hcsq
      have tq0 : wr.cell? ⟨b', off' + k * 4, none⟩ = some (.int .i64 xs[k].kind) := (hb.cell (p := ⟨b', off' + k * 4, none⟩) hBq).trans (hcellq 0 (by decide))
      have tq1 : wr.cell? ⟨b', off' + k * 4 + 1, none⟩ = some (.string xs[k].text) := (hb.cell (p := ⟨b', off' + k * 4 + 1, none⟩) hBq).trans (hcellq 1 (by decide))
      have tq2 : wr.cell? ⟨b', off' + k * 4 + 2, none⟩ = some (.slice qa2 xs[k].keys.length qc2) := (hb.cell (p := ⟨b', off' + k * 4 + 2, none⟩) hBq).trans (hcellq 2 (by decide))
      have tq3 : wr.cell? ⟨b', off' + k * 4 + 3, none⟩ = some (.slice qa3 xs[k].kids.length qc3) := (hb.cell (p := ⟨b', off' + k * 4 + 3, none⟩) hBq).trans (hcellq 3 (by decide))
      clear hrowq hcellq
      clear hc hc'
      have hx' := Rd.later hb hx
      have hqx' := Rd.later hb hxq
      have hi1 : (0 : Int) ≤ k := by omega
      have hi2 : (k : Int) < xs.length := by omega
      have hwr : wr.heap.size ≤ wr.heap.size := Nat.le_refl _
      go_wp2_with fail
      go_region_held3 (fun w' => w'.cell? ⟨b, off + k * 4, none⟩ = some (.int .i64 xs[k].kind) ∧ w'.cell? ⟨b, off + k * 4 + 1, none⟩ = some (.string xs[k].text) ∧ w'.cell? ⟨b, off + k * 4 + 2, none⟩ = some (.slice a2 xs[k].keys.length c2) ∧ w'.cell? ⟨b, off + k * 4 + 3, none⟩ = some (.slice a3 xs[k].kids.length c3) ∧ w'.cell? ⟨b', off' + k * 4, none⟩ = some (.int .i64 xs[k].kind) ∧ w'.cell? ⟨b', off' + k * 4 + 1, none⟩ = some (.string xs[k].text) ∧ w'.cell? ⟨b', off' + k * 4 + 2, none⟩ = some (.slice qa2 xs[k].keys.length qc2) ∧ w'.cell? ⟨b', off' + k * 4 + 3, none⟩ = some (.slice qa3 xs[k].kids.length qc3)) (simp [*])
        ((go_at_call 79; refine (eqJNode_same _ (by exact Rd.later (by repeat' (first | (with_reducible exact Below.refl _ _) | (with_reducible refine Below.drew ?_))) hx') (by exact Rd.later (by repeat' (first | (with_reducible exact Below.refl _ _) | (with_reducible refine Below.drew ?_))) hqx')).mono ?_; rintro e w1 ⟨rfl, hb1⟩; have hk1 := keeps_cells hb1; have hbx := ext_trans (by repeat' (first | (with_reducible exact hb) | (with_reducible refine Below.drew ?_)) : Below w.heap.size w _) hb1))
      go_wp2
      go_roundw
      case rel => exact ⟨k + 1, by omega, by go_num, by repeat' (first | (with_reducible exact hbx) | (with_reducible refine Below.drew ?_))⟩
      case measure => simp [intOf]; omega
    · have : k = xs.length := by omega
      subst this
      clear hc hc'
      go_wp2
      go_ret
      exact ⟨rfl, hb⟩

theorem rdJson {S : Nat → Prop} {w : World} {cs : List Value} {x : Json} (h : Rd.rd S w cs x) : ∃ (a0 : Option Addr) (c0 : Nat), cs = [.slice a0 x.nodes.length c0] ∧ (Rd.rd S w [.slice a0 x.nodes.length c0] x.nodes) := by
  have h0 : Rd.rd S w cs x.nodes := h
  obtain ⟨a0, c0, e0⟩ := rdSlc h0
  subst e0
  exact ⟨a0, c0, rfl, h0⟩
theorem rdJson_mk {S : Nat → Prop} {w : World} {x : Json} {a0 : Option Addr} {c0 : Nat} (h0 : Rd.rd S w [.slice a0 x.nodes.length c0] x.nodes) : Rd.rd S w [.slice a0 x.nodes.length c0] x :=
  h0
instance : Sz Json := ⟨fun x => Sz.sz x.nodes⟩
set_option maxHeartbeats 1000000 in
theorem szJson_any {cs : Array Value} {x : Json} (left : Int) (w : World) (h : Rd.rd (Old w) w cs.toList x) (h3 : 0 ≤ left) (h4 : left ≤ 1048576) :
    Calls Tryd.prog 18 #[.agg cs, .int .i64 left] w fun e w' => e = .returned (.int .i64 (szOut left (Sz.sz x))) ∧ Below w.heap.size w w' := by
  obtain ⟨a0, c0, hcs, f0⟩ := rdJson h
  obtain rfl := arr_of_list hcs
  clear hcs
  have hsz : Sz.sz x = Sz.sz x.nodes := rfl
  rw [hsz]; clear hsz
  generalize hg_nodes : Sz.sz x.nodes = n_nodes
  have Hg_nodes := hid hg_nodes; clear hg_nodes
  by_cases k0 : (n_nodes : Int) ≤ left
  · skip
    go_enter Tryd.func18, Tryd.ntmps18
    go_wp2_with fail
    refine (szJNodeS_any _ _ (by exact Rd.later (ext_alloc _ _) (f0)) (by omega) (by omega)).mono ?_
    rintro e w1 ⟨rfl, hb0⟩
    rw [Hg_nodes.out, szOut_val (by omega)]
    obtain ⟨hc0, hf0⟩ := bcell hb0
    have hl0 : w.heap.size < w1.heap.size := by have := hb0.size; (try simp at this); omega
    go_wp2
    go_ret
    exact ⟨end_int (by rw [szOut_val (by omega)] <;> omega), (ext_trans (ext_alloc _ _) hb0)⟩
  · skip
    go_enter Tryd.func18, Tryd.ntmps18
    go_wp2_with fail
    refine (szJNodeS_any _ _ (by exact Rd.later (ext_alloc _ _) (f0)) (by omega) (by omega)).mono ?_
    rintro e w1 ⟨rfl, hb0⟩
    rw [Hg_nodes.out, szOut_bad (by omega)]
    obtain ⟨hc0, hf0⟩ := bcell hb0
    have hl0 : w.heap.size < w1.heap.size := by have := hb0.size; (try simp at this); omega
    go_wp2
    go_ret
    exact ⟨end_int (by rw [szOut_bad (by omega)]), (ext_trans (ext_alloc _ _) hb0)⟩
set_option maxHeartbeats 2000000 in
theorem toJson_any {cs : Array Value} {x : Json} (w : World) (h : Rd.rd (Old w) w cs.toList x) (hn : Sz.sz x ≤ 1048576) :
    Calls Tryd.prog 20 #[.agg cs] w fun e w' => ∃ cs' : Array Value, e = .returned (.agg cs') ∧ Rd.rd (New w.heap.size w') w' cs'.toList x ∧ Below w.heap.size w w' := by
  obtain ⟨a0, c0, hcs, f0⟩ := rdJson h
  obtain rfl := arr_of_list hcs
  clear hcs h
  have hn_nodes : Sz.sz x.nodes ≤ 1048576 := Nat.le_trans (by show _ ≤ Sz.sz x.nodes; omega) hn
  have HN := hid hn
  clear hn
  go_enter Tryd.func20, Tryd.ntmps20
  go_wp2_with fail
  refine (toJNodeS_any _ (by exact Rd.later (by repeat' (first | (with_reducible exact Below.refl _ _) | (with_reducible refine Below.setCell ?_ ?_ _) | (with_reducible refine Below.alloc ?_ ?_ _) | (simp; done) | (simp; omega) | omega)) (f0)) hn_nodes).mono ?_
  rintro e w1 ⟨r0, rfl, hr0, hb0⟩
  obtain ⟨r0_a, r0_c, e0⟩ := rdSlc hr0
  obtain rfl : r0 = .slice r0_a x.nodes.length r0_c := by simpa using e0
  clear e0
  have hB1 : Below w.heap.size w w1 := ext_trans (by repeat' (first | (with_reducible exact Below.refl _ _) | (with_reducible refine Below.setCell ?_ ?_ _) | (with_reducible refine Below.alloc ?_ ?_ _) | (simp; done) | (simp; omega) | omega)) hb0
  obtain ⟨hc0, hf0⟩ := bcell hb0
  have hl0 : w.heap.size + 1 + 1 < w1.heap.size := by have := hb0.size; (try simp at this); omega
  have hl0' : w.heap.size + 1 < w1.heap.size := by omega
  have hl0'' : w.heap.size < w1.heap.size := by omega
  go_wp2
  refine bodyPost_ret (v := .agg #[.slice r0_a x.nodes.length r0_c]) (by simp [results, Tryd.results20, go_sem, hc0, hl0']) rfl ⟨_, rfl, ?_, ?_⟩
  · exact rdJson_mk (Keeps.rd (by repeat' (first | (with_reducible exact Keeps.refl _ _) | (with_reducible refine Keeps.set ?_ ?_ _) | (with_reducible refine Keeps.alloc ?_ _) | (simp; done) | (simp; omega) | omega)) (by first | (simp; done) | (simp; omega) | omega) hr0)
  · exact (by repeat' (first | (with_reducible exact hB1) | (with_reducible exact Below.refl _ _) | (with_reducible refine Below.setCell ?_ ?_ _) | (with_reducible refine Below.alloc ?_ ?_ _) | (simp; done) | (simp; omega) | omega))
set_option maxHeartbeats 2000000 in
theorem eqJson_same {cs cs' : Array Value} {x : Json} (w : World) (h : Rd.rd (Old w) w cs.toList x) (h' : Rd.rd (Old w) w cs'.toList x) :
    Calls Tryd.prog 10 #[.agg cs, .agg cs'] w fun e w' => e = .returned (.bool true) ∧ Below w.heap.size w w' := by
  obtain ⟨a0, c0, hcs, f0⟩ := rdJson h
  obtain rfl := arr_of_list hcs
  obtain ⟨ga0, gc0, hcs', gf0⟩ := rdJson h'
  obtain rfl := arr_of_list hcs'
  clear hcs hcs' h h'
  go_enter Tryd.func10, Tryd.ntmps10
  go_wp2_with fail
  refine (eqJNodeS_same _ (by exact Rd.later (by repeat' (first | (with_reducible exact Below.refl _ _) | (with_reducible refine Below.setCell ?_ ?_ _) | (with_reducible refine Below.alloc ?_ ?_ _) | (simp; done) | (simp; omega) | omega)) f0) (by exact Rd.later (by repeat' (first | (with_reducible exact Below.refl _ _) | (with_reducible refine Below.setCell ?_ ?_ _) | (with_reducible refine Below.alloc ?_ ?_ _) | (simp; done) | (simp; omega) | omega)) gf0)).mono ?_
  rintro e w1 ⟨rfl, hb0⟩
  have hB1 : Below w.heap.size w w1 := ext_trans (by repeat' (first | (with_reducible exact Below.refl _ _) | (with_reducible refine Below.setCell ?_ ?_ _) | (with_reducible refine Below.alloc ?_ ?_ _) | (simp; done) | (simp; omega) | omega)) hb0
  obtain ⟨hc0, hf0⟩ := bcell hb0
  have hl0 : w.heap.size + 1 < w1.heap.size := by have := hb0.size; (try simp at this); omega
  have hl0' : w.heap.size < w1.heap.size := by omega
  go_wp2
  go_ret
  exact ⟨rfl, (by repeat' (first | (with_reducible exact hB1) | (with_reducible exact Below.refl _ _) | (with_reducible refine Below.setCell ?_ ?_ _) | (with_reducible refine Below.alloc ?_ ?_ _) | (simp; done) | (simp; omega) | omega))⟩

end Go.Proofs.YtlfkfofeenakhaaDoor

namespace Go.Proofs.YtlfkfofeenakhaaDoor
open Go.RowKit
set_option linter.unusedVariables false
set_option linter.unusedSimpArgs false

theorem implJLevel {g : Nat} {s : ByteArray} (hs : s.size ≤ 5000) : ∀ v d, d + v = 8 → ValIC s g d (valG s.data.toList (grpL s.data.toList v))
  | 0, d, h => implJValue hs (by omega) (Or.inl ⟨by omega, fun o p b ns => by rw [grpL]⟩)
  | v + 1, d, h => by
    have IH := implJLevel (g := g) hs v (d + 1) (by omega)
    have hf := valG_fw (grpL_fw s.data.toList v)
    exact implJValue hs (by omega) (Or.inr ⟨by omega, _, fun o p b ns => by rw [grpL, grpB_lst], implJList hs hf IH, implJObject hs hf IH⟩)
/-- what reading a line leaves, ahead of the answer -/
def ReadI (g c : Nat) (s : ByteArray) (R : List JNode × Nat × Nat) (w2 wx : World) : Prop :=
  ∃ (j b : Nat) (nv : Value), JI wx g s j b nv ∧ ((c ≠ 0 ∧ R = ([], j, c)) ∨ (c = 0 ∧ ∃ ns, R = (ns, 0, 0) ∧ JNo (fun _ => False) g nv wx ns)) ∧ Below g w2 wx
theorem JNo.slice {X : Nat → Prop} {g : Nat} {nv : Value} {w : World} {ns : List JNode} (h : JNo X g nv w ns) : ∃ a c, nv = .slice a ns.length c := by
  obtain ⟨os, css, hm, hd, ho, he⟩ := h
  have hl : os.length = ns.length := by rw [← hm, List.length_map]
  rw [← hl]
  exact own_slice ho
theorem JNo.out {g k : Nat} {nv : Value} {w w' : World} {ns : List JNode} (h : JNo (fun _ => False) g nv w ns) (hb : ∀ b, g < b → w'.heap[b]? = w.heap[b]?) (hs : w.heap.size ≤ w'.heap.size) : JNo (fun _ => False) g nv w' ns := by
  obtain ⟨os, css, hm, hd, ho, he⟩ := h
  refine ⟨os, css, hm, hd, ⟨ho.1, ?_⟩, he.1, fun i a b => ?_⟩
  · rcases ho.2 with ⟨rfl, hn⟩ | ⟨b, cap, cur, rfl, h1, h2, h3⟩
    · exact Or.inl ⟨rfl, hn⟩
    · exact Or.inr ⟨b, cap, cur, rfl, h1, (hb b (by omega)).trans h2, h3⟩
  · exact Rd.mono (S := Beside (fun _ => False) g nv.ownBlock w) (fun b hb => ⟨hb.1, Nat.lt_of_lt_of_le hb.2.1 hs, hb.2.2.1, hb.2.2.2⟩) (Rd.same (fun b h => hb b h.1) (he.2 i a b))
set_option maxHeartbeats 16000000 in
set_option maxRecDepth 100000 in
theorem implJRead (s : ByteArray) (w : World) (hT : Tabs w) :
    Calls Tryd.prog 9 #[.string s] w fun e w' => ∃ (g : Nat) (nv : Value), e = .returned (.tuple #[.agg #[nv], .int .i64 (((jrdP s).2.1 : Nat) : Int), .int .i64 (((jrdP s).2.2 : Nat) : Int)]) ∧ w.heap.size ≤ g ∧ JNo (fun _ => False) g nv w' (jrdP s).1 ∧ Below w.heap.size w w' := by
  have CK := hid (implTextOk s (w.alloc (.cells #[.slice none 0 0] 24)) (tabs_below hT (ext_alloc w _)))
  have hln := okText_size (s := s)
  obtain ⟨R, hR⟩ : ∃ R, jrdP s = R := ⟨_, rfl⟩
  obtain ⟨B, hB⟩ : ∃ B, okText s = B := ⟨_, rfl⟩
  have HR := hid (show R = if B = true then (match valG s.data.toList (grpL s.data.toList 8) (skB s.data.toList 0) 0 [] with
    | .er c p => ([], p, c)
    | .ok _ j _ ns => if skB s.data.toList j < s.size then ([], skB s.data.toList j, 2) else (ns, 0, 0)) else ([], 0, 1) by rw [← hR, ← hB]; rfl)
  rw [hB] at CK hln
  rw [hR]
  have HLN := hid hln
  clear hR hB hln hT
  cases B with
  | false =>
    have HR2 := hid (show R = ([], 0, 1) from HR.out)
    obtain rfl := HR2.out
    go_enter Tryd.func9, Tryd.ntmps9
    go_wp2_with fail
    refine CK.out.mono ?_
    rintro e w1 ⟨rfl, hb1⟩
    have hx1 : w1.heap[w.heap.size]? = some (.cells #[.slice none 0 0] 24 (0, 0)) := (hb1.block w.heap.size (by simp)).trans (heap_alloc_new w _)
    have cx : w1.cell? ⟨w.heap.size, 0, none⟩ = some (.slice none 0 0) := cell_of_row _ _ 0 _ _ _ hx1
    have zx : w1.frozen? ⟨w.heap.size, 0, none⟩ = false := frozen_of_row _ _ 0 _ _ hx1
    have HB1 := hid ((ext_alloc w (.cells #[.slice none 0 0] 24)).trans (hb1.mono (ext_alloc w _).size))
    clear hb1 hx1
    go_wp2
    refine bodyPost_ret (v := .tuple #[.agg #[.slice none 0 0], .int .i64 ((0 : Nat) : Int), .int .i64 ((1 : Nat) : Int)]) (by simp [results, Tryd.results9, go_sem, *]) rfl ?_
    exact ⟨w.heap.size, _, rfl, Nat.le_refl _, JNo.nil _ _ _, HB1.out.setCell (p := ⟨w.heap.size, 0, none⟩) (Nat.le_refl _) _⟩
  | true =>
    have hs5 : s.size ≤ 5000 := by have := HLN.out rfl; omega
    have CV := hid (fun g => implJLevel (g := g) hs5 8 0 rfl)
    have CB := hid (fun (w : World) (g p b : Nat) (nv : Value) (h : JI w g s p b nv) (hp : p ≤ s.size) => implJSkip w h hp hs5)
    obtain ⟨L, hL⟩ : ∃ L, s.data.toList = L := ⟨_, rfl⟩
    have HSZ := hid (show s.size = L.length by rw [← hL, Lib.size_eq])
    have HFW := hid (valG_fw (grpL_fw L 8))
    unfold ValIC at CV
    rw [hL] at CV CB HR
    rw [if_pos rfl] at HR
    obtain ⟨p0, hp0⟩ : ∃ p, skB L 0 = p := ⟨_, rfl⟩
    have HP0 := hid (show p0 ≤ L.length by rw [← hp0]; exact (skB_in L (Nat.zero_le _)).2)
    rw [hp0] at HR
    obtain ⟨V, hV⟩ : ∃ V, valG L (grpL L 8) p0 0 [] = V := ⟨_, rfl⟩
    rw [hV] at HR
    have HV := hid hV
    have HPE := hid hp0
    have HOV := hid (fun kid j b' ns' (h : V = .ok kid j b' ns') => (HFW.out p0 0 [] HP0.out (by decide)) kid j b' ns' (by rw [hV]; exact h))
    clear hL HLN hp0 hV
    go_enter Tryd.func9, Tryd.ntmps9
    go_wp2_with fail
    refine CK.out.mono ?_
    rintro e w1 ⟨rfl, hb1⟩
    have hx1 : w1.heap[w.heap.size]? = some (.cells #[.slice none 0 0] 24 (0, 0)) := (hb1.block w.heap.size (by simp)).trans (heap_alloc_new w _)
    have HX1 := hid hx1
    have HB1 := hid ((ext_alloc w (.cells #[.slice none 0 0] 24)).trans (hb1.mono (ext_alloc w _).size))
    have HLT := hid (Array.getElem?_eq_some_iff.1 hx1).1
    clear hb1 hx1
    go_wp2_with fail
    obtain ⟨w2, hw2⟩ : ∃ x, w1.alloc (.cells #[.string s, .int .i64 0, .int .i64 0, .slice none 0 0] 55) = x := ⟨_, rfl⟩
    obtain ⟨g, hg⟩ : ∃ x, w1.heap.size = x := ⟨_, rfl⟩
    have HJ2 := hid (show JI w2 g s 0 0 (.slice none 0 0) by rw [← hw2, ← hg]; exact heap_alloc_new w1 _)
    have HB2 := hid (show Below g w1 w2 ∧ g ≤ w2.heap.size by
      rw [← hw2, ← hg]
      exact ⟨ext_alloc w1 _, by simp⟩)
    have HG := hid hg
    have hne : ¬ w.heap.size = g := by have := HLT.out; omega
    have hne2 : ¬ g = w.heap.size := by omega
    try rw [hw2, hg]
    clear hw2 hg
    refine (CB.out _ _ _ _ _ HJ2.out (Nat.zero_le _)).mono ?_
    rintro e w3 ⟨rfl, hj, hk⟩
    have HJ3 := hid (show JI w3 g s p0 0 (.slice none 0 0) by rw [← HPE.out]; exact hj)
    have HB3 := hid (show Below g w1 w3 from HB2.out.1.trans (hk.below HB2.out.2 (fun b h => by cases h)))
    have HG3 := hid (Nat.le_trans HB2.out.2 hk.size)
    clear hj hk
    go_wp2_with fail
    refine (CV.out g (fun _ => False) w3 p0 0 (.slice none 0 0) [] (fun _ h => h.elim) HJ3.out (by rw [HSZ.out]; exact HP0.out) (by decide) (Nat.le_refl _) (JNo.nil _ _ _)).mono ?_
    rintro e w4 ⟨hv, hk⟩
    rw [HV.out] at hv
    have HVV := hid hv
    have HB4 := hid (show Below g w1 w4 from HB3.out.trans (hk.below HG3.out (fun b h => by cases h)))
    have HG4 := hid (Nat.le_trans HG3.out hk.size)
    obtain ⟨x, cc, rfl⟩ := hv.tup
    clear hv hk
    go_upto_if 23 with fail
    go_cut [7] from 8 (fun v7 wx => ∃ c : Nat, v7 = .int .i64 (c : Int) ∧ ReadI g c s R w1 wx)
    case first =>
      rcases HVV.out with ⟨kid, j, b', ns5, nv5, hr5, he, hj5, hn5, hro⟩ | ⟨c, q, b', nv5, hr5, hc, he, hj5, hro⟩
      · obtain ⟨rfl, rfl⟩ : x = kid ∧ cc = 0 := by simp at he; omega
        obtain ⟨j2, hj2⟩ : ∃ y, skB L j = y := ⟨_, rfl⟩
        have HJ5 := hid hj5
        have HN5 := hid hn5
        have hjl := (HOV.out _ _ _ _ hr5).2.1
        have HJL := hid (show j ≤ s.size by rw [HSZ.out]; exact hjl)
        have HR3 := hid (show R = if j2 < s.size then ([], j2, 2) else (ns5, 0, 0) by rw [HR.out, hr5, ← hj2])
        have CBQ := hid (CB.out w4 g j b' nv5 hj5 HJL.out)
        rw [hj2] at CBQ
        clear hr5 hn5 hj2 hj5 hro he hjl
        go_wp2_with fail
        refine CBQ.out.mono ?_
        rintro e w5 ⟨rfl, hj, hk⟩
        have HJ6 := hid hj
        have HN6 := hid (HN5.out.kp hk)
        have HB5 := hid (show Below g w1 w5 from HB4.out.trans (hk.below HG4.out (fun b h => by cases h)))
        obtain ⟨c0, c1, c2, c3, y1, y2, y3, hl⟩ := HJ6.out.cells
        clear hj hk c0 c2 c3 y1 y2 y3 hl
        by_cases hlt : j2 < s.size
        · have e1 : (j2 : Int) < (s.size : Int) := by omega
          have HR4 := hid (show R = ([], j2, 2) by rw [HR3.out, if_pos hlt])
          clear hlt
          go_wp2
          go_meet
          case rel => exact ⟨2, rfl, j2, b', nv5, HJ6.out, Or.inl ⟨by decide, HR4.out⟩, HB5.out⟩
        · have e1 : ¬ (j2 : Int) < (s.size : Int) := by omega
          have HR4 := hid (show R = (ns5, 0, 0) by rw [HR3.out, if_neg hlt])
          clear hlt
          go_wp2
          go_meet
          case rel => exact ⟨0, rfl, j2, b', nv5, HJ6.out, Or.inr ⟨rfl, ns5, HR4.out, HN6.out⟩, HB5.out⟩
      · obtain ⟨rfl, rfl⟩ : x = 0 ∧ cc = c := by simp at he; omega
        have hz1 : ((cc : Int) == 0) = false := by rw [beq_eq_false_iff_ne]; omega
        have hz2 : ¬ (cc : Int) = 0 := by omega
        have HR3 := hid (show R = ([], q, cc) by rw [HR.out, hr5])
        have HC := hid hc
        have HJ5 := hid hj5
        clear hr5 hc hj5 hro he
        go_wp2
        go_meet
        case rel => exact ⟨cc, rfl, q, b', nv5, HJ5.out, Or.inl ⟨HC.out, HR3.out⟩, HB4.out⟩
    case rest =>
    obtain ⟨c, rfl, j, b, nv, hj, hcc, hb⟩ := hcut
    have hgl : g < wc.heap.size := hj.cells.2.2.2.2.2.2.2
    have hxc : wc.heap[w.heap.size]? = some (.cells #[.slice none 0 0] 24 (0, 0)) := (hb.block w.heap.size (by have := HLT.out; have := HG.out; omega)).trans HX1.out
    have cx : wc.cell? ⟨w.heap.size, 0, none⟩ = some (.slice none 0 0) := cell_of_row _ _ 0 _ _ _ hxc
    have zx : wc.frozen? ⟨w.heap.size, 0, none⟩ = false := frozen_of_row _ _ 0 _ _ hxc
    have HBC := hid (show Below w.heap.size w wc from HB1.out.trans (hb.mono (by have := HLT.out; have := HG.out; omega)))
    have HJ := hid hj
    have HGW := hid (show w.heap.size < g by have := HLT.out; have := HG.out; omega)
    obtain ⟨c0, c1, c2, c3, y1, y2, y3, hl⟩ := hj.cells
    clear hj hb hxc c0 c2 y1 y2 y3
    rcases hcc with ⟨hc, hr⟩ | ⟨rfl, ns, hr, hn⟩
    · have hz1 : ((c : Int) == 0) = false := by rw [beq_eq_false_iff_ne]; omega
      have hz2 : ¬ (c : Int) = 0 := by omega
      have hz3 : ((c : Int) != 0) = true := by rw [bne_iff_ne]; omega
      subst hr
      clear hc
      go_wp2_with fail
      go_region
      go_wp2
      refine bodyPost_ret (v := .tuple #[.agg #[.slice none 0 0], .int .i64 ((j : Nat) : Int), .int .i64 ((c : Nat) : Int)]) (by simp [results, Tryd.results9, go_sem, *]) rfl ?_
      exact ⟨g, _, rfl, Nat.le_of_lt HGW.out, JNo.nil _ _ _, (HBC.out.drew).setCell (p := ⟨w.heap.size, 0, none⟩) (Nat.le_refl _) _⟩
    · obtain ⟨na, nc, rfl⟩ := hn.slice
      have HN := hid hn
      subst hr
      clear hn
      go_wp2
      refine bodyPost_ret (v := .tuple #[.agg #[.slice na ns.length nc], .int .i64 ((0 : Nat) : Int), .int .i64 ((0 : Nat) : Int)]) (by simp [results, Tryd.results9, go_sem, *]) rfl ?_
      exact ⟨g, _, rfl, Nat.le_of_lt HGW.out, HN.out.out (k := 0) (fun b hb => heap_setCell_other _ _ _ _ (fun e => by have e1 : b = w.heap.size := e; have := HGW.out; omega)) (by simp [World.setCell]), HBC.out.setCell (p := ⟨w.heap.size, 0, none⟩) (Nat.le_refl _) _⟩
end Go.Proofs.YtlfkfofeenakhaaDoor

namespace Go.Proofs.YtlfkfofeenakhaaDoor
open Go.RowKit
set_option linter.unusedVariables false
set_option linter.unusedSimpArgs false

theorem offC_bd : ∀ (ns : List JNode) (M : Nat), (∀ n ∈ ns, nodeC n ≤ M) → offC ns ns.length ≤ ns.length * M
  | [], M, _ => by simp [offC]
  | n :: r, M, h => by
    have h1 := offC_bd r M (fun x hx => h x (by simp [hx]))
    have h2 := h n (by simp)
    show nodeC n + offC r r.length ≤ (r.length + 1) * M
    rw [Nat.add_mul, Nat.one_mul]
    omega
theorem flatten_length' {css : List (List Value)} {n m : Nat} (h : ∀ cs ∈ css, cs.length = n) (hc : css.length = m) : css.flatten.length = m * n := by rw [flatten_length h, hc]
theorem nodup_flat : ∀ {os : List JOwn} {i j b : Nat} {x y : JOwn}, (os.flatMap JOwn.bs).Nodup → i < j → os[i]? = some x → os[j]? = some y → b ∈ x.bs → b ∈ y.bs → False
  | [], i, j, b, x, y, _, _, hx, _, _, _ => by simp at hx
  | o :: r, 0, j + 1, b, x, y, hd, _, hx, hy, h1, h2 => by
    rw [List.flatMap_cons, List.nodup_append] at hd
    have hox : o = x := by simpa using hx
    subst hox
    have hm : b ∈ r.flatMap JOwn.bs := List.mem_flatMap.2 ⟨y, List.mem_of_getElem? (by simpa using hy), h2⟩
    exact hd.2.2 b h1 b hm rfl
  | o :: r, i + 1, j + 1, b, x, y, hd, hij, hx, hy, h1, h2 => by
    rw [List.flatMap_cons, List.nodup_append] at hd
    exact nodup_flat hd.2.1 (Nat.lt_of_succ_lt_succ hij) (by simpa using hx) (by simpa using hy) h1 h2
theorem nodup_one : ∀ {os : List JOwn} {i : Nat} {x : JOwn}, (os.flatMap JOwn.bs).Nodup → os[i]? = some x → x.bs.Nodup
  | [], i, x, _, hx => by simp at hx
  | o :: r, 0, x, hd, hx => by
    rw [List.flatMap_cons, List.nodup_append] at hd
    have hox : o = x := by simpa using hx
    rw [← hox]; exact hd.1
  | o :: r, i + 1, x, hd, hx => by
    rw [List.flatMap_cons, List.nodup_append] at hd
    exact nodup_one hd.2.1 (by simpa using hx)
theorem nodup_two {x : JOwn} {b : Nat} (hd : x.bs.Nodup) (h1 : x.kb = some b) (h2 : x.db = some b) : False := by
  unfold JOwn.bs at hd
  rw [h1, h2] at hd
  simp at hd
theorem JNo.own {X : Nat → Prop} {g : Nat} {nv : Value} {w : World} {ns : List JNode} (h : JNo X g nv w ns) : OwN (fun b => g < b ∧ b < w.heap.size) w nv ns := by
  obtain ⟨os, css, hm, hd, ho, he⟩ := h
  have hl : os.length = ns.length := by rw [← hm, List.length_map]
  rcases ho.2 with ⟨rfl, hn⟩ | ⟨gN, cap, cur, rfl, h1, h2, h3, h4, h5, h6⟩
  · obtain rfl : ns = [] := List.eq_nil_of_length_eq_zero (by omega)
    exact ⟨none, 0, rfl, fun h => absurd h (by decide)⟩
  · have hcl : css.length = os.length := he.1
    have hlen : ∀ cs ∈ css, cs.length = 4 := by
      intro cs hcs
      obtain ⟨i, hi, rfl⟩ := List.getElem_of_mem hcs
      exact Rd.len (he.2 i hi (by rw [← hcl]; exact hi))
    refine ⟨_, cap, by rw [← hl], fun hp => ⟨gN, cur, _, fun i => ((css.getD i []).getD 2 (.int .i64 0)), fun i => ((css.getD i []).getD 3 (.int .i64 0)), fun i c => (os[i]?).bind (fun x => if c = true then x.db else x.kb), rfl, ⟨by omega, (Array.getElem?_eq_some_iff.1 h2).1⟩, h2, ?_, ?_, ?_, fun i hi => ?_⟩⟩
    · rw [← hl]
      have h9 := congrArg List.length h6
      rw [List.length_take, flatten_length hlen, hcl, Array.length_toList] at h9
      omega
    · intro i c b hb
      obtain ⟨x, hx, hxb⟩ := Option.bind_eq_some_iff.1 hb
      have hi : i < os.length := (List.getElem?_eq_some_iff.1 hx).1
      have hxe : os[i] = x := (List.getElem?_eq_some_iff.1 hx).2
      have hbs : b ∈ x.bs := by
        unfold JOwn.bs
        cases c
        · exact List.mem_append.2 (Or.inl (by simpa using hxb))
        · exact List.mem_append.2 (Or.inr (by simpa using hxb))
      rw [← hxe] at hbs
      have h9 := (he.2 i (by rw [hcl]; exact hi) hi).2.2 b hbs
      exact ⟨⟨h9.1, h9.2.1⟩, fun e => h9.2.2.1 (by rw [e]; rfl)⟩
    · intro i c j d b hb hb2
      obtain ⟨x, hx, hxb⟩ := Option.bind_eq_some_iff.1 hb
      obtain ⟨y, hy, hyb⟩ := Option.bind_eq_some_iff.1 hb2
      have hmem : ∀ (c : Bool) (z : JOwn), (if c = true then z.db else z.kb) = some b → b ∈ z.bs := by
        intro c z hz
        unfold JOwn.bs
        cases c
        · exact List.mem_append.2 (Or.inl (by simpa using hz))
        · exact List.mem_append.2 (Or.inr (by simpa using hz))
      have hij : i = j := by
        rcases Nat.lt_trichotomy i j with h | h | h
        · exact absurd (nodup_flat hd h hx hy (hmem c x hxb) (hmem d y hyb)) id
        · exact h
        · exact absurd (nodup_flat hd h hy hx (hmem d y hyb) (hmem c x hxb)) id
      subst hij
      refine ⟨rfl, ?_⟩
      have hxy : x = y := by rw [hx] at hy; injection hy
      subst hxy
      have hnx := nodup_one hd hx
      cases c <;> cases d
      · rfl
      · exact absurd (nodup_two hnx (show x.kb = some b by simpa using hxb) (show x.db = some b by simpa using hyb)) id
      · exact absurd (nodup_two hnx (show x.kb = some b by simpa using hyb) (show x.db = some b by simpa using hxb)) id
      · rfl
    · have hi' : i < os.length := by omega
      have hic : i < css.length := by omega
      obtain ⟨_, ⟨kv, dv, hcs, hk, hdv⟩, _⟩ := he.2 i hic hi'
      have hn : os[i].n = ns[i] := by subst hm; simp
      have hgd : css.getD i [] = [.int .i64 os[i].n.kind, .string os[i].n.text, kv, dv] := by rw [List.getD_eq_getElem?_getD, List.getElem?_eq_getElem hic, ← hcs]; rfl
      have hosi : os[i]? = some os[i] := List.getElem?_eq_getElem hi'
      have hcell : ∀ j, j < 4 → cur[i * 4 + j]? = css[i][j]? := by
        intro j hj
        rw [← flatten_get hlen i j hic hj, ← h6, List.getElem?_take_of_lt (by omega), Array.getElem?_toList]
      refine ⟨?_, ?_, ?_, ?_⟩
      · show _ = some ((css.getD i []).getD 2 (.int .i64 0))
        rw [hcell 2 (by decide), hcs, hgd]; rfl
      · show _ = some ((css.getD i []).getD 3 (.int .i64 0))
        rw [hcell 3 (by decide), hcs, hgd]; rfl
      · rw [← hn]
        show Ow _ w _ _ ((css.getD i []).getD 2 (.int .i64 0))
        rw [hgd]
        exact hk.mono (fun b hb => by have h9 := hb.2; simpa [hosi] using h9)
      · rw [← hn]
        show Ow _ w _ _ ((css.getD i []).getD 3 (.int .i64 0))
        rw [hgd]
        exact hdv.mono (fun b hb => by have h9 := hb.2; simpa [hosi] using h9)
theorem markJson_any {S : Nat → Prop} {nv : Value} {ns : List JNode} (k : Nat) (w : World) (h : OwN S w nv ns) (hS : ∀ b, S b → b < w.heap.size) (hk : k + offC ns ns.length ≤ 100000000) (hnl : ns.length ≤ 1000000) :
    Calls Tryd.prog 11 #[.agg #[nv], .int .i64 (k : Int)] w fun e' w' => e' = .returned (.int .i64 ((k + offC ns ns.length : Nat) : Int)) ∧ OffS S w w' ∧ MkN S w' k nv ns := by
  have hal := ext_alloc w (.cells #[nv] 24)
  have CM := hid (markNodes k (w.alloc (.cells #[nv] 24)) (h.same ((Same.of_below hal).mono (fun b hb => hS b hb))) (fun b hb => Nat.lt_of_lt_of_le (hS b hb) hal.size) hk hnl)
  have HO := hid (show OffS S w (w.alloc (.cells #[nv] 24)) from OffS.below hal)
  clear h hal
  go_enter Tryd.func11, Tryd.ntmps11
  go_wp2_with fail
  refine CM.out.mono ?_
  rintro e w1 ⟨rfl, ho, hm⟩
  have HM := hid hm
  have HO1 := hid (HO.out.trans ho)
  clear hm ho
  go_wp2
  go_ret
  exact ⟨rfl, HO1.out, HM.out⟩
theorem heldJson_any {S : Nat → Prop} {nv : Value} {ns : List JNode} (k : Nat) (w : World) (h : MkN S w k nv ns) (hS : ∀ b, S b → b < w.heap.size) (hk : k + offC ns ns.length ≤ 100000000) (hnl : ns.length ≤ 1000000) :
    Calls Tryd.prog 12 #[.agg #[nv], .int .i64 (k : Int)] w fun e' w' => e' = .returned (.int .i64 ((k + offC ns ns.length : Nat) : Int)) ∧ Below w.heap.size w w' := by
  have hal := ext_alloc w (.cells #[nv] 24)
  have CM := hid (heldNodes k (w.alloc (.cells #[nv] 24)) (h.same ((Same.of_below hal).mono (fun b hb => hS b hb))) (fun b hb => Nat.lt_of_lt_of_le (hS b hb) hal.size) hk hnl)
  have HO := hid hal
  obtain ⟨z, hz⟩ : ∃ z, k + offC ns ns.length = z := ⟨_, rfl⟩
  rw [hz] at CM ⊢
  have hz0 : ¬ (z : Int) < 0 := by omega
  clear h hal hz hk
  go_enter Tryd.func12, Tryd.ntmps12
  go_wp2_with fail
  refine CM.out.mono ?_
  rintro e w1 ⟨rfl, hb⟩
  have HB := hid (show Below w.heap.size w w1 from ext_trans HO.out hb)
  clear hb
  go_wp2
  go_ret
  exact ⟨rfl, HB.out⟩
set_option maxHeartbeats 8000000 in
set_option maxRecDepth 100000 in
theorem fnExactJsonRead_walk (W : World) (hT : Tabs W) {v0 : Value} {x0 : ByteArray} (h0 : Rd.rd (Old W) W [v0] x0) :
    Calls Tryd.prog 3 #[v0] W fun e w' => e = .returned (.bool true) ∧ Below W.heap.size W w' := by
  obtain ⟨e0, b0⟩ := h0
  obtain rfl : v0 = .string x0 := by simpa using e0
  clear e0
  by_cases hs0 : x0.size ≤ 1048576
  rotate_left
  · go_enter Tryd.func3, Tryd.ntmps3
    go_wp2
    go_ret
    exact ⟨rfl, Below.refl _ _⟩
  have CS := hid (specJRead x0 W)
  have CI := hid (fun w (h : Tabs w) => implJRead x0 w h)
  have hbd := jrd_bd x0
  have HT := hid hT
  obtain ⟨⟨ns, pa, cd⟩, hR⟩ : ∃ R, jrdP x0 = R := ⟨_, rfl⟩
  rw [hR] at CS CI hbd
  dsimp only at CS CI hbd
  have hnl : ns.length ≤ 1000000 := by omega
  have hoff : 1 + offC ns ns.length ≤ 100000000 := by
    have h1 := offC_bd ns 2002 (fun n hn => by obtain ⟨q1, q2, _⟩ := hbd.2 n hn; unfold nodeC; omega)
    have h2 := Nat.mul_le_mul_right 2002 hbd.1
    omega
  have HNL := hid hnl
  have HOF := hid hoff
  clear hR hbd hT hnl hoff
  go_enter Tryd.func3, Tryd.ntmps3
  go_wp2_with fail
  refine CS.out.mono ?_
  rintro e w1 ⟨nvS, rfl, hrS, hb1⟩
  obtain ⟨sa, sc, rfl, _⟩ := rdJNodes hrS
  have HRS := hid hrS
  have HB1 := hid hb1
  clear hrS hb1
  obtain ⟨a1, ha1⟩ : ∃ x, w1.alloc (.cells #[.slice sa ns.length sc] 24) = x := ⟨_, rfl⟩
  have HA1 := hid (show Below w1.heap.size w1 a1 by rw [← ha1]; exact ext_alloc _ _)
  have HZ1 := hid (show a1.heap.size = w1.heap.size + 1 by rw [← ha1]; simp)
  have HC1 := hid (show a1.cell? ⟨w1.heap.size, 0, none⟩ = some (.slice sa ns.length sc) by rw [← ha1]; simp)
  have HBa1 := hid (show Below W.heap.size W a1 from HB1.out.trans (HA1.out.mono HB1.out.size))
  have HAE := hid ha1
  clear ha1
  go_wp2_with fail
  rw [HAE.out]
  refine (CI.out a1 (tabs_below HT.out HBa1.out)).mono ?_
  rintro e w2 ⟨gI, nvI, rfl, hgI, hnI, hb2⟩
  obtain ⟨ia, ic, rfl⟩ := hnI.slice
  have HGI := hid hgI
  have HNI := hid hnI
  have HB2 := hid (show Below W.heap.size W w2 from HBa1.out.trans (hb2.mono HBa1.out.size))
  have HB2' := hid hb2
  clear hgI hnI hb2
  obtain ⟨a2, ha2⟩ : ∃ x, w2.alloc (.cells #[.slice ia ns.length ic] 24) = x := ⟨_, rfl⟩
  have HA2 := hid (show Below w2.heap.size w2 a2 by rw [← ha2]; exact ext_alloc _ _)
  have HZ2 := hid (show a2.heap.size = w2.heap.size + 1 by rw [← ha2]; simp)
  have HC2 := hid (show a2.cell? ⟨w2.heap.size, 0, none⟩ = some (.slice ia ns.length ic) by rw [← ha2]; simp)
  have HBa2 := hid (show Below W.heap.size W a2 from HB2.out.trans (HA2.out.mono HB2.out.size))
  have HL1 := hid (show w1.heap.size < w2.heap.size by have := HB2'.out.size; have := HZ1.out; omega)
  have HC1a2 := hid (show a2.cell? ⟨w1.heap.size, 0, none⟩ = some (.slice sa ns.length sc) from (HA2.out.cell (p := ⟨w1.heap.size, 0, none⟩) HL1.out).trans ((HB2'.out.cell (p := ⟨w1.heap.size, 0, none⟩) (by show w1.heap.size < a1.heap.size; have := HZ1.out; omega)).trans HC1.out))
  -- what is read off both
  have HB1a2 := hid (show Below w1.heap.size w1 a2 from HA1.out.trans ((HB2'.out.mono (by have := HZ1.out; omega)).trans (HA2.out.mono (by have := HL1.out; omega))))
  have HRSa := hid (show Rd.rd (fun b => b < w1.heap.size) a2 [.slice sa ns.length sc] ns from Rd.mono (S := New W.heap.size w1) (fun b hb => hb.2) (Rd.same (fun b hb => HB1a2.out.block b hb.2) HRS.out))
  have HRIa := hid (show Rd.rd (fun b => gI < b ∧ b < w2.heap.size) a2 [.slice ia ns.length ic] ns from Rd.same (fun b hb => HA2.out.block b hb.2) HNI.out.js.rd)
  have HAE2 := hid ha2
  have CE := hid (eqJson_same (x := ⟨ns⟩) (cs := #[.slice ia ns.length ic]) (cs' := #[.slice sa ns.length sc]) a2 (rdJson_mk (x := ⟨ns⟩) (Rd.mono (fun b hb => Nat.lt_of_lt_of_le hb.2 HA2.out.size) HRIa.out)) (rdJson_mk (x := ⟨ns⟩) (Rd.mono (fun b hb => Nat.lt_of_lt_of_le hb (Nat.le_trans (Nat.le_of_lt HL1.out) HA2.out.size)) HRSa.out)))
  have c1 := HC1a2.out
  have c2 := HC2.out
  clear ha2
  go_upto_region 5 with fail
  rw [HAE2.out]
  go_wp2_with fail
  refine CE.out.mono ?_
  rintro e w3 ⟨rfl, hb3⟩
  have HB3 := hid (show Below W.heap.size W w3 from HBa2.out.trans (hb3.mono HBa2.out.size))
  have HB3' := hid hb3
  have c2' : w3.cell? ⟨w2.heap.size, 0, none⟩ = some (.slice ia ns.length ic) := (HB3'.out.cell (p := ⟨w2.heap.size, 0, none⟩) (by show w2.heap.size < a2.heap.size; have := HZ2.out; omega)).trans HC2.out
  have hS3 : ∀ b, (gI < b ∧ b < w2.heap.size) → b < w3.heap.size := fun b hb => by have := HB3'.out.size; have := HZ2.out; omega
  have HS3 := hid hS3
  have CM := hid (markJson_any (S := fun b => gI < b ∧ b < w2.heap.size) 1 w3 ((HNI.out.own.same (fun b hb => HA2.out.block b hb.2)).same (fun b hb => HB3'.out.block b (Nat.lt_of_lt_of_le hb.2 HA2.out.size))) hS3 HOF.out HNL.out)
  obtain ⟨M, hM⟩ : ∃ M, 1 + offC ns ns.length = M := ⟨_, rfl⟩
  rw [hM] at CM
  have HME := hid hM
  clear c1 c2 hb3 hS3 hM
  go_wp2_with fail
  refine CM.out.mono ?_
  rintro e w4 ⟨rfl, ho4, hm4⟩
  have HO4 := hid ho4
  have HM4 := hid hm4
  have HS4 := hid (show ∀ b, (gI < b ∧ b < w2.heap.size) → b < w4.heap.size from fun b hb => Nat.lt_of_lt_of_le (HS3.out b hb) HO4.out.size)
  have HGW := hid (show w1.heap.size < gI by have := HGI.out; have := HZ1.out; omega)
  have HB4 := hid (show Below W.heap.size W w4 from HB3.out.trans (HO4.out.to_below (fun b hb => by have := HGW.out; have := HB1.out.size; omega) HB3.out.size))
  have c4 : w4.cell? ⟨w2.heap.size, 0, none⟩ = some (.slice ia ns.length ic) := (HO4.out.cell (p := ⟨w2.heap.size, 0, none⟩) (by show w2.heap.size < w3.heap.size; have := HB3'.out.size; have := HZ2.out; omega) (fun hb => by have h2 : w2.heap.size < w2.heap.size := hb.2; omega)).trans c2'
  have CH := hid (heldJson_any (S := fun b => gI < b ∧ b < w2.heap.size) 1 w4 HM4.out HS4.out HOF.out HNL.out)
  rw [HME.out] at CH
  have hM0 : ¬ (M : Int) < 0 := by omega
  clear ho4 hm4 c2'
  go_wp2_with fail
  refine CH.out.mono ?_
  rintro e w5 ⟨rfl, hb5⟩
  have HB5' := hid hb5
  have HB5 := hid (show Below W.heap.size W w5 from HB4.out.trans (hb5.mono HB4.out.size))
  clear hb5
  go_wp2_with fail
  refine (CI.out w5 (tabs_below HT.out HB5.out)).mono ?_
  rintro e w6 ⟨gJ, nvJ, rfl, hgJ, hnJ, hb6⟩
  obtain ⟨ja, jc, rfl⟩ := hnJ.slice
  have HNJ := hid hnJ
  have HB6 := hid (show Below W.heap.size W w6 from HB5.out.trans (hb6.mono HB5.out.size))
  have HB6' := hid hb6
  clear hgJ hnJ hb6
  obtain ⟨a3, ha3⟩ : ∃ x, w6.alloc (.cells #[.slice ja ns.length jc] 24) = x := ⟨_, rfl⟩
  have HA3 := hid (show Below w6.heap.size w6 a3 by rw [← ha3]; exact ext_alloc _ _)
  have HZ3 := hid (show a3.heap.size = w6.heap.size + 1 by rw [← ha3]; simp)
  have HC3 := hid (show a3.cell? ⟨w6.heap.size, 0, none⟩ = some (.slice ja ns.length jc) by rw [← ha3]; simp)
  have HBa3 := hid (show Below W.heap.size W a3 from HB6.out.trans (HA3.out.mono HB6.out.size))
  have HAE3 := hid ha3
  have HL5 := hid (show w2.heap.size < w4.heap.size by have := HB3'.out.size; have := HZ2.out; have := HO4.out.size; omega)
  have HB4a3 := hid (show Below w4.heap.size w4 a3 from HB5'.out.trans ((HB6'.out.mono HB5'.out.size).trans (HA3.out.mono (Nat.le_trans HB5'.out.size HB6'.out.size))))
  have HC1w4 := hid (show w4.cell? ⟨w1.heap.size, 0, none⟩ = some (.slice sa ns.length sc) from (HO4.out.cell (p := ⟨w1.heap.size, 0, none⟩) (by show w1.heap.size < w3.heap.size; have := HB3'.out.size; have := HZ2.out; have := HL1.out; omega) (fun hb => by have h1 : gI < w1.heap.size := hb.1; have := HGW.out; omega)).trans ((HB3'.out.cell (p := ⟨w1.heap.size, 0, none⟩) (by show w1.heap.size < a2.heap.size; have := HZ2.out; have := HL1.out; omega)).trans HC1a2.out))
  have c1 : a3.cell? ⟨w1.heap.size, 0, none⟩ = some (.slice sa ns.length sc) := (HB4a3.out.cell (p := ⟨w1.heap.size, 0, none⟩) (by show w1.heap.size < w4.heap.size; have := HL5.out; have := HL1.out; omega)).trans HC1w4.out
  have c3 := HC3.out
  have C6 := hid (show a3.cell? ⟨w2.heap.size, 0, none⟩ = some (.slice ia ns.length ic) from (HB4a3.out.cell (p := ⟨w2.heap.size, 0, none⟩) HL5.out).trans c4)
  have HRS4 := hid (show Rd.rd (fun b => b < w1.heap.size) w4 [.slice sa ns.length sc] ns from Rd.same (fun b hb => HO4.out.block b (by have hb' : b < w1.heap.size := hb; have := HB3'.out.size; have := HZ2.out; have := HL1.out; omega) (fun h => by have h1 := h.1; have hb' : b < w1.heap.size := hb; have := HGW.out; omega)) (Rd.same (fun b hb => HB3'.out.block b (by have hb' : b < w1.heap.size := hb; have := HZ2.out; have := HL1.out; omega)) HRSa.out))
  have HRSz := hid (show Rd.rd (fun b => b < w1.heap.size) a3 [.slice sa ns.length sc] ns from Rd.same (fun b hb => HB4a3.out.block b (by have hb' : b < w1.heap.size := hb; have := HL5.out; have := HL1.out; omega)) HRS4.out)
  have HRJ := hid (show Rd.rd (fun b => gJ < b ∧ b < w6.heap.size) a3 [.slice ja ns.length jc] ns from Rd.same (fun b hb => HA3.out.block b hb.2) HNJ.out.js.rd)
  have CE2 := hid (eqJson_same (x := ⟨ns⟩) (cs := #[.slice ja ns.length jc]) (cs' := #[.slice sa ns.length sc]) a3 (rdJson_mk (x := ⟨ns⟩) (Rd.mono (fun b hb => Nat.lt_of_lt_of_le hb.2 HA3.out.size) HRJ.out)) (rdJson_mk (x := ⟨ns⟩) (Rd.mono (fun b hb => by have hb' : b < w1.heap.size := hb; have := HB4a3.out.size; have := HL5.out; have := HL1.out; show b < a3.heap.size; omega) HRSz.out)))
  clear ha3 c4
  go_upto_region 16 with fail
  rw [HAE3.out]
  go_wp2_with fail
  refine CE2.out.mono ?_
  rintro e w7 ⟨rfl, hb7⟩
  have HB7 := hid (show Below W.heap.size W w7 from HBa3.out.trans (hb7.mono HBa3.out.size))
  have HB7' := hid (show Below w4.heap.size w4 w7 from HB4a3.out.trans (hb7.mono HB4a3.out.size))
  have c7 : w7.cell? ⟨w2.heap.size, 0, none⟩ = some (.slice ia ns.length ic) := (hb7.cell (p := ⟨w2.heap.size, 0, none⟩) (by show w2.heap.size < a3.heap.size; have := HB4a3.out.size; have := HL5.out; omega)).trans C6.out
  have CH2 := hid (heldJson_any (S := fun b => gI < b ∧ b < w2.heap.size) 1 w7 (HM4.out.same (fun b hb => HB7'.out.block b (HS4.out b hb))) (fun b hb => Nat.lt_of_lt_of_le (HS4.out b hb) HB7'.out.size) HOF.out HNL.out)
  rw [HME.out] at CH2
  clear hb7 c1 c3
  go_wp2_with fail
  refine CH2.out.mono ?_
  rintro e w8 ⟨rfl, hb8⟩
  have HB8 := hid (show Below W.heap.size W w8 from HB7.out.trans (hb8.mono HB7.out.size))
  clear hb8
  go_wp2
  go_ret
  exact ⟨rfl, HB8.out⟩
end Go.Proofs.YtlfkfofeenakhaaDoor
