/-
  What is proved here: strings.Split, laws.pick, laws.sameTexts at two that read alike. The condition 'Mx' says that the library's MaxLen holds an int.
-/
import Derived.Test.YtibbkddncjohkaaDoorSplitJ
import Derived.Test.YtibbkddncjohkaaDoorShelfA
import Derived.Test.YtibbkddncjohkaaDoorDrw
import Derived.Test.YtibbkddncjohkaaDoorRdr
import Derived.Deep.QuietTactic
import Derived.BigQuiet
namespace Go.Proofs.YtibbkddncjohkaaDoor
open Go.RowKit
set_option linter.unusedVariables false
set_option linter.unusedSimpArgs false

def Mx (w : World) : Prop := ∃ m : Int, w.cell? ⟨2, 0, none⟩ = some (.int .i64 m)
theorem mx_below {w w' : World} (h : Mx w) (hb : Below w.heap.size w w') : Mx w' := by
  obtain ⟨m, hm⟩ := h
  exact ⟨m, keeps_cells hb _ _ hm⟩
theorem parts_size (sep : ByteArray) (h1 : 1 ≤ sep.size) : ∀ (n : Nat) (s : ByteArray), s.size ≤ n → (partsB s sep).length ≤ s.size + 1 ∧ ∀ p ∈ partsB s sep, p.size ≤ s.size := by
  intro n
  induction n with
  | zero =>
    intro s hs
    rcases Lib.indexB_cases s sep with h | ⟨i, h, hi⟩
    · rw [partsB_miss h]; exact ⟨by simp, fun p hp => by simp only [List.mem_singleton] at hp; rw [hp]; exact Nat.le_refl _⟩
    · omega
  | succ n ih =>
    intro s hs
    rcases Lib.indexB_cases s sep with h | ⟨i, h, hi⟩
    · rw [partsB_miss h]; exact ⟨by simp, fun p hp => by simp only [List.mem_singleton] at hp; rw [hp]; exact Nat.le_refl _⟩
    · have hsz : (s.extract (i + sep.size) s.size).size = s.size - (i + sep.size) := by rw [ByteArray.size_extract]; omega
      obtain ⟨h2, h3⟩ := ih _ (show (s.extract (i + sep.size) s.size).size ≤ n by omega)
      rw [partsB_hit h1 h]
      refine ⟨by rw [List.length_cons]; omega, fun p hp => ?_⟩
      rcases List.mem_cons.1 hp with h' | h'
      · rw [h', ByteArray.size_extract]; omega
      · have := h3 p h'; omega
theorem pstep_size (n : Nat) {o : List ByteArray} {b : Bool} {l : ByteArray} {m : Nat} (hl : l.size ≤ n) (ho : ∀ p ∈ o, p.size ≤ m) : ∀ p ∈ (pstep (o, b) l).1, p.size ≤ m + (n + 1) := by
  intro p hp
  unfold pstep at hp
  split at hp
  · exact Nat.le_trans (ho p hp) (by omega)
  · split at hp
    · rcases List.mem_append.1 hp with h | h
      · exact Nat.le_trans (ho p ((List.dropLast_sublist _).subset h)) (by omega)
      · simp only [List.mem_singleton] at h
        rw [h, ByteArray.size_append, ByteArray.size_append]
        have h1 : nlB.size = 1 := rfl
        cases hg : o.getLast? with
        | none => simp only [Option.getD_none]; have h0 : (⟨#[]⟩ : ByteArray).size = 0 := rfl; omega
        | some q => simp only [Option.getD_some]; have := ho q (List.mem_of_getLast? hg); omega
    · rcases List.mem_append.1 hp with h | h
      · exact Nat.le_trans (ho p h) (by omega)
      · simp only [List.mem_singleton] at h
        rw [h]; omega
theorem pFold_size (s : ByteArray) : ∀ k, ∀ p ∈ (pFold s k).1, p.size ≤ k * (s.size + 1) := by
  intro k
  induction k with
  | zero => intro p hp; simp [pFold] at hp
  | succ k ih =>
    by_cases hk : k < (lnsB s).length
    · rw [pFold_succ s k hk]
      have hl : ((lnsB s)[k]).size ≤ s.size := by
        have := (parts_size nlB (by decide) s.size s (Nat.le_refl _)).2
        rw [parts_lnsB] at this
        exact this _ (List.getElem_mem hk)
      have h := pstep_size s.size (o := (pFold s k).1) (b := (pFold s k).2) hl ih
      intro p hp
      have := h p hp
      rw [Nat.succ_mul]
      exact this
    · have : pFold s (k + 1) = pFold s k := by unfold pFold; rw [List.take_of_length_le (by omega), List.take_of_length_le (by omega)]
      rw [this]
      intro p hp
      exact Nat.le_trans (ih p hp) (Nat.mul_le_mul_right _ (by omega))
theorem own_str_last {xs : List ByteArray} (p q : ByteArray) : (strCellsL (xs ++ [p])).set xs.length (.string q) = strCellsL (xs ++ [q]) := by
  unfold strCellsL
  rw [List.map_append, List.map_append, List.set_append_right _ _ (by simp)]
  simp
theorem list_end {α : Type} {l : List α} (h : 0 < l.length) : ∃ a b, l = a ++ [b] := ⟨l.dropLast, l.getLast (by intro e; rw [e] at h; simp at h), (List.dropLast_concat_getLast _).symm⟩

theorem sSplit (s sep : ByteArray) (w : World) (hs : s.size ≤ 100000) (h1 : 1 ≤ sep.size) (hM : Mx w) :
    Calls Tryd.prog 28 #[.string s, .string sep] w fun e w' => ∃ n, e = .returned (.slice (some ⟨w.heap.size, 0, none⟩) n n) ∧ n = (partsB s sep).length ∧ w'.ownsRow w.heap.size 9 1 (.slice (some ⟨w.heap.size, 0, none⟩) n n) n (strCellsL (partsB s sep)) ∧ Below w.heap.size w w' := by
  obtain ⟨m, hm⟩ := hM
  have hl := partsB_len s sep h1
  have hp := (parts_size sep h1 s.size s (Nat.le_refl _)).1
  refine (Tryd.strings_Split s sep m w (by omega) hm h1).mono ?_
  rintro e w' ⟨rfl, rfl⟩
  refine ⟨_, rfl, hl.symm, ?_, ext_alloc _ _⟩
  have := World.ownsRow_lit (base := w.heap.size) (e := 9) (size := 1) w (strCellsL (partsB s sep)).toArray (Lib.countB s sep + 1) (Nat.le_refl _) (by unfold maxLen; omega) (by simp [strCellsL]; omega)
  rw [List.toList_toArray] at this
  exact this
set_option maxHeartbeats 4000000 in
set_option maxRecDepth 100000 in
theorem lawPick {S : Nat → Prop} {v : Value} {c : List UInt8} (at' n : Int) (w : World) (h : Rd.rd S w [v] c) (ha : 0 ≤ at' ∧ at' ≤ 1000) (hn : 2 ≤ n ∧ n ≤ 1000000) :
    Calls Tryd.prog 9 #[v, .int .i64 at', .int .i64 n] w fun e w' => ∃ r : Nat, e = .returned (.int .i64 (r : Int)) ∧ (r : Int) < n ∧ w = w' := by
  obtain ⟨a, cap, rfl, h1, h2, hc⟩ := rdBytes h
  obtain ⟨len, hlen⟩ : ∃ len, c.length = len := ⟨_, rfl⟩
  rw [hlen] at h1 hc
  rw [hlen]
  clear h hlen
  by_cases hz : len = 0
  · subst hz
    clear hc
    go_enter Tryd.func9, Tryd.ntmps9
    go_wp2
    go_ret
    exact ⟨0, rfl, by omega, rfl⟩
  obtain ⟨g, off, rfl, _, hx⟩ := hc (by omega)
  have HX := hid hx
  have hlz : (0 : Int) < (len : Int) := by omega
  have hlz2 : ((len : Int) == 0) = false := by rw [beq_eq_false_iff_ne]; omega
  have hlz3 : ¬ (len : Int) = 0 := by omega
  have hn2 : ¬ n < 2 := by omega
  clear hc hx hz
  go_enter Tryd.func9, Tryd.ntmps9
  go_wp2
  go_loop [7, 8] (fun x k => ∃ xv kv : Nat, x = .int .i64 (xv : Int) ∧ k = .int .i64 (kv : Int) ∧ ((kv = 0 ∧ xv = 0) ∨ (kv = 1 ∧ xv ≤ 255) ∨ (kv = 2 ∧ xv ≤ 8160) ∨ (kv = 3 ∧ xv ≤ 253215))) (fun _ k => 3 - (intOf k).toNat)
  case atStart => exact ⟨0, 0, rfl, rfl, by omega⟩
  case round =>
    obtain ⟨xv, kv, rfl, rfl, hk⟩ := hrel
    by_cases hlt : (kv : Int) < 3
    · obtain ⟨m, hm1, hm2⟩ : ∃ m : Nat, (at' + (kv : Int)) % (len : Int) = (m : Int) ∧ m < len := by
        have q1 := Int.emod_nonneg (at' + (kv : Int)) hlz3
        have q2 := Int.emod_lt_of_pos (at' + (kv : Int)) hlz
        exact ⟨((at' + (kv : Int)) % (len : Int)).toNat, by omega, by omega⟩
      have hm3 : (0 : Int) ≤ (m : Int) := by omega
      have hm4 : (m : Int) < (len : Int) := by omega
      obtain ⟨x, hx1, hx2⟩ := HX.out m hm2
      go_wp2
      go_round
      case rel => exact ⟨31 * xv + x, kv + 1, by first | go_num | (congr 1; omega), by first | go_num | (congr 1; omega), by omega⟩
      case measure => simp [intOf]; omega
    · have hnz : ¬ n = 0 := by omega
      have hn3 : (0 : Int) < n := by omega
      obtain ⟨m, hm1, hm2⟩ : ∃ m : Nat, ((xv : Int) + at') % n = (m : Int) ∧ (m : Int) < n := by
        have q1 := Int.emod_nonneg ((xv : Int) + at') hnz
        have q2 := Int.emod_lt_of_pos ((xv : Int) + at') hn3
        exact ⟨(((xv : Int) + at') % n).toNat, by omega, by omega⟩
      go_wp2
      go_ret
      exact ⟨m, rfl, hm2, rfl⟩
set_option maxHeartbeats 1000000 in
theorem sameTexts_qt {v u : Value} {xs : List ByteArray} (w : World) (h : Rd.rd (Old w) w [v] xs) (h' : Rd.rd (Old w) w [u] xs) :
    Calls Tryd.prog 14 #[v, u] w fun e w' => e = .returned (.bool true) ∧ Qt w w' := by
  obtain ⟨a, cap, hv, h1, h2, hc⟩ := h
  obtain rfl : v = .slice a xs.length cap := by simpa using hv
  obtain ⟨a', cap', hv', h1', h2', hc'⟩ := h'
  obtain rfl : u = .slice a' xs.length cap' := by simpa using hv'
  clear hv hv'
  go_enter Tryd.func14, Tryd.ntmps14
  go_wp2
  go_loopw [5] (fun i wr => ∃ k : Nat, k ≤ xs.length ∧ i = .int .i64 (k : Int) ∧ Qt w wr) (fun i _ => xs.length - (intOf i).toNat)
  case atStart => exact ⟨0, Nat.zero_le _, rfl, Qt.refl _⟩
  case round =>
    obtain ⟨k, hk, rfl, hb⟩ := hrel
    by_cases hlt : k < xs.length
    · obtain ⟨b, off, rfl, hB, hrow⟩ := hc (by omega)
      obtain ⟨b', off', rfl, hB', hrow'⟩ := hc' (by omega)
      obtain ⟨cs, hcell, hx⟩ := hrow k hlt
      obtain ⟨hcs, f0⟩ := hx
      subst hcs
      obtain ⟨cs', hcell', hx'⟩ := hrow' k hlt
      obtain ⟨hcs', f0'⟩ := hx'
      subst hcs'
      have hce : wr.cell? ⟨b, off + k, none⟩ = some (.string xs[k]) := ((hb.below w.heap.size).cell (p := ⟨b, off + k, none⟩) hB).trans (by have h9 := hcell 0 (by decide); rw [show off + k * Rd.n ByteArray + 0 = off + k from by show off + k * 1 + 0 = _; omega] at h9; exact h9)
      have hce' : wr.cell? ⟨b', off' + k, none⟩ = some (.string xs[k]) := ((hb.below w.heap.size).cell (p := ⟨b', off' + k, none⟩) hB').trans (by have h9 := hcell' 0 (by decide); rw [show off' + k * Rd.n ByteArray + 0 = off' + k from by show off' + k * 1 + 0 = _; omega] at h9; exact h9)
      clear hcell hc hcell' hc' hrow hrow' f0 f0'
      have hi1 : (0 : Int) ≤ k := by omega
      have hi2 : (k : Int) < xs.length := by omega
      go_wp2
      go_quiet (fail)
      go_wp2
      go_roundw
      case rel => exact ⟨k + 1, by omega, by go_num, hb.trans (Qt.one _ _)⟩
      case measure => simp [intOf]; omega
    · have : k = xs.length := by omega
      subst this
      clear hc hc'
      go_wp2
      go_ret
      exact ⟨rfl, hb⟩
end Go.Proofs.YtibbkddncjohkaaDoor
