/-
  What is proved here: the cell reader in impl: a row. No condition but that the reader lies in memory.
-/
import Derived.Test.YtommldonooicjaaDoorCsvI3
import Derived.Laws.AppendOwn
import Derived.Laws.Build
namespace Go.Proofs.YtommldonooicjaaDoor
open Go.RowKit
set_option linter.unusedVariables false
set_option linter.unusedSimpArgs false

theorem info_strC : (Tryd.prog.info? 9).map (fun i => (i.zero, i.size, i.bytes)) = some (some (.string ⟨#[]⟩), 1, 16) := by kernel_rfl
/-- the cells of a row as values -/
def cellV (cs : List (List UInt8)) : List Value := cs.map fun t => Value.string (mkB t)
theorem cellV_len (cs : List (List UInt8)) : (cellV cs).length = cs.length := by simp [cellV]
/-- a reading of a row -/
def RowRes (w w' : World) (g : Nat) (s : ByteArray) (R : Nat × Nat × List (List UInt8)) (e : Ending) : Prop :=
  ∃ (a : Option Addr) (n c : Nat), e = .returned (.tuple #[.agg #[.slice a n c], .int .i64 (R.1 : Int)]) ∧ CRd w' g s R.2.1 ∧ Kp g none w w' ∧ (R.1 = 0 → w'.ownsRow w.heap.size 9 1 (.slice a n c) R.2.2.length (cellV R.2.2)) ∧ R.2.1 ≤ s.size
theorem Kp.new {g : Nat} {r : Option Nat} {w w1 : World} (h : Kp g r w w1) {q o : Nat} (hq : w.heap.size ≤ q) (v : Value) : Kp g r w (w1.setCell ⟨q, o, none⟩ v) :=
  ⟨h.os, h.tape, h.output, by simpa [World.setCell] using h.size, fun b hb hg hr => (Below.heap_setCell w1 ⟨q, o, none⟩ v b (show b ≠ q by omega)).trans (h.block b hb hg hr)⟩
theorem Kp.newRow {g : Nat} {w w1 w2 : World} {r : Option Nat} (h : Kp g none w w1) (hg : w1.grownBy w2 r) (hr : ∀ b, r = some b → w.heap.size ≤ b) : Kp g none w w2 :=
  ⟨hg.os.trans h.os, hg.tape.trans h.tape, hg.output.trans h.output, Nat.le_trans h.size hg.size, fun b hb hgb _ => (hg.block b (Nat.lt_of_lt_of_le hb h.size) (fun e => by have := hr b e.symm; omega)).trans (h.block b hb hgb (by simp))⟩
theorem row_shapeC {w : World} {base : Nat} {e : TypeId} {n : Nat} {v : Value} {xs : List Value} (h : w.ownsRow base e 1 v n xs) : ∃ a c, v = .slice a n c := by
  rcases h.2 with ⟨rfl, hn⟩ | ⟨b, cap, cur, rfl, h1, h2⟩
  · subst hn; exact ⟨none, 0, rfl⟩
  · exact ⟨_, _, rfl⟩
theorem row_keepC {w w' : World} {g base : Nat} {e : TypeId} {size n : Nat} {v : Value} {xs : List Value} (hv : w.ownsRow base e size v n xs) (h : Kp g none w w') (hg : g < base) : w'.ownsRow base e size v n xs := by
  refine ⟨hv.1, ?_⟩
  rcases hv.2 with ⟨rfl, hn⟩ | ⟨b, cap, cur, rfl, h1, h2, h3, h4, h5, h6⟩
  · exact Or.inl ⟨rfl, hn⟩
  · have hb : b < w.heap.size := (Array.getElem?_eq_some_iff.1 h2).1
    exact Or.inr ⟨b, cap, cur, rfl, h1, (h.block b hb (by omega) (by simp)).trans h2, h3, h4, h5, h6⟩
theorem row_base {w : World} {base base' : Nat} {e : TypeId} {size n : Nat} {v : Value} {xs : List Value} (hv : w.ownsRow base e size v n xs) (h : base' ≤ base) : w.ownsRow base' e size v n xs := by
  refine ⟨hv.1, ?_⟩
  rcases hv.2 with h1 | ⟨b, cap, cur, h0, h1, h2⟩
  · exact Or.inl h1
  · exact Or.inr ⟨b, cap, cur, h0, Nat.le_trans h h1, h2⟩
theorem CRd.other {w : World} {g p b o : Nat} {s : ByteArray} (h : CRd w g s p) (hne : g ≠ b) (v : Value) : CRd (w.setCell ⟨b, o, none⟩ v) g s p := (Below.heap_setCell w ⟨b, o, none⟩ v g hne).trans h
theorem set_one {w : World} {b : Nat} {u v : Value} {t : TypeId} (h : w.heap[b]? = some (.cells #[u] t (0, 0))) : (w.setCell ⟨b, 0, none⟩ v).heap[b]? = some (.cells #[v] t (0, 0)) := (heap_setCell_same w b 0 _ _ _ h).trans rfl
theorem set_far {w : World} {b c o : Nat} {x : Option Obj} (h : w.heap[b]? = x) (hne : b ≠ c) (v : Value) : (w.setCell ⟨c, o, none⟩ v).heap[b]? = x := (Below.heap_setCell w ⟨c, o, none⟩ v b hne).trans h
theorem ownsRow_other {w : World} {base : Nat} {e : TypeId} {size n : Nat} {v : Value} {xs : List Value} (hv : w.ownsRow base e size v n xs) {c o : Nat} (hne : ∀ b, v.ownBlock = some b → b ≠ c) (u : Value) : (w.setCell ⟨c, o, none⟩ u).ownsRow base e size v n xs := by
  refine ⟨hv.1, ?_⟩
  rcases hv.2 with h1 | ⟨b, cap, cur, rfl, h1, h2, h3⟩
  · exact Or.inl h1
  · exact Or.inr ⟨b, cap, cur, rfl, h1, set_far h2 (hne b rfl) u, h3⟩
theorem rowP_zero (L : List UInt8) (p : Nat) (cs : List (List UInt8)) : rowP L 0 p cs = (5, p, []) := by rw [rowP]
theorem rowP_succ (L : List UInt8) (k p : Nat) (cs : List (List UInt8)) {c n : Nat} {t : List UInt8} (h : cellP (L.drop p) = (c, n, t)) : rowP L (k + 1) p cs =
    if c ≠ 0 then (c, p + n, []) else if 1000 < t.length then (6, p, []) else match endR (L.drop (p + n)) with | some e => (0, p + n + e, cs ++ [t]) | none => rowP L k (p + n + 1) (cs ++ [t]) := by
  rw [rowP, h]
  rfl
/-! ### how far reading comes -/
theorem endR_le {l : List UInt8} {e : Nat} (h : endR l = some e) : e ≤ l.length := by
  cases l with
  | nil => cases h; exact Nat.le_refl _
  | cons c r =>
    unfold endR at h
    simp only at h
    split at h
    · cases h; simp
    · split at h
      · rename_i hh
        cases h
        cases r with
        | nil => have := hh.2; cases this
        | cons d r => simp
      · cases h
theorem unqN_le : ∀ l : List UInt8, (unqN l).1 ≤ l.length
  | [] => Nat.le_refl _
  | c :: r => by
    rw [unqN_cons]
    have := unqN_le r
    simp only [List.length_cons]
    repeat' split
    all_goals simp only
    all_goals omega
theorem qP_le : ∀ {l t : List UInt8} {n : Nat}, qP l = some (t, n) → n ≤ l.length ∧ t.length + 1 ≤ n
  | [], _, _, h => by cases h
  | [c], t, n, h => by
    by_cases hc : c = 34
    · subst hc; cases h; simp
    · rw [qP, if_neg hc] at h; cases h
  | c :: d :: r, t, n, h => by
    by_cases hc : c = 34
    · subst hc
      by_cases hd : d = 34
      · subst hd
        rw [qP, if_pos rfl, if_pos rfl] at h
        cases hq : qP r with
        | none => rw [hq] at h; cases h
        | some q =>
          have := qP_le hq
          rw [hq] at h
          simp only [Option.map_some, Option.some.injEq, Prod.mk.injEq] at h
          obtain ⟨rfl, rfl⟩ := h
          simp only [List.length_cons]
          omega
      · rw [qP, if_pos rfl, if_neg hd] at h
        cases h; simp
    · rw [qP, if_neg hc] at h
      cases hq : qP (d :: r) with
      | none => rw [hq] at h; cases h
      | some q =>
        have := qP_le hq
        rw [hq] at h
        simp only [Option.map_some, Option.some.injEq, Prod.mk.injEq] at h
        obtain ⟨rfl, rfl⟩ := h
        simp only [List.length_cons] at this ⊢
        omega
theorem cellP_le (l : List UInt8) : (cellP l).2.1 ≤ l.length ∧ (cellP l).2.2.length ≤ l.length := by
  unfold cellP
  split
  · cases h : qP l.tail with
    | none => exact ⟨Nat.le_refl _, Nat.zero_le _⟩
    | some q =>
      obtain ⟨t, n⟩ := q
      have := qP_le h
      have hl : 1 ≤ l.length := by cases l with | nil => cases h | cons c r => simp
      rw [List.length_tail] at this
      dsimp only
      split
      · exact ⟨by show n + 1 ≤ _; omega, by show t.length ≤ _; omega⟩
      · exact ⟨by show n + 1 ≤ _; omega, Nat.zero_le _⟩
  · have := unqN_le l
    split
    · exact ⟨this, by rw [List.length_take]; omega⟩
    · exact ⟨this, Nat.zero_le _⟩
set_option maxHeartbeats 16000000 in
set_option maxRecDepth 100000 in
theorem implCsvRow {g p : Nat} {s : ByteArray} (w : World) (hb : CRd w g s p) (hp : p ≤ s.size) (hs : s.size ≤ 4000) :
    Calls Tryd.prog 46 #[.pointer (some ⟨g, 0, none⟩)] w fun e w' => RowRes w w' g s (rowP s.data.toList 100 p []) e := by
  obtain ⟨i0, hi, hz0, hz1, hz2⟩ := info_parts info_strC
  have hg : g < w.heap.size := hb.cells.2.2.2.2
  obtain ⟨R, hR⟩ : ∃ R, rowP s.data.toList 100 p [] = R := ⟨_, rfl⟩
  have HR0 := hid hR
  rw [hR]
  have e1 := ext_alloc w (.cells #[.slice none 0 0] 69)
  have e2 := ext_alloc (w.alloc (.cells #[.slice none 0 0] 69)) (.cells #[.slice none 0 0] 69)
  obtain ⟨w2, hw2⟩ : ∃ x, (w.alloc (.cells #[.slice none 0 0] 69)).alloc (.cells #[.slice none 0 0] 69) = x := ⟨_, rfl⟩
  have hbel : Below w.heap.size w w2 := by rw [← hw2]; exact ext_trans e1 e2
  have hA : w2.heap[w.heap.size]? = some (.cells #[.slice none 0 0] 69 (0, 0)) := by rw [← hw2]; exact (e2.block w.heap.size (by simp)).trans (heap_alloc_new w _)
  have hB : w2.heap[w.heap.size + 1]? = some (.cells #[.slice none 0 0] 69 (0, 0)) := by
    rw [← hw2]
    have := heap_alloc_new (w.alloc (.cells #[.slice none 0 0] 69)) (.cells #[.slice none 0 0] 69)
    simpa using this
  have hsz2 : w2.heap.size = w.heap.size + 2 := by rw [← hw2]; simp
  have HC2 := hid (show CRd w2 g s p from (hbel.block g hg).trans hb)
  have HK2 := hid (Kp.of_below (g := g) (row := none) hbel)
  have HA := hid hA
  have HB := hid hB
  have HS2 := hid hsz2
  clear hb e1 e2 hbel hA hB hR hsz2
  go_enter Tryd.func46, Tryd.ntmps46
  go_wp2
  try rw [hw2]
  clear hw2
  go_loopw [5, 6, 7, 8] (fun v5 v6 v7 v8 wr => ∃ (q : Nat) (cs : List (List UInt8)) (v : Value), p ≤ q ∧ q ≤ s.size ∧ cs.length ≤ 100 ∧ CRd wr g s q ∧ Kp g none w wr ∧ wr.heap[w.heap.size]? = some (.cells #[.slice none 0 0] 69 (0, 0)) ∧ wr.heap[w.heap.size + 1]? = some (.cells #[v] 69 (0, 0)) ∧ wr.ownsRow (w.heap.size + 2) 9 1 v cs.length (cellV cs) ∧ w.heap.size + 2 ≤ wr.heap.size ∧ Hid (R = rowP s.data.toList (100 - cs.length) q cs)) (fun _ _ _ _ wr => s.size - atOf wr g)
  case atStart => exact ⟨p, [], .slice none 0 0, Nat.le_refl _, hp, Nat.zero_le _, HC2.out, HK2.out, HA.out, HB.out, ⟨rfl, Or.inl ⟨rfl, rfl⟩⟩, by rw [HS2.out]; exact Nat.le_refl _, hid HR0.out.symm⟩
  case round =>
    obtain ⟨q, cs, v, hq1, hq2, hcl, hc, hk, ha, hb, hown, hwr, HR⟩ := hrel
    have a0 : wr.cell? ⟨w.heap.size, 0, none⟩ = some (.slice none 0 0) := cell_of_row _ _ 0 _ _ _ ha
    have ay : wr.frozen? ⟨w.heap.size, 0, none⟩ = false := frozen_of_row _ _ 0 _ _ ha
    have b0 : wr.cell? ⟨w.heap.size + 1, 0, none⟩ = some v := cell_of_row _ _ 0 _ _ _ hb
    have by' : wr.frozen? ⟨w.heap.size + 1, 0, none⟩ = false := frozen_of_row _ _ 0 _ _ hb
    obtain ⟨va, vn, vc, hv⟩ : ∃ a n c, v = .slice a n c ∧ n = cs.length := by
      obtain ⟨a, c, h⟩ := row_shapeC hown
      exact ⟨a, _, c, h, rfl⟩
    obtain ⟨rfl, rfl⟩ := hv
    obtain ⟨c0, c1, z0, z1, hg'⟩ := hc.cells
    have hgA : ¬ g = w.heap.size := by omega
    have hgB : ¬ g = w.heap.size + 1 := by omega
    have HAT := hid hc.atOf
    have HC := hid hc
    have HK := hid hk
    have HAA := hid ha
    have HBB := hid hb
    have HO := hid hown
    clear hc hk ha hb hown
    by_cases hfull : cs.length = 100
    · have hf1 : ((cs.length : Int) == 100) = true := by rw [hfull]; rfl
      have HRR := hid (show R = (5, q, []) by rw [HR.out, hfull, rowP_zero])
      clear hfull HR
      go_wp2
      refine bodyPost_ret (v := .tuple #[.agg #[.slice none 0 0], .int .i64 5]) (by simp [results, Tryd.results46, go_sem, *]) rfl ⟨none, 0, 0, by rw [HRR.out] <;> rfl, ?_, HK.out.new (Nat.le_refl _) _, fun h => absurd (show (5 : Nat) = 0 by rw [HRR.out] at h; exact h) (by decide), by rw [HRR.out]; exact hq2⟩
      rw [HRR.out]
      exact HC.out.other hgA _
    · have hf1 : ((cs.length : Int) == 100) = false := by rw [beq_eq_false_iff_ne]; omega
      obtain ⟨k, hk1⟩ : ∃ k, 100 - cs.length = k + 1 := ⟨99 - cs.length, by omega⟩
      obtain ⟨L, hL⟩ : ∃ L, s.data.toList = L := ⟨_, rfl⟩
      have HL := hid hL
      have hcl2 := cellP_le (L.drop q)
      rw [List.length_drop, show L.length = s.size by rw [← hL, Lib.size_eq]] at hcl2
      have CC := hid (fun (w' : World) (hq : Qt wr w') => implReadCell w' (HC.out.qt hq) hq2 hs)
      obtain ⟨⟨cc, cn, ct⟩, hcell⟩ : ∃ x, cellP (L.drop q) = x := ⟨_, rfl⟩
      have hRw : R = if cc ≠ 0 then (cc, q + cn, []) else if 1000 < ct.length then (6, q, []) else match endR (L.drop (q + cn)) with | some e => (0, q + cn + e, cs ++ [ct]) | none => rowP L k (q + cn + 1) (cs ++ [ct]) := by
        rw [HR.out, hk1, hL, rowP_succ L k q cs hcell]
      rw [hL, hcell] at CC
      rw [hcell] at hcl2
      have HRW := hid hRw
      clear hRw hcell HR hL
      dsimp only at hcl2
      go_wp2_with fail
      refine (CC.out _ (Qt.refl _)).mono ?_
      rintro e w3 ⟨rfl, hc3, hk3⟩
      dsimp only at hc3
      have hkk := HK.out.trans hk3 (RowOn.refl _ _)
      have HA3 := hid ((hk3.block w.heap.size (by omega) (fun e => hgA e.symm) (by simp)).trans HAA.out)
      have HB3 := hid ((hk3.block (w.heap.size + 1) (by omega) (fun e => hgB e.symm) (by simp)).trans HBB.out)
      have HO3 := hid (row_keepC HO.out hk3 (by omega))
      have hwr3 : w.heap.size + 2 ≤ w3.heap.size := Nat.le_trans hwr hk3.size
      have HC3 := hid hc3
      have HK3 := hid hkk
      clear c0 c1 z0 z1 a0 ay b0 by' hg' hc3 hk3 hkk CC HC HK HAA HBB HO
      have a0 : w3.cell? ⟨w.heap.size, 0, none⟩ = some (.slice none 0 0) := cell_of_row _ _ 0 _ _ _ HA3.out
      have ay : w3.frozen? ⟨w.heap.size, 0, none⟩ = false := frozen_of_row _ _ 0 _ _ HA3.out
      have b0 : w3.cell? ⟨w.heap.size + 1, 0, none⟩ = some (.slice va cs.length vc) := cell_of_row _ _ 0 _ _ _ HB3.out
      have by' : w3.frozen? ⟨w.heap.size + 1, 0, none⟩ = false := frozen_of_row _ _ 0 _ _ HB3.out
      obtain ⟨c0, c1, z0, z1, hg'⟩ := HC3.out.cells
      by_cases hcc : cc = 0
      rotate_left
      · have hz1 : ((cc : Int) == 0) = false := by rw [beq_eq_false_iff_ne]; omega
        have hz2 : ((cc : Int) != 0) = true := by rw [bne_iff_ne]; omega
        have hz3 : ¬ (cc : Int) = 0 := by omega
        have HRR := hid (show R = (cc, q + cn, []) by rw [HRW.out, if_pos hcc])
        clear HRW
        go_wp2
        refine bodyPost_ret (v := .tuple #[.agg #[.slice none 0 0], .int .i64 (cc : Int)]) (by simp [results, Tryd.results46, go_sem, *]) rfl ⟨none, 0, 0, by rw [HRR.out] <;> rfl, ?_, HK3.out.new (Nat.le_refl _) _, fun h => absurd (show cc = 0 by rw [HRR.out] at h; exact h) hcc, by rw [HRR.out]; show q + cn ≤ _; omega⟩
        rw [HRR.out]
        exact HC3.out.other hgA _
      subst hcc
      by_cases hlong : 1000 < ct.length
      · have hl1 : (1000 : Int) < ((mkB ct).size : Int) := by rw [mkB_size]; omega
        have HRR := hid (show R = (6, q, []) by rw [HRW.out, if_neg (by simp), if_pos hlong])
        have HCQ := hid (HC3.out.set q)
        have HKQ := hid (HK3.out.set 1 (.int .i64 (q : Int)))
        clear HRW hlong
        go_wp2
        refine bodyPost_ret (v := .tuple #[.agg #[.slice none 0 0], .int .i64 6]) (by simp [results, Tryd.results46, go_sem, *]) rfl ⟨none, 0, 0, by rw [HRR.out] <;> rfl, ?_, HKQ.out.new (Nat.le_refl _) _, fun h => absurd (show (6 : Nat) = 0 by rw [HRR.out] at h; exact h) (by decide), by rw [HRR.out]; exact hq2⟩
        rw [HRR.out]
        exact HCQ.out.other hgA _
      have hl1 : ¬ (1000 : Int) < ((mkB ct).size : Int) := by rw [mkB_size]; omega
      have HRW2 := hid (show R = match endR (L.drop (q + cn)) with | some e => (0, q + cn + e, cs ++ [ct]) | none => rowP L k (q + cn + 1) (cs ++ [ct]) by rw [HRW.out, if_neg (by simp), if_neg hlong])
      clear HRW hlong
      have hown3 := HO3.out
      go_wp2_with ((at_builtin; refine wpList_append_own _ rfl _ _ 24 rfl (w.heap.size + 2) 9 i0 (.string ⟨#[]⟩) 1 16 Tryd.underlying24 hi hz0 hz1 hz2 rfl (by decide) _ _ _ rfl (hown3.alloc _) ⟨w3.heap.size, 0, none⟩ 1 1 [.string (mkB ct)] rfl rfl ?c1 ?c2 ?c3 ?c4 ?c5 ?_))
      case c1 => exact cell_one_new _ _ _
      case c2 => intro u hu; simp at hu; subst hu; rfl
      case c3 => unfold maxLen; omega
      case c4 => omega
      case c5 => simp; omega
      intro v' w4 hown4 hgrow hvn
      obtain ⟨va', vc', hv'⟩ := row_shapeC hown4
      subst hv'
      have hown4' : w4.ownsRow (w.heap.size + 2) 9 1 (.slice va' (cs.length + 1) vc') (cs ++ [ct]).length (cellV (cs ++ [ct])) := by
        have e : cellV (cs ++ [ct]) = cellV cs ++ [.string (mkB ct)] := by simp [cellV]
        rw [e, List.length_append]
        exact hown4
      have hal : Below w3.heap.size w3 (w3.alloc (.cells #[.string (mkB ct)] 9)) := ext_alloc _ _
      have hrow : ∀ b, (Value.slice va cs.length vc).ownBlock = some b → w.heap.size + 2 ≤ b := fun b hb => (HO3.out.lt b hb).1
      have hblk : ∀ b, b < w.heap.size + 2 → b < w3.heap.size → w4.heap[b]? = w3.heap[b]? := fun b hb hb3 => (hgrow.block b (Nat.lt_of_lt_of_le hb3 hal.size) (fun e => by have := hrow b e.symm; omega)).trans (hal.block b hb3)
      have HC4 := hid (show CRd w4 g s (q + cn) from (hblk g (by omega) (by omega)).trans HC3.out)
      have HK4 := hid (Kp.newRow (HK3.out.alloc (.cells #[.string (mkB ct)] 9)) hgrow (fun b hb => by have := hrow b hb; omega))
      have HA4 := hid ((hblk w.heap.size (by omega) (by omega)).trans HA3.out)
      have HB4 := hid ((hblk (w.heap.size + 1) (by omega) (by omega)).trans HB3.out)
      have hwr4 : w.heap.size + 2 ≤ w4.heap.size := Nat.le_trans (Nat.le_trans hwr3 hal.size) hgrow.size
      have HO4 := hid hown4'
      clear hown4' hown4 hgrow hvn hal hrow hblk c0 c1 z0 z1 hg' a0 ay b0 by' hown3 HC3 HK3 HA3 HB3 HO3
      have b0 : w4.cell? ⟨w.heap.size + 1, 0, none⟩ = some (.slice va cs.length vc) := cell_of_row _ _ 0 _ _ _ HB4.out
      have by' : w4.frozen? ⟨w.heap.size + 1, 0, none⟩ = false := frozen_of_row _ _ 0 _ _ HB4.out
      go_upto_region 11 with fail
      obtain ⟨w5, hw5⟩ : ∃ x, w4.setCell ⟨w.heap.size + 1, 0, none⟩ (.slice va' (cs.length + 1) vc') = x := ⟨_, rfl⟩
      try rw [hw5]
      have HC5 := hid (show CRd w5 g s (q + cn) by rw [← hw5]; exact HC4.out.other hgB _)
      have HK5 := hid (show Kp g none w w5 by rw [← hw5]; exact HK4.out.new (Nat.le_succ _) _)
      have HA5 := hid (show w5.heap[w.heap.size]? = some (.cells #[.slice none 0 0] 69 (0, 0)) by rw [← hw5]; exact set_far HA4.out (by omega) _)
      have HB5 := hid (show w5.heap[w.heap.size + 1]? = some (.cells #[.slice va' (cs.length + 1) vc'] 69 (0, 0)) by rw [← hw5]; exact set_one HB4.out)
      have HO5 := hid (show w5.ownsRow (w.heap.size + 2) 9 1 (.slice va' (cs.length + 1) vc') (cs ++ [ct]).length (cellV (cs ++ [ct])) by
        rw [← hw5]
        refine ownsRow_other HO4.out (fun b hb => ?_) _
        have := (HO4.out.lt b hb).1
        omega)
      have hwr5 : w.heap.size + 2 ≤ w5.heap.size := by rw [← hw5]; simpa [World.setCell] using hwr4
      have CE := hid (implEndsRow w5 HC5.out (by omega) hs)
      rw [HL.out] at CE
      clear hw5 b0 by' HC4 HK4 HA4 HB4 HO4
      cases hE : endR (L.drop (q + cn)) with
      | none =>
        have hEI : endI (L.drop (q + cn)) = -1 := by unfold endI; rw [hE]
        rw [hEI] at CE
        have HRN := hid (show R = rowP L k (q + cn + 1) (cs ++ [ct]) by rw [HRW2.out, hE])
        have hlt6 : q + cn < s.size := by
          rcases Nat.lt_or_ge (q + cn) s.size with h | h
          · exact h
          · rw [List.drop_eq_nil_of_le (by rw [← HL.out, ← Lib.size_eq]; exact h)] at hE
            cases hE
        obtain ⟨q6, hq6⟩ : ∃ x, q + cn + 1 = x := ⟨_, rfl⟩
        obtain ⟨q5, hq5⟩ : ∃ x, q + cn = x := ⟨_, rfl⟩
        have hw6' : (q5 : Int) + 1 = (q6 : Int) := by omega
        have hw6 : IntKind.i64.wrap (q6 : Int) = (q6 : Int) := IntWalk.i64_in _ (by omega)
        rw [hq6] at HRN
        rw [hq5] at HC5
        clear HRW2 hE hEI
        go_wp2_with fail
        refine CE.out.mono ?_
        rintro e w6 ⟨rfl, hq6'⟩
        obtain ⟨c0, c1, z0, z1, hg'⟩ := (HC5.out.qt hq6').cells
        have HB7 := hid ((HC5.out.qt hq6').set q6)
        have HK7 := hid ((HK5.out.trans hq6'.kp (RowOn.refl _ _)).set 1 (.int .i64 (q6 : Int)))
        have HA7 := hid (set_far (c := g) (o := 1) (hq6'.at HA5.out) (fun e => hgA e.symm) (.int .i64 (q6 : Int)))
        have HBB7 := hid (set_far (c := g) (o := 1) (hq6'.at HB5.out) (fun e => hgB e.symm) (.int .i64 (q6 : Int)))
        have HO7 := hid (row_keepC HO5.out ((hq6'.kp (g := g) (r := none)).set 1 (.int .i64 (q6 : Int))) (by omega))
        have hwr7 : w.heap.size + 2 ≤ (w6.setCell ⟨g, 1, none⟩ (.int .i64 (q6 : Int))).heap.size := by
          have := hq6'.heap
          simp only [World.setCell, Array.size_modify]
          rw [this]; exact hwr5
        go_wp2
        go_roundw
        case rel =>
          refine ⟨q6, cs ++ [ct], .slice va' (cs.length + 1) vc', by omega, by omega, by simp; omega, HB7.out, HK7.out, HA7.out, HBB7.out, HO7.out, hwr7, ?_⟩
          rw [show 100 - (cs ++ [ct]).length = k by simp; omega]
          rw [← HL.out] at HRN
          exact HRN
        case measure =>
          have e1 := HB7.out.atOf
          have e2 := HAT.out
          rw [e1, e2]
          omega
      | some ee =>
        have hle := endR_le hE
        rw [List.length_drop, show L.length = s.size by rw [← HL.out, Lib.size_eq]] at hle
        have hEI : endI (L.drop (q + cn)) = (ee : Int) := by unfold endI; rw [hE]
        rw [hEI] at CE
        have HRN := hid (show R = (0, q + cn + ee, cs ++ [ct]) by rw [HRW2.out, hE])
        obtain ⟨q6, hq6⟩ : ∃ x, q + cn + ee = x := ⟨_, rfl⟩
        obtain ⟨q5, hq5⟩ : ∃ x, q + cn = x := ⟨_, rfl⟩
        have hw6' : (q5 : Int) + (ee : Int) = (q6 : Int) := by omega
        have hw6 : IntKind.i64.wrap (q6 : Int) = (q6 : Int) := IntWalk.i64_in _ (by omega)
        have hge : (0 : Int) ≤ (ee : Int) := by omega
        rw [hq6] at HRN
        rw [hq5] at HC5
        clear HRW2 hE hEI
        go_wp2_with fail
        refine CE.out.mono ?_
        rintro e w6 ⟨rfl, hq6'⟩
        obtain ⟨c0, c1, z0, z1, hg'⟩ := (HC5.out.qt hq6').cells
        have hq60 : q6 ≤ s.size := by omega
        have HB7 := hid ((HC5.out.qt hq6').set q6)
        have HK7 := hid ((HK5.out.trans hq6'.kp (RowOn.refl _ _)).set 1 (.int .i64 (q6 : Int)))
        have HA7 := hid (set_far (c := g) (o := 1) (hq6'.at HA5.out) (fun e => hgA e.symm) (.int .i64 (q6 : Int)))
        have HBB7 := hid (set_far (c := g) (o := 1) (hq6'.at HB5.out) (fun e => hgB e.symm) (.int .i64 (q6 : Int)))
        have HO7 := hid (row_keepC HO5.out ((hq6'.kp (g := g) (r := none)).set 1 (.int .i64 (q6 : Int))) (by omega))
        obtain ⟨w7, hw7⟩ : ∃ x, w6.setCell ⟨g, 1, none⟩ (.int .i64 (q6 : Int)) = x := ⟨_, rfl⟩
        rw [hw7] at HB7 HK7 HA7 HBB7 HO7
        go_upto_region 14 with fail
        try rw [hw7]
        clear hw7 c0 c1 z0 z1 hg'
        have a0 : w7.cell? ⟨w.heap.size, 0, none⟩ = some (.slice none 0 0) := cell_of_row _ _ 0 _ _ _ HA7.out
        have ay : w7.frozen? ⟨w.heap.size, 0, none⟩ = false := frozen_of_row _ _ 0 _ _ HA7.out
        have b0 : w7.cell? ⟨w.heap.size + 1, 0, none⟩ = some (.slice va' (cs.length + 1) vc') := cell_of_row _ _ 0 _ _ _ HBB7.out
        go_wp2
        refine bodyPost_ret (v := .tuple #[.agg #[.slice va' (cs.length + 1) vc'], .int .i64 0]) (by simp [results, Tryd.results46, go_sem, a0, ay, b0]) rfl ⟨va', cs.length + 1, vc', by rw [HRN.out] <;> rfl, ?_, HK7.out.new (Nat.le_refl _) _, fun _ => ?_, by rw [HRN.out]; exact hq60⟩
        · rw [HRN.out]
          exact HB7.out.other hgA _
        · rw [HRN.out]
          refine row_base (base := w.heap.size + 2) ?_ (by omega)
          refine ownsRow_other HO7.out (fun b hb => ?_) _
          have := (HO7.out.lt b hb).1
          omega
end Go.Proofs.YtommldonooicjaaDoor
