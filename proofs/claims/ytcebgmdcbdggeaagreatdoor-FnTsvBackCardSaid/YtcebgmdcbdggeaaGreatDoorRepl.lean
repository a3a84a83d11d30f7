/-
  What is proved here: plain laws of strings.NewReplacer's table where each old text is one byte and each new one a backslash and a byte: the table in memory, and that it stands. No program in sight.
-/
import Derived.Test.YtcebgmdcbdggeaaGreatDoorConv
import Derived.Test.YtcebgmdcbdggeaaGreatDoorLen
import Derived.Great.BuildSlice
import Derived.Lib.SliceRun
namespace Go.Proofs.YtcebgmdcbdggeaaGreatDoor
open Go.RowKit
set_option linter.unusedVariables false
set_option linter.unusedSimpArgs false

/-- what a byte is replaced by: a backslash and this byte -/
def rep : List (UInt8 × UInt8) → UInt8 → Option UInt8
  | [], _ => none
  | p :: r, b => if p.1 = b then some p.2 else rep r b
def replB (ps : List (UInt8 × UInt8)) (b : UInt8) : List UInt8 :=
  match rep ps b with
  | some c => [92, c]
  | none => [b]
def replL (ps : List (UInt8 × UInt8)) (l : List UInt8) : List UInt8 := l.flatMap (replB ps)
theorem rep_notin {ps : List (UInt8 × UInt8)} {b : UInt8} (h : b ∉ ps.map (·.1)) : rep ps b = none := by
  induction ps with
  | nil => rfl
  | cons p r ih =>
    have h1 : p.1 ≠ b := fun e => h (by simp [e])
    have h2 : b ∉ r.map (·.1) := fun e => h (by simp only [List.map_cons, List.mem_cons]; exact Or.inr e)
    show (if p.1 = b then some p.2 else rep r b) = none
    rw [if_neg h1]
    exact ih h2
theorem rep_nodup {ps : List (UInt8 × UInt8)} (h : (ps.map (·.1)).Nodup) {k : Nat} (hk : k < ps.length) : rep (ps.drop (k + 1)) ps[k].1 = none := by
  apply rep_notin
  have h2 : (ps.drop k).map (·.1) = ps[k].1 :: (ps.drop (k + 1)).map (·.1) := by rw [List.drop_eq_getElem_cons hk]; rfl
  have h3 : ((ps.drop k).map (·.1)).Nodup := by
    rw [List.map_drop]
    exact h.sublist (List.drop_sublist _ _)
  rw [h2] at h3
  exact (List.nodup_cons.1 h3).1
theorem rep_drop {ps : List (UInt8 × UInt8)} {k : Nat} (hk : k < ps.length) : ps.drop k = (ps[k].1, ps[k].2) :: ps.drop (k + 1) := List.drop_eq_getElem_cons hk
theorem replB_len (ps : List (UInt8 × UInt8)) (b : UInt8) : (replB ps b).length = if (rep ps b).isSome then 2 else 1 := by
  unfold replB
  cases rep ps b <;> rfl
theorem replB_le (ps : List (UInt8 × UInt8)) (b : UInt8) : (replB ps b).length ≤ 2 := by rw [replB_len]; split <;> omega
theorem replL_succ (ps : List (UInt8 × UInt8)) {l : List UInt8} {k : Nat} (h : k < l.length) : replL ps (l.take (k + 1)) = replL ps (l.take k) ++ replB ps l[k] := by
  unfold replL
  rw [List.take_add_one, List.getElem?_eq_getElem h]
  show (l.take k ++ [l[k]]).flatMap (replB ps) = _
  rw [List.flatMap_append]
  simp only [List.flatMap_cons, List.flatMap_nil, List.append_nil]
theorem replL_len (ps : List (UInt8 × UInt8)) (l : List UInt8) : (replL ps l).length ≤ 2 * l.length := by
  unfold replL
  induction l with
  | nil => simp
  | cons b m ih =>
    have := replB_le ps b
    simp only [List.flatMap_cons, List.length_append, List.length_cons]
    omega

def olds (ps : List (UInt8 × UInt8)) : List Value := (ps.map fun p => Value.string (mkB [p.1])).reverse
theorem olds_len (ps : List (UInt8 × UInt8)) : (olds ps).length = ps.length := by simp [olds]
theorem olds_cons (o c : UInt8) (ps : List (UInt8 × UInt8)) : olds ((o, c) :: ps) = olds ps ++ [.string (mkB [o])] := by simp [olds]

/-- the table: for each byte a slice of its new bytes, or nil -/
def Tab (ps : List (UInt8 × UInt8)) (br : Nat) (w : World) : Prop :=
  ∀ b : UInt8, (rep ps b = none → w.cell? ⟨br, b.toNat, none⟩ = some (.slice none 0 0)) ∧
    (∀ c, rep ps b = some c → ∃ v, w.cell? ⟨br, b.toNat, none⟩ = some v ∧ OwnC w (br + 1) 5 v (byteVals [92, c]))
/-- the whole replacer -/
structure Bsr (n0 : Nat) (ps : List (UInt8 × UInt8)) (br : Nat) (w : World) : Prop where
  blk : ∃ cur, w.heap[br]? = some (.cells cur 123 (0, 0)) ∧ cur.size = 257
  tab : Tab ps br w
  row : ∃ v, w.cell? ⟨br, 256, none⟩ = some v ∧ w.ownsRow n0 9 1 v ps.length (olds ps)
theorem Bsr.lt {n0 : Nat} {ps : List (UInt8 × UInt8)} {br : Nat} {w : World} (h : Bsr n0 ps br w) : br < w.heap.size := by
  obtain ⟨cur, hg, _⟩ := h.blk
  exact (Array.getElem?_eq_some_iff.1 hg).1
theorem Bsr.frozen {n0 : Nat} {ps : List (UInt8 × UInt8)} {br : Nat} {w : World} (h : Bsr n0 ps br w) (i : Nat) : w.frozen? ⟨br, i, none⟩ = false := by
  obtain ⟨cur, hg, _⟩ := h.blk
  exact frozen_of_row w br i cur _ hg
theorem Tab.later {ps : List (UInt8 × UInt8)} {br : Nat} {w w1 : World} (h : Tab ps br w) (hlt : br < w.heap.size) (hb : Below w.heap.size w w1) : Tab ps br w1 := by
  intro b
  obtain ⟨h1, h2⟩ := h b
  have hc : w1.cell? ⟨br, b.toNat, none⟩ = w.cell? ⟨br, b.toNat, none⟩ := hb.cell (p := ⟨br, b.toNat, none⟩) hlt
  refine ⟨fun e => hc.trans (h1 e), fun c e => ?_⟩
  obtain ⟨v, e1, e2⟩ := h2 c e
  exact ⟨v, hc.trans e1, e2.later hb⟩
theorem Bsr.later {n0 : Nat} {ps : List (UInt8 × UInt8)} {br : Nat} {w w1 : World} (h : Bsr n0 ps br w) (hb : Below w.heap.size w w1) : Bsr n0 ps br w1 := by
  have hlt := h.lt
  obtain ⟨cur, hg, hs⟩ := h.blk
  obtain ⟨v, e1, e2⟩ := h.row
  exact ⟨⟨cur, (hb.block br hlt).trans hg, hs⟩, h.tab.later hlt hb, ⟨v, (hb.cell (p := ⟨br, 256, none⟩) hlt).trans e1, own_later e2 hb⟩⟩
theorem row_string {n0 : Nat} {w : World} {v : Value} {n : Nat} {xs : List Value} (ho : w.ownsRow n0 9 1 v n xs) : ∀ g, v.ownBlock = some g → ∃ cur, w.heap[g]? = some (.cells cur 9 (0, 0)) := by
  intro g hgv
  rcases ho.2 with ⟨rfl, _⟩ | ⟨g', cap, cur, rfl, hb, hgg, _⟩
  · simp [Value.ownBlock] at hgv
  · simp [Value.ownBlock] at hgv
    subst hgv
    exact ⟨cur, hgg⟩
theorem row_ne {n0 br : Nat} {w : World} {v : Value} {n : Nat} {xs : List Value} (hb : ∃ cur, w.heap[br]? = some (.cells cur 123 (0, 0)) ∧ cur.size = 257) (ho : w.ownsRow n0 9 1 v n xs) : v.ownBlock ≠ some br := by
  intro e
  obtain ⟨cur, h1, _⟩ := hb
  obtain ⟨cur', h2⟩ := row_string ho br e
  rw [h1] at h2
  simp at h2
/-- an append onto the row of the old texts leaves the table as it was -/
theorem Tab.append {n0 : Nat} {ps : List (UInt8 × UInt8)} {br : Nat} {w w1 : World} {v : Value} {n : Nat} {xs : List Value} (h : Tab ps br w) (hbk : ∃ cur, w.heap[br]? = some (.cells cur 123 (0, 0)) ∧ cur.size = 257) (ho : w.ownsRow n0 9 1 v n xs) (hg : w.grownBy w1 v.ownBlock) : Tab ps br w1 := by
  have hlt : br < w.heap.size := by
    obtain ⟨cur, hg, _⟩ := hbk
    exact (Array.getElem?_eq_some_iff.1 hg).1
  have hnb := row_ne hbk ho
  have hne := row_string ho
  intro b
  obtain ⟨h1, h2⟩ := h b
  have hc : w1.cell? ⟨br, b.toNat, none⟩ = w.cell? ⟨br, b.toNat, none⟩ := World.cell?_of_block (hg.block br hlt (fun e => hnb e.symm))
  refine ⟨fun e => hc.trans (h1 e), fun c e => ?_⟩
  obtain ⟨u, e1, g, cap, cur, fz, e2, hB, hgg, r⟩ := h2 c e
  refine ⟨u, hc.trans e1, g, cap, cur, fz, e2, hB, ?_, r⟩
  rw [hg.block g (Array.getElem?_eq_some_iff.1 hgg).1 (fun e => by
    obtain ⟨cur', hc'⟩ := hne g e.symm
    rw [hgg] at hc'
    simp at hc')]
  exact hgg
theorem blk_set {br : Nat} {w : World} {t : TypeId} {i : Nat} {u : Value} (h : ∃ cur, w.heap[br]? = some (.cells cur t (0, 0)) ∧ cur.size = 257) : ∃ cur, (w.setCell ⟨br, i, none⟩ u).heap[br]? = some (.cells cur t (0, 0)) ∧ cur.size = 257 := by
  obtain ⟨cur, hg, hs⟩ := h
  exact ⟨_, heap_setCell_same w br i cur t u hg, by simpa using hs⟩
theorem OwnC.set {br i : Nat} {w : World} {e : TypeId} {v u : Value} {xs : List Value} (h : OwnC w (br + 1) e v xs) : OwnC (w.setCell ⟨br, i, none⟩ u) (br + 1) e v xs := by
  obtain ⟨g, cap, cur, fz, e2, hB, hgg, r⟩ := h
  exact ⟨g, cap, cur, fz, e2, hB, (Below.heap_setCell _ _ _ _ (show g ≠ br by omega)).trans hgg, r⟩
theorem cell_set_ne {br i j : Nat} {w : World} {u : Value} (h : i ≠ j) : (w.setCell ⟨br, i, none⟩ u).cell? ⟨br, j, none⟩ = w.cell? ⟨br, j, none⟩ :=
  World.cell?_setCell_other _ ⟨br, i, none⟩ ⟨br, j, none⟩ _ (fun e => h (by injection e))
theorem Tab.set256 {ps : List (UInt8 × UInt8)} {br : Nat} {w : World} {u : Value} (h : Tab ps br w) : Tab ps br (w.setCell ⟨br, 256, none⟩ u) := by
  intro b
  obtain ⟨h1, h2⟩ := h b
  have hc : (w.setCell ⟨br, 256, none⟩ u).cell? ⟨br, b.toNat, none⟩ = w.cell? ⟨br, b.toNat, none⟩ := cell_set_ne (fun e => by have := b.toNat_lt; omega)
  refine ⟨fun e => hc.trans (h1 e), fun c e => ?_⟩
  obtain ⟨v, e1, e2⟩ := h2 c e
  exact ⟨v, hc.trans e1, e2.set⟩
theorem Tab.put {ps : List (UInt8 × UInt8)} {br : Nat} {w : World} {o c : UInt8} {v : Value} (h : Tab ps br w) (hn : rep ps o = none) (hv : OwnC w (br + 1) 5 v (byteVals [92, c])) : Tab ((o, c) :: ps) br (w.setCell ⟨br, o.toNat, none⟩ v) := by
  intro b
  obtain ⟨h1, h2⟩ := h b
  by_cases hb : o = b
  · subst hb
    have hr : rep ((o, c) :: ps) o = some c := by show (if o = o then some c else _) = _; rw [if_pos rfl]
    rw [hr]
    refine ⟨(fun e => by cases e), fun c' e => ?_⟩
    obtain rfl : c = c' := by injection e
    exact ⟨v, World.cell?_setCell_same _ _ _ (h1 hn), hv.set⟩
  · have hr : rep ((o, c) :: ps) b = rep ps b := by show (if o = b then some c else _) = _; rw [if_neg hb]
    rw [hr]
    have hc : (w.setCell ⟨br, o.toNat, none⟩ v).cell? ⟨br, b.toNat, none⟩ = w.cell? ⟨br, b.toNat, none⟩ := cell_set_ne (fun e => hb (UInt8.toNat_inj.1 e))
    refine ⟨fun e => hc.trans (h1 e), fun c e => ?_⟩
    obtain ⟨v, e1, e2⟩ := h2 c e
    exact ⟨v, hc.trans e1, e2.set⟩
/-- one pair more -/
theorem Bsr.put {n0 : Nat} {ps : List (UInt8 × UInt8)} {br : Nat} {w w1 : World} {o c : UInt8} {v v1 vc : Value} (h : Bsr n0 ps br w) (hn : rep ps o = none)
    (hcell : w.cell? ⟨br, 256, none⟩ = some v) (ho : w.ownsRow n0 9 1 v ps.length (olds ps)) (ho1 : w1.ownsRow n0 9 1 v1 (ps.length + 1) (olds ps ++ [.string (mkB [o])])) (hg : w.grownBy w1 v.ownBlock)
    (W : World) (hW : Below w1.heap.size (w1.setCell ⟨br, 256, none⟩ v1) W) (hvc : OwnC W (br + 1) 5 vc (byteVals [92, c])) :
    Bsr n0 ((o, c) :: ps) br (W.setCell ⟨br, o.toNat, none⟩ vc) := by
  have hlt := h.lt
  have hne := row_ne h.blk ho
  have tA := h.tab.append h.blk ho hg
  obtain ⟨cur, hgb, hs⟩ := h.blk
  have hb1 : w1.heap[br]? = w.heap[br]? := hg.block br hlt (fun e => hne e.symm)
  have hlt1 : br < w1.heap.size := Nat.lt_of_lt_of_le hlt hg.size
  have hsz : (w1.setCell ⟨br, 256, none⟩ v1).heap.size = w1.heap.size := by simp [World.setCell]
  have hc1 : w1.cell? ⟨br, 256, none⟩ = some v := (World.cell?_of_block (a := ⟨br, 256, none⟩) hb1).trans hcell
  have hWb : Below (w1.setCell ⟨br, 256, none⟩ v1).heap.size (w1.setCell ⟨br, 256, none⟩ v1) W := by rw [hsz]; exact hW
  have t1 : Tab ps br W := (tA.set256 (u := v1)).later (by rw [hsz]; exact hlt1) hWb
  have b0 : ∃ cur, w1.heap[br]? = some (.cells cur 123 (0, 0)) ∧ cur.size = 257 := ⟨cur, hb1.trans hgb, hs⟩
  have hne1 := row_ne b0 ho1
  obtain ⟨cur2, hg2, hs2⟩ := blk_set (i := 256) (u := v1) b0
  have b2 : ∃ cur, W.heap[br]? = some (.cells cur 123 (0, 0)) ∧ cur.size = 257 := ⟨cur2, (hW.block br hlt1).trans hg2, hs2⟩
  have c2 : W.cell? ⟨br, 256, none⟩ = some v1 := (hW.cell (p := ⟨br, 256, none⟩) hlt1).trans (World.cell?_setCell_same _ _ _ hc1)
  have o2 : (w1.setCell ⟨br, 256, none⟩ v1).ownsRow n0 9 1 v1 (ps.length + 1) (olds ps ++ [.string (mkB [o])]) :=
    ho1.kept (row := some br) ⟨rfl, rfl, rfl, by rw [hsz]; exact Nat.le_refl _, fun k _ hk => Below.heap_setCell _ _ _ _ (fun e => hk (by rw [e]))⟩ (Or.inr hne1)
  have o3 : W.ownsRow n0 9 1 v1 (ps.length + 1) (olds ps ++ [.string (mkB [o])]) := own_later o2 hWb
  have o4 : (W.setCell ⟨br, o.toNat, none⟩ vc).ownsRow n0 9 1 v1 (ps.length + 1) (olds ps ++ [.string (mkB [o])]) :=
    o3.kept (row := some br) ⟨rfl, rfl, rfl, by simp [World.setCell], fun k _ hk => Below.heap_setCell _ _ _ _ (fun e => hk (by rw [e]))⟩ (Or.inr hne1)
  refine ⟨blk_set b2, t1.put hn hvc, ⟨v1, ?_, ?_⟩⟩
  · rw [cell_set_ne (by have := o.toNat_lt; omega)]
    exact c2
  · rw [olds_cons]
    exact o4
/-- the new variable of the alloc, whatever its type's zero value -/
theorem wpList_allocTo {P : Program} {ops : Array Oper} {rest : List Oper} {o : Oper} {a : Act} {w : World} {Q : Exit → Act → World → Prop} (hg : o.guard = none) (e : TypeId) (ho : o.op = .alloc e)
    (d : Option Tmp) (hd : o.dst = d) (zs : Array Value) (hz : ((P.info? e).bind (·.zero)).map (·.cells) = some zs) (N : Nat) (hN : w.heap.size = N)
    (h : wpList P ops Q rest (a.put d (.pointer (some ⟨N, 0, none⟩))) (w.alloc (.cells zs e))) : wpList P ops Q (o :: rest) a w := by
  subst hd hN
  refine wpList_plain hg fun _ hK => ?_
  cases hi : P.info? e with
  | none => simp [hi] at hz
  | some i =>
    cases hzz : i.zero with
    | none => simp [hi, hzz] at hz
    | some z =>
      simp only [hi, hzz, Option.bind_some, Option.map_some, Option.some.injEq] at hz
      subst hz
      have hr : (Instr.alloc e true (.tuple #[])).run P w = .ok (.pointer (some ⟨w.heap.size, 0, none⟩)) (w.alloc (.cells z.cells e)) := by
        simp [Instr.alloc, zeroValue, typeInfo, hi, hzz, newVar, newRow]
      unfold Oper.wp execOp
      simp only [ho, Sem.run_bind, hr, Result.andThen_ok]
      exact hK _ _ h
theorem bsr_zero : ((Tryz.prog.info? 123).bind (·.zero)).map (·.cells) = some (Array.replicate 257 (.slice none 0 0)) := by kernel_rfl
theorem bsr_cells : Tryz.zeroCells123 = Array.replicate 257 (.slice none 0 0) := by kernel_rfl
theorem bsr_size : (Tryz.prog.info? 123).map (·.size) = some 257 := by kernel_rfl
/-- a new replacer's cells -/
noncomputable def bsrC (v : Value) : Array Value := Tryz.zeroCells123.setIfInBounds 256 v
theorem bsrC_size (v : Value) : (bsrC v).size = 257 := by unfold bsrC; rw [bsr_cells]; simp
theorem bsrC_one (v : Value) (h : v.oneCell' = true) : (bsrC v).all (·.oneCell') = true := by
  unfold bsrC
  rw [bsr_cells, Array.all_eq_true]
  intro i hi
  rw [Array.size_setIfInBounds] at hi
  rw [Array.getElem_setIfInBounds hi]
  split
  · exact h
  · rw [Array.getElem_replicate]
    rfl
/-- the table when it is new -/
theorem bsr_new {n0 : Nat} {w : World} {br : Nat} {old : Array Value} {v : Value} (hg : w.heap[br]? = some (.cells old 123 (0, 0))) (ho : w.ownsRow n0 9 1 v 0 []) :
    Bsr n0 [] br (w.setRow br (bsrC v)) := by
  have hh := setRow_heap w br old (bsrC v) 123 (0, 0) hg
  have hc : ∀ i, (w.setRow br (bsrC v)).cell? ⟨br, i, none⟩ = (bsrC v)[i]? := fun i => cell_of_row _ br i _ _ _ hh
  refine ⟨⟨_, hh, bsrC_size v⟩, fun b => ⟨fun _ => ?_, fun c e => by cases e⟩, ⟨v, ?_, ?_⟩⟩
  · have hb := b.toNat_lt
    rw [hc]
    unfold bsrC
    rw [bsr_cells, Array.getElem?_setIfInBounds, if_neg (by omega), Array.getElem?_replicate, if_pos (by omega)]
  · rw [hc]
    unfold bsrC
    rw [bsr_cells, Array.getElem?_setIfInBounds]
    simp
  · exact ho.kept (row := some br) ⟨rfl, rfl, rfl, by simp, fun k _ hk => setRow_other w br k _ (fun e => hk (by rw [e]))⟩ (Or.inr (fun e => by
      obtain ⟨cur', h2⟩ := row_string ho br e
      rw [hg] at h2
      simp at h2))
end Go.Proofs.YtcebgmdcbdggeaaGreatDoor
