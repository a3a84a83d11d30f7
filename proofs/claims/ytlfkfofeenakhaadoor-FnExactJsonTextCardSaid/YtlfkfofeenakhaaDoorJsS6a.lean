/-
  What is proved here: the reference's JSON reader: what stands while a list or an object is read. No condition; no program is walked.
-/
import Derived.Test.YtlfkfofeenakhaaDoorJsS5
import Derived.Test.YtlfkfofeenakhaaDoorJsL5
import Derived.Test.YtlfkfofeenakhaaDoorRowLaw
namespace Go.Proofs.YtlfkfofeenakhaaDoor
open Go.RowKit
set_option linter.unusedVariables false
set_option linter.unusedSimpArgs false

/-- w' holds what w held but for block nb and the row k -/
structure Chg (nb : Nat) (k : Option Nat) (w w' : World) : Prop where
  os : w'.os = w.os
  tape : w'.tape = w.tape
  output : w'.output = w.output
  size : w.heap.size ≤ w'.heap.size
  block : ∀ b, b < w.heap.size → b ≠ nb → k ≠ some b → w'.heap[b]? = w.heap[b]?
theorem Chg.grown {nb o : Nat} {k : Option Nat} {w w2 : World} {ob : Obj} {u : Value} (h : (w.alloc ob).grownBy w2 k) : Chg nb k w (w2.setCell ⟨nb, o, none⟩ u) := by
  have hal : Below w.heap.size w (w.alloc ob) := ext_alloc w ob
  exact ⟨h.os.trans hal.os, h.tape.trans hal.tape, h.output.trans hal.output, by simp only [World.setCell, Array.size_modify]; exact Nat.le_trans hal.size h.size, fun b hb hn hk => (Below.heap_setCell w2 ⟨nb, o, none⟩ u b hn).trans ((h.block b (Nat.lt_of_lt_of_le hb hal.size) (fun e => hk e.symm)).trans (hal.block b hb))⟩
theorem Chg.own {nb : Nat} {k : Option Nat} {w w' : World} (c : Chg nb k w w') {base : Nat} {e : TypeId} {size n : Nat} {v : Value} {xs : List Value} (h : w.ownsRow base e size v n xs) (h1 : nb < base) (h2 : ∀ b, v.ownBlock = some b → k ≠ some b) : w'.ownsRow base e size v n xs := by
  refine ⟨h.1, ?_⟩
  rcases h.2 with ⟨rfl, hn⟩ | ⟨b, cap, cur, rfl, g1, g2, g3⟩
  · exact Or.inl ⟨rfl, hn⟩
  · exact Or.inr ⟨b, cap, cur, rfl, g1, (c.block b (Array.getElem?_eq_some_iff.1 g2).1 (by omega) (h2 b rfl)).trans g2, g3⟩
theorem Chg.own2 {nb : Nat} {k : Option Nat} {w w' : World} (c : Chg nb k w w') {base : Nat} {e : TypeId} {size n : Nat} {v : Value} {xs : List Value} (h : w.ownsRow base e size v n xs) (h1 : v.ownBlock ≠ some nb) (h2 : ∀ b, v.ownBlock = some b → k ≠ some b) : w'.ownsRow base e size v n xs := by
  refine ⟨h.1, ?_⟩
  rcases h.2 with ⟨rfl, hn⟩ | ⟨b, cap, cur, rfl, g1, g2, g3⟩
  · exact Or.inl ⟨rfl, hn⟩
  · exact Or.inr ⟨b, cap, cur, rfl, g1, (c.block b (Array.getElem?_eq_some_iff.1 g2).1 (fun e => h1 (by rw [e]; rfl)) (h2 b rfl)).trans g2, g3⟩
theorem Chg.nodes {nb g : Nat} {k : Option Nat} {w w' : World} {X X' : Nat → Prop} {nv : Value} {ns : List JNode} (c : Chg nb k w w') (h : JNs X g nv w ns) (hn : X nb) (hk : ∀ b, k = some b → X b) (h1 : nv.ownBlock ≠ some nb) (h2 : ∀ b, nv.ownBlock = some b → k ≠ some b) (hX : ∀ b, b < w.heap.size → ¬ X b → ¬ X' b) : JNs X' g nv w' ns := by
  obtain ⟨css, ho, he⟩ := h
  refine ⟨css, c.own2 ho h1 h2, he.1, fun i a b => ?_⟩
  refine Rd.mono (S := Beside X g nv.ownBlock w) (fun b hb => ⟨hb.1, Nat.lt_of_lt_of_le hb.2.1 c.size, hb.2.2.1, hX b hb.2.1 hb.2.2.2⟩) (Rd.same (fun b hb => c.block b hb.2.1 (fun e => hb.2.2.2 (by rw [e]; exact hn)) (fun e => hb.2.2.2 (hk b e))) (he.2 i a b))
theorem Chg.kp {nb g : Nat} {k r : Option Nat} {w w1 w' : World} (c : Chg nb k w1 w') (h : Kp g r w w1) (hn : w.heap.size ≤ nb) (hk : ∀ b, k = some b → w.heap.size ≤ b) : Kp g r w w' :=
  ⟨c.os.trans h.os, c.tape.trans h.tape, c.output.trans h.output, Nat.le_trans h.size c.size, fun b hb hg hr => (c.block b (Nat.lt_of_lt_of_le hb h.size) (by omega) (fun e => by have := hk b e; omega)).trans (h.block b hb hg hr)⟩
theorem Chg.js {nb : Nat} {k : Option Nat} {w w' : World} {g : Nat} {s : ByteArray} {p cd bd d b : Nat} {nv : Value} (c : Chg nb k w w') (h : JS w g s p cd bd d b nv) (hn : g ≠ nb) (hk : k ≠ some g) : JS w' g s p cd bd d b nv := (c.block g h.cells.2.2.2.2.2.2.2.2.2.2.2.2.2 hn hk).trans h
theorem own_kpr {w w' : World} {g base : Nat} {r : Option Nat} {e : TypeId} {size n : Nat} {v : Value} {xs : List Value} (h : w.ownsRow base e size v n xs) (k : Kp g r w w') (hg : g < base) (hr : ∀ b, v.ownBlock = some b → r ≠ some b) : w'.ownsRow base e size v n xs := by
  refine ⟨h.1, ?_⟩
  rcases h.2 with ⟨rfl, hn⟩ | ⟨b, cap, cur, rfl, h1, h2, h3⟩
  · exact Or.inl ⟨rfl, hn⟩
  · exact Or.inr ⟨b, cap, cur, rfl, h1, (k.block b (Array.getElem?_eq_some_iff.1 h2).1 (by omega) (hr b rfl)).trans h2, h3⟩
theorem rd_ownJ {α : Type} [Rd α] {S : Nat → Prop} {w : World} {base : Nat} {e : TypeId} {v : Value} {css : List (List Value)} {xs : List α} (h : w.ownsRow base e (Rd.n α) v xs.length css.flatten) (he : Each S w css xs) (hS : ∀ b, v.ownBlock = some b → base ≤ b → b < w.heap.size → S b) : Rd.rd S w [v] xs := by
  rcases h.2 with ⟨rfl, hn⟩ | ⟨g, cap, cur, rfl, hb, hg, hnc, hcm, hcs, htake⟩
  · rw [show xs = [] from List.eq_nil_of_length_eq_zero hn]
    exact ⟨none, 0, rfl, Nat.le_refl _, by omega, fun h => absurd h (by simp)⟩
  · have hlt : g < w.heap.size := (Array.getElem?_eq_some_iff.1 hg).1
    have hcur : cur = (css.flatten ++ cur.toList.drop (xs.length * Rd.n α)).toArray := by
      rw [← htake, List.take_append_drop]
    rw [hcur] at hg
    exact rd_of_block hg he (hS g rfl hb hlt) hnc (by unfold maxLen at hcm; omega)
def intsJ (xs : List Int) : List Value := xs.map (Value.int .i64)
theorem intsJ_flat (xs : List Int) : (xs.map fun x => [Value.int .i64 x]).flatten = intsJ xs := by
  induction xs with
  | nil => rfl
  | cons x r ih => simp only [List.map_cons, List.flatten_cons, ih]; rfl
def kindO (o : Nat) : Int := if o = 123 then 7 else 6
/-- what stands while a list or an object is read -/
structure GI (X : Nat → Prop) (w wr : World) (g nb o : Nat) (kv dv nv nv' : Value) (keys : List ByteArray) (kids : List Int) (ns : List JNode) : Prop where
  blk : wr.heap[nb]? = some (.cells #[.int .i64 (kindO o), .string ⟨#[]⟩, kv, dv] 75 (0, 0))
  gnb : g < nb
  wnb : w.heap.size ≤ nb
  kown : wr.ownsRow (nb + 1) 9 1 kv keys.length (strCellsL keys)
  down : wr.ownsRow (nb + 1) 3 1 dv kids.length (intsJ kids)
  ne1 : ∀ b, kv.ownBlock = some b → dv.ownBlock ≠ some b
  ne2 : ∀ b, kv.ownBlock = some b → nv'.ownBlock ≠ some b
  ne3 : ∀ b, dv.ownBlock = some b → nv'.ownBlock ≠ some b
  ne4 : nv'.ownBlock ≠ some nb
  nodes : JNs (fun b => X b ∨ b = nb ∨ kv.ownBlock = some b ∨ dv.ownBlock = some b) g nv' wr ns
  ro : RowOn w nv.ownBlock nv'.ownBlock
  kp : Kp g nv.ownBlock w wr
  ksz : ∀ k ∈ keys, k.size ≤ 1000000
  dsz : ∀ i ∈ kids, 0 ≤ i ∧ i ≤ 1000000
section
variable {X : Nat → Prop} {w wr : World} {g nb o : Nat} {kv dv nv nv' : Value} {keys : List ByteArray} {kids : List Int} {ns : List JNode}
theorem GI.nlt (h : GI X w wr g nb o kv dv nv nv' keys kids ns) : nb < wr.heap.size := (Array.getElem?_eq_some_iff.1 h.blk).1
theorem GI.kp0 {wx : World} (h : GI X w wr g nb o kv dv nv nv' keys kids ns) (k : Kp g none wr wx) : GI X w wx g nb o kv dv nv nv' keys kids ns :=
  ⟨(k.block nb h.nlt (by have := h.gnb; omega) (by simp)).trans h.blk, h.gnb, h.wnb, own_kp h.kown k (by have := h.gnb; omega), own_kp h.down k (by have := h.gnb; omega), h.ne1, h.ne2, h.ne3, h.ne4, h.nodes.kp k, h.ro, h.kp.trans (KpweakJ k _) h.ro, h.ksz, h.dsz⟩
theorem GI.inX (h : GI X w wr g nb o kv dv nv nv' keys kids ns) (hX : ∀ b, X b → b < w.heap.size) : ∀ b, (X b ∨ b = nb ∨ kv.ownBlock = some b ∨ dv.ownBlock = some b) → b < wr.heap.size := by
  rintro b (hb | rfl | hb | hb)
  · exact Nat.lt_of_lt_of_le (hX b hb) h.kp.size
  · exact h.nlt
  · exact (h.kown.lt b hb).2
  · exact (h.down.lt b hb).2
theorem GI.nvlt (h : GI X w wr g nb o kv dv nv nv' keys kids ns) : ∀ b, nv'.ownBlock = some b → b < wr.heap.size := by
  obtain ⟨css, ho, _⟩ := h.nodes
  exact fun b hb => (ho.lt b hb).2
theorem GI.val {w5 : World} {nv5 : Value} {ns5 : List JNode} (h : GI X w wr g nb o kv dv nv nv' keys kids ns) (hn : JNs (fun b => X b ∨ b = nb ∨ kv.ownBlock = some b ∨ dv.ownBlock = some b) g nv5 w5 ns5) (hro : RowOn wr nv'.ownBlock nv5.ownBlock) (hk : Kp g nv'.ownBlock wr w5) : GI X w w5 g nb o kv dv nv nv5 keys kids ns5 :=
  ⟨(hk.block nb h.nlt (by have := h.gnb; omega) h.ne4).trans h.blk, h.gnb, h.wnb, own_kpr h.kown hk (by have := h.gnb; omega) h.ne2, own_kpr h.down hk (by have := h.gnb; omega) h.ne3, h.ne1,
    fun b hb => hro.ne (h.kown.lt b hb).2 (h.ne2 b hb), fun b hb => hro.ne (h.down.lt b hb).2 (h.ne3 b hb), hro.ne h.nlt h.ne4, hn, h.ro.trans hro h.kp.size, h.kp.trans hk h.ro, h.ksz, h.dsz⟩
theorem GI.addKey {w2 : World} {ob : Obj} {g2 cap2 : Nat} {t : ByteArray} (h : GI X w wr g nb o kv dv nv nv' keys kids ns) (hgr : (wr.alloc ob).grownBy w2 kv.ownBlock) (hat : some g2 = kv.ownBlock ∨ wr.heap.size ≤ g2) (hlt : nb < g2)
    (hown : w2.ownsRow (nb + 1) 9 1 (.slice (some ⟨g2, 0, none⟩) (keys.length + 1) cap2) (keys.length + 1) (strCellsL keys ++ [.string t])) (ht : t.size ≤ 1000000) :
    GI X w (w2.setCell ⟨nb, 2, none⟩ (.slice (some ⟨g2, 0, none⟩) (keys.length + 1) cap2)) g nb o (.slice (some ⟨g2, 0, none⟩) (keys.length + 1) cap2) dv nv nv' (keys ++ [t]) kids ns := by
  have c : Chg nb kv.ownBlock wr (w2.setCell ⟨nb, 2, none⟩ (.slice (some ⟨g2, 0, none⟩) (keys.length + 1) cap2)) := Chg.grown hgr
  have hal : Below wr.heap.size wr (wr.alloc ob) := ext_alloc wr ob
  have hb2 : w2.heap[nb]? = some (.cells #[.int .i64 (kindO o), .string ⟨#[]⟩, kv, dv] 75 (0, 0)) :=
    ((hgr.block nb (Nat.lt_of_lt_of_le h.nlt hal.size) (fun e => by have := (h.kown.lt nb e.symm).1; omega)).trans (hal.block nb h.nlt)).trans h.blk
  have hnew : ∀ b, (Value.slice (some ⟨g2, 0, none⟩) (keys.length + 1) cap2).ownBlock = some b → b = g2 := fun b hb => by simpa [Value.ownBlock] using hb.symm
  have hne : ∀ b, b < wr.heap.size → kv.ownBlock ≠ some b → b ≠ g2 := fun b hb hk e => by
    rcases hat with h1 | h1
    · exact hk (by rw [e]; exact h1.symm)
    · omega
  refine ⟨(heap_setCell_same w2 nb 2 _ _ _ hb2).trans rfl, h.gnb, h.wnb, ?_, c.own h.down (by omega) (fun b hb e => h.ne1 b e hb), ?_, ?_, h.ne3, h.ne4, ?_, h.ro, c.kp h.kp h.wnb (fun b hb => by have := (h.kown.lt b hb).1; have := h.wnb; omega), ?_, h.dsz⟩
  · have h1 := ownsRow_setCell_below hown (a := ⟨nb, 2, none⟩) (by show nb < nb + 1; omega) (.slice (some ⟨g2, 0, none⟩) (keys.length + 1) cap2)
    rw [List.length_append, List.length_cons, List.length_nil]
    have e : strCellsL (keys ++ [t]) = strCellsL keys ++ [.string t] := by simp [strCellsL]
    rw [e]
    exact h1
  · intro b hb e
    have hb' := hnew b hb
    exact hne b (h.down.lt b e).2 (fun e2 => h.ne1 b e2 e) hb'
  · intro b hb e
    have hb' := hnew b hb
    exact hne b (h.nvlt b e) (fun e2 => h.ne2 b e2 e) hb'
  · refine c.nodes h.nodes (Or.inr (Or.inl rfl)) (fun b hb => Or.inr (Or.inr (Or.inl hb))) h.ne4 (fun b hb e => h.ne2 b e hb) (fun b hb hx => ?_)
    rintro (h1 | h1 | h1 | h1)
    · exact hx (Or.inl h1)
    · exact hx (Or.inr (Or.inl h1))
    · exact hne b hb (fun e => hx (Or.inr (Or.inr (Or.inl e)))) (hnew b h1)
    · exact hx (Or.inr (Or.inr (Or.inr h1)))
  · intro k hk
    rcases List.mem_append.1 hk with h1 | h1
    · exact h.ksz k h1
    · rw [List.mem_singleton.1 h1]; exact ht
theorem GI.addKid {w2 : World} {ob : Obj} {g2 cap2 : Nat} {t : Int} (h : GI X w wr g nb o kv dv nv nv' keys kids ns) (hgr : (wr.alloc ob).grownBy w2 dv.ownBlock) (hat : some g2 = dv.ownBlock ∨ wr.heap.size ≤ g2) (hlt : nb < g2)
    (hown : w2.ownsRow (nb + 1) 3 1 (.slice (some ⟨g2, 0, none⟩) (kids.length + 1) cap2) (kids.length + 1) (intsJ kids ++ [.int .i64 t])) (ht : 0 ≤ t ∧ t ≤ 1000000) :
    GI X w (w2.setCell ⟨nb, 3, none⟩ (.slice (some ⟨g2, 0, none⟩) (kids.length + 1) cap2)) g nb o kv (.slice (some ⟨g2, 0, none⟩) (kids.length + 1) cap2) nv nv' keys (kids ++ [t]) ns := by
  have c : Chg nb dv.ownBlock wr (w2.setCell ⟨nb, 3, none⟩ (.slice (some ⟨g2, 0, none⟩) (kids.length + 1) cap2)) := Chg.grown hgr
  have hal : Below wr.heap.size wr (wr.alloc ob) := ext_alloc wr ob
  have hb2 : w2.heap[nb]? = some (.cells #[.int .i64 (kindO o), .string ⟨#[]⟩, kv, dv] 75 (0, 0)) :=
    ((hgr.block nb (Nat.lt_of_lt_of_le h.nlt hal.size) (fun e => by have := (h.down.lt nb e.symm).1; omega)).trans (hal.block nb h.nlt)).trans h.blk
  have hnew : ∀ b, (Value.slice (some ⟨g2, 0, none⟩) (kids.length + 1) cap2).ownBlock = some b → b = g2 := fun b hb => by simpa [Value.ownBlock] using hb.symm
  have hne : ∀ b, b < wr.heap.size → dv.ownBlock ≠ some b → b ≠ g2 := fun b hb hk e => by
    rcases hat with h1 | h1
    · exact hk (by rw [e]; exact h1.symm)
    · omega
  refine ⟨(heap_setCell_same w2 nb 3 _ _ _ hb2).trans rfl, h.gnb, h.wnb, c.own h.kown (by omega) (fun b hb e => h.ne1 b hb e), ?_, ?_, h.ne2, ?_, h.ne4, ?_, h.ro, c.kp h.kp h.wnb (fun b hb => by have := (h.down.lt b hb).1; have := h.wnb; omega), h.ksz, ?_⟩
  · have h1 := ownsRow_setCell_below hown (a := ⟨nb, 3, none⟩) (by show nb < nb + 1; omega) (.slice (some ⟨g2, 0, none⟩) (kids.length + 1) cap2)
    rw [List.length_append, List.length_cons, List.length_nil]
    have e : intsJ (kids ++ [t]) = intsJ kids ++ [.int .i64 t] := by simp [intsJ]
    rw [e]
    exact h1
  · intro b hb e
    have hb' := hnew b e
    exact hne b (h.kown.lt b hb).2 (fun e2 => h.ne1 b hb e2) hb'
  · intro b hb e
    have hb' := hnew b hb
    exact hne b (h.nvlt b e) (fun e2 => h.ne3 b e2 e) hb'
  · refine c.nodes h.nodes (Or.inr (Or.inl rfl)) (fun b hb => Or.inr (Or.inr (Or.inr hb))) h.ne4 (fun b hb e => h.ne3 b e hb) (fun b hb hx => ?_)
    rintro (h1 | h1 | h1 | h1)
    · exact hx (Or.inl h1)
    · exact hx (Or.inr (Or.inl h1))
    · exact hx (Or.inr (Or.inr (Or.inl h1)))
    · exact hne b hb (fun e => hx (Or.inr (Or.inr (Or.inr e)))) (hnew b h1)
  · intro k hk
    rcases List.mem_append.1 hk with h1 | h1
    · exact h.dsz k h1
    · rw [List.mem_singleton.1 h1]; exact ht
/-- the node reads off its cells -/
theorem GI.node (h : GI X w wr g nb o kv dv nv nv' keys kids ns) (hX : ∀ b, X b → b < w.heap.size) : Rd.rd (Beside X g nv'.ownBlock wr) wr [.int .i64 (kindO o), .string ⟨#[]⟩, kv, dv] (⟨kindO o, ⟨#[]⟩, keys, kids⟩ : JNode) := by
  refine rdJN_mk (n := ⟨kindO o, ⟨#[]⟩, keys, kids⟩) (by show -9223372036854775808 ≤ kindO o ∧ kindO o ≤ 9223372036854775807; unfold kindO; split <;> omega) (by show (⟨#[]⟩ : ByteArray).size ≤ 9223372036854775807; decide) ?_ ?_
  · refine rd_ownJ (css := keys.map fun x => [Value.string x]) (base := nb + 1) (e := 9) (by rw [strCells_flat]; exact h.kown) ⟨by simp, fun i a b => ?_⟩ (fun b hb h1 h2 => ⟨by have := h.gnb; omega, h2, h.ne2 b hb, fun hx => by have := hX b hx; have := h.wnb; omega⟩)
    simp only [List.getElem_map]
    have h9 : (keys[i]'b).size ≤ 1000000 := h.ksz _ (List.getElem_mem b)
    exact ⟨rfl, by show (keys[i]'b).size ≤ 9223372036854775807; omega⟩
  · have hfl := intsJ_flat kids
    refine rd_ownJ (css := kids.map fun x => [Value.int .i64 x]) (base := nb + 1) (e := 3) (by rw [hfl]; exact h.down) ⟨by simp, fun i a b => ?_⟩ (fun b hb h1 h2 => ⟨by have := h.gnb; omega, h2, h.ne3 b hb, fun hx => by have := hX b hx; have := h.wnb; omega⟩)
    simp only [List.getElem_map]
    have h9 : 0 ≤ kids[i]'b ∧ kids[i]'b ≤ 1000000 := h.dsz _ (List.getElem_mem b)
    exact ⟨rfl, by show -9223372036854775808 ≤ kids[i]'b ∧ kids[i]'b ≤ 9223372036854775807; omega⟩
theorem GI.below (h : GI X w wr g nb o kv dv nv nv' keys kids ns) : JNs X g nv' wr ns := by
  obtain ⟨css, ho, he⟩ := h.nodes
  exact ⟨css, ho, he.1, fun i a b => Rd.mono (fun b hb => ⟨hb.1, hb.2.1, hb.2.2.1, fun hx => hb.2.2.2 (Or.inl hx)⟩) (he.2 i a b)⟩
theorem GI.slices (h : GI X w wr g nb o kv dv nv nv' keys kids ns) : ∃ a1 c1 a2 c2, kv = .slice a1 keys.length c1 ∧ dv = .slice a2 kids.length c2 := by
  obtain ⟨a1, c1, e1⟩ := own_slice h.kown
  obtain ⟨a2, c2, e2⟩ := own_slice h.down
  exact ⟨a1, c1, a2, c2, e1, e2⟩
end
end Go.Proofs.YtlfkfofeenakhaaDoor
