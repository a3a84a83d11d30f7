/-
  What is proved here: impl's JSON reader: what stands while a list or an object is read, each row in a block of its own. No condition; no program is walked but 'add'.
-/
import Derived.Test.YtlfkfofeenakhaaDoorJsI5
namespace Go.Proofs.YtlfkfofeenakhaaDoor
open Go.RowKit
set_option linter.unusedVariables false
set_option linter.unusedSimpArgs false

theorem JNo.js {X : Nat → Prop} {g : Nat} {nv : Value} {w : World} {ns : List JNode} (h : JNo X g nv w ns) : JNs X g nv w ns := by
  obtain ⟨os, css, hm, hd, ho, he⟩ := h
  have hl : os.length = ns.length := by rw [← hm, List.length_map]
  refine ⟨css, by rw [← hl]; exact ho, by rw [he.1, hl], fun i a b => ?_⟩
  have hb : i < os.length := by rw [hl]; exact b
  have h1 := (he.2 i a hb).1
  have h2 : (os[i]'hb).n = ns[i]'b := by subst hm; simp
  rw [← h2]
  exact h1
theorem Chg.nodesO {nb g : Nat} {k : Option Nat} {w w' : World} {X X' : Nat → Prop} {nv : Value} {ns : List JNode} (c : Chg nb k w w') (h : JNo X g nv w ns) (hn : X nb) (hk : ∀ b, k = some b → X b) (h1 : nv.ownBlock ≠ some nb) (h2 : ∀ b, nv.ownBlock = some b → k ≠ some b) (hX : ∀ b, b < w.heap.size → ¬ X b → ¬ X' b) : JNo X' g nv w' ns := by
  obtain ⟨os, css, hm, hd, ho, he⟩ := h
  refine ⟨os, css, hm, hd, c.own2 ho h1 h2, he.1, fun i a b => ?_⟩
  refine Rd.mono (S := Beside X g nv.ownBlock w) (fun b hb => ⟨hb.1, Nat.lt_of_lt_of_le hb.2.1 c.size, hb.2.2.1, hX b hb.2.1 hb.2.2.2⟩) (Rd.same (fun b hb => c.block b hb.2.1 (fun e => hb.2.2.2 (by rw [e]; exact hn)) (fun e => hb.2.2.2 (hk b e))) (he.2 i a b))
theorem Chg.ji {nb : Nat} {k : Option Nat} {w w' : World} {g : Nat} {s : ByteArray} {p b : Nat} {nv : Value} (c : Chg nb k w w') (h : JI w g s p b nv) (hn : g ≠ nb) (hk : k ≠ some g) : JI w' g s p b nv := (c.block g h.cells.2.2.2.2.2.2.2 hn hk).trans h
/-- what stands while a list or an object is read -/
structure GO (X : Nat → Prop) (w wr : World) (g nb o : Nat) (kv dv nv nv' : Value) (keys : List ByteArray) (kids : List Int) (ns : List JNode) : Prop where
  gi : GI X w wr g nb o kv dv nv nv' keys kids ns
  no : JNo (fun b => X b ∨ b = nb ∨ kv.ownBlock = some b ∨ dv.ownBlock = some b) g nv' wr ns
section
variable {X : Nat → Prop} {w wr : World} {g nb o : Nat} {kv dv nv nv' : Value} {keys : List ByteArray} {kids : List Int} {ns : List JNode}
theorem GO.kp0 {wx : World} (h : GO X w wr g nb o kv dv nv nv' keys kids ns) (k : Kp g none wr wx) : GO X w wx g nb o kv dv nv nv' keys kids ns := ⟨h.gi.kp0 k, h.no.kp k⟩
theorem GO.val {w5 : World} {nv5 : Value} {ns5 : List JNode} (h : GO X w wr g nb o kv dv nv nv' keys kids ns) (hn : JNo (fun b => X b ∨ b = nb ∨ kv.ownBlock = some b ∨ dv.ownBlock = some b) g nv5 w5 ns5) (hro : RowOn wr nv'.ownBlock nv5.ownBlock) (hk : Kp g nv'.ownBlock wr w5) : GO X w w5 g nb o kv dv nv nv5 keys kids ns5 := ⟨h.gi.val hn.js hro hk, hn⟩
theorem GO.addKey {w2 : World} {ob : Obj} {g2 cap2 : Nat} {t : ByteArray} (h : GO X w wr g nb o kv dv nv nv' keys kids ns) (hgr : (wr.alloc ob).grownBy w2 kv.ownBlock) (hat : some g2 = kv.ownBlock ∨ wr.heap.size ≤ g2) (hlt : nb < g2)
    (hown : w2.ownsRow (nb + 1) 9 1 (.slice (some ⟨g2, 0, none⟩) (keys.length + 1) cap2) (keys.length + 1) (strCellsL keys ++ [.string t])) (ht : t.size ≤ 1000000) :
    GO X w (w2.setCell ⟨nb, 2, none⟩ (.slice (some ⟨g2, 0, none⟩) (keys.length + 1) cap2)) g nb o (.slice (some ⟨g2, 0, none⟩) (keys.length + 1) cap2) dv nv nv' (keys ++ [t]) kids ns := by
  have c : Chg nb kv.ownBlock wr (w2.setCell ⟨nb, 2, none⟩ (.slice (some ⟨g2, 0, none⟩) (keys.length + 1) cap2)) := Chg.grown hgr
  have hnew : ∀ b, (Value.slice (some ⟨g2, 0, none⟩) (keys.length + 1) cap2).ownBlock = some b → b = g2 := fun b hb => by simpa [Value.ownBlock] using hb.symm
  have hne : ∀ b, b < wr.heap.size → kv.ownBlock ≠ some b → b ≠ g2 := fun b hb hk e => by
    rcases hat with h1 | h1
    · exact hk (by rw [e]; exact h1.symm)
    · omega
  refine ⟨h.gi.addKey hgr hat hlt hown ht, c.nodesO h.no (Or.inr (Or.inl rfl)) (fun b hb => Or.inr (Or.inr (Or.inl hb))) h.gi.ne4 (fun b hb e => h.gi.ne2 b e hb) (fun b hb hx => ?_)⟩
  rintro (h1 | h1 | h1 | h1)
  · exact hx (Or.inl h1)
  · exact hx (Or.inr (Or.inl h1))
  · exact hne b hb (fun e => hx (Or.inr (Or.inr (Or.inl e)))) (hnew b h1)
  · exact hx (Or.inr (Or.inr (Or.inr h1)))
theorem GO.addKid {w2 : World} {ob : Obj} {g2 cap2 : Nat} {t : Int} (h : GO X w wr g nb o kv dv nv nv' keys kids ns) (hgr : (wr.alloc ob).grownBy w2 dv.ownBlock) (hat : some g2 = dv.ownBlock ∨ wr.heap.size ≤ g2) (hlt : nb < g2)
    (hown : w2.ownsRow (nb + 1) 3 1 (.slice (some ⟨g2, 0, none⟩) (kids.length + 1) cap2) (kids.length + 1) (intsJ kids ++ [.int .i64 t])) (ht : 0 ≤ t ∧ t ≤ 1000000) :
    GO X w (w2.setCell ⟨nb, 3, none⟩ (.slice (some ⟨g2, 0, none⟩) (kids.length + 1) cap2)) g nb o kv (.slice (some ⟨g2, 0, none⟩) (kids.length + 1) cap2) nv nv' keys (kids ++ [t]) ns := by
  have c : Chg nb dv.ownBlock wr (w2.setCell ⟨nb, 3, none⟩ (.slice (some ⟨g2, 0, none⟩) (kids.length + 1) cap2)) := Chg.grown hgr
  have hnew : ∀ b, (Value.slice (some ⟨g2, 0, none⟩) (kids.length + 1) cap2).ownBlock = some b → b = g2 := fun b hb => by simpa [Value.ownBlock] using hb.symm
  have hne : ∀ b, b < wr.heap.size → dv.ownBlock ≠ some b → b ≠ g2 := fun b hb hk e => by
    rcases hat with h1 | h1
    · exact hk (by rw [e]; exact h1.symm)
    · omega
  refine ⟨h.gi.addKid hgr hat hlt hown ht, c.nodesO h.no (Or.inr (Or.inl rfl)) (fun b hb => Or.inr (Or.inr (Or.inr hb))) h.gi.ne4 (fun b hb e => h.gi.ne3 b e hb) (fun b hb hx => ?_)⟩
  rintro (h1 | h1 | h1 | h1)
  · exact hx (Or.inl h1)
  · exact hx (Or.inr (Or.inl h1))
  · exact hx (Or.inr (Or.inr (Or.inl h1)))
  · exact hne b hb (fun e => hx (Or.inr (Or.inr (Or.inr e)))) (hnew b h1)
/-- the node, its rows in blocks of their own -/
theorem GO.node (h : GO X w wr g nb o kv dv nv nv' keys kids ns) (hX : ∀ b, X b → b < w.heap.size) : Rd.rd (Beside X g nv'.ownBlock wr) wr [.int .i64 (kindO o), .string ⟨#[]⟩, kv, dv] (⟨⟨kindO o, ⟨#[]⟩, keys, kids⟩, kv.ownBlock, dv.ownBlock⟩ : JOwn) := by
  have hk : ∀ b, kv.ownBlock = some b → nb + 1 ≤ b → b < wr.heap.size → Beside X g nv'.ownBlock wr b := fun b hb h1 h2 => ⟨by have := h.gi.gnb; omega, h2, h.gi.ne2 b hb, fun hx => by have := hX b hx; have := h.gi.wnb; omega⟩
  have hd : ∀ b, dv.ownBlock = some b → nb + 1 ≤ b → b < wr.heap.size → Beside X g nv'.ownBlock wr b := fun b hb h1 h2 => ⟨by have := h.gi.gnb; omega, h2, h.gi.ne3 b hb, fun hx => by have := hX b hx; have := h.gi.wnb; omega⟩
  refine ⟨h.gi.node hX, ⟨kv, dv, rfl, ow_own h.gi.kown (fun b h1 h2 h3 => ⟨hk b h1 h2 h3, h1⟩), ow_own h.gi.down (fun b h1 h2 h3 => ⟨hd b h1 h2 h3, h1⟩)⟩, fun b hb => ?_⟩
  rcases List.mem_append.1 hb with h1 | h1
  · have h1 : kv.ownBlock = some b := by simpa using h1
    obtain ⟨a1, a2⟩ := h.gi.kown.lt b h1
    exact hk b h1 a1 a2
  · have h1 : dv.ownBlock = some b := by simpa using h1
    obtain ⟨a1, a2⟩ := h.gi.down.lt b h1
    exact hd b h1 a1 a2
theorem GO.bs (h : GO X w wr g nb o kv dv nv nv' keys kids ns) : (⟨⟨kindO o, ⟨#[]⟩, keys, kids⟩, kv.ownBlock, dv.ownBlock⟩ : JOwn).bs.Nodup := by
  show (kv.ownBlock.toList ++ dv.ownBlock.toList).Nodup
  cases hk : kv.ownBlock with
  | none => cases dv.ownBlock <;> simp
  | some a =>
    cases hd : dv.ownBlock with
    | none => simp
    | some b =>
      have := h.gi.ne1 a hk
      rw [hd] at this
      simp
      exact fun e => this (by rw [e])
theorem GO.put (h : GO X w wr g nb o kv dv nv nv' keys kids ns) : JNo (fun b => X b ∨ b ∈ (⟨⟨kindO o, ⟨#[]⟩, keys, kids⟩, kv.ownBlock, dv.ownBlock⟩ : JOwn).bs) g nv' wr ns := by
  refine h.no.less (fun b hb => ?_)
  rcases hb with h1 | h1
  · exact Or.inl h1
  · rcases List.mem_append.1 h1 with h2 | h2
    · exact Or.inr (Or.inr (Or.inl (by simpa using h2)))
    · exact Or.inr (Or.inr (Or.inr (by simpa using h2)))
end
/-- a list's or an object's node is put to the nodes -/
theorem implAddGO {X : Nat → Prop} {w wr : World} {g nb o p b : Nat} {s : ByteArray} {a1 a2 : Option Addr} {m1 m2 c1 c2 : Nat} {nv nv' : Value} {keys : List ByteArray} {kids : List Int} {ns : List JNode} (h : GO X w wr g nb o (.slice a1 m1 c1) (.slice a2 m2 c2) nv nv' keys kids ns) (hj : JI wr g s p b nv') (hX : ∀ b, X b → b < w.heap.size) (hlen : ns.length ≤ 100000) :
    Calls Tryd.prog 76 #[.pointer (some ⟨g, 0, none⟩), .agg #[.int .i64 (kindO o), .string ⟨#[]⟩, .slice a1 m1 c1, .slice a2 m2 c2]] wr fun e w' => PutI X g s p b nv' wr w' ns ⟨kindO o, ⟨#[]⟩, keys, kids⟩ e :=
  implJAdd (x := ⟨⟨kindO o, ⟨#[]⟩, keys, kids⟩, (Value.slice a1 m1 c1).ownBlock, (Value.slice a2 m2 c2).ownBlock⟩) wr hj h.put (h.node hX) h.bs hlen
end Go.Proofs.YtlfkfofeenakhaaDoor
