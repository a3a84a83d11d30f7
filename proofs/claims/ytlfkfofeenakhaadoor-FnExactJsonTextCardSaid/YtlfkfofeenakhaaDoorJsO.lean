/-
  What is proved here: nodes of JSON whose rows lie in blocks of their own. No condition; no program is walked.
-/
import Derived.Test.YtlfkfofeenakhaaDoorJsL5
import Derived.Test.YtlfkfofeenakhaaDoorRdr
import Derived.Test.YtlfkfofeenakhaaDoorMark
import Derived.Test.YtlfkfofeenakhaaDoorOwn
import Derived.Test.YtlfkfofeenakhaaDoorRowLaw
import Derived.Test.YtlfkfofeenakhaaDoorJsI1
namespace Go.Proofs.YtlfkfofeenakhaaDoor
open Go.RowKit
set_option linter.unusedVariables false
set_option linter.unusedSimpArgs false

/-- a node and the blocks that its rows lie in -/
structure JOwn where
  n : JNode
  kb : Option Nat
  db : Option Nat
def JOwn.bs (x : JOwn) : List Nat := x.kb.toList ++ x.db.toList
instance : Rd JOwn where
  n := 4
  rd S w cs x := Rd.rd S w cs x.n ∧ (∃ kv dv, cs = [.int .i64 x.n.kind, .string x.n.text, kv, dv] ∧ Ow (fun b => S b ∧ x.kb = some b) w x.n.keys.length x.n.keys.length kv ∧ Ow (fun b => S b ∧ x.db = some b) w x.n.kids.length x.n.kids.length dv) ∧ ∀ b ∈ x.bs, S b
  pos := by decide
  len h := by
    obtain ⟨_, ⟨kv, dv, rfl, _⟩, _⟩ := h
    rfl
  mono hs := by
    rintro ⟨h1, ⟨kv, dv, rfl, h2, h3⟩, h4⟩
    exact ⟨Rd.mono hs h1, ⟨kv, dv, rfl, h2.mono (fun b hb => ⟨hs b hb.1, hb.2⟩), h3.mono (fun b hb => ⟨hs b hb.1, hb.2⟩)⟩, fun b hb => hs b (h4 b hb)⟩
  same hs := by
    rintro ⟨h1, ⟨kv, dv, rfl, h2, h3⟩, h4⟩
    exact ⟨Rd.same hs h1, ⟨kv, dv, rfl, h2.same (hs.mono (fun b hb => hb.1)), h3.same (hs.mono (fun b hb => hb.1))⟩, h4⟩
/-- the nodes that a reader has made, each row in a block of its own -/
def JNo (X : Nat → Prop) (g : Nat) (nv : Value) (w : World) (ns : List JNode) : Prop :=
  ∃ (os : List JOwn) (css : List (List Value)), os.map (·.n) = ns ∧ (os.flatMap JOwn.bs).Nodup ∧ w.ownsRow (g + 1) 75 4 nv os.length css.flatten ∧ Each (Beside X g nv.ownBlock w) w css os
theorem KpweakO {g : Nat} {w w' : World} (h : Kp g none w w') (r : Option Nat) : Kp g r w w' := ⟨h.os, h.tape, h.output, h.size, fun b hb hg _ => h.block b hb hg (by simp)⟩
theorem JNo.kp {X : Nat → Prop} {g : Nat} {nv : Value} {w w' : World} {ns : List JNode} (h : JNo X g nv w ns) (k : Kp g none w w') : JNo X g nv w' ns := by
  obtain ⟨os, css, h0, hd, h1, h2⟩ := h
  exact ⟨os, css, h0, hd, k.row h1 (fun b _ => by simp), (KpweakO k nv.ownBlock).each (RowOn.refl _ _) h2⟩
theorem JNo.nil (X : Nat → Prop) (g : Nat) (w : World) : JNo X g (.slice none 0 0) w [] := ⟨[], [], rfl, List.nodup_nil, ⟨rfl, Or.inl ⟨rfl, rfl⟩⟩, rfl, fun i h => absurd h (by simp)⟩
theorem JNo.less {X Y : Nat → Prop} {g : Nat} {nv : Value} {w : World} {ns : List JNode} (h : JNo Y g nv w ns) (hX : ∀ b, X b → Y b) : JNo X g nv w ns := by
  obtain ⟨os, css, h0, hd, h1, h2⟩ := h
  exact ⟨os, css, h0, hd, h1, h2.mono (fun b hb => ⟨hb.1, hb.2.1, hb.2.2.1, fun hx => hb.2.2.2 (hX b hx)⟩)⟩
theorem each_bs {S : Nat → Prop} {w : World} {css : List (List Value)} {os : List JOwn} (h : Each S w css os) : ∀ b ∈ os.flatMap JOwn.bs, S b := by
  intro b hb
  obtain ⟨x, hx, hb⟩ := List.mem_flatMap.1 hb
  obtain ⟨i, hi, rfl⟩ := List.getElem_of_mem hx
  exact (h.2 i (by rw [← h.1] at hi; exact hi) hi).2.2 b hb
theorem flat_snoc {os : List JOwn} {x : JOwn} (h : (os.flatMap JOwn.bs).Nodup) (hx : x.bs.Nodup) (hd : ∀ b ∈ x.bs, b ∉ os.flatMap JOwn.bs) : ((os ++ [x]).flatMap JOwn.bs).Nodup := by
  rw [List.flatMap_append]
  have e : List.flatMap JOwn.bs [x] = x.bs := by simp
  rw [e, List.nodup_append]
  exact ⟨h, hx, fun a ha b hb e => hd b hb (e ▸ ha)⟩
theorem ow_own {S : Nat → Prop} {w : World} {base : Nat} {e : TypeId} {v : Value} {n : Nat} {xs : List Value} (h : w.ownsRow base e 1 v n xs) (hS : ∀ b, v.ownBlock = some b → base ≤ b → b < w.heap.size → S b) : Ow S w n n v := by
  rcases h.2 with ⟨rfl, hn⟩ | ⟨g, cap, cur, rfl, hb, hg, hnc, hcm, hcs, htake⟩
  · subst hn
    exact ow_nil
  · exact ow_row hg (hS g rfl hb (Array.getElem?_eq_some_iff.1 hg).1) (by omega)
end Go.Proofs.YtlfkfofeenakhaaDoor
