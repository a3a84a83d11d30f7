/-
  What is proved here: spec.l01Text and spec.Part return the bytes of the chosen code points. No condition.
-/
import Derived.Test.YtlfkfofeenakhaaDoorPart
namespace Go.Proofs.YtlfkfofeenakhaaDoor
open Go.RowKit
set_option linter.unusedVariables false
set_option linter.unusedSimpArgs false

theorem texts_take {rs : List Nat} {k : Nat} (h : k < rs.length) : texts (rs.take (k + 1)) = texts (rs.take k) ++ enc rs[k] := by
  rw [List.take_add_one, List.getElem?_eq_getElem h, texts_append]
  congr 1
  simp [texts]
/-- a row of bytes that a call owns, as a string -/
theorem own_string {P : Program} {w : World} {B : Nat} {src dst e : TypeId} {v : Value} {l : List UInt8} (h : w.ownsRow B e 1 v l.length (byteVals l)) (hs : P.underlying src = some (.slice e)) (he : P.underlying e = some (.int .u8)) (hd : P.underlying dst = some .string) :
    (convert src dst v).run P w = .ok (.string (mkB l)) w := by
  rcases h.2 with ⟨rfl, h0⟩ | ⟨g, cap, cur, rfl, _, hg, _⟩
  · have : l = [] := List.eq_nil_of_length_eq_zero h0
    subst this
    rw [run_convert_bytes_string w src dst e none 0 0 hs he hd]
    have hl := run_loadCells_list (P := P) w ⟨0, 0, none⟩ ([] : List Value) (fun j v hj => by simp at hj)
    simp [Conv.bytesToString, mkB] at hl ⊢
    rfl
  · refine run_convert_bytes_back w src dst e ⟨g, 0, none⟩ cap l hs he hd (fun j hj => ?_)
    exact h.cells (g := g) rfl j _ (by unfold byteVals; rw [List.getElem?_map, List.getElem?_eq_getElem hj]; rfl)
theorem cells_new (w : World) (cs : Array Value) (e : TypeId) : ∀ j u, cs.toList[j]? = some u → (w.alloc (.cells cs e)).cell? ((⟨w.heap.size, 0, none⟩ : Addr).add j) = some u := by
  intro j u h
  rw [Addr.add_lit, Nat.zero_add]
  rw [cell_of_row _ _ j _ _ _ (heap_alloc_new w _)]
  simpa using h
end Go.Proofs.YtlfkfofeenakhaaDoor
