/-
  What is proved here: append of a string onto a slice of bytes whose row came of a conversion (its mark lies behind its cells). No program in sight, no condition beside those of room.
-/
import Derived.Test.YtcebgmdcbdggeaaGreatDoorPartS
import Derived.Lib.AppendStr
import Derived.Laws.CopyRow
import Derived.Lib.AtoiErrMem
namespace Go.Proofs.YtcebgmdcbdggeaaGreatDoor
open Go.RowKit Go.Lib
set_option linter.unusedVariables false
set_option linter.unusedSimpArgs false

theorem set_mid (pre rest : List Value) (m v : Value) : (pre ++ m :: rest).toArray.setIfInBounds pre.length v = (pre ++ v :: rest).toArray := by
  rw [List.setIfInBounds_toArray, List.set_append_right _ _ (Nat.le_refl _), Nat.sub_self, List.set_cons_zero]
theorem put_all {P : Program} {g o : Nat} {t : TypeId} {fz : Nat × Nat} : ∀ (vs : List Value) (i : Nat) (pre mid post : List Value) (w : World), w.heap[g]? = some (.cells (pre ++ mid ++ post).toArray t fz) →
    ((pre ++ mid ++ post).length ≤ fz.1 ∨ fz.2 = 0) → pre.length = o + i → mid.length = vs.length → (∀ v ∈ vs, v.oneCell' = true) →
    (storeCells ⟨g, o, none⟩ vs i).run P w = .ok () (w.setRow g (pre ++ vs ++ post).toArray)
  | [], i, pre, mid, post, w, hg, _, _, hm, _ => by
    obtain rfl : mid = [] := List.eq_nil_of_length_eq_zero hm
    rw [setRow_self w g _ t fz hg]
    rfl
  | v :: r, i, pre, [], post, w, _, _, _, hm, _ => absurd hm (by simp)
  | v :: r, i, pre, m :: mid, post, w, hg, hf, hp, hm, h1 => by
    have hlist : pre ++ m :: mid ++ post = pre ++ m :: (mid ++ post) := by simp
    have hin : o + i < (pre ++ m :: mid ++ post).toArray.size := by simp; omega
    have hcell : w.cell? ⟨g, o + i, none⟩ = some m := by
      rw [cell_of_block hg, hlist, ← hp, List.getElem?_append_right (Nat.le_refl _), Nat.sub_self]
      rfl
    have hfro : w.frozen? ⟨g, o + i, none⟩ = false := by
      simp only [World.frozen?, hg]
      rcases hf with hf | hf
      · simp at hf hin ⊢; omega
      · simp [hf]
    have hst : (store ((⟨g, o, none⟩ : Addr).add i) v).run P w = .ok () (w.setRow g (pre ++ [v] ++ mid ++ post).toArray) := by
      rw [Addr.add_lit, run_store P w _ v _ (h1 v (by simp)), hcell]
      have e : w.setCell ⟨g, o + i, none⟩ v = w.setRow g (pre ++ [v] ++ mid ++ post).toArray := by
        rw [setCell_eq_setRow w g (o + i) _ t fz v hg, hlist, ← hp, set_mid]
        simp
      simp [hfro, e]
    have hg' := setRow_heap w g _ (pre ++ [v] ++ mid ++ post).toArray t fz hg
    have ih := put_all (P := P) (g := g) (o := o) (t := t) (fz := fz) r (i + 1) (pre ++ [v]) mid post (w.setRow g (pre ++ [v] ++ mid ++ post).toArray) hg' (by simp at hf ⊢; omega) (by simp; omega) (by simpa using hm) (fun x hx => h1 x (by simp [hx]))
    simp only [storeCells, Sem.run_bind, hst, Result.andThen_ok]
    rw [ih, setRow_setRow, List.append_assoc pre [v] r]
    rfl
/-- a slice of bytes that a call made; a mark of its row, if there is one, lies behind the row's cells -/
def OwnC (w : World) (B : Nat) (e : TypeId) (v : Value) (xs : List Value) : Prop :=
  ∃ g cap cur fz, v = .slice (some ⟨g, 0, none⟩) xs.length cap ∧ B ≤ g ∧ w.heap[g]? = some (.cells cur e fz) ∧ (cur.size ≤ fz.1 ∨ fz.2 = 0) ∧ xs.length ≤ cap ∧ cap ≤ maxLen ∧ cur.size = cap ∧ cur.toList.take xs.length = xs
theorem OwnC.conv (w : World) (B : Nat) (e : TypeId) (s : ByteArray) (hB : B ≤ w.heap.size) (hs : s.size ≤ maxLen) : OwnC (bytesWorld w e s) B e (.slice (some ⟨w.heap.size, 0, none⟩) s.size (grownCap w s.size 0 e)) (byteVals s.data.toList) := by
  have hl : (byteVals s.data.toList).length = s.size := by rw [byteVals_length, Lib.size_eq]
  have hge := grownCap_ge w s.size 0 e
  have hsz : (bytesCells w e s).size = grownCap w s.size 0 e := by
    unfold bytesCells
    simp only [Array.size_append, Array.size_map, Array.size_replicate]
    show s.size + _ = _
    omega
  refine ⟨_, _, _, _, by rw [hl], hB, bytesWorld_at_new w e s, Or.inl (Nat.le_refl _), by rw [hl]; exact hge, grownCap_le_maxLen w s.size 0 e hs, hsz, ?_⟩
  rw [hl]
  unfold bytesCells
  rw [Array.toList_append, List.take_append_of_le_length (by rw [Array.length_toList, Array.size_map]; exact Nat.le_refl _), List.take_of_length_le (by rw [Array.length_toList, Array.size_map]; exact Nat.le_refl _), Array.toList_map]
  rfl
theorem OwnC.cells {w : World} {B : Nat} {e : TypeId} {v : Value} {xs : List Value} (h : OwnC w B e v xs) : ∃ g cap, v = .slice (some ⟨g, 0, none⟩) xs.length cap ∧ B ≤ g ∧ g < w.heap.size ∧ ∀ j u, xs[j]? = some u → w.cell? ⟨g, j, none⟩ = some u := by
  obtain ⟨g, cap, cur, fz, rfl, hB, hg, _, _, _, _, ht⟩ := h
  refine ⟨g, cap, rfl, hB, (Array.getElem?_eq_some_iff.1 hg).1, fun j u hu => ?_⟩
  rw [← ht, List.getElem?_take] at hu
  split at hu
  · rw [World.cell?, hg]
    simpa using hu
  · cases hu
/-- the operation: append(v, s...) -/
theorem OwnC.append {P : Program} {w : World} {B : Nat} {e t u ty : TypeId} {i : TypeInfo} {v : Value} {xs : List Value} (h : OwnC w B e v xs) (s : ByteArray)
    (ht : P.underlying t = some (.slice e)) (hu : P.underlying u = some .string) (hi : P.info? e = some i) (hz : i.zero = some (.int .u8 0)) (hsize : i.size = 1) (hby : i.bytes = 1)
    (hbytes : xs.length + s.size ≤ 140737488355328) (hB : B ≤ w.heap.size) :
    ∃ v' w', (Builtin.append_ #[t, u] ty #[v, .string s]).run P w = .ok v' w' ∧ OwnC w' B e v' (xs ++ strCells s) ∧ ∃ row, (row = none ∨ ∃ g, B ≤ g ∧ row = some g) ∧ w.grownBy w' row := by
  have hlen : (xs ++ strCells s).length = xs.length + s.size := by rw [List.length_append, strCells_length]
  have h63 : xs.length + s.size ≤ maxLen := by unfold maxLen; omega
  obtain ⟨g, cap, hv, hBg, hgl, hcell⟩ := h.cells
  obtain ⟨g', cap', cur, fz, hv', _, hg, hf, hnc, hcm, hcs, htk⟩ := h
  rw [hv] at hv'
  injection hv' with e1 e2 e3
  obtain rfl : g = g' := by injection e1 with e1; injection e1
  obtain rfl : cap = cap' := e3
  subst hv
  by_cases hroom : xs.length + s.size ≤ cap
  · have hsplit : cur.toList = xs ++ (cur.toList.drop xs.length).take s.size ++ cur.toList.drop (xs.length + s.size) := by
      rw [List.append_assoc, ← List.drop_drop, List.take_append_drop]
      conv => lhs; rw [← List.take_append_drop xs.length cur.toList, htk]
    have hcur : cur = (xs ++ (cur.toList.drop xs.length).take s.size ++ cur.toList.drop (xs.length + s.size)).toArray := by rw [← hsplit]
    have hst := put_all (P := P) (g := g) (o := xs.length) (t := e) (fz := fz) (strCells s) 0 xs ((cur.toList.drop xs.length).take s.size) (cur.toList.drop (xs.length + s.size)) w (by rw [← hcur]; exact hg) (by rw [← hsplit, Array.length_toList]; exact hf) (by omega) (by rw [List.length_take, List.length_drop, Array.length_toList, strCells_length]; omega) (strCells_oneCell s)
    have hfc := run_firstCells_string (P := P) w 1 s
    refine ⟨.slice (some ⟨g, 0, none⟩) (xs.length + s.size) cap, w.setRow g (xs ++ strCells s ++ cur.toList.drop (xs.length + s.size)).toArray, ?_, ?_, some g, Or.inr ⟨g, hBg, rfl⟩, ⟨rfl, rfl, rfl, by simp, fun k _ hk => setRow_other w g k _ (fun e => hk (by rw [e]))⟩⟩
    · simp [Builtin.append_, run_underlying ht, run_underlying hu, sizeOf, typeInfo, hi, hsize, Builtin.lenOf, hroom, hfc, Addr.add_lit, hst]
    · refine ⟨g, cap, _, fz, by rw [hlen], hBg, setRow_heap w g cur _ e fz hg, ?_, by rw [hlen]; exact hroom, hcm, ?_, ?_⟩
      · simp only [List.size_toArray, List.length_append, List.length_drop, Array.length_toList, strCells_length]
        omega
      · simp only [List.size_toArray, List.length_append, List.length_drop, Array.length_toList, strCells_length]
        omega
      · exact List.take_left
  · have hr := run_append_grow_string (P := P) w t u ty e i (.int .u8 0) ht hu hi hz ⟨g, 0, none⟩ xs.length cap xs (by rw [hsize]; simp) (fun j x hx => by rw [Addr.add_lit, Nat.zero_add]; exact hcell j x hx) s (by omega) (by omega) (by rw [hby]; exact growslice_fits (by omega) (by omega))
    have hge := grownCap_ge w (xs.length + s.size) cap e
    refine ⟨_, _, hr, ⟨w.heap.size, _, _, (0, 0), by rw [hlen], hB, heap_alloc_new w.drew _, Or.inr rfl, by rw [hlen]; exact hge, grownCap_le_maxLen w _ cap e h63, ?_, ?_⟩, none, Or.inl rfl, ⟨rfl, rfl, rfl, by simp, fun k hk _ => heap_alloc_old w.drew _ hk⟩⟩
    · have hz1 : (Value.int IntKind.u8 0).cells.size = 1 := rfl
      simp only [Array.size_append, List.size_toArray, size_zeroCells, hz1, strCells_length]
      omega
    · simp only [Array.toList_append, List.append_assoc]
      rw [← List.append_assoc]
      exact List.take_left
/-- it stands as it stood behind whatever leaves the blocks below as they were -/
theorem OwnC.later {w w1 : World} {B : Nat} {e : TypeId} {v : Value} {xs : List Value} (h : OwnC w B e v xs) (hb : Below w.heap.size w w1) : OwnC w1 B e v xs := by
  obtain ⟨g, cap, cur, fz, rfl, hB, hg, r⟩ := h
  exact ⟨g, cap, cur, fz, rfl, hB, (hb.block g (Array.getElem?_eq_some_iff.1 hg).1).trans hg, r⟩
theorem OwnC.drew {w : World} {B : Nat} {e : TypeId} {v : Value} {xs : List Value} (h : OwnC w B e v xs) : OwnC w.drew B e v xs := h
/-- its bytes as a string -/
theorem OwnC.string {P : Program} {w : World} {B : Nat} {src dst e : TypeId} {v : Value} {l : List UInt8} (h : OwnC w B e v (byteVals l)) (hs : P.underlying src = some (.slice e)) (he : P.underlying e = some (.int .u8)) (hd : P.underlying dst = some .string) :
    (convert src dst v).run P w = .ok (.string (mkB l)) w := by
  obtain ⟨g, cap, rfl, _, _, hc⟩ := h.cells
  rw [byteVals_length]
  refine run_convert_bytes_back w src dst e ⟨g, 0, none⟩ cap l hs he hd (fun j hj => ?_)
  rw [Addr.add_lit, Nat.zero_add]
  exact hc j _ (by unfold byteVals; rw [List.getElem?_map, List.getElem?_eq_getElem hj]; rfl)
/-- the operation in a walk: append(v, s...) -/
theorem wpList_append_conv {P : Program} {w : World} {ops : Array Oper} {rest : List Oper} {o : Oper} {a : Act} {Q : Exit → Act → World → Prop} (hgd : o.guard = none) (sl x : Operand) (t u : TypeId)
    (ho : o.op = .call { callee := .builtin .append, args := #[sl, x], argTypes := #[t, u] }) (B : Nat) (e : TypeId) (i : TypeInfo) (ht : P.underlying t = some (.slice e)) (hu : P.underlying u = some .string) (hi : P.info? e = some i) (hz : i.zero = some (.int .u8 0)) (hsize : i.size = 1) (hby : i.bytes = 1)
    (v : Value) (xs : List Value) (hs : a.eval sl = v) (hown : OwnC w B e v xs) (s : ByteArray) (hx : a.eval x = .string s) (hbytes : xs.length + s.size ≤ 140737488355328) (hB : B ≤ w.heap.size)
    (h : ∀ v' w', OwnC w' B e v' (xs ++ strCells s) → (∀ w0, Below B w0 w → Below B w0 w') → wpList P ops Q rest (a.put o.dst v') w') : wpList P ops Q (o :: rest) a w := by
  refine wpList_plain hgd fun K hK => ?_
  obtain ⟨v', w', hr, h2, row, hrow, hg⟩ := hown.append (ty := o.type) s ht hu hi hz hsize hby hbytes hB
  unfold Oper.wp execOp
  simp only [ho, resolve, invoke, builtin, Sem.run_bind, Sem.run_pure, Result.andThen_ok, List.map_toArray, List.map_cons, List.map_nil, hs, hx, hr]
  refine hK _ _ (h v' w' h2 fun w0 h0 => h0.grown hg hB fun k hk => ?_)
  rcases hrow with rfl | ⟨g, hgB, rfl⟩
  · cases hk
  · injection hk with hk; omega
theorem oper_append {P : Program} {w w' : World} {o : Oper} {a : Act} {K : Act → World → Prop} {Q : Exit → Act → World → Prop} {sl x : Operand} {t u : TypeId} {v v' : Value} {s : ByteArray}
    (ho : o.op = .call { callee := .builtin .append, args := #[sl, x], argTypes := #[t, u] }) (hs : a.eval sl = v) (hx : a.eval x = .string s) (hr : (Builtin.append_ #[t, u] o.type #[v, .string s]).run P w = .ok v' w')
    (h : K (a.put o.dst v') w') : o.wp P a w K Q := by
  unfold Oper.wp execOp
  simp only [ho, resolve, invoke, builtin, Sem.run_bind, Sem.run_pure, Result.andThen_ok, List.map_toArray, List.map_cons, List.map_nil, hs, hx, hr]
  exact h
end Go.Proofs.YtcebgmdcbdggeaaGreatDoor
