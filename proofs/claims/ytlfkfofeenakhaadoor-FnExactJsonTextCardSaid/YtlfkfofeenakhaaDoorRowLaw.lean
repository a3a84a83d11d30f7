/-
  What is proved here: append of a slice that may be empty or nil; copy of elements of several cells; how rows of strings and of values read. No condition; no program in sight but the types' tables.
-/
import Derived.Test.YtlfkfofeenakhaaDoorOwn
import Derived.Test.YtlfkfofeenakhaaDoorArr1
import Derived.Deep.AppendLies
import Derived.Deep.RegionLaw
import Derived.Laws.CopyOwn
import Derived.OwnWalk
namespace Go.Proofs.YtlfkfofeenakhaaDoor
open Go.RowKit
set_option linter.unusedVariables false
set_option linter.unusedSimpArgs false

theorem run_append_zero {P : Program} {w : World} (base : Nat) (t ty e : TypeId) (i : TypeInfo) (size : Nat) (ht : P.underlying t = some (.slice e)) (hi : P.info? e = some i) (hsize : i.size = size)
    (g k cap : Nat) (xs : List Value) (hown : w.ownsRow base e size (.slice (some ⟨g, 0, none⟩) k cap) k xs) (ao : Option Addr) (c : Nat) :
    (Builtin.append_ #[t, t] ty #[.slice (some ⟨g, 0, none⟩) k cap, .slice ao 0 c]).run P w = .ok (.slice (some ⟨g, 0, none⟩) k cap) w := by
  have hnc : k ≤ cap := by
    rcases hown.2 with ⟨h, _⟩ | ⟨g', cap', cur, h, _, _, hnc, _⟩
    · simp at h
    · simp only [Value.slice.injEq] at h; omega
  cases ao with
  | none => simp [Builtin.append_, run_underlying ht, sizeOf, typeInfo, hi, Builtin.lenOf, Builtin.firstCells, hnc, storeCells]
  | some a =>
    have hl : (loadCells a 0).run P w = .ok #[] w := by simpa using run_loadCells_list (P := P) w a [] (by simp)
    simp [Builtin.append_, run_underlying ht, sizeOf, typeInfo, hi, Builtin.lenOf, Builtin.firstCells, hnc, storeCells, hl]

/-- append onto a row of the call's own, of a slice that may be empty -/
theorem wpList_append_any {P : Program} {w : World} {ops : Array Oper} {rest : List Oper} {o : Oper} {a : Act} {Q : Exit → Act → World → Prop} (hgd : o.guard = none) (s x : Operand) (t : TypeId)
    (ho : o.op = .call { callee := .builtin .append, args := #[s, x], argTypes := #[t, t] })
    (base : Nat) (e : TypeId) (i : TypeInfo) (z : Value) (size bytes : Nat) (ht : P.underlying t = some (.slice e)) (hi : P.info? e = some i) (hz : i.zero = some z)
    (hsize : i.size = size) (hby : i.bytes = bytes) (hzs : z.cells.size = size) (hsz : 0 < size)
    (g n cap : Nat) (xs : List Value) (hs : a.eval s = .slice (some ⟨g, 0, none⟩) n cap) (hown : w.ownsRow base e size (.slice (some ⟨g, 0, none⟩) n cap) n xs)
    (ao : Option Addr) (m c : Nat) (news : List Value) (hx : a.eval x = .slice ao m c) (hl : news.length = m * size) (hnews : 0 < m → ∃ ad, ao = some ad ∧ ∀ j u, news[j]? = some u → w.cell? (ad.add j) = some u) (h1 : ∀ u ∈ news, u.oneCell' = true)
    (h63 : n + m ≤ maxLen) (hbytes : (n + m) * bytes ≤ 140737488355328) (hbase : base ≤ w.heap.size)
    (h : ∀ g' cap' w', w'.ownsRow base e size (.slice (some ⟨g', 0, none⟩) (n + m) cap') (n + m) (xs ++ news) → w.grownBy w' (some g) → (g = g' ∨ g' = w.heap.size) → g' < w'.heap.size → wpList P ops Q rest (a.put o.dst (.slice (some ⟨g', 0, none⟩) (n + m) cap')) w') : wpList P ops Q (o :: rest) a w := by
  by_cases hm : 0 < m
  · obtain ⟨ad, rfl, hc⟩ := hnews hm
    refine wpList_append_lies w hgd s x t ho base e i z size bytes ht hi hz hsize hby hzs hsz _ n xs hs hown ad m c news hx hl hc h1 hm h63 hbytes hbase _ rfl ?_
    intro g' cap' w' h2 h3 h4 h5
    refine h g' cap' w' h2 h3 ?_ h5
    rcases h4 with h4 | h4
    · exact .inl (by simpa [Value.ownBlock] using h4)
    · exact .inr h4
  · obtain rfl : m = 0 := by omega
    obtain rfl : news = [] := List.eq_nil_of_length_eq_zero (by simpa using hl)
    refine wpList_plain hgd fun K hK => ?_
    have hrun := run_append_zero (P := P) base t o.type e i size ht hi hsize g n cap xs hown ao c
    have hlt : g < w.heap.size := (hown.lt g rfl).2
    unfold Oper.wp
    simp [execOp, ho, resolve, invoke, builtin, hs, hx, hrun, Result.andThen]
    exact hK _ _ (by simpa using h g cap w (by simpa using hown) (World.grownBy.refl _ _) (.inl rfl) hlt)

/-- copy of elements of k cells -/
theorem run_copy_rowk {P : Program} (w : World) (dT sT ty elem : TypeId) (k : Nat) (g o dLen dCap : Nat) (a : Addr) (sLen sCap : Nat) (cur : Array Value) (t : TypeId) (cs : List Value)
    (hu : P.underlying dT = some (.slice elem)) (hs : (P.info? elem).map (·.size) = some k)
    (hg : w.heap[g]? = some (.cells cur t (0, 0))) (hn : cs.length = Nat.min sLen dLen * k)
    (hsrc : ∀ j v, cs[j]? = some v → w.cell? (a.add j) = some v) (hfit : o + cs.length ≤ cur.size) (h1 : ∀ v ∈ cs, v.oneCell' = true) :
    (Builtin.copy_ #[dT, sT] ty #[.slice (some ⟨g, o, none⟩) dLen dCap, .slice (some a) sLen sCap]).run P w =
      .ok (goInt (Nat.min sLen dLen)) (w.setRow g (cur.toList.take o ++ (cs ++ cur.toList.drop (o + cs.length))).toArray) := by
  have hl := run_loadCells_list (P := P) w a cs hsrc
  have hst := run_storeCells_at P g o t cs 0 cur w hg (by simpa using hfit) h1
  cases hq : P.info? elem with
  | none => simp [hq] at hs
  | some i =>
    have hi : i.size = k := by simpa [hq] using hs
    simp [Builtin.copy_, run_underlying hu, Builtin.lenOf, Builtin.firstCells, sizeOf, typeInfo, hq, hi, ← hn, hl, hst]
theorem run_copy_zerok {P : Program} (w : World) (dT sT ty elem : TypeId) (k : Nat) (d a : Option Addr) (dLen dCap sLen sCap : Nat) (hu : P.underlying dT = some (.slice elem)) (hs : (P.info? elem).map (·.size) = some k) (hn : Nat.min sLen dLen = 0) :
    (Builtin.copy_ #[dT, sT] ty #[.slice d dLen dCap, .slice a sLen sCap]).run P w = .ok (goInt 0) w := by
  cases hq : P.info? elem with
  | none => simp [hq] at hs
  | some i =>
    have hl : ∀ (x : Addr), (loadCells x 0).run P w = .ok #[] w := fun x => by simpa using run_loadCells_list (P := P) w x [] (by simp)
    cases d <;> cases a <;> simp [Builtin.copy_, run_underlying hu, Builtin.lenOf, Builtin.firstCells, sizeOf, typeInfo, hq, hn, storeCells, hl]
theorem wpList_copy_k {P : Program} {w : World} {ops : Array Oper} {rest : List Oper} {o : Oper} {a : Act} {Q : Exit → Act → World → Prop} (hgd : o.guard = none) (d s : Operand) (dT sT : TypeId)
    (ho : o.op = .call { callee := .builtin .copy, args := #[d, s], argTypes := #[dT, sT] }) (elem : TypeId) (k : Nat) (hu : P.underlying dT = some (.slice elem)) (hsz : (P.info? elem).map (·.size) = some k)
    (dp sp : Option Addr) (dLen dCap sLen sCap : Nat) (hd : a.eval d = .slice dp dLen dCap) (hs : a.eval s = .slice sp sLen sCap)
    (g : Nat) (cur : List Value) (t : TypeId) (hg : w.heap[g]? = some (.cells cur.toArray t (0, 0))) (cs : List Value) (hn : cs.length = Nat.min sLen dLen * k) (hk : 0 < k)
    (hpos : 0 < cs.length → dp = some ⟨g, 0, none⟩ ∧ ∃ ad, sp = some ad ∧ ∀ j v, cs[j]? = some v → w.cell? (ad.add j) = some v)
    (hfit : cs.length ≤ cur.length) (h1 : ∀ v ∈ cs, v.oneCell' = true) (B : Nat) (w0 : World) (hb : Below B w0 w) (hBg : B ≤ g)
    (h : ∀ w', w'.heap.size = w.heap.size → w'.heap[g]? = some (.cells (cs ++ cur.drop cs.length).toArray t (0, 0)) → Below B w0 w' → (∀ b, b ≠ g → w'.heap[b]? = w.heap[b]?) → wpList P ops Q rest (a.put o.dst (goInt (Nat.min sLen dLen))) w') :
    wpList P ops Q (o :: rest) a w := by
  by_cases h0 : cs.length = 0
  · obtain rfl : cs = [] := List.eq_nil_of_length_eq_zero h0
    have hz : Nat.min sLen dLen = 0 := by
      simp only [List.length_nil] at hn
      rcases Nat.mul_eq_zero.1 hn.symm with h | h
      · exact h
      · omega
    refine wpList_plain hgd fun K hK => ?_
    have hrun := run_copy_zerok (P := P) w dT sT o.type elem k dp sp dLen dCap sLen sCap hu hsz hz
    have h' := h w rfl (by simpa using hg) hb (fun _ _ => rfl)
    rw [hz] at h'
    unfold Oper.wp
    simp [execOp, ho, resolve, invoke, builtin, hd, hs, hrun, Result.andThen]
    exact hK _ _ h'
  · obtain ⟨rfl, ad, rfl, hsrc⟩ := hpos (by omega)
    refine wpList_plain hgd fun K hK => ?_
    have hrun := run_copy_rowk (P := P) w dT sT o.type elem k g 0 dLen dCap ad sLen sCap cur.toArray t cs hu hsz hg hn hsrc (by simpa using hfit) h1
    have h' := h (w.setRow g ((cur.toArray.toList.take 0 ++ (cs ++ cur.toArray.toList.drop (0 + cs.length))).toArray)) (by simp [World.setRow]) (by simpa using setRow_heap w g _ _ t _ hg) (below_setRow hb hBg _) (fun b hb' => setRow_other w g b _ (fun e => hb' e))
    unfold Oper.wp
    simp only [execOp, ho, resolve, invoke, builtin, Sem.run_bind, Sem.run_pure, Result.andThen_ok, List.map_toArray, List.map_cons, List.map_nil, hd, hs, hrun]
    exact hK _ _ h'

/-! ### Rows of strings and of values -/
theorem own_ow {w : World} {B : Nat} {e : TypeId} {size n : Nat} {v : Value} {cells : List Value} (h : w.ownsRow B e size v n cells) : Ow (New B w) w n (n * size) v := by
  rcases h.2 with ⟨rfl, rfl⟩ | ⟨g, cap, cur, rfl, hb, hg, hnc, hcm, hcs, htake⟩
  · exact ow_nil
  · exact ow_row hg ⟨hb, (Array.getElem?_eq_some_iff.1 hg).1⟩ (by rw [hcs]; exact Nat.mul_le_mul_right _ hnc)
theorem own_sl {w : World} {base : Nat} {e : TypeId} {size : Nat} {v : Value} {n : Nat} {xs : List Value} (h : w.ownsRow base e size v n xs) : ∃ a c, v = .slice a n c := by
  rcases h.2 with ⟨rfl, rfl⟩ | ⟨g, cap, cur, rfl, _⟩
  · exact ⟨none, 0, rfl⟩
  · exact ⟨_, _, rfl⟩
def strCellsL (xs : List ByteArray) : List Value := xs.map Value.string
theorem strCells_flat (xs : List ByteArray) : (xs.map fun x => [Value.string x]).flatten = strCellsL xs := by
  induction xs with
  | nil => rfl
  | cons x r ih => simp only [List.map_cons, List.flatten_cons, ih]; rfl
theorem own_strsN {w : World} {B : Nat} {e : TypeId} {v : Value} {xs : List ByteArray} (h : w.ownsRow B e 1 v xs.length (strCellsL xs)) (hs : ∀ x ∈ xs, x.size ≤ 9223372036854775807) : Rd.rd (New B w) w [v] xs := by
  refine rd_of_own (css := xs.map fun x => [Value.string x]) (base := B) (e := e) (by rw [strCells_flat]; exact h) ?_ (fun b h1 h2 => ⟨h1, h2⟩)
  refine ⟨by simp, fun i a b => ?_⟩
  simp only [List.getElem_map]
  exact ⟨rfl, hs _ (List.getElem_mem b)⟩
def vOk (x : Val) : Prop := (-9223372036854775808 ≤ x.kind ∧ x.kind ≤ 9223372036854775807) ∧ x.num.dig.size ≤ 9223372036854775807 ∧ (-9223372036854775808 ≤ x.num.exp ∧ x.num.exp ≤ 9223372036854775807) ∧ x.text.size ≤ 9223372036854775807
theorem vOk0 : vOk val0 := by unfold vOk val0; decide
def valCells (x : Val) : List Value := [.int .i64 x.kind, .bool x.num.neg, .string x.num.dig, .int .i64 x.num.exp, .string x.text]
def valsCells (xs : List Val) : List Value := (xs.map valCells).flatten
theorem rd_valCells {S : Nat → Prop} {w : World} {x : Val} (h : vOk x) : Rd.rd S w (valCells x) x := rdVal_mk h.1 h.2.1 h.2.2.1 h.2.2.2
theorem vOk_of {S : Nat → Prop} {w : World} {cs : List Value} {x : Val} (h : Rd.rd S w cs x) : cs = valCells x ∧ vOk x := let h := rdVal h; ⟨h.1, h.2.1, h.2.2.1, h.2.2.2.1, h.2.2.2.2⟩
theorem valsCells_len (xs : List Val) : (valsCells xs).length = xs.length * 5 := by
  unfold valsCells
  rw [flatten_length (n := 5) (by intro cs hcs; obtain ⟨x, _, rfl⟩ := List.mem_map.1 hcs; rfl)]
  simp
theorem valsCells_append (xs ys : List Val) : valsCells (xs ++ ys) = valsCells xs ++ valsCells ys := by unfold valsCells; simp
theorem valsCells_get (xs : List Val) (i j : Nat) (hi : i < xs.length) (hj : j < 5) : (valsCells xs)[i * 5 + j]? = (valCells xs[i])[j]? := by
  unfold valsCells
  rw [flatten_get (n := 5) (by intro cs hcs; obtain ⟨x, _, rfl⟩ := List.mem_map.1 hcs; rfl) i j (by simpa using hi) hj]
  simp
theorem each_vals {S : Nat → Prop} {w : World} {xs : List Val} (h : ∀ x ∈ xs, vOk x) : Each S w (xs.map valCells) xs :=
  ⟨by simp, fun i a b => by simp only [List.getElem_map]; exact rd_valCells (h _ (List.getElem_mem b))⟩
theorem own_valsN {w : World} {B : Nat} {e : TypeId} {v : Value} {xs : List Val} (h : w.ownsRow B e 5 v xs.length (valsCells xs)) (hs : ∀ x ∈ xs, vOk x) : Rd.rd (New B w) w [v] xs :=
  rd_of_own (css := xs.map valCells) (base := B) (e := e) h (each_vals hs) (fun b h1 h2 => ⟨h1, h2⟩)
theorem one_valCells (x : Val) : ∀ u ∈ valCells x, u.oneCell' = true := by
  intro u hu
  simp only [valCells, List.mem_cons, List.not_mem_nil, or_false] at hu
  rcases hu with rfl | rfl | rfl | rfl | rfl <;> rfl
theorem one_valsCells (xs : List Val) : ∀ u ∈ valsCells xs, u.oneCell' = true := by
  intro u hu
  unfold valsCells at hu
  rw [List.mem_flatten] at hu
  obtain ⟨l, hl, hu⟩ := hu
  obtain ⟨x, _, rfl⟩ := List.mem_map.1 hl
  exact one_valCells x u hu
theorem strs_ok {S : Nat → Prop} {w : World} {v : Value} {xs : List ByteArray} (h : Rd.rd S w [v] xs) : ∀ x ∈ xs, x.size ≤ 9223372036854775807 := by
  intro x hx
  obtain ⟨i, hi, rfl⟩ := List.mem_iff_getElem.1 hx
  obtain ⟨a, cap, hv, h1, h2, hc⟩ := h
  obtain ⟨b, off, _, _, hrow⟩ := hc (by omega)
  obtain ⟨cs, _, hx'⟩ := hrow i hi
  exact hx'.2
theorem vals_ok {S : Nat → Prop} {w : World} {v : Value} {xs : List Val} (h : Rd.rd S w [v] xs) : ∀ x ∈ xs, vOk x := by
  intro x hx
  obtain ⟨i, hi, rfl⟩ := List.mem_iff_getElem.1 hx
  obtain ⟨a, cap, hv, h1, h2, hc⟩ := h
  obtain ⟨b, off, _, _, hrow⟩ := hc (by omega)
  obtain ⟨cs, _, hx'⟩ := hrow i hi
  exact (vOk_of hx').2
/-- the cells of a slice of strings, of values -/
theorem strs_cells {S : Nat → Prop} {w : World} {a : Option Addr} {n cap : Nat} {xs : List ByteArray} (h : Rd.rd S w [.slice a n cap] xs) (hn : 0 < xs.length) :
    ∃ b off, a = some ⟨b, off, none⟩ ∧ S b ∧ ∀ j u, (strCellsL xs)[j]? = some u → w.cell? ((⟨b, off, none⟩ : Addr).add j) = some u := by
  obtain ⟨a', cap', hv, h1, h2, hc⟩ := h
  simp only [List.cons.injEq, Value.slice.injEq, and_true] at hv
  obtain ⟨rfl, rfl, rfl⟩ := hv
  obtain ⟨b, off, rfl, hB, hrow⟩ := hc hn
  refine ⟨b, off, rfl, hB, fun j u hu => ?_⟩
  have hadd : (⟨b, off, none⟩ : Addr).add j = ⟨b, off + j, none⟩ := by unfold Addr.add; split <;> simp_all
  obtain ⟨hj, hju⟩ := List.getElem?_eq_some_iff.1 hu
  have hj' : j < xs.length := by simpa [strCellsL] using hj
  obtain ⟨cs, hcell, hx⟩ := hrow j hj'
  have h0 := hcell 0 (by decide)
  obtain ⟨rfl, _⟩ := hx
  rw [hadd]
  have e : off + j * Rd.n ByteArray + 0 = off + j := by show off + j * 1 + 0 = off + j; omega
  rw [e] at h0
  rw [h0, ← hju]
  simp [strCellsL]
theorem vals_cells {S : Nat → Prop} {w : World} {a : Option Addr} {n cap : Nat} {xs : List Val} (h : Rd.rd S w [.slice a n cap] xs) (hn : 0 < xs.length) :
    ∃ b off, a = some ⟨b, off, none⟩ ∧ S b ∧ ∀ j u, (valsCells xs)[j]? = some u → w.cell? ((⟨b, off, none⟩ : Addr).add j) = some u := by
  obtain ⟨a', cap', hv, h1, h2, hc⟩ := h
  simp only [List.cons.injEq, Value.slice.injEq, and_true] at hv
  obtain ⟨rfl, rfl, rfl⟩ := hv
  obtain ⟨b, off, rfl, hB, hrow⟩ := hc hn
  refine ⟨b, off, rfl, hB, fun j u hu => ?_⟩
  have hadd : (⟨b, off, none⟩ : Addr).add j = ⟨b, off + j, none⟩ := by unfold Addr.add; split <;> simp_all
  obtain ⟨hj, hju⟩ := List.getElem?_eq_some_iff.1 hu
  rw [valsCells_len] at hj
  have hq : j / 5 < xs.length := by omega
  have hr : j % 5 < 5 := by omega
  have hjq : j / 5 * 5 + j % 5 = j := by omega
  obtain ⟨cs, hcell, hx⟩ := hrow (j / 5) hq
  obtain ⟨rfl, _⟩ := vOk_of hx
  have h0 := hcell (j % 5) hr
  have e : off + j / 5 * Rd.n Val + j % 5 = off + j := by show off + j / 5 * 5 + j % 5 = off + j; omega
  rw [e] at h0
  rw [hadd, h0, ← valsCells_get xs (j / 5) (j % 5) hq hr, hjq, hu]

/-! ### An array with as many values as keys -/
def fillAt (vs : List Val) (i : Nat) : Val := if h : i < vs.length then vs[i] else val0
def fillK (vs : List Val) (k : Nat) : List Val := (List.range k).map (fillAt vs)
theorem fillK_len (vs : List Val) (k : Nat) : (fillK vs k).length = k := by simp [fillK]
theorem fillK_succ (vs : List Val) (k : Nat) : fillK vs (k + 1) = fillK vs k ++ [fillAt vs k] := by simp [fillK, List.range_succ]
theorem fillK_get (vs : List Val) (k i : Nat) (h : i < (fillK vs k).length) : (fillK vs k)[i] = fillAt vs i := by simp [fillK]
theorem fillK_ok {vs : List Val} (h : ∀ x ∈ vs, vOk x) (k : Nat) : ∀ x ∈ fillK vs k, vOk x := by
  intro x hx
  obtain ⟨i, _, rfl⟩ := List.mem_map.1 hx
  unfold fillAt
  split
  · exact h _ (List.getElem_mem _)
  · exact vOk0
def arrFill (x : Arr) : Arr := ⟨x.keys, fillK x.vals x.keys.length⟩
end Go.Proofs.YtlfkfofeenakhaaDoor
