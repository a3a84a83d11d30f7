/-
  What is proved here: a reading 'Rd' of plain Lean data off the model's cells (ints, bools, bytes, strings, pairs, slices of these), that it stands while the blocks that it passes through stand,
  and that whatever the row's form reads ('DataW.trod') is read so. No condition; no program in sight.
-/
import Derived.Below
import Derived.Deep.Slices
import Derived.ChangeOld
import Derived.ProofKit
namespace Go.Proofs.Ytbogeelckgfaeaa
open Go.RowKit Go.ChangeShapes Go.WideShapes

theorem hid {p : Prop} (h : p) : Hid p := h

/-- The two worlds hold the same in every block of S. -/
def Same (S : Nat → Prop) (w w' : World) : Prop := ∀ b, S b → w'.heap[b]? = w.heap[b]?
theorem Same.refl (S : Nat → Prop) (w : World) : Same S w w := fun _ _ => rfl
theorem Same.trans {S : Nat → Prop} {a b c : World} (h : Same S a b) (k : Same S b c) : Same S a c := fun i hi => (k i hi).trans (h i hi)
theorem Same.mono {S T : Nat → Prop} {w w' : World} (h : Same S w w') (hs : ∀ b, T b → S b) : Same T w w' := fun b hb => h b (hs b hb)
theorem Same.cell {S : Nat → Prop} {w w' : World} (h : Same S w w') {p : Addr} (hp : S p.block) : w'.cell? p = w.cell? p := World.cell?_of_block (w := w) (h p.block hp)
theorem Same.of_below {B : Nat} {w w' : World} (h : Below B w w') : Same (fun b => b < B) w w' := fun b hb => h.block b hb

theorem bcell {W w1 : World} {B : Nat} (hb : Below B W w1) : (∀ b o, b < B → w1.cell? ⟨b, o, none⟩ = W.cell? ⟨b, o, none⟩) ∧ (∀ b o, b < B → w1.frozen? ⟨b, o, none⟩ = W.frozen? ⟨b, o, none⟩) :=
  ⟨fun b o h => hb.cell (p := ⟨b, o, none⟩) h, fun b o h => hb.frozen (p := ⟨b, o, none⟩) h⟩

/-- Blocks that lie in a world. -/
def Old (w : World) : Nat → Prop := fun b => b < w.heap.size
/-- Blocks from B on that lie in a world. -/
def New (B : Nat) (w : World) : Nat → Prop := fun b => B ≤ b ∧ b < w.heap.size

/-- A Lean type that is read off n cells: R S w cells x: through blocks of S alone. -/
class Rd (α : Type) where
  n : Nat
  rd : (Nat → Prop) → World → List Value → α → Prop
  pos : 0 < n
  len : ∀ {S : Nat → Prop} {w : World} {cs : List Value} {x : α}, rd S w cs x → cs.length = n
  mono : ∀ {S T : Nat → Prop} {w : World} {cs : List Value} {x : α}, (∀ b, S b → T b) → rd S w cs x → rd T w cs x
  same : ∀ {S : Nat → Prop} {w w' : World} {cs : List Value} {x : α}, Same S w w' → rd S w cs x → rd S w' cs x

def Rd.r {α : Type} [Rd α] (S : Nat → Prop) (w : World) (cs : List Value) (x : α) : Prop := Rd.rd S w cs x

theorem Rd.below {α : Type} [Rd α] {B : Nat} {S : Nat → Prop} {w w' : World} {cs : List Value} {x : α} (hb : Below B w w') (hS : ∀ b, S b → b < B) (h : Rd.rd S w cs x) : Rd.rd S w' cs x :=
  Rd.same (fun b hb' => hb.block b (hS b hb')) h
/-- what is read in the old world is read in every later one -/
theorem Rd.later {α : Type} [Rd α] {w w' : World} {cs : List Value} {x : α} (hb : Below w.heap.size w w') (h : Rd.rd (Old w) w cs x) : Rd.rd (Old w') w' cs x :=
  Rd.mono (fun b (hb' : b < w.heap.size) => Nat.lt_of_lt_of_le hb' hb.size) (Rd.below hb (fun _ h => h) h)
theorem Rd.later' {α : Type} [Rd α] {B : Nat} {w w' : World} {cs : List Value} {x : α} (hb : Below w.heap.size w w') (h : Rd.rd (New B w) w cs x) : Rd.rd (New B w') w' cs x :=
  Rd.mono (fun b (hb' : B ≤ b ∧ b < w.heap.size) => ⟨hb'.1, Nat.lt_of_lt_of_le hb'.2 hb.size⟩) (Rd.below hb (fun _ h => h.2) h)
theorem Rd.old {α : Type} [Rd α] {B : Nat} {w : World} {cs : List Value} {x : α} (h : Rd.rd (New B w) w cs x) : Rd.rd (Old w) w cs x := Rd.mono (fun _ h => h.2) h

instance : Rd Int where
  n := 1
  rd _ _ cs x := cs = [.int .i64 x] ∧ -9223372036854775808 ≤ x ∧ x ≤ 9223372036854775807
  pos := Nat.one_pos
  len h := by rw [h.1]; rfl
  mono _ h := h
  same _ h := h
instance : Rd Bool where
  n := 1
  rd _ _ cs x := cs = [.bool x]
  pos := Nat.one_pos
  len h := by rw [h]; rfl
  mono _ h := h
  same _ h := h
instance : Rd UInt8 where
  n := 1
  rd _ _ cs x := cs = [.int .u8 x.toNat]
  pos := Nat.one_pos
  len h := by rw [h]; rfl
  mono _ h := h
  same _ h := h
instance : Rd ByteArray where
  n := 1
  rd _ _ cs x := cs = [.string x] ∧ x.size ≤ 9223372036854775807
  pos := Nat.one_pos
  len h := by rw [h.1]; rfl
  mono _ h := h
  same _ h := h
instance {α β : Type} [Rd α] [Rd β] : Rd (α × β) where
  n := Rd.n α + Rd.n β
  rd S w cs x := ∃ c1 c2, cs = c1 ++ c2 ∧ Rd.rd S w c1 x.1 ∧ Rd.rd S w c2 x.2
  pos := Nat.add_pos_left Rd.pos _
  len := by rintro S w cs x ⟨c1, c2, rfl, h1, h2⟩; rw [List.length_append, Rd.len h1, Rd.len h2]
  mono hs := by rintro ⟨c1, c2, rfl, h1, h2⟩; exact ⟨c1, c2, rfl, Rd.mono hs h1, Rd.mono hs h2⟩
  same hs := by rintro ⟨c1, c2, rfl, h1, h2⟩; exact ⟨c1, c2, rfl, Rd.same hs h1, Rd.same hs h2⟩

/-- A row of elements of k cells each from an address on. -/
def rowOf {α : Type} [Rd α] (S : Nat → Prop) (w : World) (b off : Nat) (xs : List α) : Prop :=
  S b ∧ ∀ (i : Nat) (h : i < xs.length), ∃ cs : List Value, (∀ j, j < Rd.n α → w.cell? ⟨b, off + i * Rd.n α + j, none⟩ = cs[j]?) ∧ Rd.rd S w cs xs[i]

instance {α : Type} [Rd α] : Rd (List α) where
  n := 1
  rd S w cs xs := ∃ a cap, cs = [.slice a xs.length cap] ∧ xs.length ≤ cap ∧ cap ≤ 9223372036854775807 ∧ (0 < xs.length → ∃ b off, a = some ⟨b, off, none⟩ ∧ rowOf S w b off xs)
  pos := Nat.one_pos
  len := by rintro S w cs x ⟨a, cap, rfl, _⟩; rfl
  mono hs := by
    rintro ⟨a, cap, rfl, h1, h2, h3⟩
    refine ⟨a, cap, rfl, h1, h2, fun h => ?_⟩
    obtain ⟨b, off, rfl, hb, hr⟩ := h3 h
    exact ⟨b, off, rfl, hs b hb, fun i hi => let ⟨cs, h4, h5⟩ := hr i hi; ⟨cs, h4, Rd.mono hs h5⟩⟩
  same hs := by
    rintro ⟨a, cap, rfl, h1, h2, h3⟩
    refine ⟨a, cap, rfl, h1, h2, fun h => ?_⟩
    obtain ⟨b, off, rfl, hb, hr⟩ := h3 h
    exact ⟨b, off, rfl, hb, fun i hi => let ⟨cs, h4, h5⟩ := hr i hi; ⟨cs, fun j hj => (hs.cell (p := ⟨b, _, none⟩) hb).trans (h4 j hj), Rd.same hs h5⟩⟩

/-- Through a view: a structure reads as its parts. -/
@[reducible] def Rd.via {α β : Type} [Rd β] (f : α → β) : Rd α where
  n := Rd.n β
  rd S w cs x := Rd.rd S w cs (f x)
  pos := Rd.pos
  len h := Rd.len h
  mono hs h := Rd.mono hs h
  same hs h := Rd.same hs h

/-! ### What the row's form reads is read so. -/
def Opens (P : Program) (t : TypeId) (α : Type) [Rd α] : Prop :=
  ∀ {H : Type} {enc : TypeId × Value → H} {w : World} {fuel : Nat} {cs : List Value} {d : DataW H × List MemPlace},
    DataW.trod enc P w 0 (fun _ => true) true fuel t cs = some d → ∃ x : α, Rd.rd (Old w) w cs x

theorem wf_i64 {n : Int} (h : (Lit.int .i64 n).wf = true) : -9223372036854775808 ≤ n ∧ n ≤ 9223372036854775807 := by
  simp [Lit.wf, IntKind.min, IntKind.max, IntKind.signed, IntKind.bits] at h
  omega
theorem opens_int {P : Program} {t : TypeId} (ht : P.underlying t = some (.int .i64)) : Opens P t Int := by
  intro H enc w fuel cs d h
  obtain ⟨n, rfl, _, hw⟩ := DataW.trod_int ht h
  exact ⟨n, rfl, wf_i64 hw⟩
theorem opens_byte {P : Program} {t : TypeId} (ht : P.underlying t = some (.int .u8)) : Opens P t UInt8 := by
  intro H enc w fuel cs d h
  obtain ⟨n, rfl, _, hw⟩ := DataW.trod_int ht h
  simp [Lit.wf, IntKind.min, IntKind.max, IntKind.signed, IntKind.bits] at hw
  refine ⟨UInt8.ofNat n.toNat, ?_⟩
  have e : ((UInt8.ofNat n.toNat).toNat : Int) = n := by
    rw [UInt8.toNat_ofNat']
    omega
  show _ = [Value.int IntKind.u8 _]
  rw [e]
theorem opens_bool {P : Program} {t : TypeId} (ht : P.underlying t = some .bool) : Opens P t Bool := by
  intro H enc w fuel cs d h
  obtain ⟨n, rfl, _⟩ := DataW.trod_bool ht h
  exact ⟨n, rfl⟩
theorem opens_string {P : Program} {t : TypeId} (ht : P.underlying t = some .string) : Opens P t ByteArray := by
  intro H enc w fuel cs d h
  obtain ⟨n, rfl, _, hs⟩ := DataW.trod_string ht h
  exact ⟨n, rfl, hs⟩
theorem cell_lt {w : World} {a : Addr} {v : Value} (h : w.cell? a = some v) : a.block < w.heap.size := by
  unfold World.cell? at h
  cases e : w.heap[a.block]? with
  | none => rw [e] at h; simp at h
  | some o => exact (Array.getElem?_eq_some_iff.1 e).1
theorem opens_slice {P : Program} {t e : TypeId} {α : Type} [Rd α] (ht : P.underlying t = some (.slice e)) (hn : P.cellsOf e = Rd.n α) (he : Opens P e α) : Opens P t (List α) := by
  intro H enc w fuel cs d h
  rcases Go.Deep.open_slice ht h with ⟨rfl, _⟩ | ⟨a, len, cap, m, n, D, Pl, rfl, _, hl, hm, hmm, _, hx⟩
  · exact ⟨[], none, 0, rfl, Nat.le_refl _, by omega, fun h => absurd h (by simp)⟩
  · simp only [if_true] at hmm
    subst hmm
    have each : ∀ i, i < len → ∃ x : α, ∃ cs', w.cells? 0 (a.add (i * Rd.n α)) (Rd.n α) = some cs' ∧ Rd.rd (Old w) w cs' x := by
      intro i hi
      obtain ⟨cs', h1, h2⟩ := hx i (by omega)
      obtain ⟨x, h3⟩ := he h2
      rw [hn] at h1
      exact ⟨x, cs', h1, h3⟩
    by_cases h0 : len = 0
    · subst h0
      exact ⟨[], some a, m, rfl, Nat.zero_le _, hm, fun h => absurd h (by simp)⟩
    · haveI : Inhabited α := ⟨(each 0 (by omega)).choose⟩
      obtain ⟨f, hf⟩ := Go.Deep.choose_lt each
      have hp : 0 < Rd.n α := Rd.pos
      obtain ⟨cs0, h00, _⟩ := hf 0 (by omega)
      have hc0 := (World.cells?_some h00).2.2 0 hp
      rw [List.getElem?_eq_getElem (by rw [(World.cells?_some h00).2.1]; exact hp)] at hc0
      have hsp := World.cell?_spot hc0
      obtain ⟨b, off, spot⟩ := a
      have hspn : spot = none := by simpa [Addr.add] using hsp
      subst hspn
      have hlt : b < w.heap.size := by have := cell_lt hc0; simpa [Addr.add] using this
      refine ⟨(List.range len).map f, some ⟨b, off, none⟩, m, by simp, by simpa using hl, hm, fun _ => ⟨b, off, rfl, hlt, fun i hi => ?_⟩⟩
      have hi' : i < len := by simpa using hi
      obtain ⟨cs', h1, h2⟩ := hf i hi'
      refine ⟨cs', fun j hj => ?_, by simpa using h2⟩
      rw [← (World.cells?_some h1).2.2 j hj]
      congr 1
      unfold Addr.add
      by_cases hj0 : j = 0 <;> by_cases hi0 : i * Rd.n α = 0 <;> simp [hj0, hi0] <;> omega

theorem drop_take_append {cs : List Value} {n m : Nat} (h : cs.length = n + m) : cs = (cs.drop 0).take n ++ (cs.drop n).take m := by
  rw [List.drop_zero, List.take_of_length_le (i := m) (by simp; omega), List.take_append_drop]

/-- The structs' parts. -/
def Parts (P : Program) (fs : List (TypeId × Nat)) (α : Type) [Rd α] : Prop :=
  ∀ {H : Type} {enc : TypeId × Value → H} {w : World} {fuel : Nat} {cs : List Value},
    (∀ f ∈ fs, ∃ d, DataW.trod enc P w 0 (fun _ => true) true fuel f.1 ((cs.drop f.2).take (P.cellsOf f.1)) = some d) → ∀ o, (∀ f ∈ fs.head?, f.2 = o) → ∃ x : α, Rd.rd (Old w) w ((cs.drop o).take (Rd.n α)) x

theorem parts_one {P : Program} {t : TypeId} {o : Nat} {α : Type} [Rd α] (hn : P.cellsOf t = Rd.n α) (h : Opens P t α) : Parts P [(t, o)] α := by
  intro H enc w fuel cs hf o' ho
  obtain ⟨d, hd⟩ := hf (t, o) (by simp)
  have := ho (t, o) (by simp)
  simp only at this
  subst this
  rw [← hn]
  exact h hd
theorem parts_cons {P : Program} {t : TypeId} {o : Nat} {fs : List (TypeId × Nat)} {α β : Type} [Rd α] [Rd β] (hn : P.cellsOf t = Rd.n α) (hne : ∀ f ∈ fs.head?, f.2 = o + Rd.n α) (h : Opens P t α) (hs : Parts P fs β) : Parts P ((t, o) :: fs) (α × β) := by
  intro H enc w fuel cs hf o' ho
  obtain ⟨d, hd⟩ := hf (t, o) (by simp)
  have := ho (t, o) (by simp)
  simp only at this
  subst this
  obtain ⟨x, hx⟩ := h hd
  obtain ⟨y, hy⟩ := hs (fun f hf' => hf f (by simp [hf'])) (o + Rd.n α) hne
  rw [hn] at hx
  refine ⟨(x, y), _, _, ?_, hx, hy⟩
  show List.take (Rd.n α + Rd.n β) _ = _
  rw [List.take_add, List.drop_drop]
theorem opens_struct {P : Program} {t : TypeId} {fs : Array Field} {α β : Type} [Rd α] [Rd β] (ht : P.underlying t = some (.struct fs)) (hn : P.cellsOf t = Rd.n β)
    (hp : Parts P (fs.toList.map fun f => (f.type, f.offset)) β) (h0 : ∀ f ∈ fs.toList.head?, f.offset = 0) (v : ∀ {S : Nat → Prop} {w : World} {cs : List Value} (y : β), Rd.rd S w cs y → ∃ x : α, Rd.rd S w cs x) : Opens P t α := by
  intro H enc w fuel cs d h
  obtain ⟨xs, n, rfl, _, hl, hlen, hf⟩ := DataW.trod_struct ht h
  have key : ∀ g ∈ fs.toList.map (fun f => (f.type, f.offset)), ∃ d, DataW.trod enc P w 0 (fun _ => true) true n g.1 ((cs.drop g.2).take (P.cellsOf g.1)) = some d := by
    intro g hg
    obtain ⟨f, hf', rfl⟩ := List.mem_map.1 hg
    obtain ⟨i, hi, rfl⟩ := List.mem_iff_getElem.1 hf'
    have hi' : i < fs.size := by simpa using hi
    have := hf i fs[i] (by simp [hi'])
    rw [List.getElem?_eq_getElem (by omega)] at this
    exact ⟨_, by simpa using this⟩
  obtain ⟨y, hy⟩ := hp key 0 (by
    intro f hf'
    cases hfs : fs.toList with
    | nil => rw [hfs] at hf'; simp at hf'
    | cons a r =>
      rw [hfs] at hf' h0
      simp at hf' h0
      subst hf'
      exact h0)
  rw [List.drop_zero, ← hn, ← hl, List.take_length] at hy
  exact v y hy

/-- An argument of a law: its value's cells. -/
theorem okWide_one {P : Program} {w : World} {r : Reach} {base : Nat} {t : TypeId} {v : Value} (h : Value.okWide P w r base t v) (hs : (match P.underlying t with | some (.struct _) | some (.array _ _) => false | _ => true) = true)
    (x : ∃ u, v.cells.toList = [u]) : v.cells.toList = [v] := by
  cases v <;> simp_all [Value.cells, Value.okWide]
  rename_i cs
  split at hs
  · simp at hs
  · simp at hs
  · rename_i h1 h2
    revert h
    split
    · rename_i fs hfs; exact absurd hfs (h1 fs)
    · rename_i k e hke; exact absurd hke (h2 k e)
    · intro h
      exfalso
      unfold Cell.okWide at h
      split at h <;> simp_all [Cell.ok]

theorem arg_plain {P : Program} {w : World} {r : Reach} {base : Nat} {t : TypeId} {v : Value} {α : Type} [Rd α] {H : Type} {enc : TypeId × Value → H} {d : DataW H} {p : List MemPlace} (ho : Opens P t α) (hn : Rd.n α = 1) (hs : (match P.underlying t with | some (.struct _) | some (.array _ _) => false | _ => true) = true)
    (hval : Value.okWide P w r base t v) (h : DataW.Trod enc P w 0 (fun _ => true) true t v d p) : ∃ x : α, Rd.rd (Old w) w [v] x := by
  obtain ⟨m, hm⟩ := h
  obtain ⟨x, hx⟩ := ho hm
  have hl := Rd.len hx
  rw [hn] at hl
  have e := okWide_one hval hs (by
    match hc : v.cells.toList, hl with
    | [u], _ => exact ⟨u, rfl⟩)
  rw [e] at hx
  exact ⟨x, hx⟩
theorem arg_struct {P : Program} {w : World} {r : Reach} {base : Nat} {t : TypeId} {v : Value} {α : Type} [Rd α] {H : Type} {enc : TypeId × Value → H} {d : DataW H} {p : List MemPlace} {fs : Array Field} (ht : P.underlying t = some (.struct fs)) (ho : Opens P t α)
    (hval : Value.okWide P w r base t v) (h : DataW.Trod enc P w 0 (fun _ => true) true t v d p) : ∃ (cs : Array Value) (x : α), v = .agg cs ∧ Rd.rd (Old w) w cs.toList x := by
  obtain ⟨cs, rfl, _⟩ := okWide_struct ht hval
  obtain ⟨m, hm⟩ := h
  obtain ⟨x, hx⟩ := ho hm
  exact ⟨cs, x, rfl, hx⟩
theorem trod_lt' {P : Program} {w : World} {t : TypeId} {v : Value} {H : Type} {enc : TypeId × Value → H} {d : DataW H} {p : List MemPlace} (h : DataW.Trod enc P w 0 (fun _ => true) true t v d p) : ∀ x ∈ p, x.block < w.heap.size := by
  obtain ⟨m, hm⟩ := h
  exact DataW.trod_lt m _ _ _ hm

/-! ### A block of the call's own, known whole: its cells are the elements' cells, one behind the other. -/
theorem cell_of_block {w : World} {g j : Nat} {cs : List Value} {e : TypeId} {fr : Nat × Nat} (hg : w.heap[g]? = some (.cells cs.toArray e fr)) : w.cell? ⟨g, j, none⟩ = cs[j]? := by
  unfold World.cell?
  rw [hg]
  simp
theorem flatten_get {css : List (List Value)} {n : Nat} (h : ∀ cs ∈ css, cs.length = n) : ∀ (i j : Nat) (hi : i < css.length), j < n → (css.flatten)[i * n + j]? = css[i][j]? := by
  induction css with
  | nil => intro i j hi; exact absurd hi (by simp)
  | cons c r ih =>
    intro i j hi hj
    have hc : c.length = n := h c (by simp)
    cases i with
    | zero => simp only [List.flatten_cons, Nat.zero_mul, Nat.zero_add, List.getElem_cons_zero]; rw [List.getElem?_append_left (by omega)]
    | succ i =>
      have := ih (fun cs hcs => h cs (by simp [hcs])) i j (by simpa using hi) hj
      simp only [List.flatten_cons, List.getElem_cons_succ]
      rw [List.getElem?_append_right (by rw [hc, Nat.add_mul]; omega), ← this]
      congr 1
      rw [hc, Nat.add_mul]; omega
theorem flatten_length {css : List (List Value)} {n : Nat} (h : ∀ cs ∈ css, cs.length = n) : css.flatten.length = css.length * n := by
  induction css with
  | nil => simp
  | cons c r ih => rw [List.flatten_cons, List.length_append, ih (fun cs hcs => h cs (by simp [hcs])), h c (by simp), List.length_cons, Nat.add_mul]; omega
/-- The elements read one by one off their cells. -/
def Each {α : Type} [Rd α] (S : Nat → Prop) (w : World) (css : List (List Value)) (xs : List α) : Prop :=
  css.length = xs.length ∧ ∀ (i : Nat) (h : i < css.length) (h' : i < xs.length), Rd.rd S w css[i] xs[i]
theorem Each.nil {α : Type} [Rd α] {S : Nat → Prop} {w : World} : Each S w [] ([] : List α) := ⟨rfl, fun i h => absurd h (by simp)⟩
theorem Each.mono {α : Type} [Rd α] {S T : Nat → Prop} {w : World} {css : List (List Value)} {xs : List α} (h : Each S w css xs) (hs : ∀ b, S b → T b) : Each T w css xs := ⟨h.1, fun i a b => Rd.mono hs (h.2 i a b)⟩
theorem Each.same {α : Type} [Rd α] {S : Nat → Prop} {w w' : World} {css : List (List Value)} {xs : List α} (h : Each S w css xs) (hs : Same S w w') : Each S w' css xs := ⟨h.1, fun i a b => Rd.same hs (h.2 i a b)⟩
theorem Each.len {α : Type} [Rd α] {S : Nat → Prop} {w : World} {css : List (List Value)} {xs : List α} (h : Each S w css xs) : ∀ cs ∈ css, cs.length = Rd.n α := by
  intro cs hcs
  obtain ⟨i, hi, rfl⟩ := List.mem_iff_getElem.1 hcs
  exact Rd.len (h.2 i hi (by rw [← h.1]; exact hi))
theorem Each.snoc {α : Type} [Rd α] {S : Nat → Prop} {w : World} {css : List (List Value)} {xs : List α} {cs : List Value} {x : α} (h : Each S w css xs) (hx : Rd.rd S w cs x) : Each S w (css ++ [cs]) (xs ++ [x]) := by
  refine ⟨by simp [h.1], fun i a b => ?_⟩
  by_cases hi : i < css.length
  · have hi' : i < xs.length := by rw [← h.1]; exact hi
    rw [List.getElem_append_left hi, List.getElem_append_left hi']
    exact h.2 i hi hi'
  · have e1 : i = css.length := by simp at a; omega
    subst e1
    have e2 : css.length = xs.length := h.1
    rw [List.getElem_append_right (Nat.le_refl _), List.getElem_append_right (by omega)]
    simpa [e2] using hx
/-- A slice at the head of such a block reads as the elements. -/
theorem rd_of_block {α : Type} [Rd α] {S : Nat → Prop} {w : World} {g cap : Nat} {css : List (List Value)} {xs : List α} {rest : List Value} {e : TypeId} {fr : Nat × Nat} (hg : w.heap[g]? = some (.cells (css.flatten ++ rest).toArray e fr))
    (he : Each S w css xs) (hS : S g) (hl : xs.length ≤ cap) (hc : cap ≤ 9223372036854775807) : Rd.rd S w [.slice (some ⟨g, 0, none⟩) xs.length cap] xs := by
  refine ⟨some ⟨g, 0, none⟩, cap, rfl, hl, hc, fun _ => ⟨g, 0, rfl, hS, fun i hi => ?_⟩⟩
  have hi' : i < css.length := by rw [he.1]; exact hi
  refine ⟨css[i], fun j hj => ?_, he.2 i hi' hi⟩
  rw [cell_of_block hg, Nat.zero_add, ← flatten_get he.len i j hi' hj]
  rw [List.getElem?_append_left]
  rw [flatten_length he.len]
  have : (i + 1) * Rd.n α ≤ css.length * Rd.n α := Nat.mul_le_mul_right _ hi'
  rw [Nat.add_mul] at this
  omega
theorem toList_madeCells1 (z : Value) (n : Nat) : madeCells #[z] n = (List.replicate n z).toArray := by
  rw [← toList_madeCells_one z n]
/-- One store further: the next element's single cell. -/
theorem set_flatten1 {css : List (List Value)} {m : Nat} {z v : Value} (h : ∀ cs ∈ css, cs.length = 1) :
    (css.flatten ++ List.replicate (m + 1) z).set css.length v = (css ++ [[v]]).flatten ++ List.replicate m z := by
  have hl := flatten_length h
  rw [Nat.mul_one] at hl
  rw [List.set_append_right _ _ (by omega), hl, Nat.sub_self, List.replicate_succ, List.set_cons_zero, List.flatten_append]
  simp

theorem fill_made (w : World) (z : Value) (n : Nat) (e : TypeId) : (w.alloc (.cells (madeCells #[z] n) e)).heap[w.heap.size]? = some (.cells ((([] : List (List Value)).flatten ++ List.replicate (n - 0) z).toArray) e (0, 0)) := by
  rw [toList_madeCells1]
  exact heap_alloc_new w _
theorem fill_old {w : World} {g k n : Nat} {css : List (List Value)} {z : Value} {e : TypeId} {fr : Nat × Nat} (hg : w.heap[g]? = some (.cells (css.flatten ++ List.replicate (n - k) z).toArray e fr)) (h : ∀ cs ∈ css, cs.length = 1) (hl : css.length = k) (hk : k < n) :
    w.cell? ⟨g, k, none⟩ = some z := by
  have hfl := flatten_length h
  rw [cell_of_block hg, List.getElem?_append_right (by omega), List.getElem?_replicate, if_pos (by omega)]
theorem fill_set {w : World} {g k n : Nat} {css : List (List Value)} {z v : Value} {e : TypeId} (hg : w.heap[g]? = some (.cells (css.flatten ++ List.replicate (n - k) z).toArray e (0, 0))) (h : ∀ cs ∈ css, cs.length = 1) (hl : css.length = k) (hk : k < n) :
    (w.setCell ⟨g, k, none⟩ v).heap[g]? = some (.cells ((css ++ [[v]]).flatten ++ List.replicate (n - (k + 1)) z).toArray e (0, 0)) := by
  rw [heap_setCell_same w g k _ _ _ hg]
  subst hl
  rw [show n - css.length = (n - (css.length + 1)) + 1 by omega, List.setIfInBounds_toArray, set_flatten1 h]
theorem each_take {α : Type} [Rd α] {S : Nat → Prop} {w : World} {css : List (List Value)} {xs : List α} {k : Nat} (h : Each S w css (xs.take k)) (hk : k ≤ xs.length) : css.length = k := by
  rw [h.1, List.length_take]; omega
theorem each_next {α : Type} [Rd α] {S : Nat → Prop} {w : World} {css : List (List Value)} {xs : List α} {k : Nat} {cs : List Value} (h : Each S w css (xs.take k)) (hk : k < xs.length) (hx : Rd.rd S w cs xs[k]) : Each S w (css ++ [cs]) (xs.take (k + 1)) := by
  rw [List.take_succ_eq_append_getElem hk]
  exact h.snoc hx

/-! ### Small things -/
theorem end_int {a b : Int} (h : a = b) : Ending.returned (.int .i64 a) = Ending.returned (.int .i64 b) := by rw [h]
theorem end_string {a b : ByteArray} (h : a = b) : Ending.returned (.string a) = Ending.returned (.string b) := by rw [h]
theorem end_bool {b c : Bool} (h : b = c) : Ending.returned (.bool b) = Ending.returned (.bool c) := by rw [h]
theorem end_two {a b c d : Int} (h : (a, b) = (c, d)) : Ending.returned (.tuple #[.int .i64 a, .int .i64 b]) = Ending.returned (.tuple #[.int .i64 c, .int .i64 d]) := by cases h; rfl
/-- What is left of 'left' behind a thing of this size; -1 if it is too great. -/
def szOut (left : Int) (n : Nat) : Int := if (n : Int) ≤ left then left - n else -1
theorem szOut_nonneg {left : Int} {n : Nat} (h : ¬ szOut left n < 0) : (n : Int) ≤ left := by
  unfold szOut at h
  split at h <;> omega
theorem szOut_val {left : Int} {n : Nat} (h : (n : Int) ≤ left) : szOut left n = left - n := by
  unfold szOut
  rw [if_pos h]

#print axioms opens_struct
#print axioms opens_slice
end Go.Proofs.Ytbogeelckgfaeaa
