/-
  What is proved here: a reading 'Rd' of plain Lean data off the model's cells (ints, bools, bytes, strings, pairs, slices of these), that it stands while the blocks that it passes through stand,
  and that whatever the row's form reads ('DataW.trod') is read so. No condition; no program in sight.
-/
import Derived.Below
import Derived.Deep.Slices
import Derived.ChangeOld
import Derived.ProofKit
namespace Go.Proofs.YtlfkfofeenakhaaDoor
open Go.RowKit Go.ChangeShapes Go.WideShapes

theorem hid {p : Prop} (h : p) : Hid p := h

/-- The two worlds hold the same in every block of S. -/
def Same (S : Nat → Prop) (w w' : World) : Prop := ∀ b, S b → w'.heap[b]? = w.heap[b]?
theorem Same.refl (S : Nat → Prop) (w : World) : Same S w w := fun _ _ => rfl
theorem Same.trans {S : Nat → Prop} {a b c : World} (h : Same S a b) (k : Same S b c) : Same S a c := fun i hi => (k i hi).trans (h i hi)
theorem Same.mono {S T : Nat → Prop} {w w' : World} (h : Same S w w') (hs : ∀ b, T b → S b) : Same T w w' := fun b hb => h b (hs b hb)
theorem Same.cell {S : Nat → Prop} {w w' : World} (h : Same S w w') {p : Addr} (hp : S p.block) : w'.cell? p = w.cell? p := World.cell?_of_block (w := w) (h p.block hp)
theorem Same.of_below {B : Nat} {w w' : World} (h : Below B w w') : Same (fun b => b < B) w w' := fun b hb => h.block b hb

theorem bcell {W w1 : World} {B : Nat} (hb : Below B W w1) : (∀ b o, b < B → w1.cell? ⟨b, o, none⟩ = W.cell? ⟨b, o, none⟩) ∧ (∀ b o, b < B → w1.frozen? ⟨b, o, none⟩ = W.frozen? ⟨b, o, none⟩) :=
  ⟨fun b o h => hb.cell (p := ⟨b, o, none⟩) h, fun b o h => hb.frozen (p := ⟨b, o, none⟩) h⟩

/-- Blocks that lie in a world. -/
def Old (w : World) : Nat → Prop := fun b => b < w.heap.size
/-- Blocks from B on that lie in a world. -/
def New (B : Nat) (w : World) : Nat → Prop := fun b => B ≤ b ∧ b < w.heap.size

/-- A Lean type that is read off n cells: R S w cells x: through blocks of S alone. -/
class Rd (α : Type) where
  n : Nat
  rd : (Nat → Prop) → World → List Value → α → Prop
  pos : 0 < n
  len : ∀ {S : Nat → Prop} {w : World} {cs : List Value} {x : α}, rd S w cs x → cs.length = n
  mono : ∀ {S T : Nat → Prop} {w : World} {cs : List Value} {x : α}, (∀ b, S b → T b) → rd S w cs x → rd T w cs x
  same : ∀ {S : Nat → Prop} {w w' : World} {cs : List Value} {x : α}, Same S w w' → rd S w cs x → rd S w' cs x

def Rd.r {α : Type} [Rd α] (S : Nat → Prop) (w : World) (cs : List Value) (x : α) : Prop := Rd.rd S w cs x

theorem Rd.below {α : Type} [Rd α] {B : Nat} {S : Nat → Prop} {w w' : World} {cs : List Value} {x : α} (hb : Below B w w') (hS : ∀ b, S b → b < B) (h : Rd.rd S w cs x) : Rd.rd S w' cs x :=
  Rd.same (fun b hb' => hb.block b (hS b hb')) h
/-- what is read in the old world is read in every later one -/
theorem Rd.later {α : Type} [Rd α] {w w' : World} {cs : List Value} {x : α} (hb : Below w.heap.size w w') (h : Rd.rd (Old w) w cs x) : Rd.rd (Old w') w' cs x :=
  Rd.mono (fun b (hb' : b < w.heap.size) => Nat.lt_of_lt_of_le hb' hb.size) (Rd.below hb (fun _ h => h) h)
theorem Rd.later' {α : Type} [Rd α] {B : Nat} {w w' : World} {cs : List Value} {x : α} (hb : Below w.heap.size w w') (h : Rd.rd (New B w) w cs x) : Rd.rd (New B w') w' cs x :=
  Rd.mono (fun b (hb' : B ≤ b ∧ b < w.heap.size) => ⟨hb'.1, Nat.lt_of_lt_of_le hb'.2 hb.size⟩) (Rd.below hb (fun _ h => h.2) h)
theorem Rd.old {α : Type} [Rd α] {B : Nat} {w : World} {cs : List Value} {x : α} (h : Rd.rd (New B w) w cs x) : Rd.rd (Old w) w cs x := Rd.mono (fun _ h => h.2) h

instance : Rd Int where
  n := 1
  rd _ _ cs x := cs = [.int .i64 x] ∧ -9223372036854775808 ≤ x ∧ x ≤ 9223372036854775807
  pos := Nat.one_pos
  len h := by rw [h.1]; rfl
  mono _ h := h
  same _ h := h
instance : Rd Bool where
  n := 1
  rd _ _ cs x := cs = [.bool x]
  pos := Nat.one_pos
  len h := by rw [h]; rfl
  mono _ h := h
  same _ h := h
instance : Rd UInt8 where
  n := 1
  rd _ _ cs x := cs = [.int .u8 x.toNat]
  pos := Nat.one_pos
  len h := by rw [h]; rfl
  mono _ h := h
  same _ h := h
instance : Rd ByteArray where
  n := 1
  rd _ _ cs x := cs = [.string x] ∧ x.size ≤ 9223372036854775807
  pos := Nat.one_pos
  len h := by rw [h.1]; rfl
  mono _ h := h
  same _ h := h
instance {α β : Type} [Rd α] [Rd β] : Rd (α × β) where
  n := Rd.n α + Rd.n β
  rd S w cs x := ∃ c1 c2, cs = c1 ++ c2 ∧ Rd.rd S w c1 x.1 ∧ Rd.rd S w c2 x.2
  pos := Nat.add_pos_left Rd.pos _
  len := by rintro S w cs x ⟨c1, c2, rfl, h1, h2⟩; rw [List.length_append, Rd.len h1, Rd.len h2]
  mono hs := by rintro ⟨c1, c2, rfl, h1, h2⟩; exact ⟨c1, c2, rfl, Rd.mono hs h1, Rd.mono hs h2⟩
  same hs := by rintro ⟨c1, c2, rfl, h1, h2⟩; exact ⟨c1, c2, rfl, Rd.same hs h1, Rd.same hs h2⟩

/-- A row of elements of k cells each from an address on. -/
def rowOf {α : Type} [Rd α] (S : Nat → Prop) (w : World) (b off : Nat) (xs : List α) : Prop :=
  S b ∧ ∀ (i : Nat) (h : i < xs.length), ∃ cs : List Value, (∀ j, j < Rd.n α → w.cell? ⟨b, off + i * Rd.n α + j, none⟩ = cs[j]?) ∧ Rd.rd S w cs xs[i]

instance {α : Type} [Rd α] : Rd (List α) where
  n := 1
  rd S w cs xs := ∃ a cap, cs = [.slice a xs.length cap] ∧ xs.length ≤ cap ∧ cap ≤ 9223372036854775807 ∧ (0 < xs.length → ∃ b off, a = some ⟨b, off, none⟩ ∧ rowOf S w b off xs)
  pos := Nat.one_pos
  len := by rintro S w cs x ⟨a, cap, rfl, _⟩; rfl
  mono hs := by
    rintro ⟨a, cap, rfl, h1, h2, h3⟩
    refine ⟨a, cap, rfl, h1, h2, fun h => ?_⟩
    obtain ⟨b, off, rfl, hb, hr⟩ := h3 h
    exact ⟨b, off, rfl, hs b hb, fun i hi => let ⟨cs, h4, h5⟩ := hr i hi; ⟨cs, h4, Rd.mono hs h5⟩⟩
  same hs := by
    rintro ⟨a, cap, rfl, h1, h2, h3⟩
    refine ⟨a, cap, rfl, h1, h2, fun h => ?_⟩
    obtain ⟨b, off, rfl, hb, hr⟩ := h3 h
    exact ⟨b, off, rfl, hb, fun i hi => let ⟨cs, h4, h5⟩ := hr i hi; ⟨cs, fun j hj => (hs.cell (p := ⟨b, _, none⟩) hb).trans (h4 j hj), Rd.same hs h5⟩⟩

/-- Through a view: a structure reads as its parts. -/
@[reducible] def Rd.via {α β : Type} [Rd β] (f : α → β) : Rd α where
  n := Rd.n β
  rd S w cs x := Rd.rd S w cs (f x)
  pos := Rd.pos
  len h := Rd.len h
  mono hs h := Rd.mono hs h
  same hs h := Rd.same hs h

/-! ### What the row's form reads is read so. -/
def Opens (P : Program) (t : TypeId) (α : Type) [Rd α] : Prop :=
  ∀ {H : Type} {enc : TypeId × Value → H} {w : World} {fuel : Nat} {cs : List Value} {d : DataW H × List MemPlace},
    DataW.trod enc P w 0 (fun _ => true) true fuel t cs = some d → ∃ x : α, Rd.rd (Old w) w cs x

theorem wf_i64 {n : Int} (h : (Lit.int .i64 n).wf = true) : -9223372036854775808 ≤ n ∧ n ≤ 9223372036854775807 := by
  simp [Lit.wf, IntKind.min, IntKind.max, IntKind.signed, IntKind.bits] at h
  omega
theorem opens_int {P : Program} {t : TypeId} (ht : P.underlying t = some (.int .i64)) : Opens P t Int := by
  intro H enc w fuel cs d h
  obtain ⟨n, rfl, _, hw⟩ := DataW.trod_int ht h
  exact ⟨n, rfl, wf_i64 hw⟩
theorem opens_byte {P : Program} {t : TypeId} (ht : P.underlying t = some (.int .u8)) : Opens P t UInt8 := by
  intro H enc w fuel cs d h
  obtain ⟨n, rfl, _, hw⟩ := DataW.trod_int ht h
  simp [Lit.wf, IntKind.min, IntKind.max, IntKind.signed, IntKind.bits] at hw
  refine ⟨UInt8.ofNat n.toNat, ?_⟩
  have e : ((UInt8.ofNat n.toNat).toNat : Int) = n := by
    rw [UInt8.toNat_ofNat']
    omega
  show _ = [Value.int IntKind.u8 _]
  rw [e]
theorem opens_bool {P : Program} {t : TypeId} (ht : P.underlying t = some .bool) : Opens P t Bool := by
  intro H enc w fuel cs d h
  obtain ⟨n, rfl, _⟩ := DataW.trod_bool ht h
  exact ⟨n, rfl⟩
theorem opens_string {P : Program} {t : TypeId} (ht : P.underlying t = some .string) : Opens P t ByteArray := by
  intro H enc w fuel cs d h
  obtain ⟨n, rfl, _, hs⟩ := DataW.trod_string ht h
  exact ⟨n, rfl, hs⟩
theorem cell_lt {w : World} {a : Addr} {v : Value} (h : w.cell? a = some v) : a.block < w.heap.size := by
  unfold World.cell? at h
  cases e : w.heap[a.block]? with
  | none => rw [e] at h; simp at h
  | some o => exact (Array.getElem?_eq_some_iff.1 e).1
theorem opens_slice {P : Program} {t e : TypeId} {α : Type} [Rd α] (ht : P.underlying t = some (.slice e)) (hn : P.cellsOf e = Rd.n α) (he : Opens P e α) : Opens P t (List α) := by
  intro H enc w fuel cs d h
  rcases Go.Deep.open_slice ht h with ⟨rfl, _⟩ | ⟨a, len, cap, m, n, D, Pl, rfl, _, hl, hm, hmm, _, hx⟩
  · exact ⟨[], none, 0, rfl, Nat.le_refl _, by omega, fun h => absurd h (by simp)⟩
  · simp only [if_true] at hmm
    subst hmm
    have each : ∀ i, i < len → ∃ x : α, ∃ cs', w.cells? 0 (a.add (i * Rd.n α)) (Rd.n α) = some cs' ∧ Rd.rd (Old w) w cs' x := by
      intro i hi
      obtain ⟨cs', h1, h2⟩ := hx i (by omega)
      obtain ⟨x, h3⟩ := he h2
      rw [hn] at h1
      exact ⟨x, cs', h1, h3⟩
    by_cases h0 : len = 0
    · subst h0
      exact ⟨[], some a, m, rfl, Nat.zero_le _, hm, fun h => absurd h (by simp)⟩
    · haveI : Inhabited α := ⟨(each 0 (by omega)).choose⟩
      obtain ⟨f, hf⟩ := Go.Deep.choose_lt each
      have hp : 0 < Rd.n α := Rd.pos
      obtain ⟨cs0, h00, _⟩ := hf 0 (by omega)
      have hc0 := (World.cells?_some h00).2.2 0 hp
      rw [List.getElem?_eq_getElem (by rw [(World.cells?_some h00).2.1]; exact hp)] at hc0
      have hsp := World.cell?_spot hc0
      obtain ⟨b, off, spot⟩ := a
      have hspn : spot = none := by simpa [Addr.add] using hsp
      subst hspn
      have hlt : b < w.heap.size := by have := cell_lt hc0; simpa [Addr.add] using this
      refine ⟨(List.range len).map f, some ⟨b, off, none⟩, m, by simp, by simpa using hl, hm, fun _ => ⟨b, off, rfl, hlt, fun i hi => ?_⟩⟩
      have hi' : i < len := by simpa using hi
      obtain ⟨cs', h1, h2⟩ := hf i hi'
      refine ⟨cs', fun j hj => ?_, by simpa using h2⟩
      rw [← (World.cells?_some h1).2.2 j hj]
      congr 1
      unfold Addr.add
      by_cases hj0 : j = 0 <;> by_cases hi0 : i * Rd.n α = 0 <;> simp [hj0, hi0] <;> omega

theorem drop_take_append {cs : List Value} {n m : Nat} (h : cs.length = n + m) : cs = (cs.drop 0).take n ++ (cs.drop n).take m := by
  rw [List.drop_zero, List.take_of_length_le (i := m) (by simp; omega), List.take_append_drop]

/-- The structs' parts. -/
def Parts (P : Program) (fs : List (TypeId × Nat)) (α : Type) [Rd α] : Prop :=
  ∀ {H : Type} {enc : TypeId × Value → H} {w : World} {fuel : Nat} {cs : List Value},
    (∀ f ∈ fs, ∃ d, DataW.trod enc P w 0 (fun _ => true) true fuel f.1 ((cs.drop f.2).take (P.cellsOf f.1)) = some d) → ∀ o, (∀ f ∈ fs.head?, f.2 = o) → ∃ x : α, Rd.rd (Old w) w ((cs.drop o).take (Rd.n α)) x

theorem parts_one {P : Program} {t : TypeId} {o : Nat} {α : Type} [Rd α] (hn : P.cellsOf t = Rd.n α) (h : Opens P t α) : Parts P [(t, o)] α := by
  intro H enc w fuel cs hf o' ho
  obtain ⟨d, hd⟩ := hf (t, o) (by simp)
  have := ho (t, o) (by simp)
  simp only at this
  subst this
  rw [← hn]
  exact h hd
theorem parts_cons {P : Program} {t : TypeId} {o : Nat} {fs : List (TypeId × Nat)} {α β : Type} [Rd α] [Rd β] (hn : P.cellsOf t = Rd.n α) (hne : ∀ f ∈ fs.head?, f.2 = o + Rd.n α) (h : Opens P t α) (hs : Parts P fs β) : Parts P ((t, o) :: fs) (α × β) := by
  intro H enc w fuel cs hf o' ho
  obtain ⟨d, hd⟩ := hf (t, o) (by simp)
  have := ho (t, o) (by simp)
  simp only at this
  subst this
  obtain ⟨x, hx⟩ := h hd
  obtain ⟨y, hy⟩ := hs (fun f hf' => hf f (by simp [hf'])) (o + Rd.n α) hne
  rw [hn] at hx
  refine ⟨(x, y), _, _, ?_, hx, hy⟩
  show List.take (Rd.n α + Rd.n β) _ = _
  rw [List.take_add, List.drop_drop]
theorem opens_struct {P : Program} {t : TypeId} {fs : Array Field} {α β : Type} [Rd α] [Rd β] (ht : P.underlying t = some (.struct fs)) (hn : P.cellsOf t = Rd.n β)
    (hp : Parts P (fs.toList.map fun f => (f.type, f.offset)) β) (h0 : ∀ f ∈ fs.toList.head?, f.offset = 0) (v : ∀ {S : Nat → Prop} {w : World} {cs : List Value} (y : β), Rd.rd S w cs y → ∃ x : α, Rd.rd S w cs x) : Opens P t α := by
  intro H enc w fuel cs d h
  obtain ⟨xs, n, rfl, _, hl, hlen, hf⟩ := DataW.trod_struct ht h
  have key : ∀ g ∈ fs.toList.map (fun f => (f.type, f.offset)), ∃ d, DataW.trod enc P w 0 (fun _ => true) true n g.1 ((cs.drop g.2).take (P.cellsOf g.1)) = some d := by
    intro g hg
    obtain ⟨f, hf', rfl⟩ := List.mem_map.1 hg
    obtain ⟨i, hi, rfl⟩ := List.mem_iff_getElem.1 hf'
    have hi' : i < fs.size := by simpa using hi
    have := hf i fs[i] (by simp [hi'])
    rw [List.getElem?_eq_getElem (by omega)] at this
    exact ⟨_, by simpa using this⟩
  obtain ⟨y, hy⟩ := hp key 0 (by
    intro f hf'
    cases hfs : fs.toList with
    | nil => rw [hfs] at hf'; simp at hf'
    | cons a r =>
      rw [hfs] at hf' h0
      simp at hf' h0
      subst hf'
      exact h0)
  rw [List.drop_zero, ← hn, ← hl, List.take_length] at hy
  exact v y hy

/-- An argument of a law: its value's cells. -/
theorem okWide_one {P : Program} {w : World} {r : Reach} {base : Nat} {t : TypeId} {v : Value} (h : Value.okWide P w r base t v) (hs : (match P.underlying t with | some (.struct _) | some (.array _ _) => false | _ => true) = true)
    (x : ∃ u, v.cells.toList = [u]) : v.cells.toList = [v] := by
  cases v <;> simp_all [Value.cells, Value.okWide]
  rename_i cs
  split at hs
  · simp at hs
  · simp at hs
  · rename_i h1 h2
    revert h
    split
    · rename_i fs hfs; exact absurd hfs (h1 fs)
    · rename_i k e hke; exact absurd hke (h2 k e)
    · intro h
      exfalso
      unfold Cell.okWide at h
      split at h <;> simp_all [Cell.ok]

theorem arg_plain {P : Program} {w : World} {r : Reach} {base : Nat} {t : TypeId} {v : Value} {α : Type} [Rd α] {H : Type} {enc : TypeId × Value → H} {d : DataW H} {p : List MemPlace} (ho : Opens P t α) (hn : Rd.n α = 1) (hs : (match P.underlying t with | some (.struct _) | some (.array _ _) => false | _ => true) = true)
    (hval : Value.okWide P w r base t v) (h : DataW.Trod enc P w 0 (fun _ => true) true t v d p) : ∃ x : α, Rd.rd (Old w) w [v] x := by
  obtain ⟨m, hm⟩ := h
  obtain ⟨x, hx⟩ := ho hm
  have hl := Rd.len hx
  rw [hn] at hl
  have e := okWide_one hval hs (by
    match hc : v.cells.toList, hl with
    | [u], _ => exact ⟨u, rfl⟩)
  rw [e] at hx
  exact ⟨x, hx⟩
theorem arg_struct {P : Program} {w : World} {r : Reach} {base : Nat} {t : TypeId} {v : Value} {α : Type} [Rd α] {H : Type} {enc : TypeId × Value → H} {d : DataW H} {p : List MemPlace} {fs : Array Field} (ht : P.underlying t = some (.struct fs)) (ho : Opens P t α)
    (hval : Value.okWide P w r base t v) (h : DataW.Trod enc P w 0 (fun _ => true) true t v d p) : ∃ (cs : Array Value) (x : α), v = .agg cs ∧ Rd.rd (Old w) w cs.toList x := by
  obtain ⟨cs, rfl, _⟩ := okWide_struct ht hval
  obtain ⟨m, hm⟩ := h
  obtain ⟨x, hx⟩ := ho hm
  exact ⟨cs, x, rfl, hx⟩
theorem trod_lt' {P : Program} {w : World} {t : TypeId} {v : Value} {H : Type} {enc : TypeId × Value → H} {d : DataW H} {p : List MemPlace} (h : DataW.Trod enc P w 0 (fun _ => true) true t v d p) : ∀ x ∈ p, x.block < w.heap.size := by
  obtain ⟨m, hm⟩ := h
  exact DataW.trod_lt m _ _ _ hm

/-! ### A block of the call's own, known whole: its cells are the elements' cells, one behind the other. -/
theorem cell_of_block {w : World} {g j : Nat} {cs : List Value} {e : TypeId} {fr : Nat × Nat} (hg : w.heap[g]? = some (.cells cs.toArray e fr)) : w.cell? ⟨g, j, none⟩ = cs[j]? := by
  unfold World.cell?
  rw [hg]
  simp
theorem flatten_get {css : List (List Value)} {n : Nat} (h : ∀ cs ∈ css, cs.length = n) : ∀ (i j : Nat) (hi : i < css.length), j < n → (css.flatten)[i * n + j]? = css[i][j]? := by
  induction css with
  | nil => intro i j hi; exact absurd hi (by simp)
  | cons c r ih =>
    intro i j hi hj
    have hc : c.length = n := h c (by simp)
    cases i with
    | zero => simp only [List.flatten_cons, Nat.zero_mul, Nat.zero_add, List.getElem_cons_zero]; rw [List.getElem?_append_left (by omega)]
    | succ i =>
      have := ih (fun cs hcs => h cs (by simp [hcs])) i j (by simpa using hi) hj
      simp only [List.flatten_cons, List.getElem_cons_succ]
      rw [List.getElem?_append_right (by rw [hc, Nat.add_mul]; omega), ← this]
      congr 1
      rw [hc, Nat.add_mul]; omega
theorem flatten_length {css : List (List Value)} {n : Nat} (h : ∀ cs ∈ css, cs.length = n) : css.flatten.length = css.length * n := by
  induction css with
  | nil => simp
  | cons c r ih => rw [List.flatten_cons, List.length_append, ih (fun cs hcs => h cs (by simp [hcs])), h c (by simp), List.length_cons, Nat.add_mul]; omega
/-- The elements read one by one off their cells. -/
def Each {α : Type} [Rd α] (S : Nat → Prop) (w : World) (css : List (List Value)) (xs : List α) : Prop :=
  css.length = xs.length ∧ ∀ (i : Nat) (h : i < css.length) (h' : i < xs.length), Rd.rd S w css[i] xs[i]
theorem Each.nil {α : Type} [Rd α] {S : Nat → Prop} {w : World} : Each S w [] ([] : List α) := ⟨rfl, fun i h => absurd h (by simp)⟩
theorem Each.mono {α : Type} [Rd α] {S T : Nat → Prop} {w : World} {css : List (List Value)} {xs : List α} (h : Each S w css xs) (hs : ∀ b, S b → T b) : Each T w css xs := ⟨h.1, fun i a b => Rd.mono hs (h.2 i a b)⟩
theorem Each.same {α : Type} [Rd α] {S : Nat → Prop} {w w' : World} {css : List (List Value)} {xs : List α} (h : Each S w css xs) (hs : Same S w w') : Each S w' css xs := ⟨h.1, fun i a b => Rd.same hs (h.2 i a b)⟩
theorem Each.len {α : Type} [Rd α] {S : Nat → Prop} {w : World} {css : List (List Value)} {xs : List α} (h : Each S w css xs) : ∀ cs ∈ css, cs.length = Rd.n α := by
  intro cs hcs
  obtain ⟨i, hi, rfl⟩ := List.mem_iff_getElem.1 hcs
  exact Rd.len (h.2 i hi (by rw [← h.1]; exact hi))
theorem Each.snoc {α : Type} [Rd α] {S : Nat → Prop} {w : World} {css : List (List Value)} {xs : List α} {cs : List Value} {x : α} (h : Each S w css xs) (hx : Rd.rd S w cs x) : Each S w (css ++ [cs]) (xs ++ [x]) := by
  refine ⟨by simp [h.1], fun i a b => ?_⟩
  by_cases hi : i < css.length
  · have hi' : i < xs.length := by rw [← h.1]; exact hi
    rw [List.getElem_append_left hi, List.getElem_append_left hi']
    exact h.2 i hi hi'
  · have e1 : i = css.length := by simp at a; omega
    subst e1
    have e2 : css.length = xs.length := h.1
    rw [List.getElem_append_right (Nat.le_refl _), List.getElem_append_right (by omega)]
    simpa [e2] using hx
/-- A slice at the head of such a block reads as the elements. -/
theorem rd_of_block {α : Type} [Rd α] {S : Nat → Prop} {w : World} {g cap : Nat} {css : List (List Value)} {xs : List α} {rest : List Value} {e : TypeId} {fr : Nat × Nat} (hg : w.heap[g]? = some (.cells (css.flatten ++ rest).toArray e fr))
    (he : Each S w css xs) (hS : S g) (hl : xs.length ≤ cap) (hc : cap ≤ 9223372036854775807) : Rd.rd S w [.slice (some ⟨g, 0, none⟩) xs.length cap] xs := by
  refine ⟨some ⟨g, 0, none⟩, cap, rfl, hl, hc, fun _ => ⟨g, 0, rfl, hS, fun i hi => ?_⟩⟩
  have hi' : i < css.length := by rw [he.1]; exact hi
  refine ⟨css[i], fun j hj => ?_, he.2 i hi' hi⟩
  rw [cell_of_block hg, Nat.zero_add, ← flatten_get he.len i j hi' hj]
  rw [List.getElem?_append_left]
  rw [flatten_length he.len]
  have : (i + 1) * Rd.n α ≤ css.length * Rd.n α := Nat.mul_le_mul_right _ hi'
  rw [Nat.add_mul] at this
  omega
theorem toList_madeCells1 (z : Value) (n : Nat) : madeCells #[z] n = (List.replicate n z).toArray := by
  rw [← toList_madeCells_one z n]
/-- One store further: the next element's single cell. -/
theorem set_flatten1 {css : List (List Value)} {m : Nat} {z v : Value} (h : ∀ cs ∈ css, cs.length = 1) :
    (css.flatten ++ List.replicate (m + 1) z).set css.length v = (css ++ [[v]]).flatten ++ List.replicate m z := by
  have hl := flatten_length h
  rw [Nat.mul_one] at hl
  rw [List.set_append_right _ _ (by omega), hl, Nat.sub_self, List.replicate_succ, List.set_cons_zero, List.flatten_append]
  simp

theorem fill_made (w : World) (z : Value) (n : Nat) (e : TypeId) : (w.alloc (.cells (madeCells #[z] n) e)).heap[w.heap.size]? = some (.cells ((([] : List (List Value)).flatten ++ List.replicate (n - 0) z).toArray) e (0, 0)) := by
  rw [toList_madeCells1]
  exact heap_alloc_new w _
theorem fill_old {w : World} {g k n : Nat} {css : List (List Value)} {z : Value} {e : TypeId} {fr : Nat × Nat} (hg : w.heap[g]? = some (.cells (css.flatten ++ List.replicate (n - k) z).toArray e fr)) (h : ∀ cs ∈ css, cs.length = 1) (hl : css.length = k) (hk : k < n) :
    w.cell? ⟨g, k, none⟩ = some z := by
  have hfl := flatten_length h
  rw [cell_of_block hg, List.getElem?_append_right (by omega), List.getElem?_replicate, if_pos (by omega)]
theorem fill_set {w : World} {g k n : Nat} {css : List (List Value)} {z v : Value} {e : TypeId} (hg : w.heap[g]? = some (.cells (css.flatten ++ List.replicate (n - k) z).toArray e (0, 0))) (h : ∀ cs ∈ css, cs.length = 1) (hl : css.length = k) (hk : k < n) :
    (w.setCell ⟨g, k, none⟩ v).heap[g]? = some (.cells ((css ++ [[v]]).flatten ++ List.replicate (n - (k + 1)) z).toArray e (0, 0)) := by
  rw [heap_setCell_same w g k _ _ _ hg]
  subst hl
  rw [show n - css.length = (n - (css.length + 1)) + 1 by omega, List.setIfInBounds_toArray, set_flatten1 h]
theorem each_take {α : Type} [Rd α] {S : Nat → Prop} {w : World} {css : List (List Value)} {xs : List α} {k : Nat} (h : Each S w css (xs.take k)) (hk : k ≤ xs.length) : css.length = k := by
  rw [h.1, List.length_take]; omega
theorem each_next {α : Type} [Rd α] {S : Nat → Prop} {w : World} {css : List (List Value)} {xs : List α} {k : Nat} {cs : List Value} (h : Each S w css (xs.take k)) (hk : k < xs.length) (hx : Rd.rd S w cs xs[k]) : Each S w (css ++ [cs]) (xs.take (k + 1)) := by
  rw [List.take_succ_eq_append_getElem hk]
  exact h.snoc hx

theorem ext_trans {a b c : World} (h1 : Below a.heap.size a b) (h2 : Below b.heap.size b c) : Below a.heap.size a c := h1.trans (h2.mono h1.size)
theorem ext_alloc (w : World) (o : Obj) : Below w.heap.size w (w.alloc o) := (Below.refl _ _).alloc (Nat.le_refl _) o
theorem rdSlc {α : Type} [Rd α] {S : Nat → Prop} {w : World} {cs : List Value} {xs : List α} (h : Rd.rd S w cs xs) : ∃ (a : Option Addr) (c : Nat), cs = [.slice a xs.length c] := by
  obtain ⟨a, c, h, _⟩ := h
  exact ⟨a, c, h⟩
def sumTo {α : Type} (f : α → Nat) (xs : List α) (k : Nat) : Nat := ((xs.take k).map f).sum
theorem sumTo_zero {α : Type} (f : α → Nat) (xs : List α) : sumTo f xs 0 = 0 := by simp [sumTo]
theorem sumTo_succ {α : Type} (f : α → Nat) (xs : List α) (k : Nat) (h : k < xs.length) : sumTo f xs (k + 1) = sumTo f xs k + f xs[k] := by
  unfold sumTo
  rw [List.take_succ_eq_append_getElem h, List.map_append, List.sum_append]
  simp
theorem sumTo_le {α : Type} (f : α → Nat) (xs : List α) {k m : Nat} (h : k ≤ m) : sumTo f xs k ≤ sumTo f xs m := by
  unfold sumTo
  have e : xs.take m = xs.take k ++ (xs.take m).drop k := by
    have := (List.take_append_drop k (xs.take m)).symm
    rwa [List.take_take, Nat.min_eq_left h] at this
  rw [e, List.map_append, List.sum_append]
  exact Nat.le_add_right _ _
/-- The size that the laws reckon. -/
class Sz (α : Type) where
  sz : α → Nat
instance : Sz Int := ⟨fun _ => 0⟩
instance : Sz Bool := ⟨fun _ => 0⟩
instance : Sz ByteArray := ⟨ByteArray.size⟩
instance {α : Type} [Sz α] : Sz (List α) := ⟨fun xs => xs.length + sumTo Sz.sz xs xs.length⟩

/-- What lay from B on in w1 lies in W as it did. -/
def Keeps (B : Nat) (w1 W : World) : Prop := w1.heap.size ≤ W.heap.size ∧ Same (New B w1) w1 W
theorem Keeps.refl (B : Nat) (w : World) : Keeps B w w := ⟨Nat.le_refl _, Same.refl _ _⟩
theorem Keeps.set {B : Nat} {w1 W : World} {p : Addr} (h : Keeps B w1 W) (hp : p.block < B) (u : Value) : Keeps B w1 (W.setCell p u) :=
  ⟨by simpa [World.setCell] using h.1, fun b hb => (Below.heap_setCell W p u b (by have := hb.1; omega)).trans (h.2 b hb)⟩
theorem Keeps.alloc {B : Nat} {w1 W : World} (h : Keeps B w1 W) (o : Obj) : Keeps B w1 (W.alloc o) :=
  ⟨Nat.le_trans h.1 (ext_alloc W o).size, fun b hb => ((ext_alloc W o).block b (Nat.lt_of_lt_of_le hb.2 h.1)).trans (h.2 b hb)⟩
theorem Keeps.call {B : Nat} {w1 W W' : World} (h : Keeps B w1 W) (hb : Below W.heap.size W W') : Keeps B w1 W' :=
  ⟨Nat.le_trans h.1 hb.size, fun b hb' => (hb.block b (Nat.lt_of_lt_of_le hb'.2 h.1)).trans (h.2 b hb')⟩
theorem Keeps.rd {α : Type} [Rd α] {A B : Nat} {w1 W : World} {cs : List Value} {x : α} (h : Keeps B w1 W) (hA : A ≤ B) (hx : Rd.rd (New B w1) w1 cs x) : Rd.rd (New A W) W cs x :=
  Rd.mono (fun b (hb : B ≤ b ∧ b < w1.heap.size) => ⟨Nat.le_trans hA hb.1, Nat.lt_of_lt_of_le hb.2 h.1⟩) (Rd.same h.2 hx)
theorem keeps_cells {w w' : World} (hb : Below w.heap.size w w') : ∀ (p : Addr) (v : Value), w.cell? p = some v → w'.cell? p = some v := fun _ _ h => (hb.cell (cell_lt h)).trans h

/-! ### A row of elements of n cells, made at one stroke and filled one by one -/
theorem make_cells {P : Program} {t e : TypeId} {n bytes : Nat} (ht : P.underlying t = some (.slice e)) (hinfo : (P.info? e).map (fun i => (i.zero.isSome, i.size, i.bytes)) = some (true, n, bytes)) (c : Nat) (hbytes : bytes * c ≤ 281474976710656) (h63 : c ≤ 9223372036854775807) :
    ∃ zc : List Value, zc.length = c * n ∧ ∀ w, (Instr.makeSlice t (.int .i64 (c : Int)) (.int .i64 (c : Int))).run P w = .ok (.slice (some ⟨w.heap.size, 0, none⟩) c c) (w.alloc (.cells zc.toArray e)) := by
  obtain ⟨i, hi, hz⟩ := Option.map_eq_some_iff.1 hinfo
  simp only [Prod.mk.injEq] at hz
  obtain ⟨h1, rfl, rfl⟩ := hz
  obtain ⟨z, hz⟩ := Option.isSome_iff_exists.1 h1
  refine ⟨(madeCells z.cells (c * i.size)).toList, by rw [Array.length_toList, size_madeCells], fun w => ?_⟩
  have hb' : (i.bytes : Int) * (c : Int) ≤ 281474976710656 := by
    have h : ((i.bytes * c : Nat) : Int) ≤ 281474976710656 := by omega
    rwa [Int.natCast_mul] at h
  have hr := run_make (P := P) w t e i z ht hi hz .i64 .i64 c c (by omega) (Int.le_refl _) hb' (by omega)
  simpa only [Int.toNat_natCast, Array.toArray_toList] using hr
theorem row_get {w : World} {g k n : Nat} {css : List (List Value)} {rest : List Value} {e : TypeId} {fr : Nat × Nat} (hg : w.heap[g]? = some (.cells (css.flatten ++ rest).toArray e fr)) (h : ∀ cs ∈ css, cs.length = n) (hl : css.length = k) (hr : n ≤ rest.length) {j : Nat} (hj : j < n) :
    ∃ v, w.cell? ⟨g, k * n + j, none⟩ = some v := by
  have hfl := flatten_length h
  rw [cell_of_block hg, List.getElem?_append_right (by rw [hfl, hl]; omega), hfl, hl, Nat.add_sub_cancel_left, List.getElem?_eq_getElem (by omega)]
  exact ⟨_, rfl⟩
/-- Cells stored one behind the other. -/
def setAll (w : World) (g o : Nat) : Nat → List Value → World
  | _, [] => w
  | i, c :: r => setAll (w.setCell ⟨g, o + i, none⟩ c) g o (i + 1) r
theorem setAll_block : ∀ (cs : List Value) (w : World) (g o i : Nat) (A B C : List Value) (e : TypeId), w.heap[g]? = some (.cells (A ++ B ++ C).toArray e (0, 0)) → A.length = o + i → B.length = cs.length →
    (setAll w g o i cs).heap[g]? = some (.cells (A ++ cs ++ C).toArray e (0, 0)) ∧ (∀ b, b ≠ g → (setAll w g o i cs).heap[b]? = w.heap[b]?) ∧ (setAll w g o i cs).heap.size = w.heap.size ∧ (∀ K (w0 : World), Below K w0 w → K ≤ g → Below K w0 (setAll w g o i cs))
  | [], w, g, o, i, A, B, C, e, hg, hA, hB => by
    have : B = [] := List.eq_nil_of_length_eq_zero hB
    subst this
    exact ⟨hg, fun _ _ => rfl, rfl, fun _ _ h _ => h⟩
  | c :: r, w, g, o, i, A, B, C, e, hg, hA, hB => by
    cases B with
    | nil => simp at hB
    | cons b B =>
      have hs := heap_setCell_same w g (o + i) _ _ c hg
      rw [List.setIfInBounds_toArray, ← hA, List.append_assoc, List.set_append_right _ _ (Nat.le_refl _), Nat.sub_self, List.cons_append, List.set_cons_zero] at hs
      have hs' : (w.setCell ⟨g, A.length, none⟩ c).heap[g]? = some (.cells ((A ++ [c]) ++ B ++ C).toArray e (0, 0)) := by
        rw [hs]; simp
      obtain ⟨h1, h2, h3, h4⟩ := setAll_block r (w.setCell ⟨g, A.length, none⟩ c) g o (i + 1) (A ++ [c]) B C e hs' (by simp; omega) (by simpa using hB)
      rw [hA] at h1 h2 h3 h4
      refine ⟨?_, fun k hk => (h2 k hk).trans (Below.heap_setCell _ _ _ _ hk), by rw [show (setAll w g o i (c :: r)).heap.size = _ from h3]; simp [World.setCell], fun K w0 hb hK => h4 K w0 (hb.setCell hK _) hK⟩
      show (setAll (w.setCell ⟨g, o + i, none⟩ c) g o (i + 1) r).heap[g]? = _
      rw [h1]
      simp
theorem sz_each {α : Type} [Sz α] {xs : List α} {m : Nat} (h : Sz.sz xs ≤ m) : ∀ k (hk : k < xs.length), Sz.sz xs[k] ≤ m := by
  intro k hk
  have e : Sz.sz xs = xs.length + sumTo Sz.sz xs xs.length := rfl
  have h1 := sumTo_succ Sz.sz xs k hk
  have h2 := sumTo_le Sz.sz xs (show k + 1 ≤ xs.length by omega)
  omega
theorem row_next {α : Type} [Rd α] {w0 wr w1 : World} {g k n : Nat} {css : List (List Value)} {rest : List Value} {xs : List α} {cs1 : List Value} {e : TypeId} (hn : Rd.n α = n) (hk : k < xs.length)
    (hg : w1.heap[g]? = some (.cells (css.flatten ++ rest).toArray e (0, 0))) (he : Each (New (g + 1) wr) wr css (xs.take k)) (hcl : css.length = k) (hrl : rest.length = (xs.length - k) * n)
    (hgw : g < wr.heap.size) (hb1 : Below wr.heap.size wr w1) (hB1 : Below g w0 w1) (hr1 : Rd.rd (New wr.heap.size w1) w1 cs1 xs[k]) :
    ∃ rest', (setAll w1 g (k * n) 0 cs1).heap[g]? = some (.cells ((css ++ [cs1]).flatten ++ rest').toArray e (0, 0)) ∧ rest'.length = (xs.length - (k + 1)) * n ∧ g < (setAll w1 g (k * n) 0 cs1).heap.size ∧
      Below g w0 (setAll w1 g (k * n) 0 cs1) ∧ Each (New (g + 1) (setAll w1 g (k * n) 0 cs1)) (setAll w1 g (k * n) 0 cs1) (css ++ [cs1]) (xs.take (k + 1)) := by
  subst hn
  have hfl := flatten_length he.len
  have hc1 := Rd.len hr1
  have hmul : (xs.length - k) * Rd.n α = (xs.length - (k + 1)) * Rd.n α + Rd.n α := by
    rw [show xs.length - k = (xs.length - (k + 1)) + 1 by omega, Nat.add_mul, Nat.one_mul]
  obtain ⟨h1, h2, h3, h4⟩ := setAll_block cs1 w1 g (k * Rd.n α) 0 css.flatten (rest.take (Rd.n α)) (rest.drop (Rd.n α)) e (by rw [List.append_assoc, List.take_append_drop]; exact hg) (by rw [hfl, hcl]; rfl) (by rw [List.length_take, hc1]; omega)
  have hsame : Same (New (g + 1) w1) w1 (setAll w1 g (k * Rd.n α) 0 cs1) := fun b hb => h2 b (by have := hb.1; omega)
  have hs1 := hb1.size
  refine ⟨rest.drop (Rd.n α), by rw [h1]; simp, by rw [List.length_drop]; omega, by rw [h3]; omega, h4 _ _ hB1 (Nat.le_refl _), each_next ?_ hk ?_⟩
  · have e1 := he.same (S := New (g + 1) wr) (w' := w1) (fun b hb => hb1.block b hb.2)
    have e2 := e1.mono (T := New (g + 1) w1) (fun b hb => ⟨hb.1, Nat.lt_of_lt_of_le hb.2 hs1⟩)
    have e3 := e2.same hsame
    exact e3.mono (fun b hb => ⟨hb.1, by rw [h3]; exact hb.2⟩)
  · have e2 : Rd.rd (New (g + 1) w1) w1 cs1 xs[k] := Rd.mono (fun b (hb : wr.heap.size ≤ b ∧ b < w1.heap.size) => ⟨by omega, hb.2⟩) hr1
    exact Rd.mono (fun b (hb : g + 1 ≤ b ∧ b < w1.heap.size) => ⟨hb.1, by rw [h3]; exact hb.2⟩) (Rd.same hsame e2)

theorem own_later {w w1 : World} {base : Nat} {e : TypeId} {size : Nat} {v : Value} {n : Nat} {xs : List Value} (h : w.ownsRow base e size v n xs) (hb : Below w.heap.size w w1) : w1.ownsRow base e size v n xs :=
  h.kept (row := none) ⟨hb.os, hb.tape, hb.output, hb.size, fun k hk _ => hb.block k hk⟩ (by cases hv : v.ownBlock <;> simp)
/-- a row of the call's own reads as its elements -/
theorem rd_of_own {α : Type} [Rd α] {S : Nat → Prop} {w : World} {base : Nat} {e : TypeId} {v : Value} {css : List (List Value)} {xs : List α} (h : w.ownsRow base e (Rd.n α) v xs.length css.flatten) (he : Each S w css xs) (hS : ∀ b, base ≤ b → b < w.heap.size → S b) : Rd.rd S w [v] xs := by
  rcases h.2 with ⟨rfl, hn⟩ | ⟨g, cap, cur, rfl, hb, hg, hnc, hcm, hcs, htake⟩
  · rw [show xs = [] from List.eq_nil_of_length_eq_zero hn]
    exact ⟨none, 0, rfl, Nat.le_refl _, by omega, fun h => absurd h (by simp)⟩
  · have hlt : g < w.heap.size := (Array.getElem?_eq_some_iff.1 hg).1
    have hcur : cur = (css.flatten ++ cur.toList.drop (xs.length * Rd.n α)).toArray := by
      rw [← htake, List.take_append_drop]
    rw [hcur] at hg
    exact rd_of_block hg he (hS g hb hlt) hnc (by unfold maxLen at hcm; omega)

/-! ### Small things -/
theorem end_int {a b : Int} (h : a = b) : Ending.returned (.int .i64 a) = Ending.returned (.int .i64 b) := by rw [h]
theorem end_string {a b : ByteArray} (h : a = b) : Ending.returned (.string a) = Ending.returned (.string b) := by rw [h]
theorem end_bool {b c : Bool} (h : b = c) : Ending.returned (.bool b) = Ending.returned (.bool c) := by rw [h]
theorem end_two {a b c d : Int} (h : (a, b) = (c, d)) : Ending.returned (.tuple #[.int .i64 a, .int .i64 b]) = Ending.returned (.tuple #[.int .i64 c, .int .i64 d]) := by cases h; rfl
/-- What is left of 'left' behind a thing of this size; -1 if it is too great. -/
def szOut (left : Int) (n : Nat) : Int := if (n : Int) ≤ left then left - n else -1
theorem szOut_nonneg {left : Int} {n : Nat} (h : ¬ szOut left n < 0) : (n : Int) ≤ left := by
  unfold szOut at h
  split at h <;> omega
theorem szOut_bad {left : Int} {n : Nat} (h : left < (n : Int)) : szOut left n = -1 := by
  unfold szOut
  rw [if_neg (by omega)]
theorem szOut_val {left : Int} {n : Nat} (h : (n : Int) ≤ left) : szOut left n = left - n := by
  unfold szOut
  rw [if_pos h]

#print axioms opens_struct
#print axioms opens_slice
end Go.Proofs.YtlfkfofeenakhaaDoor
