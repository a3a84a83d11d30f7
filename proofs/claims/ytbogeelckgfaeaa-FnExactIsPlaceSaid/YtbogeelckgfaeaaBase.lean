/-
  What is proved here: a reading 'Rd' of plain Lean data off the model's cells (ints, bools, bytes, strings, pairs, slices of these), that it stands while the blocks that it passes through stand,
  and that whatever the row's form reads ('DataW.trod') is read so. No condition; no program in sight.
-/
import Derived.Below
import Derived.Deep.Slices
import Derived.ChangeOld
import Derived.ProofKit
namespace Go.Proofs.Ytbogeelckgfaeaa
open Go.RowKit Go.ChangeShapes Go.WideShapes

/-- The two worlds hold the same in every block of S. -/
def Same (S : Nat → Prop) (w w' : World) : Prop := ∀ b, S b → w'.heap[b]? = w.heap[b]?
theorem Same.refl (S : Nat → Prop) (w : World) : Same S w w := fun _ _ => rfl
theorem Same.trans {S : Nat → Prop} {a b c : World} (h : Same S a b) (k : Same S b c) : Same S a c := fun i hi => (k i hi).trans (h i hi)
theorem Same.mono {S T : Nat → Prop} {w w' : World} (h : Same S w w') (hs : ∀ b, T b → S b) : Same T w w' := fun b hb => h b (hs b hb)
theorem Same.cell {S : Nat → Prop} {w w' : World} (h : Same S w w') {p : Addr} (hp : S p.block) : w'.cell? p = w.cell? p := World.cell?_of_block (w := w) (h p.block hp)
theorem Same.of_below {B : Nat} {w w' : World} (h : Below B w w') : Same (fun b => b < B) w w' := fun b hb => h.block b hb

/-- Blocks that lie in a world. -/
def Old (w : World) : Nat → Prop := fun b => b < w.heap.size
/-- Blocks from B on that lie in a world. -/
def New (B : Nat) (w : World) : Nat → Prop := fun b => B ≤ b ∧ b < w.heap.size

/-- A Lean type that is read off n cells: R S w cells x: through blocks of S alone. -/
class Rd (α : Type) where
  n : Nat
  rd : (Nat → Prop) → World → List Value → α → Prop
  pos : 0 < n
  len : ∀ {S : Nat → Prop} {w : World} {cs : List Value} {x : α}, rd S w cs x → cs.length = n
  mono : ∀ {S T : Nat → Prop} {w : World} {cs : List Value} {x : α}, (∀ b, S b → T b) → rd S w cs x → rd T w cs x
  same : ∀ {S : Nat → Prop} {w w' : World} {cs : List Value} {x : α}, Same S w w' → rd S w cs x → rd S w' cs x

def Rd.r {α : Type} [Rd α] (S : Nat → Prop) (w : World) (cs : List Value) (x : α) : Prop := Rd.rd S w cs x

theorem Rd.below {α : Type} [Rd α] {B : Nat} {S : Nat → Prop} {w w' : World} {cs : List Value} {x : α} (hb : Below B w w') (hS : ∀ b, S b → b < B) (h : Rd.rd S w cs x) : Rd.rd S w' cs x :=
  Rd.same (fun b hb' => hb.block b (hS b hb')) h
/-- what is read in the old world is read in every later one -/
theorem Rd.later {α : Type} [Rd α] {w w' : World} {cs : List Value} {x : α} (hb : Below w.heap.size w w') (h : Rd.rd (Old w) w cs x) : Rd.rd (Old w') w' cs x :=
  Rd.mono (fun b (hb' : b < w.heap.size) => Nat.lt_of_lt_of_le hb' hb.size) (Rd.below hb (fun _ h => h) h)
theorem Rd.later' {α : Type} [Rd α] {B : Nat} {w w' : World} {cs : List Value} {x : α} (hb : Below w.heap.size w w') (h : Rd.rd (New B w) w cs x) : Rd.rd (New B w') w' cs x :=
  Rd.mono (fun b (hb' : B ≤ b ∧ b < w.heap.size) => ⟨hb'.1, Nat.lt_of_lt_of_le hb'.2 hb.size⟩) (Rd.below hb (fun _ h => h.2) h)
theorem Rd.old {α : Type} [Rd α] {B : Nat} {w : World} {cs : List Value} {x : α} (h : Rd.rd (New B w) w cs x) : Rd.rd (Old w) w cs x := Rd.mono (fun _ h => h.2) h

instance : Rd Int where
  n := 1
  rd _ _ cs x := cs = [.int .i64 x] ∧ -9223372036854775808 ≤ x ∧ x ≤ 9223372036854775807
  pos := Nat.one_pos
  len h := by rw [h.1]; rfl
  mono _ h := h
  same _ h := h
instance : Rd Bool where
  n := 1
  rd _ _ cs x := cs = [.bool x]
  pos := Nat.one_pos
  len h := by rw [h]; rfl
  mono _ h := h
  same _ h := h
instance : Rd UInt8 where
  n := 1
  rd _ _ cs x := cs = [.int .u8 x.toNat]
  pos := Nat.one_pos
  len h := by rw [h]; rfl
  mono _ h := h
  same _ h := h
instance : Rd ByteArray where
  n := 1
  rd _ _ cs x := cs = [.string x] ∧ x.size ≤ 9223372036854775807
  pos := Nat.one_pos
  len h := by rw [h.1]; rfl
  mono _ h := h
  same _ h := h
instance {α β : Type} [Rd α] [Rd β] : Rd (α × β) where
  n := Rd.n α + Rd.n β
  rd S w cs x := ∃ c1 c2, cs = c1 ++ c2 ∧ Rd.rd S w c1 x.1 ∧ Rd.rd S w c2 x.2
  pos := Nat.add_pos_left Rd.pos _
  len := by rintro S w cs x ⟨c1, c2, rfl, h1, h2⟩; rw [List.length_append, Rd.len h1, Rd.len h2]
  mono hs := by rintro ⟨c1, c2, rfl, h1, h2⟩; exact ⟨c1, c2, rfl, Rd.mono hs h1, Rd.mono hs h2⟩
  same hs := by rintro ⟨c1, c2, rfl, h1, h2⟩; exact ⟨c1, c2, rfl, Rd.same hs h1, Rd.same hs h2⟩

/-- A row of elements of k cells each from an address on. -/
def rowOf {α : Type} [Rd α] (S : Nat → Prop) (w : World) (b off : Nat) (xs : List α) : Prop :=
  S b ∧ ∀ (i : Nat) (h : i < xs.length), ∃ cs : List Value, (∀ j, j < Rd.n α → w.cell? ⟨b, off + i * Rd.n α + j, none⟩ = cs[j]?) ∧ Rd.rd S w cs xs[i]

instance {α : Type} [Rd α] : Rd (List α) where
  n := 1
  rd S w cs xs := ∃ a cap, cs = [.slice a xs.length cap] ∧ xs.length ≤ cap ∧ cap ≤ 9223372036854775807 ∧ (0 < xs.length → ∃ b off, a = some ⟨b, off, none⟩ ∧ rowOf S w b off xs)
  pos := Nat.one_pos
  len := by rintro S w cs x ⟨a, cap, rfl, _⟩; rfl
  mono hs := by
    rintro ⟨a, cap, rfl, h1, h2, h3⟩
    refine ⟨a, cap, rfl, h1, h2, fun h => ?_⟩
    obtain ⟨b, off, rfl, hb, hr⟩ := h3 h
    exact ⟨b, off, rfl, hs b hb, fun i hi => let ⟨cs, h4, h5⟩ := hr i hi; ⟨cs, h4, Rd.mono hs h5⟩⟩
  same hs := by
    rintro ⟨a, cap, rfl, h1, h2, h3⟩
    refine ⟨a, cap, rfl, h1, h2, fun h => ?_⟩
    obtain ⟨b, off, rfl, hb, hr⟩ := h3 h
    exact ⟨b, off, rfl, hb, fun i hi => let ⟨cs, h4, h5⟩ := hr i hi; ⟨cs, fun j hj => (hs.cell (p := ⟨b, _, none⟩) hb).trans (h4 j hj), Rd.same hs h5⟩⟩

/-- Through a view: a structure reads as its parts. -/
@[reducible] def Rd.via {α β : Type} [Rd β] (f : α → β) : Rd α where
  n := Rd.n β
  rd S w cs x := Rd.rd S w cs (f x)
  pos := Rd.pos
  len h := Rd.len h
  mono hs h := Rd.mono hs h
  same hs h := Rd.same hs h

/-! ### What the row's form reads is read so. -/
def Opens (P : Program) (t : TypeId) (α : Type) [Rd α] : Prop :=
  ∀ {H : Type} {enc : TypeId × Value → H} {w : World} {fuel : Nat} {cs : List Value} {d : DataW H × List MemPlace},
    DataW.trod enc P w 0 (fun _ => true) true fuel t cs = some d → ∃ x : α, Rd.rd (Old w) w cs x

theorem wf_i64 {n : Int} (h : (Lit.int .i64 n).wf = true) : -9223372036854775808 ≤ n ∧ n ≤ 9223372036854775807 := by
  simp [Lit.wf, IntKind.min, IntKind.max, IntKind.signed, IntKind.bits] at h
  omega
theorem opens_int {P : Program} {t : TypeId} (ht : P.underlying t = some (.int .i64)) : Opens P t Int := by
  intro H enc w fuel cs d h
  obtain ⟨n, rfl, _, hw⟩ := DataW.trod_int ht h
  exact ⟨n, rfl, wf_i64 hw⟩
theorem opens_byte {P : Program} {t : TypeId} (ht : P.underlying t = some (.int .u8)) : Opens P t UInt8 := by
  intro H enc w fuel cs d h
  obtain ⟨n, rfl, _, hw⟩ := DataW.trod_int ht h
  simp [Lit.wf, IntKind.min, IntKind.max, IntKind.signed, IntKind.bits] at hw
  refine ⟨UInt8.ofNat n.toNat, ?_⟩
  have e : ((UInt8.ofNat n.toNat).toNat : Int) = n := by
    rw [UInt8.toNat_ofNat']
    omega
  show _ = [Value.int IntKind.u8 _]
  rw [e]
theorem opens_bool {P : Program} {t : TypeId} (ht : P.underlying t = some .bool) : Opens P t Bool := by
  intro H enc w fuel cs d h
  obtain ⟨n, rfl, _⟩ := DataW.trod_bool ht h
  exact ⟨n, rfl⟩
theorem opens_string {P : Program} {t : TypeId} (ht : P.underlying t = some .string) : Opens P t ByteArray := by
  intro H enc w fuel cs d h
  obtain ⟨n, rfl, _, hs⟩ := DataW.trod_string ht h
  exact ⟨n, rfl, hs⟩
theorem cell_lt {w : World} {a : Addr} {v : Value} (h : w.cell? a = some v) : a.block < w.heap.size := by
  unfold World.cell? at h
  cases e : w.heap[a.block]? with
  | none => rw [e] at h; simp at h
  | some o => exact (Array.getElem?_eq_some_iff.1 e).1
theorem opens_slice {P : Program} {t e : TypeId} {α : Type} [Rd α] (ht : P.underlying t = some (.slice e)) (hn : P.cellsOf e = Rd.n α) (he : Opens P e α) : Opens P t (List α) := by
  intro H enc w fuel cs d h
  rcases Go.Deep.open_slice ht h with ⟨rfl, _⟩ | ⟨a, len, cap, m, n, D, Pl, rfl, _, hl, hm, hmm, _, hx⟩
  · exact ⟨[], none, 0, rfl, Nat.le_refl _, by omega, fun h => absurd h (by simp)⟩
  · simp only [if_true] at hmm
    subst hmm
    have each : ∀ i, i < len → ∃ x : α, ∃ cs', w.cells? 0 (a.add (i * Rd.n α)) (Rd.n α) = some cs' ∧ Rd.rd (Old w) w cs' x := by
      intro i hi
      obtain ⟨cs', h1, h2⟩ := hx i (by omega)
      obtain ⟨x, h3⟩ := he h2
      rw [hn] at h1
      exact ⟨x, cs', h1, h3⟩
    by_cases h0 : len = 0
    · subst h0
      exact ⟨[], some a, m, rfl, Nat.zero_le _, hm, fun h => absurd h (by simp)⟩
    · haveI : Inhabited α := ⟨(each 0 (by omega)).choose⟩
      obtain ⟨f, hf⟩ := Go.Deep.choose_lt each
      have hp : 0 < Rd.n α := Rd.pos
      obtain ⟨cs0, h00, _⟩ := hf 0 (by omega)
      have hc0 := (World.cells?_some h00).2.2 0 hp
      rw [List.getElem?_eq_getElem (by rw [(World.cells?_some h00).2.1]; exact hp)] at hc0
      have hsp := World.cell?_spot hc0
      obtain ⟨b, off, spot⟩ := a
      have hspn : spot = none := by simpa [Addr.add] using hsp
      subst hspn
      have hlt : b < w.heap.size := by have := cell_lt hc0; simpa [Addr.add] using this
      refine ⟨(List.range len).map f, some ⟨b, off, none⟩, m, by simp, by simpa using hl, hm, fun _ => ⟨b, off, rfl, hlt, fun i hi => ?_⟩⟩
      have hi' : i < len := by simpa using hi
      obtain ⟨cs', h1, h2⟩ := hf i hi'
      refine ⟨cs', fun j hj => ?_, by simpa using h2⟩
      rw [← (World.cells?_some h1).2.2 j hj]
      congr 1
      unfold Addr.add
      by_cases hj0 : j = 0 <;> by_cases hi0 : i * Rd.n α = 0 <;> simp [hj0, hi0] <;> omega

theorem drop_take_append {cs : List Value} {n m : Nat} (h : cs.length = n + m) : cs = (cs.drop 0).take n ++ (cs.drop n).take m := by
  rw [List.drop_zero, List.take_of_length_le (i := m) (by simp; omega), List.take_append_drop]

/-- The structs' parts. -/
def Parts (P : Program) (fs : List (TypeId × Nat)) (α : Type) [Rd α] : Prop :=
  ∀ {H : Type} {enc : TypeId × Value → H} {w : World} {fuel : Nat} {cs : List Value},
    (∀ f ∈ fs, ∃ d, DataW.trod enc P w 0 (fun _ => true) true fuel f.1 ((cs.drop f.2).take (P.cellsOf f.1)) = some d) → ∀ o, (∀ f ∈ fs.head?, f.2 = o) → ∃ x : α, Rd.rd (Old w) w ((cs.drop o).take (Rd.n α)) x

theorem parts_one {P : Program} {t : TypeId} {o : Nat} {α : Type} [Rd α] (hn : P.cellsOf t = Rd.n α) (h : Opens P t α) : Parts P [(t, o)] α := by
  intro H enc w fuel cs hf o' ho
  obtain ⟨d, hd⟩ := hf (t, o) (by simp)
  have := ho (t, o) (by simp)
  simp only at this
  subst this
  rw [← hn]
  exact h hd
theorem parts_cons {P : Program} {t : TypeId} {o : Nat} {fs : List (TypeId × Nat)} {α β : Type} [Rd α] [Rd β] (hn : P.cellsOf t = Rd.n α) (hne : ∀ f ∈ fs.head?, f.2 = o + Rd.n α) (h : Opens P t α) (hs : Parts P fs β) : Parts P ((t, o) :: fs) (α × β) := by
  intro H enc w fuel cs hf o' ho
  obtain ⟨d, hd⟩ := hf (t, o) (by simp)
  have := ho (t, o) (by simp)
  simp only at this
  subst this
  obtain ⟨x, hx⟩ := h hd
  obtain ⟨y, hy⟩ := hs (fun f hf' => hf f (by simp [hf'])) (o + Rd.n α) hne
  rw [hn] at hx
  refine ⟨(x, y), _, _, ?_, hx, hy⟩
  show List.take (Rd.n α + Rd.n β) _ = _
  rw [List.take_add, List.drop_drop]
theorem opens_struct {P : Program} {t : TypeId} {fs : Array Field} {α β : Type} [Rd α] [Rd β] (ht : P.underlying t = some (.struct fs)) (hn : P.cellsOf t = Rd.n β)
    (hp : Parts P (fs.toList.map fun f => (f.type, f.offset)) β) (h0 : ∀ f ∈ fs.toList.head?, f.offset = 0) (v : ∀ {S : Nat → Prop} {w : World} {cs : List Value} (y : β), Rd.rd S w cs y → ∃ x : α, Rd.rd S w cs x) : Opens P t α := by
  intro H enc w fuel cs d h
  obtain ⟨xs, n, rfl, _, hl, hlen, hf⟩ := DataW.trod_struct ht h
  have key : ∀ g ∈ fs.toList.map (fun f => (f.type, f.offset)), ∃ d, DataW.trod enc P w 0 (fun _ => true) true n g.1 ((cs.drop g.2).take (P.cellsOf g.1)) = some d := by
    intro g hg
    obtain ⟨f, hf', rfl⟩ := List.mem_map.1 hg
    obtain ⟨i, hi, rfl⟩ := List.mem_iff_getElem.1 hf'
    have hi' : i < fs.size := by simpa using hi
    have := hf i fs[i] (by simp [hi'])
    rw [List.getElem?_eq_getElem (by omega)] at this
    exact ⟨_, by simpa using this⟩
  obtain ⟨y, hy⟩ := hp key 0 (by
    intro f hf'
    cases hfs : fs.toList with
    | nil => rw [hfs] at hf'; simp at hf'
    | cons a r =>
      rw [hfs] at hf' h0
      simp at hf' h0
      subst hf'
      exact h0)
  rw [List.drop_zero, ← hn, ← hl, List.take_length] at hy
  exact v y hy

/-- An argument of a law: its value's cells. -/
theorem okWide_one {P : Program} {w : World} {r : Reach} {base : Nat} {t : TypeId} {v : Value} (h : Value.okWide P w r base t v) (hs : (match P.underlying t with | some (.struct _) | some (.array _ _) => false | _ => true) = true)
    (x : ∃ u, v.cells.toList = [u]) : v.cells.toList = [v] := by
  cases v <;> simp_all [Value.cells, Value.okWide]
  rename_i cs
  split at hs
  · simp at hs
  · simp at hs
  · rename_i h1 h2
    revert h
    split
    · rename_i fs hfs; exact absurd hfs (h1 fs)
    · rename_i k e hke; exact absurd hke (h2 k e)
    · intro h
      exfalso
      unfold Cell.okWide at h
      split at h <;> simp_all [Cell.ok]

theorem arg_plain {P : Program} {w : World} {r : Reach} {base : Nat} {t : TypeId} {v : Value} {α : Type} [Rd α] {H : Type} {enc : TypeId × Value → H} {d : DataW H} {p : List MemPlace} (ho : Opens P t α) (hn : Rd.n α = 1) (hs : (match P.underlying t with | some (.struct _) | some (.array _ _) => false | _ => true) = true)
    (hval : Value.okWide P w r base t v) (h : DataW.Trod enc P w 0 (fun _ => true) true t v d p) : ∃ x : α, Rd.rd (Old w) w [v] x := by
  obtain ⟨m, hm⟩ := h
  obtain ⟨x, hx⟩ := ho hm
  have hl := Rd.len hx
  rw [hn] at hl
  have e := okWide_one hval hs (by
    match hc : v.cells.toList, hl with
    | [u], _ => exact ⟨u, rfl⟩)
  rw [e] at hx
  exact ⟨x, hx⟩
theorem arg_struct {P : Program} {w : World} {r : Reach} {base : Nat} {t : TypeId} {v : Value} {α : Type} [Rd α] {H : Type} {enc : TypeId × Value → H} {d : DataW H} {p : List MemPlace} {fs : Array Field} (ht : P.underlying t = some (.struct fs)) (ho : Opens P t α)
    (hval : Value.okWide P w r base t v) (h : DataW.Trod enc P w 0 (fun _ => true) true t v d p) : ∃ (cs : Array Value) (x : α), v = .agg cs ∧ Rd.rd (Old w) w cs.toList x := by
  obtain ⟨cs, rfl, _⟩ := okWide_struct ht hval
  obtain ⟨m, hm⟩ := h
  obtain ⟨x, hx⟩ := ho hm
  exact ⟨cs, x, rfl, hx⟩
theorem trod_lt' {P : Program} {w : World} {t : TypeId} {v : Value} {H : Type} {enc : TypeId × Value → H} {d : DataW H} {p : List MemPlace} (h : DataW.Trod enc P w 0 (fun _ => true) true t v d p) : ∀ x ∈ p, x.block < w.heap.size := by
  obtain ⟨m, hm⟩ := h
  exact DataW.trod_lt m _ _ _ hm

#print axioms opens_struct
#print axioms opens_slice
end Go.Proofs.Ytbogeelckgfaeaa
