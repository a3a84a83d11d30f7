/-
  What is proved here: a reading 'Rd' of plain Lean data off the model's cells (ints, bools, bytes, strings, pairs, slices of these), that it stands while the blocks that it passes through stand,
  and that whatever the row's form reads ('DataW.trod') is read so. No condition; no program in sight.
  What is proved here: the program's struct types as Lean structures, read off cells; what the row's form reads at these types is read so. No condition.
  What is proved here: plain laws on the reading of a pattern, as a function on code points. No program in sight; no condition.
  What is proved here: the laws' size, copy and comparison of slices of strings and of ints. No condition.
  What is proved here: what a reader that is written through a pointer keeps: its own block, the row that it appends to, and what lies beside both. No condition; no program in sight.
  What is proved here: within and l01Between: n stands from lo to hi. No condition.
  What is proved here: the pattern reader's look ahead in impl. No condition but that the reader and its list lie in memory.
  What is proved here: plain laws on the numbers of a pattern's repetitions. No program in sight; no condition.
  What is proved here: the pattern reader's numbers, repetitions, escapes and ends of items in impl. No condition but that the reader and its list lie in memory.
  What is proved here: the pattern reader's escapes and ends of items in impl. No condition but that the reader and its list lie in memory.
  What is proved here: the pattern reader puts a node to its nodes (impl and spec). No condition but that the reader lies in memory, and sizes.
  What is proved here: plain laws on texts as lists of bytes: the code point at the head ('next'), the code points of a text ('runes?'), UTF-8's own decoder of the model beside them. No program in sight; no condition.
  What is proved here: plain laws on the names of classes in a pattern: their bytes, and where they end. No program in sight; no condition.
  What is proved here: the pattern reader's classes and items in impl. No condition but that the reader and its list lie in memory.
  What is proved here: plain laws on lists of kids that are a tree and on the size of a pattern. No program in sight; no condition.
  What is proved here: the reference's texts: l01Point, l01Bytes, l01Next, Runes, TextOk. No condition.
  What is proved here: plain laws on the text of a pattern. No program in sight; no condition.
  What is proved here: the reference's Runes and TextOk. No condition.
-/
import Derived.Below
import Derived.Deep.Slices
import Derived.ChangeOld
import Derived.ProofKit
import Derived.Test.YtomcoilmpkpoeaaGreatDoorProg
import Derived.KernelRfl
import Derived.Test.YtomcoilmpkpoeaaGreatDoorRows
import Derived.WalkKit
import Derived.WalkSpells
import Derived.WalkLawsBesides
import Derived.Deep.QuietTactic
import Derived.BigQuiet
import Derived.Lib.Strings
import Derived.Deep.OwnRows
import Derived.Deep.AppendLies
import Derived.IntWalk
import Derived.Deep.RegionHeld3
import Derived.Lib.MapLaws
import Derived.Lib.ValidU
import Derived.Lib.TrimUEq
import Derived.Laws.Runes
import Derived.Lib.ItoaNum
namespace Go.Proofs.YtomcoilmpkpoeaaGreatDoor
open Go.RowKit Go.ChangeShapes Go.WideShapes

theorem hid {p : Prop} (h : p) : Hid p := h

/-- The two worlds hold the same in every block of S. -/
def Same (S : Nat → Prop) (w w' : World) : Prop := ∀ b, S b → w'.heap[b]? = w.heap[b]?
theorem Same.refl (S : Nat → Prop) (w : World) : Same S w w := fun _ _ => rfl
theorem Same.trans {S : Nat → Prop} {a b c : World} (h : Same S a b) (k : Same S b c) : Same S a c := fun i hi => (k i hi).trans (h i hi)
theorem Same.mono {S T : Nat → Prop} {w w' : World} (h : Same S w w') (hs : ∀ b, T b → S b) : Same T w w' := fun b hb => h b (hs b hb)
theorem Same.cell {S : Nat → Prop} {w w' : World} (h : Same S w w') {p : Addr} (hp : S p.block) : w'.cell? p = w.cell? p := World.cell?_of_block (w := w) (h p.block hp)
theorem Same.of_below {B : Nat} {w w' : World} (h : Below B w w') : Same (fun b => b < B) w w' := fun b hb => h.block b hb

theorem bcell {W w1 : World} {B : Nat} (hb : Below B W w1) : (∀ b o, b < B → w1.cell? ⟨b, o, none⟩ = W.cell? ⟨b, o, none⟩) ∧ (∀ b o, b < B → w1.frozen? ⟨b, o, none⟩ = W.frozen? ⟨b, o, none⟩) :=
  ⟨fun b o h => hb.cell (p := ⟨b, o, none⟩) h, fun b o h => hb.frozen (p := ⟨b, o, none⟩) h⟩

/-- Blocks that lie in a world. -/
def Old (w : World) : Nat → Prop := fun b => b < w.heap.size
/-- Blocks from B on that lie in a world. -/
def New (B : Nat) (w : World) : Nat → Prop := fun b => B ≤ b ∧ b < w.heap.size

/-- A Lean type that is read off n cells: R S w cells x: through blocks of S alone. -/
class Rd (α : Type) where
  n : Nat
  rd : (Nat → Prop) → World → List Value → α → Prop
  pos : 0 < n
  len : ∀ {S : Nat → Prop} {w : World} {cs : List Value} {x : α}, rd S w cs x → cs.length = n
  mono : ∀ {S T : Nat → Prop} {w : World} {cs : List Value} {x : α}, (∀ b, S b → T b) → rd S w cs x → rd T w cs x
  same : ∀ {S : Nat → Prop} {w w' : World} {cs : List Value} {x : α}, Same S w w' → rd S w cs x → rd S w' cs x

def Rd.r {α : Type} [Rd α] (S : Nat → Prop) (w : World) (cs : List Value) (x : α) : Prop := Rd.rd S w cs x

theorem Rd.below {α : Type} [Rd α] {B : Nat} {S : Nat → Prop} {w w' : World} {cs : List Value} {x : α} (hb : Below B w w') (hS : ∀ b, S b → b < B) (h : Rd.rd S w cs x) : Rd.rd S w' cs x :=
  Rd.same (fun b hb' => hb.block b (hS b hb')) h
/-- what is read in the old world is read in every later one -/
theorem Rd.later {α : Type} [Rd α] {w w' : World} {cs : List Value} {x : α} (hb : Below w.heap.size w w') (h : Rd.rd (Old w) w cs x) : Rd.rd (Old w') w' cs x :=
  Rd.mono (fun b (hb' : b < w.heap.size) => Nat.lt_of_lt_of_le hb' hb.size) (Rd.below hb (fun _ h => h) h)
theorem Rd.later' {α : Type} [Rd α] {B : Nat} {w w' : World} {cs : List Value} {x : α} (hb : Below w.heap.size w w') (h : Rd.rd (New B w) w cs x) : Rd.rd (New B w') w' cs x :=
  Rd.mono (fun b (hb' : B ≤ b ∧ b < w.heap.size) => ⟨hb'.1, Nat.lt_of_lt_of_le hb'.2 hb.size⟩) (Rd.below hb (fun _ h => h.2) h)
theorem Rd.old {α : Type} [Rd α] {B : Nat} {w : World} {cs : List Value} {x : α} (h : Rd.rd (New B w) w cs x) : Rd.rd (Old w) w cs x := Rd.mono (fun _ h => h.2) h

instance : Rd Int where
  n := 1
  rd _ _ cs x := cs = [.int .i64 x] ∧ -9223372036854775808 ≤ x ∧ x ≤ 9223372036854775807
  pos := Nat.one_pos
  len h := by rw [h.1]; rfl
  mono _ h := h
  same _ h := h
instance : Rd Bool where
  n := 1
  rd _ _ cs x := cs = [.bool x]
  pos := Nat.one_pos
  len h := by rw [h]; rfl
  mono _ h := h
  same _ h := h
instance : Rd UInt8 where
  n := 1
  rd _ _ cs x := cs = [.int .u8 x.toNat]
  pos := Nat.one_pos
  len h := by rw [h]; rfl
  mono _ h := h
  same _ h := h
instance : Rd ByteArray where
  n := 1
  rd _ _ cs x := cs = [.string x] ∧ x.size ≤ 9223372036854775807
  pos := Nat.one_pos
  len h := by rw [h.1]; rfl
  mono _ h := h
  same _ h := h
instance {α β : Type} [Rd α] [Rd β] : Rd (α × β) where
  n := Rd.n α + Rd.n β
  rd S w cs x := ∃ c1 c2, cs = c1 ++ c2 ∧ Rd.rd S w c1 x.1 ∧ Rd.rd S w c2 x.2
  pos := Nat.add_pos_left Rd.pos _
  len := by rintro S w cs x ⟨c1, c2, rfl, h1, h2⟩; rw [List.length_append, Rd.len h1, Rd.len h2]
  mono hs := by rintro ⟨c1, c2, rfl, h1, h2⟩; exact ⟨c1, c2, rfl, Rd.mono hs h1, Rd.mono hs h2⟩
  same hs := by rintro ⟨c1, c2, rfl, h1, h2⟩; exact ⟨c1, c2, rfl, Rd.same hs h1, Rd.same hs h2⟩

/-- A row of elements of k cells each from an address on. -/
def rowOf {α : Type} [Rd α] (S : Nat → Prop) (w : World) (b off : Nat) (xs : List α) : Prop :=
  S b ∧ ∀ (i : Nat) (h : i < xs.length), ∃ cs : List Value, (∀ j, j < Rd.n α → w.cell? ⟨b, off + i * Rd.n α + j, none⟩ = cs[j]?) ∧ Rd.rd S w cs xs[i]

instance {α : Type} [Rd α] : Rd (List α) where
  n := 1
  rd S w cs xs := ∃ a cap, cs = [.slice a xs.length cap] ∧ xs.length ≤ cap ∧ cap ≤ 9223372036854775807 ∧ (0 < xs.length → ∃ b off, a = some ⟨b, off, none⟩ ∧ rowOf S w b off xs)
  pos := Nat.one_pos
  len := by rintro S w cs x ⟨a, cap, rfl, _⟩; rfl
  mono hs := by
    rintro ⟨a, cap, rfl, h1, h2, h3⟩
    refine ⟨a, cap, rfl, h1, h2, fun h => ?_⟩
    obtain ⟨b, off, rfl, hb, hr⟩ := h3 h
    exact ⟨b, off, rfl, hs b hb, fun i hi => let ⟨cs, h4, h5⟩ := hr i hi; ⟨cs, h4, Rd.mono hs h5⟩⟩
  same hs := by
    rintro ⟨a, cap, rfl, h1, h2, h3⟩
    refine ⟨a, cap, rfl, h1, h2, fun h => ?_⟩
    obtain ⟨b, off, rfl, hb, hr⟩ := h3 h
    exact ⟨b, off, rfl, hb, fun i hi => let ⟨cs, h4, h5⟩ := hr i hi; ⟨cs, fun j hj => (hs.cell (p := ⟨b, _, none⟩) hb).trans (h4 j hj), Rd.same hs h5⟩⟩

/-- Through a view: a structure reads as its parts. -/
@[reducible] def Rd.via {α β : Type} [Rd β] (f : α → β) : Rd α where
  n := Rd.n β
  rd S w cs x := Rd.rd S w cs (f x)
  pos := Rd.pos
  len h := Rd.len h
  mono hs h := Rd.mono hs h
  same hs h := Rd.same hs h

/-! ### What the row's form reads is read so. -/
def Opens (P : Program) (t : TypeId) (α : Type) [Rd α] : Prop :=
  ∀ {H : Type} {enc : TypeId × Value → H} {w : World} {fuel : Nat} {cs : List Value} {d : DataW H × List MemPlace},
    DataW.trod enc P w 0 (fun _ => true) true fuel t cs = some d → ∃ x : α, Rd.rd (Old w) w cs x

theorem wf_i64 {n : Int} (h : (Lit.int .i64 n).wf = true) : -9223372036854775808 ≤ n ∧ n ≤ 9223372036854775807 := by
  simp [Lit.wf, IntKind.min, IntKind.max, IntKind.signed, IntKind.bits] at h
  omega
theorem opens_int {P : Program} {t : TypeId} (ht : P.underlying t = some (.int .i64)) : Opens P t Int := by
  intro H enc w fuel cs d h
  obtain ⟨n, rfl, _, hw⟩ := DataW.trod_int ht h
  exact ⟨n, rfl, wf_i64 hw⟩
theorem opens_byte {P : Program} {t : TypeId} (ht : P.underlying t = some (.int .u8)) : Opens P t UInt8 := by
  intro H enc w fuel cs d h
  obtain ⟨n, rfl, _, hw⟩ := DataW.trod_int ht h
  simp [Lit.wf, IntKind.min, IntKind.max, IntKind.signed, IntKind.bits] at hw
  refine ⟨UInt8.ofNat n.toNat, ?_⟩
  have e : ((UInt8.ofNat n.toNat).toNat : Int) = n := by
    rw [UInt8.toNat_ofNat']
    omega
  show _ = [Value.int IntKind.u8 _]
  rw [e]
theorem opens_bool {P : Program} {t : TypeId} (ht : P.underlying t = some .bool) : Opens P t Bool := by
  intro H enc w fuel cs d h
  obtain ⟨n, rfl, _⟩ := DataW.trod_bool ht h
  exact ⟨n, rfl⟩
theorem opens_string {P : Program} {t : TypeId} (ht : P.underlying t = some .string) : Opens P t ByteArray := by
  intro H enc w fuel cs d h
  obtain ⟨n, rfl, _, hs⟩ := DataW.trod_string ht h
  exact ⟨n, rfl, hs⟩
theorem cell_lt {w : World} {a : Addr} {v : Value} (h : w.cell? a = some v) : a.block < w.heap.size := by
  unfold World.cell? at h
  cases e : w.heap[a.block]? with
  | none => rw [e] at h; simp at h
  | some o => exact (Array.getElem?_eq_some_iff.1 e).1
theorem opens_slice {P : Program} {t e : TypeId} {α : Type} [Rd α] (ht : P.underlying t = some (.slice e)) (hn : P.cellsOf e = Rd.n α) (he : Opens P e α) : Opens P t (List α) := by
  intro H enc w fuel cs d h
  rcases Go.Deep.open_slice ht h with ⟨rfl, _⟩ | ⟨a, len, cap, m, n, D, Pl, rfl, _, hl, hm, hmm, _, hx⟩
  · exact ⟨[], none, 0, rfl, Nat.le_refl _, by omega, fun h => absurd h (by simp)⟩
  · simp only [if_true] at hmm
    subst hmm
    have each : ∀ i, i < len → ∃ x : α, ∃ cs', w.cells? 0 (a.add (i * Rd.n α)) (Rd.n α) = some cs' ∧ Rd.rd (Old w) w cs' x := by
      intro i hi
      obtain ⟨cs', h1, h2⟩ := hx i (by omega)
      obtain ⟨x, h3⟩ := he h2
      rw [hn] at h1
      exact ⟨x, cs', h1, h3⟩
    by_cases h0 : len = 0
    · subst h0
      exact ⟨[], some a, m, rfl, Nat.zero_le _, hm, fun h => absurd h (by simp)⟩
    · haveI : Inhabited α := ⟨(each 0 (by omega)).choose⟩
      obtain ⟨f, hf⟩ := Go.Deep.choose_lt each
      have hp : 0 < Rd.n α := Rd.pos
      obtain ⟨cs0, h00, _⟩ := hf 0 (by omega)
      have hc0 := (World.cells?_some h00).2.2 0 hp
      rw [List.getElem?_eq_getElem (by rw [(World.cells?_some h00).2.1]; exact hp)] at hc0
      have hsp := World.cell?_spot hc0
      obtain ⟨b, off, spot⟩ := a
      have hspn : spot = none := by simpa [Addr.add] using hsp
      subst hspn
      have hlt : b < w.heap.size := by have := cell_lt hc0; simpa [Addr.add] using this
      refine ⟨(List.range len).map f, some ⟨b, off, none⟩, m, by simp, by simpa using hl, hm, fun _ => ⟨b, off, rfl, hlt, fun i hi => ?_⟩⟩
      have hi' : i < len := by simpa using hi
      obtain ⟨cs', h1, h2⟩ := hf i hi'
      refine ⟨cs', fun j hj => ?_, by simpa using h2⟩
      rw [← (World.cells?_some h1).2.2 j hj]
      congr 1
      unfold Addr.add
      by_cases hj0 : j = 0 <;> by_cases hi0 : i * Rd.n α = 0 <;> simp [hj0, hi0] <;> omega

theorem drop_take_append {cs : List Value} {n m : Nat} (h : cs.length = n + m) : cs = (cs.drop 0).take n ++ (cs.drop n).take m := by
  rw [List.drop_zero, List.take_of_length_le (i := m) (by simp; omega), List.take_append_drop]

/-- The structs' parts. -/
def Parts (P : Program) (fs : List (TypeId × Nat)) (α : Type) [Rd α] : Prop :=
  ∀ {H : Type} {enc : TypeId × Value → H} {w : World} {fuel : Nat} {cs : List Value},
    (∀ f ∈ fs, ∃ d, DataW.trod enc P w 0 (fun _ => true) true fuel f.1 ((cs.drop f.2).take (P.cellsOf f.1)) = some d) → ∀ o, (∀ f ∈ fs.head?, f.2 = o) → ∃ x : α, Rd.rd (Old w) w ((cs.drop o).take (Rd.n α)) x

theorem parts_one {P : Program} {t : TypeId} {o : Nat} {α : Type} [Rd α] (hn : P.cellsOf t = Rd.n α) (h : Opens P t α) : Parts P [(t, o)] α := by
  intro H enc w fuel cs hf o' ho
  obtain ⟨d, hd⟩ := hf (t, o) (by simp)
  have := ho (t, o) (by simp)
  simp only at this
  subst this
  rw [← hn]
  exact h hd
theorem parts_cons {P : Program} {t : TypeId} {o : Nat} {fs : List (TypeId × Nat)} {α β : Type} [Rd α] [Rd β] (hn : P.cellsOf t = Rd.n α) (hne : ∀ f ∈ fs.head?, f.2 = o + Rd.n α) (h : Opens P t α) (hs : Parts P fs β) : Parts P ((t, o) :: fs) (α × β) := by
  intro H enc w fuel cs hf o' ho
  obtain ⟨d, hd⟩ := hf (t, o) (by simp)
  have := ho (t, o) (by simp)
  simp only at this
  subst this
  obtain ⟨x, hx⟩ := h hd
  obtain ⟨y, hy⟩ := hs (fun f hf' => hf f (by simp [hf'])) (o + Rd.n α) hne
  rw [hn] at hx
  refine ⟨(x, y), _, _, ?_, hx, hy⟩
  show List.take (Rd.n α + Rd.n β) _ = _
  rw [List.take_add, List.drop_drop]
theorem opens_struct {P : Program} {t : TypeId} {fs : Array Field} {α β : Type} [Rd α] [Rd β] (ht : P.underlying t = some (.struct fs)) (hn : P.cellsOf t = Rd.n β)
    (hp : Parts P (fs.toList.map fun f => (f.type, f.offset)) β) (h0 : ∀ f ∈ fs.toList.head?, f.offset = 0) (v : ∀ {S : Nat → Prop} {w : World} {cs : List Value} (y : β), Rd.rd S w cs y → ∃ x : α, Rd.rd S w cs x) : Opens P t α := by
  intro H enc w fuel cs d h
  obtain ⟨xs, n, rfl, _, hl, hlen, hf⟩ := DataW.trod_struct ht h
  have key : ∀ g ∈ fs.toList.map (fun f => (f.type, f.offset)), ∃ d, DataW.trod enc P w 0 (fun _ => true) true n g.1 ((cs.drop g.2).take (P.cellsOf g.1)) = some d := by
    intro g hg
    obtain ⟨f, hf', rfl⟩ := List.mem_map.1 hg
    obtain ⟨i, hi, rfl⟩ := List.mem_iff_getElem.1 hf'
    have hi' : i < fs.size := by simpa using hi
    have := hf i fs[i] (by simp [hi'])
    rw [List.getElem?_eq_getElem (by omega)] at this
    exact ⟨_, by simpa using this⟩
  obtain ⟨y, hy⟩ := hp key 0 (by
    intro f hf'
    cases hfs : fs.toList with
    | nil => rw [hfs] at hf'; simp at hf'
    | cons a r =>
      rw [hfs] at hf' h0
      simp at hf' h0
      subst hf'
      exact h0)
  rw [List.drop_zero, ← hn, ← hl, List.take_length] at hy
  exact v y hy

/-- An argument of a law: its value's cells. -/
theorem okWide_one {P : Program} {w : World} {r : Reach} {base : Nat} {t : TypeId} {v : Value} (h : Value.okWide P w r base t v) (hs : (match P.underlying t with | some (.struct _) | some (.array _ _) => false | _ => true) = true)
    (x : ∃ u, v.cells.toList = [u]) : v.cells.toList = [v] := by
  cases v <;> simp_all [Value.cells, Value.okWide]
  rename_i cs
  split at hs
  · simp at hs
  · simp at hs
  · rename_i h1 h2
    revert h
    split
    · rename_i fs hfs; exact absurd hfs (h1 fs)
    · rename_i k e hke; exact absurd hke (h2 k e)
    · intro h
      exfalso
      unfold Cell.okWide at h
      split at h <;> simp_all [Cell.ok]

theorem arg_plain {P : Program} {w : World} {r : Reach} {base : Nat} {t : TypeId} {v : Value} {α : Type} [Rd α] {H : Type} {enc : TypeId × Value → H} {d : DataW H} {p : List MemPlace} (ho : Opens P t α) (hn : Rd.n α = 1) (hs : (match P.underlying t with | some (.struct _) | some (.array _ _) => false | _ => true) = true)
    (hval : Value.okWide P w r base t v) (h : DataW.Trod enc P w 0 (fun _ => true) true t v d p) : ∃ x : α, Rd.rd (Old w) w [v] x := by
  obtain ⟨m, hm⟩ := h
  obtain ⟨x, hx⟩ := ho hm
  have hl := Rd.len hx
  rw [hn] at hl
  have e := okWide_one hval hs (by
    match hc : v.cells.toList, hl with
    | [u], _ => exact ⟨u, rfl⟩)
  rw [e] at hx
  exact ⟨x, hx⟩
theorem arg_struct {P : Program} {w : World} {r : Reach} {base : Nat} {t : TypeId} {v : Value} {α : Type} [Rd α] {H : Type} {enc : TypeId × Value → H} {d : DataW H} {p : List MemPlace} {fs : Array Field} (ht : P.underlying t = some (.struct fs)) (ho : Opens P t α)
    (hval : Value.okWide P w r base t v) (h : DataW.Trod enc P w 0 (fun _ => true) true t v d p) : ∃ (cs : Array Value) (x : α), v = .agg cs ∧ Rd.rd (Old w) w cs.toList x := by
  obtain ⟨cs, rfl, _⟩ := okWide_struct ht hval
  obtain ⟨m, hm⟩ := h
  obtain ⟨x, hx⟩ := ho hm
  exact ⟨cs, x, rfl, hx⟩
theorem trod_lt' {P : Program} {w : World} {t : TypeId} {v : Value} {H : Type} {enc : TypeId × Value → H} {d : DataW H} {p : List MemPlace} (h : DataW.Trod enc P w 0 (fun _ => true) true t v d p) : ∀ x ∈ p, x.block < w.heap.size := by
  obtain ⟨m, hm⟩ := h
  exact DataW.trod_lt m _ _ _ hm

/-! ### A block of the call's own, known whole: its cells are the elements' cells, one behind the other. -/
theorem cell_of_block {w : World} {g j : Nat} {cs : List Value} {e : TypeId} {fr : Nat × Nat} (hg : w.heap[g]? = some (.cells cs.toArray e fr)) : w.cell? ⟨g, j, none⟩ = cs[j]? := by
  unfold World.cell?
  rw [hg]
  simp
theorem flatten_get {css : List (List Value)} {n : Nat} (h : ∀ cs ∈ css, cs.length = n) : ∀ (i j : Nat) (hi : i < css.length), j < n → (css.flatten)[i * n + j]? = css[i][j]? := by
  induction css with
  | nil => intro i j hi; exact absurd hi (by simp)
  | cons c r ih =>
    intro i j hi hj
    have hc : c.length = n := h c (by simp)
    cases i with
    | zero => simp only [List.flatten_cons, Nat.zero_mul, Nat.zero_add, List.getElem_cons_zero]; rw [List.getElem?_append_left (by omega)]
    | succ i =>
      have := ih (fun cs hcs => h cs (by simp [hcs])) i j (by simpa using hi) hj
      simp only [List.flatten_cons, List.getElem_cons_succ]
      rw [List.getElem?_append_right (by rw [hc, Nat.add_mul]; omega), ← this]
      congr 1
      rw [hc, Nat.add_mul]; omega
theorem flatten_length {css : List (List Value)} {n : Nat} (h : ∀ cs ∈ css, cs.length = n) : css.flatten.length = css.length * n := by
  induction css with
  | nil => simp
  | cons c r ih => rw [List.flatten_cons, List.length_append, ih (fun cs hcs => h cs (by simp [hcs])), h c (by simp), List.length_cons, Nat.add_mul]; omega
/-- The elements read one by one off their cells. -/
def Each {α : Type} [Rd α] (S : Nat → Prop) (w : World) (css : List (List Value)) (xs : List α) : Prop :=
  css.length = xs.length ∧ ∀ (i : Nat) (h : i < css.length) (h' : i < xs.length), Rd.rd S w css[i] xs[i]
theorem Each.nil {α : Type} [Rd α] {S : Nat → Prop} {w : World} : Each S w [] ([] : List α) := ⟨rfl, fun i h => absurd h (by simp)⟩
theorem Each.mono {α : Type} [Rd α] {S T : Nat → Prop} {w : World} {css : List (List Value)} {xs : List α} (h : Each S w css xs) (hs : ∀ b, S b → T b) : Each T w css xs := ⟨h.1, fun i a b => Rd.mono hs (h.2 i a b)⟩
theorem Each.same {α : Type} [Rd α] {S : Nat → Prop} {w w' : World} {css : List (List Value)} {xs : List α} (h : Each S w css xs) (hs : Same S w w') : Each S w' css xs := ⟨h.1, fun i a b => Rd.same hs (h.2 i a b)⟩
theorem Each.len {α : Type} [Rd α] {S : Nat → Prop} {w : World} {css : List (List Value)} {xs : List α} (h : Each S w css xs) : ∀ cs ∈ css, cs.length = Rd.n α := by
  intro cs hcs
  obtain ⟨i, hi, rfl⟩ := List.mem_iff_getElem.1 hcs
  exact Rd.len (h.2 i hi (by rw [← h.1]; exact hi))
theorem Each.snoc {α : Type} [Rd α] {S : Nat → Prop} {w : World} {css : List (List Value)} {xs : List α} {cs : List Value} {x : α} (h : Each S w css xs) (hx : Rd.rd S w cs x) : Each S w (css ++ [cs]) (xs ++ [x]) := by
  refine ⟨by simp [h.1], fun i a b => ?_⟩
  by_cases hi : i < css.length
  · have hi' : i < xs.length := by rw [← h.1]; exact hi
    rw [List.getElem_append_left hi, List.getElem_append_left hi']
    exact h.2 i hi hi'
  · have e1 : i = css.length := by simp at a; omega
    subst e1
    have e2 : css.length = xs.length := h.1
    rw [List.getElem_append_right (Nat.le_refl _), List.getElem_append_right (by omega)]
    simpa [e2] using hx
/-- A slice at the head of such a block reads as the elements. -/
theorem rd_of_block {α : Type} [Rd α] {S : Nat → Prop} {w : World} {g cap : Nat} {css : List (List Value)} {xs : List α} {rest : List Value} {e : TypeId} {fr : Nat × Nat} (hg : w.heap[g]? = some (.cells (css.flatten ++ rest).toArray e fr))
    (he : Each S w css xs) (hS : S g) (hl : xs.length ≤ cap) (hc : cap ≤ 9223372036854775807) : Rd.rd S w [.slice (some ⟨g, 0, none⟩) xs.length cap] xs := by
  refine ⟨some ⟨g, 0, none⟩, cap, rfl, hl, hc, fun _ => ⟨g, 0, rfl, hS, fun i hi => ?_⟩⟩
  have hi' : i < css.length := by rw [he.1]; exact hi
  refine ⟨css[i], fun j hj => ?_, he.2 i hi' hi⟩
  rw [cell_of_block hg, Nat.zero_add, ← flatten_get he.len i j hi' hj]
  rw [List.getElem?_append_left]
  rw [flatten_length he.len]
  have : (i + 1) * Rd.n α ≤ css.length * Rd.n α := Nat.mul_le_mul_right _ hi'
  rw [Nat.add_mul] at this
  omega
theorem toList_madeCells1 (z : Value) (n : Nat) : madeCells #[z] n = (List.replicate n z).toArray := by
  rw [← toList_madeCells_one z n]
/-- One store further: the next element's single cell. -/
theorem set_flatten1 {css : List (List Value)} {m : Nat} {z v : Value} (h : ∀ cs ∈ css, cs.length = 1) :
    (css.flatten ++ List.replicate (m + 1) z).set css.length v = (css ++ [[v]]).flatten ++ List.replicate m z := by
  have hl := flatten_length h
  rw [Nat.mul_one] at hl
  rw [List.set_append_right _ _ (by omega), hl, Nat.sub_self, List.replicate_succ, List.set_cons_zero, List.flatten_append]
  simp

theorem fill_made (w : World) (z : Value) (n : Nat) (e : TypeId) : (w.alloc (.cells (madeCells #[z] n) e)).heap[w.heap.size]? = some (.cells ((([] : List (List Value)).flatten ++ List.replicate (n - 0) z).toArray) e (0, 0)) := by
  rw [toList_madeCells1]
  exact heap_alloc_new w _
theorem fill_old {w : World} {g k n : Nat} {css : List (List Value)} {z : Value} {e : TypeId} {fr : Nat × Nat} (hg : w.heap[g]? = some (.cells (css.flatten ++ List.replicate (n - k) z).toArray e fr)) (h : ∀ cs ∈ css, cs.length = 1) (hl : css.length = k) (hk : k < n) :
    w.cell? ⟨g, k, none⟩ = some z := by
  have hfl := flatten_length h
  rw [cell_of_block hg, List.getElem?_append_right (by omega), List.getElem?_replicate, if_pos (by omega)]
theorem fill_set {w : World} {g k n : Nat} {css : List (List Value)} {z v : Value} {e : TypeId} (hg : w.heap[g]? = some (.cells (css.flatten ++ List.replicate (n - k) z).toArray e (0, 0))) (h : ∀ cs ∈ css, cs.length = 1) (hl : css.length = k) (hk : k < n) :
    (w.setCell ⟨g, k, none⟩ v).heap[g]? = some (.cells ((css ++ [[v]]).flatten ++ List.replicate (n - (k + 1)) z).toArray e (0, 0)) := by
  rw [heap_setCell_same w g k _ _ _ hg]
  subst hl
  rw [show n - css.length = (n - (css.length + 1)) + 1 by omega, List.setIfInBounds_toArray, set_flatten1 h]
theorem each_take {α : Type} [Rd α] {S : Nat → Prop} {w : World} {css : List (List Value)} {xs : List α} {k : Nat} (h : Each S w css (xs.take k)) (hk : k ≤ xs.length) : css.length = k := by
  rw [h.1, List.length_take]; omega
theorem each_next {α : Type} [Rd α] {S : Nat → Prop} {w : World} {css : List (List Value)} {xs : List α} {k : Nat} {cs : List Value} (h : Each S w css (xs.take k)) (hk : k < xs.length) (hx : Rd.rd S w cs xs[k]) : Each S w (css ++ [cs]) (xs.take (k + 1)) := by
  rw [List.take_succ_eq_append_getElem hk]
  exact h.snoc hx

theorem ext_trans {a b c : World} (h1 : Below a.heap.size a b) (h2 : Below b.heap.size b c) : Below a.heap.size a c := h1.trans (h2.mono h1.size)
theorem ext_alloc (w : World) (o : Obj) : Below w.heap.size w (w.alloc o) := (Below.refl _ _).alloc (Nat.le_refl _) o
theorem rdSlc {α : Type} [Rd α] {S : Nat → Prop} {w : World} {cs : List Value} {xs : List α} (h : Rd.rd S w cs xs) : ∃ (a : Option Addr) (c : Nat), cs = [.slice a xs.length c] := by
  obtain ⟨a, c, h, _⟩ := h
  exact ⟨a, c, h⟩
def sumTo {α : Type} (f : α → Nat) (xs : List α) (k : Nat) : Nat := ((xs.take k).map f).sum
theorem sumTo_zero {α : Type} (f : α → Nat) (xs : List α) : sumTo f xs 0 = 0 := by simp [sumTo]
theorem sumTo_succ {α : Type} (f : α → Nat) (xs : List α) (k : Nat) (h : k < xs.length) : sumTo f xs (k + 1) = sumTo f xs k + f xs[k] := by
  unfold sumTo
  rw [List.take_succ_eq_append_getElem h, List.map_append, List.sum_append]
  simp
theorem sumTo_le {α : Type} (f : α → Nat) (xs : List α) {k m : Nat} (h : k ≤ m) : sumTo f xs k ≤ sumTo f xs m := by
  unfold sumTo
  have e : xs.take m = xs.take k ++ (xs.take m).drop k := by
    have := (List.take_append_drop k (xs.take m)).symm
    rwa [List.take_take, Nat.min_eq_left h] at this
  rw [e, List.map_append, List.sum_append]
  exact Nat.le_add_right _ _
/-- The size that the laws reckon. -/
class Sz (α : Type) where
  sz : α → Nat
instance : Sz Int := ⟨fun _ => 0⟩
instance : Sz Bool := ⟨fun _ => 0⟩
instance : Sz ByteArray := ⟨ByteArray.size⟩
instance {α : Type} [Sz α] : Sz (List α) := ⟨fun xs => xs.length + sumTo Sz.sz xs xs.length⟩

/-- What lay from B on in w1 lies in W as it did. -/
def Keeps (B : Nat) (w1 W : World) : Prop := w1.heap.size ≤ W.heap.size ∧ Same (New B w1) w1 W
theorem Keeps.refl (B : Nat) (w : World) : Keeps B w w := ⟨Nat.le_refl _, Same.refl _ _⟩
theorem Keeps.set {B : Nat} {w1 W : World} {p : Addr} (h : Keeps B w1 W) (hp : p.block < B) (u : Value) : Keeps B w1 (W.setCell p u) :=
  ⟨by simpa [World.setCell] using h.1, fun b hb => (Below.heap_setCell W p u b (by have := hb.1; omega)).trans (h.2 b hb)⟩
theorem Keeps.alloc {B : Nat} {w1 W : World} (h : Keeps B w1 W) (o : Obj) : Keeps B w1 (W.alloc o) :=
  ⟨Nat.le_trans h.1 (ext_alloc W o).size, fun b hb => ((ext_alloc W o).block b (Nat.lt_of_lt_of_le hb.2 h.1)).trans (h.2 b hb)⟩
theorem Keeps.call {B : Nat} {w1 W W' : World} (h : Keeps B w1 W) (hb : Below W.heap.size W W') : Keeps B w1 W' :=
  ⟨Nat.le_trans h.1 hb.size, fun b hb' => (hb.block b (Nat.lt_of_lt_of_le hb'.2 h.1)).trans (h.2 b hb')⟩
theorem Keeps.rd {α : Type} [Rd α] {A B : Nat} {w1 W : World} {cs : List Value} {x : α} (h : Keeps B w1 W) (hA : A ≤ B) (hx : Rd.rd (New B w1) w1 cs x) : Rd.rd (New A W) W cs x :=
  Rd.mono (fun b (hb : B ≤ b ∧ b < w1.heap.size) => ⟨Nat.le_trans hA hb.1, Nat.lt_of_lt_of_le hb.2 h.1⟩) (Rd.same h.2 hx)
theorem keeps_cells {w w' : World} (hb : Below w.heap.size w w') : ∀ (p : Addr) (v : Value), w.cell? p = some v → w'.cell? p = some v := fun _ _ h => (hb.cell (cell_lt h)).trans h

/-! ### A row of elements of n cells, made at one stroke and filled one by one -/
theorem make_cells {P : Program} {t e : TypeId} {n bytes : Nat} (ht : P.underlying t = some (.slice e)) (hinfo : (P.info? e).map (fun i => (i.zero.isSome, i.size, i.bytes)) = some (true, n, bytes)) (c : Nat) (hbytes : bytes * c ≤ 281474976710656) (h63 : c ≤ 9223372036854775807) :
    ∃ zc : List Value, zc.length = c * n ∧ ∀ w, (Instr.makeSlice t (.int .i64 (c : Int)) (.int .i64 (c : Int))).run P w = .ok (.slice (some ⟨w.heap.size, 0, none⟩) c c) (w.alloc (.cells zc.toArray e)) := by
  obtain ⟨i, hi, hz⟩ := Option.map_eq_some_iff.1 hinfo
  simp only [Prod.mk.injEq] at hz
  obtain ⟨h1, rfl, rfl⟩ := hz
  obtain ⟨z, hz⟩ := Option.isSome_iff_exists.1 h1
  refine ⟨(madeCells z.cells (c * i.size)).toList, by rw [Array.length_toList, size_madeCells], fun w => ?_⟩
  have hb' : (i.bytes : Int) * (c : Int) ≤ 281474976710656 := by
    have h : ((i.bytes * c : Nat) : Int) ≤ 281474976710656 := by omega
    rwa [Int.natCast_mul] at h
  have hr := run_make (P := P) w t e i z ht hi hz .i64 .i64 c c (by omega) (Int.le_refl _) hb' (by omega)
  simpa only [Int.toNat_natCast, Array.toArray_toList] using hr
theorem row_get {w : World} {g k n : Nat} {css : List (List Value)} {rest : List Value} {e : TypeId} {fr : Nat × Nat} (hg : w.heap[g]? = some (.cells (css.flatten ++ rest).toArray e fr)) (h : ∀ cs ∈ css, cs.length = n) (hl : css.length = k) (hr : n ≤ rest.length) {j : Nat} (hj : j < n) :
    ∃ v, w.cell? ⟨g, k * n + j, none⟩ = some v := by
  have hfl := flatten_length h
  rw [cell_of_block hg, List.getElem?_append_right (by rw [hfl, hl]; omega), hfl, hl, Nat.add_sub_cancel_left, List.getElem?_eq_getElem (by omega)]
  exact ⟨_, rfl⟩
/-- Cells stored one behind the other. -/
def setAll (w : World) (g o : Nat) : Nat → List Value → World
  | _, [] => w
  | i, c :: r => setAll (w.setCell ⟨g, o + i, none⟩ c) g o (i + 1) r
theorem setAll_block : ∀ (cs : List Value) (w : World) (g o i : Nat) (A B C : List Value) (e : TypeId), w.heap[g]? = some (.cells (A ++ B ++ C).toArray e (0, 0)) → A.length = o + i → B.length = cs.length →
    (setAll w g o i cs).heap[g]? = some (.cells (A ++ cs ++ C).toArray e (0, 0)) ∧ (∀ b, b ≠ g → (setAll w g o i cs).heap[b]? = w.heap[b]?) ∧ (setAll w g o i cs).heap.size = w.heap.size ∧ (∀ K (w0 : World), Below K w0 w → K ≤ g → Below K w0 (setAll w g o i cs))
  | [], w, g, o, i, A, B, C, e, hg, hA, hB => by
    have : B = [] := List.eq_nil_of_length_eq_zero hB
    subst this
    exact ⟨hg, fun _ _ => rfl, rfl, fun _ _ h _ => h⟩
  | c :: r, w, g, o, i, A, B, C, e, hg, hA, hB => by
    cases B with
    | nil => simp at hB
    | cons b B =>
      have hs := heap_setCell_same w g (o + i) _ _ c hg
      rw [List.setIfInBounds_toArray, ← hA, List.append_assoc, List.set_append_right _ _ (Nat.le_refl _), Nat.sub_self, List.cons_append, List.set_cons_zero] at hs
      have hs' : (w.setCell ⟨g, A.length, none⟩ c).heap[g]? = some (.cells ((A ++ [c]) ++ B ++ C).toArray e (0, 0)) := by
        rw [hs]; simp
      obtain ⟨h1, h2, h3, h4⟩ := setAll_block r (w.setCell ⟨g, A.length, none⟩ c) g o (i + 1) (A ++ [c]) B C e hs' (by simp; omega) (by simpa using hB)
      rw [hA] at h1 h2 h3 h4
      refine ⟨?_, fun k hk => (h2 k hk).trans (Below.heap_setCell _ _ _ _ hk), by rw [show (setAll w g o i (c :: r)).heap.size = _ from h3]; simp [World.setCell], fun K w0 hb hK => h4 K w0 (hb.setCell hK _) hK⟩
      show (setAll (w.setCell ⟨g, o + i, none⟩ c) g o (i + 1) r).heap[g]? = _
      rw [h1]
      simp
theorem sz_each {α : Type} [Sz α] {xs : List α} {m : Nat} (h : Sz.sz xs ≤ m) : ∀ k (hk : k < xs.length), Sz.sz xs[k] ≤ m := by
  intro k hk
  have e : Sz.sz xs = xs.length + sumTo Sz.sz xs xs.length := rfl
  have h1 := sumTo_succ Sz.sz xs k hk
  have h2 := sumTo_le Sz.sz xs (show k + 1 ≤ xs.length by omega)
  omega
theorem row_next {α : Type} [Rd α] {w0 wr w1 : World} {g k n : Nat} {css : List (List Value)} {rest : List Value} {xs : List α} {cs1 : List Value} {e : TypeId} (hn : Rd.n α = n) (hk : k < xs.length)
    (hg : w1.heap[g]? = some (.cells (css.flatten ++ rest).toArray e (0, 0))) (he : Each (New (g + 1) wr) wr css (xs.take k)) (hcl : css.length = k) (hrl : rest.length = (xs.length - k) * n)
    (hgw : g < wr.heap.size) (hb1 : Below wr.heap.size wr w1) (hB1 : Below g w0 w1) (hr1 : Rd.rd (New wr.heap.size w1) w1 cs1 xs[k]) :
    ∃ rest', (setAll w1 g (k * n) 0 cs1).heap[g]? = some (.cells ((css ++ [cs1]).flatten ++ rest').toArray e (0, 0)) ∧ rest'.length = (xs.length - (k + 1)) * n ∧ g < (setAll w1 g (k * n) 0 cs1).heap.size ∧
      Below g w0 (setAll w1 g (k * n) 0 cs1) ∧ Each (New (g + 1) (setAll w1 g (k * n) 0 cs1)) (setAll w1 g (k * n) 0 cs1) (css ++ [cs1]) (xs.take (k + 1)) := by
  subst hn
  have hfl := flatten_length he.len
  have hc1 := Rd.len hr1
  have hmul : (xs.length - k) * Rd.n α = (xs.length - (k + 1)) * Rd.n α + Rd.n α := by
    rw [show xs.length - k = (xs.length - (k + 1)) + 1 by omega, Nat.add_mul, Nat.one_mul]
  obtain ⟨h1, h2, h3, h4⟩ := setAll_block cs1 w1 g (k * Rd.n α) 0 css.flatten (rest.take (Rd.n α)) (rest.drop (Rd.n α)) e (by rw [List.append_assoc, List.take_append_drop]; exact hg) (by rw [hfl, hcl]; rfl) (by rw [List.length_take, hc1]; omega)
  have hsame : Same (New (g + 1) w1) w1 (setAll w1 g (k * Rd.n α) 0 cs1) := fun b hb => h2 b (by have := hb.1; omega)
  have hs1 := hb1.size
  refine ⟨rest.drop (Rd.n α), by rw [h1]; simp, by rw [List.length_drop]; omega, by rw [h3]; omega, h4 _ _ hB1 (Nat.le_refl _), each_next ?_ hk ?_⟩
  · have e1 := he.same (S := New (g + 1) wr) (w' := w1) (fun b hb => hb1.block b hb.2)
    have e2 := e1.mono (T := New (g + 1) w1) (fun b hb => ⟨hb.1, Nat.lt_of_lt_of_le hb.2 hs1⟩)
    have e3 := e2.same hsame
    exact e3.mono (fun b hb => ⟨hb.1, by rw [h3]; exact hb.2⟩)
  · have e2 : Rd.rd (New (g + 1) w1) w1 cs1 xs[k] := Rd.mono (fun b (hb : wr.heap.size ≤ b ∧ b < w1.heap.size) => ⟨by omega, hb.2⟩) hr1
    exact Rd.mono (fun b (hb : g + 1 ≤ b ∧ b < w1.heap.size) => ⟨hb.1, by rw [h3]; exact hb.2⟩) (Rd.same hsame e2)

theorem own_later {w w1 : World} {base : Nat} {e : TypeId} {size : Nat} {v : Value} {n : Nat} {xs : List Value} (h : w.ownsRow base e size v n xs) (hb : Below w.heap.size w w1) : w1.ownsRow base e size v n xs :=
  h.kept (row := none) ⟨hb.os, hb.tape, hb.output, hb.size, fun k hk _ => hb.block k hk⟩ (by cases hv : v.ownBlock <;> simp)
/-- a row of the call's own reads as its elements -/
theorem rd_of_own {α : Type} [Rd α] {S : Nat → Prop} {w : World} {base : Nat} {e : TypeId} {v : Value} {css : List (List Value)} {xs : List α} (h : w.ownsRow base e (Rd.n α) v xs.length css.flatten) (he : Each S w css xs) (hS : ∀ b, base ≤ b → b < w.heap.size → S b) : Rd.rd S w [v] xs := by
  rcases h.2 with ⟨rfl, hn⟩ | ⟨g, cap, cur, rfl, hb, hg, hnc, hcm, hcs, htake⟩
  · rw [show xs = [] from List.eq_nil_of_length_eq_zero hn]
    exact ⟨none, 0, rfl, Nat.le_refl _, by omega, fun h => absurd h (by simp)⟩
  · have hlt : g < w.heap.size := (Array.getElem?_eq_some_iff.1 hg).1
    have hcur : cur = (css.flatten ++ cur.toList.drop (xs.length * Rd.n α)).toArray := by
      rw [← htake, List.take_append_drop]
    rw [hcur] at hg
    exact rd_of_block hg he (hS g hb hlt) hnc (by unfold maxLen at hcm; omega)

/-! ### Small things -/
theorem end_int {a b : Int} (h : a = b) : Ending.returned (.int .i64 a) = Ending.returned (.int .i64 b) := by rw [h]
theorem end_string {a b : ByteArray} (h : a = b) : Ending.returned (.string a) = Ending.returned (.string b) := by rw [h]
theorem end_bool {b c : Bool} (h : b = c) : Ending.returned (.bool b) = Ending.returned (.bool c) := by rw [h]
theorem end_two {a b c d : Int} (h : (a, b) = (c, d)) : Ending.returned (.tuple #[.int .i64 a, .int .i64 b]) = Ending.returned (.tuple #[.int .i64 c, .int .i64 d]) := by cases h; rfl
/-- What is left of 'left' behind a thing of this size; -1 if it is too great. -/
def szOut (left : Int) (n : Nat) : Int := if (n : Int) ≤ left then left - n else -1
theorem szOut_nonneg {left : Int} {n : Nat} (h : ¬ szOut left n < 0) : (n : Int) ≤ left := by
  unfold szOut at h
  split at h <;> omega
theorem szOut_bad {left : Int} {n : Nat} (h : left < (n : Int)) : szOut left n = -1 := by
  unfold szOut
  rw [if_neg (by omega)]
theorem szOut_val {left : Int} {n : Nat} (h : (n : Int) ≤ left) : szOut left n = left - n := by
  unfold szOut
  rw [if_pos h]

#print axioms opens_struct
#print axioms opens_slice
end Go.Proofs.YtomcoilmpkpoeaaGreatDoor

namespace Go.Proofs.YtomcoilmpkpoeaaGreatDoor
open Go.RowKit

structure Dec where
  neg : Bool
  dig : ByteArray
  exp : Int
@[reducible] instance : Rd Dec := Rd.via fun x => (x.neg, x.dig, x.exp)
structure Val where
  kind : Int
  num : Dec
  text : ByteArray
@[reducible] instance : Rd Val := Rd.via fun x => (x.kind, x.num, x.text)
structure Arr where
  keys : List ByteArray
  vals : List Val
@[reducible] instance : Rd Arr := Rd.via fun x => (x.keys, x.vals)
structure Leaf where
  path : ByteArray
  kind : Int
  text : ByteArray
@[reducible] instance : Rd Leaf := Rd.via fun x => (x.path, x.kind, x.text)
structure RxNode where
  kind : Int
  lo : Int
  hi : Int
  neg : Bool
  set : List Int
  kids : List Int
@[reducible] instance : Rd RxNode := Rd.via fun x => (x.kind, x.lo, x.hi, x.neg, x.set, x.kids)
structure Rx where
  nodes : List RxNode
@[reducible] instance : Rd Rx := Rd.via fun x => x.nodes
structure NfaOp where
  op : Int
  a : Int
  b : Int
  neg : Bool
  set : List Int
@[reducible] instance : Rd NfaOp := Rd.via fun x => (x.op, x.a, x.b, x.neg, x.set)
structure Nfa where
  ops : List NfaOp
@[reducible] instance : Rd Nfa := Rd.via fun x => x.ops
structure Row where
  cells : List ByteArray
@[reducible] instance : Rd Row := Rd.via fun x => x.cells
structure JNode where
  kind : Int
  text : ByteArray
  keys : List ByteArray
  kids : List Int
@[reducible] instance : Rd JNode := Rd.via fun x => (x.kind, x.text, x.keys, x.kids)
structure Json where
  nodes : List JNode
@[reducible] instance : Rd Json := Rd.via fun x => x.nodes
structure Conf where
  tag : Int
  fs : ByteArray
  rs : ByteArray
  ofs : ByteArray
  ors : ByteArray
  head : Bool
@[reducible] instance : Rd Conf := Rd.via fun x => (x.tag, x.fs, x.rs, x.ofs, x.ors, x.head)
structure Rec where
  text : ByteArray
  cells : List ByteArray
  leaves : List Leaf
@[reducible] instance : Rd Rec := Rd.via fun x => (x.text, x.cells, x.leaves)
structure File where
  name : ByteArray
  text : ByteArray
@[reducible] instance : Rd File := Rd.via fun x => (x.name, x.text)
structure WorldT where
  inp : Conf
  out : Conf
  files : List File
  args : List ByteArray
@[reducible] instance : Rd WorldT := Rd.via fun x => (x.inp, x.out, x.files, x.args)
structure Ins where
  op : Int
  place : Int
  a : Int
  b : Int
  s : ByteArray
@[reducible] instance : Rd Ins := Rd.via fun x => (x.op, x.place, x.a, x.b, x.s)
structure Job where
  world : WorldT
  source : ByteArray
  fuel : Int
@[reducible] instance : Rd Job := Rd.via fun x => (x.world, x.source, x.fuel)

theorem opens_4 : Opens Tryz.prog 4 Bool := opens_bool Tryz.underlying4
theorem opens_9 : Opens Tryz.prog 9 ByteArray := opens_string Tryz.underlying9
theorem opens_3 : Opens Tryz.prog 3 Int := opens_int Tryz.underlying3
theorem opens_90 : Opens Tryz.prog 90 (List ByteArray) := opens_slice Tryz.underlying90 (by kernel_rfl) opens_9
theorem opens_78 : Opens Tryz.prog 78 (List Int) := opens_slice Tryz.underlying78 (by kernel_rfl) opens_3
theorem opens_80 : Opens Tryz.prog 80 RxNode :=
  opens_struct (β := Int × Int × Int × Bool × (List Int) × (List Int)) Tryz.underlying80 (by kernel_rfl) (parts_cons (by kernel_rfl) (by intro f hf; cases hf; rfl) opens_3 (parts_cons (by kernel_rfl) (by intro f hf; cases hf; rfl) opens_3 (parts_cons (by kernel_rfl) (by intro f hf; cases hf; rfl) opens_3 (parts_cons (by kernel_rfl) (by intro f hf; cases hf; rfl) opens_4 (parts_cons (by kernel_rfl) (by intro f hf; cases hf; rfl) opens_78 (parts_one (by kernel_rfl) opens_78)))))) (by intro f hf; cases hf; rfl) (fun y h => ⟨⟨y.1, y.2.1, y.2.2.1, y.2.2.2.1, y.2.2.2.2.1, y.2.2.2.2.2⟩, h⟩)
theorem opens_22 : Opens Tryz.prog 22 (List RxNode) := opens_slice Tryz.underlying22 (by kernel_rfl) opens_80
theorem opens_24 : Opens Tryz.prog 24 Rx :=
  opens_struct (β := (List RxNode)) Tryz.underlying24 (by kernel_rfl) (parts_one (by kernel_rfl) opens_22) (by intro f hf; cases hf; rfl) (fun y h => ⟨⟨y⟩, h⟩)
end Go.Proofs.YtomcoilmpkpoeaaGreatDoor

namespace Go.Proofs.YtomcoilmpkpoeaaGreatDoor
open Go.RowKit
set_option linter.unusedVariables false
set_option linter.unusedSimpArgs false

def gN (l : List Nat) (i : Nat) : Nat := l.getD i 0
def timesN (c : Nat) : Bool := c == 42 || c == 43 || c == 63 || c == 123
def digN (c : Nat) : Bool := decide (48 ≤ c) && decide (c ≤ 57)
def runD (l : List Nat) (i : Nat) : List Nat := (l.drop i).takeWhile digN
def valNd (ds : List Nat) : Nat := ds.foldl (fun n c => 10 * n + (c - 48)) 0
/-- a number of at most 60 at a place, and where it ends -/
def numAt (l : List Nat) (i : Nat) : Option (Nat × Nat) :=
  if (runD l i).length = 0 ∨ 60 < valNd (runD l i) ∨ (gN l i = 48 ∧ 1 < (runD l i).length) then none else some (valNd (runD l i), i + (runD l i).length)
/-- how often, off what stands at a place; and where it ends -/
def timesAt (l : List Nat) (i : Nat) : Option (Int × Int × Nat) :=
  if gN l i = 42 then some (0, -1, i + 1) else if gN l i = 43 then some (1, -1, i + 1) else if gN l i = 63 then some (0, 1, i + 1)
  else match numAt l (i + 1) with
    | none => none
    | some (lo, k) =>
      if gN l k = 44 then
        if gN l (k + 1) = 125 then some (lo, -1, k + 2)
        else match numAt l (k + 1) with
          | none => none
          | some (hi, m) => if hi < lo then none else if gN l m = 125 then some (lo, hi, m + 1) else none
      else if gN l k = 125 then some (lo, lo, k + 1) else none
/-- what a backslash at a place stands for -/
def escAt (l : List Nat) (i : Nat) : Option Nat :=
  if gN l (i + 1) = 110 then some 10 else if gN l (i + 1) = 116 then some 9 else if gN l (i + 1) = 114 then some 13
  else if gN l (i + 1) = 0 ∨ (48 ≤ gN l (i + 1) ∧ gN l (i + 1) ≤ 57) ∨ (65 ≤ gN l (i + 1) ∧ gN l (i + 1) ≤ 90) ∨ (97 ≤ gN l (i + 1) ∧ gN l (i + 1) ≤ 122) then none
  else some (gN l (i + 1))
def classOf (nm : List Nat) : List Int :=
  if nm = [97, 108, 112, 104, 97] then [65, 90, 97, 122] else if nm = [100, 105, 103, 105, 116] then [48, 57] else if nm = [97, 108, 110, 117, 109] then [48, 57, 65, 90, 97, 122]
  else if nm = [117, 112, 112, 101, 114] then [65, 90] else if nm = [108, 111, 119, 101, 114] then [97, 122] else if nm = [115, 112, 97, 99, 101] then [9, 13, 32, 32]
  else if nm = [98, 108, 97, 110, 107] then [9, 9, 32, 32] else if nm = [112, 117, 110, 99, 116] then [33, 47, 58, 64, 91, 96, 123, 126] else if nm = [120, 100, 105, 103, 105, 116] then [48, 57, 65, 70, 97, 102] else []
/-- an answer: a code and a place, or a node and a place and the nodes -/
inductive RR where
  | er (code at_ : Nat)
  | ok (kid at_ : Nat) (nodes : List RxNode)
inductive IR where
  | er (code at_ : Nat)
  | ok (set : List Int) (at_ : Nat)
def oneAt (l : List Nat) (i : Nat) : Option (Nat × Nat) :=
  if gN l i = 92 then (match escAt l i with | none => none | some c => some (c, i + 2)) else some (gN l i, i + 1)
def nameAtC (l : List Nat) (i : Nat) : List Nat := (l.drop i).takeWhile (fun c => c != 58)
def itemAt (l : List Nat) (i : Nat) : IR :=
  if gN l i = 91 ∧ gN l (i + 1) = 58 then
    if classOf (nameAtC l (i + 2)) = [] ∨ ¬ (gN l (i + 2 + (nameAtC l (i + 2)).length) = 58 ∧ gN l (i + 2 + (nameAtC l (i + 2)).length + 1) = 93) then .er 4 0
    else .ok (classOf (nameAtC l (i + 2))) (i + 2 + (nameAtC l (i + 2)).length + 2)
  else match oneAt l i with
    | none => .er 6 i
    | some (lo, j) =>
      if ¬ gN l j = 45 ∨ gN l (j + 1) = 93 ∨ gN l (j + 1) = 0 then .ok [(lo : Int), (lo : Int)] j
      else match oneAt l (j + 1) with
        | none => .er 6 (j + 1)
        | some (hi, m) => if hi < lo then .er 4 0 else .ok [(lo : Int), (hi : Int)] m
/-- a bracket's items up to its end -/
def setGo (l : List Nat) (first : Nat) : Nat → Nat → List Int → IR
  | 0, _, _ => .er 4 first
  | f + 1, i, set =>
    if ¬ set = [] ∧ gN l i = 93 then .ok set (i + 1)
    else if l.length ≤ i then .er 4 first
    else match itemAt l i with
      | .er c p => if c = 4 then .er 4 first else .er c p
      | .ok s j => setGo l first f j (set ++ s)
def putR (n : RxNode) (i : Nat) (ns : List RxNode) : RR := .ok ns.length i (ns ++ [n])
def negAt (l : List Nat) (i : Nat) : Bool := gN l (i + 1) == 94
def bodyAt (l : List Nat) (i : Nat) : Nat := if negAt l i = true then i + 2 else i + 1
def bracketP (l : List Nat) (i : Nat) (ns : List RxNode) : RR :=
  match setGo l i (l.length + 1 - bodyAt l i) (bodyAt l i) [] with
  | .er c p => .er c p
  | .ok s j => putR ⟨4, 0, 0, negAt l i, s, []⟩ j ns
def signOf (c : Nat) : Int := if c = 46 then 3 else if c = 94 then 5 else 6
def atomP (l : List Nat) (grp : Nat → List RxNode → RR) (i : Nat) (ns : List RxNode) : RR :=
  if gN l i = 40 then grp i ns
  else if gN l i = 91 then bracketP l i ns
  else if gN l i = 92 then (match escAt l i with | none => .er 6 i | some c => putR ⟨2, c, 0, false, [], []⟩ (i + 2) ns)
  else if gN l i = 46 ∨ gN l i = 94 ∨ gN l i = 36 then putR ⟨signOf (gN l i), 0, 0, false, [], []⟩ (i + 1) ns
  else putR ⟨2, gN l i, 0, false, [], []⟩ (i + 1) ns
def pieceP (l : List Nat) (grp : Nat → List RxNode → RR) (i : Nat) (ns : List RxNode) : RR :=
  if timesN (gN l i) = true then .er 5 i
  else match atomP l grp i ns with
    | .er c p => .er c p
    | .ok kid j ns1 =>
      if timesN (gN l j) = true then
        match timesAt l j with
        | none => .er 5 j
        | some (lo, hi, k) => if timesN (gN l k) = true then .er 5 k else putR ⟨9, lo, hi, false, [], [(kid : Int)]⟩ k ns1
      else .ok kid j ns1
def ints (l : List Nat) : List Int := l.map fun (n : Nat) => (n : Int)
def endRow (kids : List Nat) (i : Nat) (ns : List RxNode) : RR :=
  match kids with
  | [] => putR ⟨1, 0, 0, false, [], []⟩ i ns
  | [k] => .ok k i ns
  | k :: k2 :: r => putR ⟨7, 0, 0, false, [], ints (k :: k2 :: r)⟩ i ns
def rowGo (l : List Nat) (grp : Nat → List RxNode → RR) : Nat → Nat → List RxNode → List Nat → RR
  | 0, i, _, _ => .er 0 i
  | f + 1, i, ns, kids =>
    if gN l i = 0 ∨ gN l i = 124 ∨ gN l i = 41 then endRow kids i ns
    else match pieceP l grp i ns with
      | .er c p => .er c p
      | .ok kid j ns1 => rowGo l grp f j ns1 (kids ++ [kid])
def endAlt (kids : List Nat) (i : Nat) (ns : List RxNode) : RR :=
  match kids with
  | [] => .er 0 i
  | [k] => .ok k i ns
  | k :: k2 :: r => putR ⟨8, 0, 0, false, [], ints (k :: k2 :: r)⟩ i ns
def rowP (l : List Nat) (grp : Nat → List RxNode → RR) (i : Nat) (ns : List RxNode) : RR := rowGo l grp (l.length + 1 - i) i ns []
def altsGo (l : List Nat) (grp : Nat → List RxNode → RR) : Nat → Nat → List RxNode → List Nat → RR
  | 0, i, _, _ => .er 0 i
  | f + 1, i, ns, kids =>
    match rowP l grp i ns with
    | .er c p => .er c p
    | .ok kid j ns1 => if gN l j = 124 then altsGo l grp f (j + 1) ns1 (kids ++ [kid]) else endAlt (kids ++ [kid]) j ns1
def altsP (l : List Nat) (grp : Nat → List RxNode → RR) (i : Nat) (ns : List RxNode) : RR := altsGo l grp (l.length + 1 - i) i ns []
/-- what stands in parentheses, so many levels deep may it still be -/
def grpP (l : List Nat) : Nat → Nat → List RxNode → RR
  | 0, i, _ => .er 3 i
  | v + 1, i, ns =>
    match altsP l (grpP l v) (i + 1) ns with
    | .er c p => .er c p
    | .ok kid j ns1 => if gN l j = 41 then .ok kid (j + 1) ns1 else .er 2 j

/-! ### How far it comes, and how many nodes there are -/
theorem gN_lt {l : List Nat} {i : Nat} (h : ¬ gN l i = 0) : i < l.length := by
  rcases Nat.lt_or_ge i l.length with h1 | h1
  · exact h1
  · exfalso
    apply h
    unfold gN
    rw [List.getD_eq_getElem?_getD, List.getElem?_eq_none h1]
    rfl
theorem gN_at {l : List Nat} {i : Nat} (h : i < l.length) : gN l i = l[i] := by
  unfold gN
  rw [List.getD_eq_getElem?_getD, List.getElem?_eq_getElem h]
  rfl
theorem gN_end {l : List Nat} {i : Nat} (h : l.length ≤ i) : gN l i = 0 := by
  unfold gN
  rw [List.getD_eq_getElem?_getD, List.getElem?_eq_none h]
  rfl
theorem runD_len (l : List Nat) (i : Nat) : (runD l i).length ≤ l.length - i := by
  unfold runD
  exact Nat.le_trans (List.Sublist.length_le (List.takeWhile_sublist _)) (by rw [List.length_drop]; exact Nat.le_refl _)
theorem numAt_in {l : List Nat} {i n k : Nat} (h : numAt l i = some (n, k)) : i < k ∧ k ≤ l.length ∧ n ≤ 60 := by
  have hl := runD_len l i
  unfold numAt at h
  split at h
  · cases h
  · rename_i hc
    injection h with h
    injection h with h1 h2
    omega
theorem timesAt_in {l : List Nat} {i k : Nat} {lo hi : Int} (h : timesAt l i = some (lo, hi, k)) : i < k ∧ k ≤ l.length ∧ -1 ≤ lo ∧ lo ≤ 60 ∧ -1 ≤ hi ∧ hi ≤ 60 := by
  unfold timesAt at h
  split at h
  · rename_i h1; injection h with h; injection h with a b; injection b with b c
    have := gN_lt (l := l) (i := i) (by omega); omega
  split at h
  · rename_i h1; injection h with h; injection h with a b; injection b with b c
    have := gN_lt (l := l) (i := i) (by omega); omega
  split at h
  · rename_i h1; injection h with h; injection h with a b; injection b with b c
    have := gN_lt (l := l) (i := i) (by omega); omega
  split at h
  · cases h
  · rename_i n k1 hn
    have h2 := numAt_in hn
    split at h
    · rename_i h44
      split at h
      · rename_i h125
        have := gN_lt (l := l) (i := k1 + 1) (by omega)
        injection h with h; injection h with a b; injection b with b c
        omega
      · split at h
        · cases h
        · rename_i m k2 hm
          have h3 := numAt_in hm
          split at h
          · cases h
          · split at h
            · rename_i h125
              have := gN_lt (l := l) (i := k2) (by omega)
              injection h with h; injection h with a b; injection b with b c
              omega
            · cases h
    · split at h
      · rename_i h125
        have := gN_lt (l := l) (i := k1) (by omega)
        injection h with h; injection h with a b; injection b with b c
        omega
      · cases h
theorem escAt_in {l : List Nat} {i c : Nat} (h : escAt l i = some c) : i + 2 ≤ l.length := by
  have key : ¬ gN l (i + 1) = 0 := by
    intro h0
    unfold escAt at h
    rw [h0] at h
    simp at h
  exact gN_lt key
theorem oneAt_in {l : List Nat} {i c k : Nat} (hi : i < l.length) (h : oneAt l i = some (c, k)) : i < k ∧ k ≤ l.length ∧ k ≤ i + 2 := by
  unfold oneAt at h
  split at h
  · split at h
    · cases h
    · rename_i x hx
      have := escAt_in hx
      injection h with h; injection h with a b
      omega
  · injection h with h; injection h with a b
    omega
theorem classOf_len (nm : List Nat) : (classOf nm).length ≤ 8 := by
  unfold classOf
  repeat' split
  all_goals decide
theorem itemAt_in {l : List Nat} {i k : Nat} {s : List Int} (hi : i < l.length) (h : itemAt l i = .ok s k) : i < k ∧ k ≤ l.length ∧ s ≠ [] ∧ s.length ≤ 8 := by
  unfold itemAt at h
  split at h
  · split at h
    · cases h
    · rename_i h1 h2
      simp only [not_or, Decidable.not_not] at h2
      injection h with a b
      have h3 := gN_lt (l := l) (i := i + 2 + (nameAtC l (i + 2)).length + 1) (by omega)
      have h4 := classOf_len (nameAtC l (i + 2))
      subst a
      exact ⟨by omega, by omega, h2.1, h4⟩
  · split at h
    · cases h
    · rename_i lo j hj
      have h1 := oneAt_in hi hj
      split at h
      · injection h with a b
        subst a
        exact ⟨by omega, by omega, by simp, by simp⟩
      · rename_i hc
        simp only [not_or, Decidable.not_not] at hc
        have h2 := gN_lt (l := l) (i := j + 1) (by omega)
        split at h
        · cases h
        · rename_i hi2 m hm
          have h3 := oneAt_in h2 hm
          split at h
          · cases h
          · injection h with a b
            subst a
            exact ⟨by omega, by omega, by simp, by simp⟩
theorem setGo_in {l : List Nat} {first : Nat} : ∀ {f i k : Nat} {set s : List Int}, i ≤ l.length → setGo l first f i set = .ok s k → i < k ∧ k ≤ l.length ∧ s.length + 8 * i ≤ set.length + 8 * k
  | 0, _, _, _, _, _, h => by cases h
  | f + 1, i, k, set, s, hi, h => by
    rw [setGo] at h
    split at h
    · rename_i hc
      have := gN_lt (l := l) (i := i) (by omega)
      injection h with a b
      subst a
      omega
    · split at h
      · cases h
      · split at h
        · split at h <;> cases h
        · rename_i s1 j hj
          have h1 := itemAt_in (by omega) hj
          have h2 := setGo_in h1.2.1 h
          rw [List.length_append] at h2
          omega
/-- a reader comes forward, and makes no more than so many nodes -/
def Fwd (l : List Nat) (c : Nat) (p : Nat → List RxNode → RR) : Prop := ∀ i ns kid j ns1, i ≤ l.length → p i ns = .ok kid j ns1 → i ≤ j ∧ j ≤ l.length ∧ kid < ns1.length ∧ ns.length ≤ ns1.length ∧ ns1.length + 4 * i ≤ ns.length + 4 * j + c
/-- it comes forward by one at least -/
def Fwd1 (l : List Nat) (p : Nat → List RxNode → RR) : Prop := ∀ i ns kid j ns1, i < l.length → p i ns = .ok kid j ns1 → i < j ∧ j ≤ l.length ∧ kid < ns1.length ∧ ns.length ≤ ns1.length ∧ ns1.length + 4 * i ≤ ns.length + 4 * j
theorem putR_in {n : RxNode} {i kid j : Nat} {ns ns1 : List RxNode} (h : putR n i ns = .ok kid j ns1) : kid = ns.length ∧ j = i ∧ ns1 = ns ++ [n] := by
  unfold putR at h
  injection h with a b c
  exact ⟨a.symm, b.symm, c.symm⟩
theorem bodyAt_in {l : List Nat} {i : Nat} (h : i < l.length) : i < bodyAt l i ∧ bodyAt l i ≤ l.length := by
  unfold bodyAt
  split
  · rename_i hn
    unfold negAt at hn
    have : gN l (i + 1) = 94 := by simpa using hn
    have := gN_lt (l := l) (i := i + 1) (by omega)
    omega
  · omega
theorem bracketP_in (l : List Nat) : Fwd1 l (bracketP l) := by
  intro i ns kid j ns1 hi h
  unfold bracketP at h
  have hb := bodyAt_in hi
  split at h
  · cases h
  · rename_i s k hs
    have h1 := setGo_in hb.2 hs
    obtain ⟨rfl, rfl, rfl⟩ := putR_in h
    simp only [List.length_append, List.length_singleton]
    omega
theorem atomP_in {l : List Nat} {grp : Nat → List RxNode → RR} (hg : Fwd1 l grp) : Fwd1 l (atomP l grp) := by
  intro i ns kid j ns1 hi h
  unfold atomP at h
  split at h
  · exact hg i ns kid j ns1 hi h
  split at h
  · exact bracketP_in l i ns kid j ns1 hi h
  split at h
  · split at h
    · cases h
    · rename_i c hc
      have := escAt_in hc
      obtain ⟨rfl, rfl, rfl⟩ := putR_in h
      simp only [List.length_append, List.length_singleton]
      omega
  split at h
  all_goals
    obtain ⟨rfl, rfl, rfl⟩ := putR_in h
    simp only [List.length_append, List.length_singleton]
    omega
theorem pieceP_in {l : List Nat} {grp : Nat → List RxNode → RR} (hg : Fwd1 l grp) : Fwd1 l (pieceP l grp) := by
  intro i ns kid j ns1 hi h
  unfold pieceP at h
  split at h
  · cases h
  split at h
  · cases h
  · rename_i kid1 j1 ns2 ha
    have h1 := atomP_in hg i ns _ _ _ hi ha
    split at h
    · split at h
      · cases h
      · rename_i lo hi2 k ht
        have h2 := timesAt_in ht
        split at h
        · cases h
        · obtain ⟨rfl, rfl, rfl⟩ := putR_in h
          simp only [List.length_append, List.length_singleton]
          omega
    · injection h with a b c
      subst a b c
      exact h1
theorem endRow_in {kids : List Nat} {i kid j : Nat} {ns ns1 : List RxNode} (hk : ∀ k ∈ kids, k < ns.length) (h : endRow kids i ns = .ok kid j ns1) : j = i ∧ kid < ns1.length ∧ ns.length ≤ ns1.length ∧ ns1.length ≤ ns.length + 1 := by
  unfold endRow at h
  split at h
  · obtain ⟨rfl, rfl, rfl⟩ := putR_in h
    simp
  · rename_i k
    injection h with a b c
    subst a b c
    exact ⟨rfl, hk _ (by simp), Nat.le_refl _, by omega⟩
  · obtain ⟨rfl, rfl, rfl⟩ := putR_in h
    simp
theorem endAlt_in {kids : List Nat} {i kid j : Nat} {ns ns1 : List RxNode} (hk : ∀ k ∈ kids, k < ns.length) (h : endAlt kids i ns = .ok kid j ns1) : j = i ∧ kid < ns1.length ∧ ns.length ≤ ns1.length ∧ ns1.length ≤ ns.length + 1 := by
  unfold endAlt at h
  split at h
  · cases h
  · rename_i k
    injection h with a b c
    subst a b c
    exact ⟨rfl, hk _ (by simp), Nat.le_refl _, by omega⟩
  · obtain ⟨rfl, rfl, rfl⟩ := putR_in h
    simp
/-- where a row ends -/
def stopN (c : Nat) : Prop := c = 0 ∨ c = 124 ∨ c = 41
theorem rowGo_in {l : List Nat} {grp : Nat → List RxNode → RR} (hg : Fwd1 l grp) : ∀ f i ns kids kid j ns1, i ≤ l.length → (∀ k ∈ kids, k < ns.length) → rowGo l grp f i ns kids = .ok kid j ns1 →
    i ≤ j ∧ j ≤ l.length ∧ kid < ns1.length ∧ ns.length ≤ ns1.length ∧ ns1.length + 4 * i ≤ ns.length + 4 * j + 1 ∧ stopN (gN l j)
  | 0, _, _, _, _, _, _, _, _, h => by cases h
  | f + 1, i, ns, kids, kid, j, ns1, hi, hk, h => by
    rw [rowGo] at h
    split at h
    · rename_i hs
      have h1 := endRow_in hk h
      obtain ⟨rfl, h2, h3, h4⟩ := h1
      exact ⟨Nat.le_refl _, hi, h2, h3, by omega, hs⟩
    · rename_i hs
      split at h
      · cases h
      · rename_i kid1 j1 ns2 hp
        have h1 := pieceP_in hg i ns _ _ _ (gN_lt (fun h0 => hs (Or.inl h0))) hp
        have h2 := rowGo_in hg f j1 ns2 (kids ++ [kid1]) kid j ns1 h1.2.1 (fun k hk1 => by
          rcases List.mem_append.1 hk1 with hk1 | hk1
          · have := hk k hk1; omega
          · rw [List.mem_singleton.1 hk1]; exact h1.2.2.1) h
        exact ⟨by omega, h2.2.1, h2.2.2.1, by omega, by omega, h2.2.2.2.2.2⟩
theorem rowP_in {l : List Nat} {grp : Nat → List RxNode → RR} (hg : Fwd1 l grp) {i : Nat} {ns ns1 : List RxNode} {kid j : Nat} (hi : i ≤ l.length) (h : rowP l grp i ns = .ok kid j ns1) :
    i ≤ j ∧ j ≤ l.length ∧ kid < ns1.length ∧ ns.length ≤ ns1.length ∧ ns1.length + 4 * i ≤ ns.length + 4 * j + 1 ∧ stopN (gN l j) :=
  rowGo_in hg _ i ns [] kid j ns1 hi (fun k hk => absurd hk (by simp)) h
theorem altsGo_in {l : List Nat} {grp : Nat → List RxNode → RR} (hg : Fwd1 l grp) : ∀ f i ns kids kid j ns1, i ≤ l.length → (∀ k ∈ kids, k < ns.length) → altsGo l grp f i ns kids = .ok kid j ns1 →
    i ≤ j ∧ j ≤ l.length ∧ kid < ns1.length ∧ ns.length ≤ ns1.length ∧ ns1.length + 4 * i ≤ ns.length + 4 * j + 2 ∧ (gN l j = 0 ∨ gN l j = 41)
  | 0, _, _, _, _, _, _, _, _, h => by cases h
  | f + 1, i, ns, kids, kid, j, ns1, hi, hk, h => by
    rw [altsGo] at h
    split at h
    · cases h
    · rename_i kid1 j1 ns2 hp
      have h1 := rowP_in hg hi hp
      have hk2 : ∀ k ∈ kids ++ [kid1], k < ns2.length := fun k hk1 => by
        rcases List.mem_append.1 hk1 with hk1 | hk1
        · have := hk k hk1; omega
        · rw [List.mem_singleton.1 hk1]; exact h1.2.2.1
      split at h
      · rename_i hb
        have hj := gN_lt (l := l) (i := j1) (by omega)
        have h2 := altsGo_in hg f (j1 + 1) ns2 (kids ++ [kid1]) kid j ns1 (by omega) hk2 h
        exact ⟨by omega, h2.2.1, h2.2.2.1, by omega, by omega, h2.2.2.2.2.2⟩
      · rename_i hb
        obtain ⟨rfl, h2, h3, h4⟩ := endAlt_in hk2 h
        refine ⟨h1.1, h1.2.1, h2, by omega, by omega, ?_⟩
        rcases h1.2.2.2.2.2 with h5 | h5 | h5
        · exact Or.inl h5
        · exact absurd h5 hb
        · exact Or.inr h5
theorem altsP_in {l : List Nat} {grp : Nat → List RxNode → RR} (hg : Fwd1 l grp) {i : Nat} {ns ns1 : List RxNode} {kid j : Nat} (hi : i ≤ l.length) (h : altsP l grp i ns = .ok kid j ns1) :
    i ≤ j ∧ j ≤ l.length ∧ kid < ns1.length ∧ ns.length ≤ ns1.length ∧ ns1.length + 4 * i ≤ ns.length + 4 * j + 2 ∧ (gN l j = 0 ∨ gN l j = 41) :=
  altsGo_in hg _ i ns [] kid j ns1 hi (fun k hk => absurd hk (by simp)) h
theorem grpP_in (l : List Nat) : ∀ v, Fwd1 l (grpP l v)
  | 0 => fun i ns kid j ns1 _ h => by cases h
  | v + 1 => fun i ns kid j ns1 hi h => by
    rw [grpP] at h
    split at h
    · cases h
    · rename_i kid1 j1 ns2 hp
      have h1 := altsP_in (grpP_in l v) (by omega) hp
      split at h
      · rename_i hb
        have hj := gN_lt (l := l) (i := j1) (by omega)
        injection h with a b c
        subst a b c
        exact ⟨by omega, by omega, h1.2.2.1, h1.2.2.2.1, by omega⟩
      · cases h
/-! ### The reader that stops at no closing parenthesis outside of all -/
def topS (r : RR) (l : List Nat) : RR := match r with | .er c p => .er c p | .ok kid j ns => if gN l j = 41 then .er 2 j else .ok kid j ns
def rowGoS (l : List Nat) (grp : Nat → List RxNode → RR) (top : Bool) : Nat → Nat → List RxNode → List Nat → RR
  | 0, i, _, _ => .er 0 i
  | f + 1, i, ns, kids =>
    if gN l i = 0 ∨ gN l i = 124 ∨ (gN l i = 41 ∧ top = false) then endRow kids i ns
    else if gN l i = 41 then .er 2 i
    else match pieceP l grp i ns with
      | .er c p => .er c p
      | .ok kid j ns1 => rowGoS l grp top f j ns1 (kids ++ [kid])
def rowS (l : List Nat) (grp : Nat → List RxNode → RR) (top : Bool) (i : Nat) (ns : List RxNode) : RR := rowGoS l grp top (l.length + 1 - i) i ns []
def altsGoS (l : List Nat) (grp : Nat → List RxNode → RR) (top : Bool) : Nat → Nat → List RxNode → List Nat → RR
  | 0, i, _, _ => .er 0 i
  | f + 1, i, ns, kids =>
    match rowS l grp top i ns with
    | .er c p => .er c p
    | .ok kid j ns1 => if gN l j = 124 then altsGoS l grp top f (j + 1) ns1 (kids ++ [kid]) else endAlt (kids ++ [kid]) j ns1
def altsS (l : List Nat) (grp : Nat → List RxNode → RR) (top : Bool) (i : Nat) (ns : List RxNode) : RR := altsGoS l grp top (l.length + 1 - i) i ns []
theorem endRow_ok (kids : List Nat) (i : Nat) (ns : List RxNode) : ∃ kid ns1, endRow kids i ns = .ok kid i ns1 := by
  unfold endRow putR
  split <;> exact ⟨_, _, rfl⟩
theorem endAlt_ok (kids : List Nat) (kid i : Nat) (ns : List RxNode) : ∃ kid1 ns1, endAlt (kids ++ [kid]) i ns = .ok kid1 i ns1 := by
  unfold endAlt putR
  split
  · rename_i h; simp at h
  · exact ⟨_, _, rfl⟩
  · exact ⟨_, _, rfl⟩
theorem rowGoS_inner (l : List Nat) (grp : Nat → List RxNode → RR) : ∀ f i ns kids, rowGoS l grp false f i ns kids = rowGo l grp f i ns kids
  | 0, _, _, _ => rfl
  | f + 1, i, ns, kids => by
    rw [rowGoS, rowGo]
    by_cases h : gN l i = 0 ∨ gN l i = 124 ∨ gN l i = 41
    · rw [if_pos (by simpa using h), if_pos h]
    · simp only [not_or] at h
      rw [if_neg (by simp; exact h), if_neg h.2.2, if_neg (by simp; exact h)]
      cases pieceP l grp i ns with
      | er c p => rfl
      | ok kid j ns1 => exact rowGoS_inner l grp f j ns1 _
theorem rowGoS_top (l : List Nat) (grp : Nat → List RxNode → RR) : ∀ f i ns kids, rowGoS l grp true f i ns kids = topS (rowGo l grp f i ns kids) l
  | 0, _, _, _ => rfl
  | f + 1, i, ns, kids => by
    rw [rowGoS, rowGo]
    by_cases h : gN l i = 0 ∨ gN l i = 124
    · rw [if_pos (by rcases h with h | h; exact Or.inl h; exact Or.inr (Or.inl h)), if_pos (by rcases h with h | h; exact Or.inl h; exact Or.inr (Or.inl h))]
      obtain ⟨kid, ns1, e⟩ := endRow_ok kids i ns
      rw [e]
      unfold topS
      simp only
      rw [if_neg (by omega)]
    · simp only [not_or] at h
      rw [if_neg (by simp; exact h)]
      by_cases h41 : gN l i = 41
      · rw [if_pos h41, if_pos (Or.inr (Or.inr h41))]
        obtain ⟨kid, ns1, e⟩ := endRow_ok kids i ns
        rw [e]
        unfold topS
        simp only
        rw [if_pos h41]
      · rw [if_neg h41, if_neg (by simp only [not_or]; exact ⟨h.1, h.2, h41⟩)]
        cases pieceP l grp i ns with
        | er c p => rfl
        | ok kid j ns1 => exact rowGoS_top l grp f j ns1 _
theorem rowS_inner (l : List Nat) (grp : Nat → List RxNode → RR) (i : Nat) (ns : List RxNode) : rowS l grp false i ns = rowP l grp i ns := rowGoS_inner l grp _ _ _ _
theorem rowS_top (l : List Nat) (grp : Nat → List RxNode → RR) (i : Nat) (ns : List RxNode) : rowS l grp true i ns = topS (rowP l grp i ns) l := rowGoS_top l grp _ _ _ _
theorem altsGoS_inner (l : List Nat) (grp : Nat → List RxNode → RR) : ∀ f i ns kids, altsGoS l grp false f i ns kids = altsGo l grp f i ns kids
  | 0, _, _, _ => rfl
  | f + 1, i, ns, kids => by
    rw [altsGoS, altsGo, rowS_inner]
    cases rowP l grp i ns with
    | er c p => rfl
    | ok kid j ns1 =>
      simp only
      split
      · exact altsGoS_inner l grp f _ ns1 _
      · rfl
theorem altsGoS_top (l : List Nat) (grp : Nat → List RxNode → RR) : ∀ f i ns kids, altsGoS l grp true f i ns kids = topS (altsGo l grp f i ns kids) l
  | 0, _, _, _ => rfl
  | f + 1, i, ns, kids => by
    rw [altsGoS, altsGo, rowS_top]
    cases rowP l grp i ns with
    | er c p => rfl
    | ok kid j ns1 =>
      unfold topS
      simp only
      by_cases h41 : gN l j = 41
      · rw [if_pos h41, if_neg (by omega)]
        obtain ⟨kid1, ns2, e⟩ := endAlt_ok kids kid j ns1
        rw [e]
        simp only
        rw [if_pos h41]
      · rw [if_neg h41]
        simp only
        split
        · exact altsGoS_top l grp f _ ns1 _
        · obtain ⟨kid1, ns2, e⟩ := endAlt_ok kids kid j ns1
          rw [e]
          simp only
          rw [if_neg h41]
theorem altsS_inner (l : List Nat) (grp : Nat → List RxNode → RR) (i : Nat) (ns : List RxNode) : altsS l grp false i ns = altsP l grp i ns := altsGoS_inner l grp _ _ _ _
theorem altsS_top (l : List Nat) (grp : Nat → List RxNode → RR) (i : Nat) (ns : List RxNode) : altsS l grp true i ns = topS (altsP l grp i ns) l := altsGoS_top l grp _ _ _ _
end Go.Proofs.YtomcoilmpkpoeaaGreatDoor

namespace Go.Proofs.YtomcoilmpkpoeaaGreatDoor
open Go.RowKit

theorem rdStrs {S : Nat → Prop} {w : World} {v : Value} {xs : List ByteArray} (h : Rd.rd S w [v] xs) :
    ∃ a cap, v = .slice a xs.length cap ∧ xs.length ≤ cap ∧ cap ≤ 9223372036854775807 ∧ (0 < xs.length → ∃ b off, a = some ⟨b, off, none⟩ ∧ S b ∧ ∀ i (hi : i < xs.length), w.cell? ⟨b, off + i, none⟩ = some (.string xs[i]) ∧ xs[i].size ≤ 9223372036854775807) := by
  obtain ⟨a, cap, hv, h1, h2, h3⟩ := h
  refine ⟨a, cap, by simpa using hv, h1, h2, fun h => ?_⟩
  obtain ⟨b, off, ha, hb, hr⟩ := h3 h
  refine ⟨b, off, ha, hb, fun i hi => ?_⟩
  obtain ⟨cs, h4, rfl, h5⟩ := hr i hi
  have := h4 0 Nat.one_pos
  simp only [Rd.n, Nat.mul_one, Nat.add_zero] at this
  exact ⟨this, h5⟩

theorem ba_toList_inj {a b : ByteArray} (h : a.toList = b.toList) : a = b := by
  rw [Lib.toList_data, Lib.toList_data] at h
  rw [← Lib.mk_data a, ← Lib.mk_data b, h]
theorem ba_ne {a b : ByteArray} (h : a ≠ b) : (a.toList == b.toList) = false := by
  simp only [beq_eq_false_iff_ne]
  exact fun e => h (ba_toList_inj e)
theorem sz_strs (xs : List ByteArray) : Sz.sz xs = xs.length + sumTo ByteArray.size xs xs.length := rfl
theorem sz_len {α : Type} [Sz α] (xs : List α) : xs.length ≤ Sz.sz xs := Nat.le_add_right _ _
theorem arr_of_list {a : Array Value} {l : List Value} (h : a.toList = l) : a = l.toArray := by
  rw [← h]

end Go.Proofs.YtomcoilmpkpoeaaGreatDoor

namespace Go.Proofs.YtomcoilmpkpoeaaGreatDoor
open Go.RowKit
set_option linter.unusedVariables false
set_option linter.unusedSimpArgs false

/-- w' holds what w held, but for block g and for the row's own block; and what is new -/
structure Kp (g : Nat) (row : Option Nat) (w w' : World) : Prop where
  os : w'.os = w.os
  tape : w'.tape = w.tape
  output : w'.output = w.output
  size : w.heap.size ≤ w'.heap.size
  block : ∀ b, b < w.heap.size → b ≠ g → row ≠ some b → w'.heap[b]? = w.heap[b]?
theorem Kp.refl (g : Nat) (row : Option Nat) (w : World) : Kp g row w w := ⟨rfl, rfl, rfl, Nat.le_refl _, fun _ _ _ _ => rfl⟩
theorem Kp.of_below {g : Nat} {row : Option Nat} {w w' : World} (h : Below w.heap.size w w') : Kp g row w w' := ⟨h.os, h.tape, h.output, h.size, fun b hb _ _ => h.block b hb⟩
/-- the row's block is the old one, or a new one -/
def RowOn (w : World) (r r' : Option Nat) : Prop := r' = r ∨ ∃ b, r' = some b ∧ w.heap.size ≤ b
theorem RowOn.refl (w : World) (r : Option Nat) : RowOn w r r := Or.inl rfl
theorem RowOn.trans {w w1 : World} {r r1 r2 : Option Nat} (h : RowOn w r r1) (k : RowOn w1 r1 r2) (hs : w.heap.size ≤ w1.heap.size) : RowOn w r r2 := by
  rcases k with rfl | ⟨b, rfl, hb⟩
  · exact h
  · exact Or.inr ⟨b, rfl, Nat.le_trans hs hb⟩
theorem RowOn.ne {w : World} {r r' : Option Nat} {b : Nat} (h : RowOn w r r') (hb : b < w.heap.size) (hr : r ≠ some b) : r' ≠ some b := by
  rcases h with rfl | ⟨c, rfl, hc⟩
  · exact hr
  · intro e
    injection e with e
    omega
theorem Kp.trans {g : Nat} {r r1 : Option Nat} {w w1 w2 : World} (h : Kp g r w w1) (k : Kp g r1 w1 w2) (hr : RowOn w r r1) : Kp g r w w2 :=
  ⟨k.os.trans h.os, k.tape.trans h.tape, k.output.trans h.output, Nat.le_trans h.size k.size, fun b hb hg hrb => (k.block b (Nat.lt_of_lt_of_le hb h.size) hg (hr.ne hb hrb)).trans (h.block b hb hg hrb)⟩
theorem Kp.drewN {g : Nat} {r : Option Nat} {w w1 : World} (h : Kp g r w w1) (n : Nat) : Kp g r w (w1.drewN n) := ⟨h.os, h.tape, h.output, h.size, h.block⟩
theorem Kp.drew {g : Nat} {r : Option Nat} {w w1 : World} (h : Kp g r w w1) : Kp g r w w1.drew := ⟨h.os, h.tape, h.output, h.size, h.block⟩
theorem Kp.set {g : Nat} {r : Option Nat} {w w1 : World} (h : Kp g r w w1) (o : Nat) (v : Value) : Kp g r w (w1.setCell ⟨g, o, none⟩ v) :=
  ⟨h.os, h.tape, h.output, by simpa [World.setCell] using h.size, fun b hb hg hr => (Below.heap_setCell w1 ⟨g, o, none⟩ v b hg).trans (h.block b hb hg hr)⟩
theorem Kp.alloc {g : Nat} {r : Option Nat} {w w1 : World} (h : Kp g r w w1) (o : Obj) : Kp g r w (w1.alloc o) :=
  ⟨h.os, h.tape, h.output, Nat.le_trans h.size (ext_alloc w1 o).size, fun b hb hg hr => ((ext_alloc w1 o).block b (Nat.lt_of_lt_of_le hb h.size)).trans (h.block b hb hg hr)⟩
theorem Kp.below {g : Nat} {r : Option Nat} {w w1 : World} (h : Kp g r w w1) (hg : g ≤ w.heap.size) (hr : ∀ b, r = some b → g < b) : Below g w w1 :=
  ⟨h.os, h.tape, h.output, h.size, fun b hb => h.block b (Nat.lt_of_lt_of_le hb hg) (by omega) (fun e => by have := hr b e; omega)⟩
theorem Kp.grown {g : Nat} {w w1 w2 : World} {r : Option Nat} (h : Kp g r w w1) (hg : w1.grownBy w2 r) : Kp g r w w2 :=
  ⟨hg.os.trans h.os, hg.tape.trans h.tape, hg.output.trans h.output, Nat.le_trans h.size hg.size, fun b hb hgb hr => (hg.block b (Nat.lt_of_lt_of_le hb h.size) (fun e => hr e.symm)).trans (h.block b hb hgb hr)⟩
/-- nothing but draws -/
def Qt (w w' : World) : Prop := ∃ m, w' = w.drewN m
theorem Qt.refl (w : World) : Qt w w := ⟨0, rfl⟩
theorem Qt.trans {a b c : World} (h : Qt a b) (k : Qt b c) : Qt a c := by
  obtain ⟨m, rfl⟩ := h
  obtain ⟨n, rfl⟩ := k
  exact ⟨m + n, by simp [World.drewN, Nat.add_assoc]⟩
theorem Qt.one (w : World) (m : Nat) : Qt w (w.drewN m) := ⟨m, rfl⟩
theorem Qt.heap {w w' : World} (h : Qt w w') : w'.heap = w.heap := by
  obtain ⟨m, rfl⟩ := h
  rfl
theorem Qt.at {w w' : World} (h : Qt w w') {b : Nat} {o : Option Obj} (hb : w.heap[b]? = o) : w'.heap[b]? = o := by rw [h.heap]; exact hb
theorem Qt.kp {w w' : World} {g : Nat} {r : Option Nat} (h : Qt w w') : Kp g r w w' := by
  obtain ⟨m, rfl⟩ := h
  exact (Kp.refl g r w).drewN m
theorem Qt.below {w w' : World} (h : Qt w w') (b : Nat) : Below b w w' := by
  obtain ⟨m, rfl⟩ := h
  exact below_drewN (Below.refl _ _) m
/-- blocks beside a reader's own, beside its row's, and beside those of X -/
def Beside (X : Nat → Prop) (g : Nat) (row : Option Nat) (w : World) : Nat → Prop := fun b => g < b ∧ b < w.heap.size ∧ row ≠ some b ∧ ¬ X b
theorem Kp.rd {α : Type} [Rd α] {X : Nat → Prop} {g : Nat} {r r' : Option Nat} {w w' : World} {cs : List Value} {x : α} (h : Kp g r w w') (hr : RowOn w r r') (hx : Rd.rd (Beside X g r w) w cs x) : Rd.rd (Beside X g r' w') w' cs x :=
  Rd.mono (S := Beside X g r w) (fun b hb => ⟨hb.1, Nat.lt_of_lt_of_le hb.2.1 h.size, hr.ne hb.2.1 hb.2.2.1, hb.2.2.2⟩) (Rd.same (fun b hb => h.block b hb.2.1 (by have := hb.1; omega) hb.2.2.1) hx)
theorem Kp.each {α : Type} [Rd α] {X : Nat → Prop} {g : Nat} {r r' : Option Nat} {w w' : World} {css : List (List Value)} {xs : List α} (h : Kp g r w w') (hr : RowOn w r r') (hx : Each (Beside X g r w) w css xs) : Each (Beside X g r' w') w' css xs :=
  ⟨hx.1, fun i h1 h2 => h.rd hr (hx.2 i h1 h2)⟩
/-- a row of the call's own beside the reader stands -/
theorem Kp.row {g : Nat} {r : Option Nat} {w w' : World} {e : TypeId} {size n : Nat} {v : Value} {xs : List Value} (h : Kp g r w w') (hv : w.ownsRow (g + 1) e size v n xs) (hne : ∀ b, v.ownBlock = some b → r ≠ some b) : w'.ownsRow (g + 1) e size v n xs := by
  refine ⟨hv.1, ?_⟩
  rcases hv.2 with ⟨rfl, hn⟩ | ⟨b, cap, cur, rfl, h1, h2, h3, h4, h5, h6⟩
  · exact Or.inl ⟨rfl, hn⟩
  · have hb : b < w.heap.size := (Array.getElem?_eq_some_iff.1 h2).1
    exact Or.inr ⟨b, cap, cur, rfl, h1, (h.block b hb (by omega) (hne b rfl)).trans h2, h3, h4, h5, h6⟩
end Go.Proofs.YtomcoilmpkpoeaaGreatDoor

namespace Go.Proofs.YtomcoilmpkpoeaaGreatDoor
open Go.RowKit

/-- n stands from lo to hi (a name of its own: the walk does not look into it) -/
def inB (lo n hi : Int) : Bool := decide (lo ≤ n ∧ n ≤ hi)
theorem inB_true {lo n hi : Int} (h : lo ≤ n ∧ n ≤ hi) : inB lo n hi = true := decide_eq_true h
theorem inB_false {lo n hi : Int} (h : ¬ (lo ≤ n ∧ n ≤ hi)) : inB lo n hi = false := decide_eq_false h
theorem within_any (n lo hi : Int) (w : World) :
    Calls Tryz.prog 55 #[.int .i64 n, .int .i64 lo, .int .i64 hi] w fun e w' => e = .returned (.bool (inB lo n hi)) ∧ w = w' := by
  by_cases h1 : lo ≤ n
  · by_cases h2 : n ≤ hi
    · go_enter Tryz.func55, Tryz.ntmps55
      go_wp2
      go_ret
      exact ⟨end_bool (by rw [inB_true ⟨h1, h2⟩]), rfl⟩
    · go_enter Tryz.func55, Tryz.ntmps55
      go_wp2
      go_ret
      exact ⟨end_bool (by rw [inB_false (by omega)]), rfl⟩
  · go_enter Tryz.func55, Tryz.ntmps55
    go_wp2
    go_ret
    exact ⟨end_bool (by rw [inB_false (by omega)]), rfl⟩

theorem between_any (n lo hi : Int) (w : World) :
    Calls Tryz.prog 44 #[.int .i64 n, .int .i64 lo, .int .i64 hi] w fun e w' => e = .returned (.bool (inB lo n hi)) ∧ w = w' := by
  by_cases h1 : lo ≤ n
  · by_cases h2 : n ≤ hi
    · go_enter Tryz.func44, Tryz.ntmps44
      go_wp2
      go_ret
      exact ⟨end_bool (by rw [inB_true ⟨h1, h2⟩]), rfl⟩
    · go_enter Tryz.func44, Tryz.ntmps44
      go_wp2
      go_ret
      exact ⟨end_bool (by rw [inB_false (by omega)]), rfl⟩
  · go_enter Tryz.func44, Tryz.ntmps44
    go_wp2
    go_ret
    exact ⟨end_bool (by rw [inB_false (by omega)]), rfl⟩

end Go.Proofs.YtomcoilmpkpoeaaGreatDoor

namespace Go.Proofs.YtomcoilmpkpoeaaGreatDoor
open Go.RowKit
set_option linter.unusedVariables false
set_option linter.unusedSimpArgs false

/-- a list of code points in a block below the reader's own -/
structure RxL (w : World) (g : Nat) (a : Option Addr) (l : List Nat) : Prop where
  cel : 0 < l.length → ∃ lb lo, a = some ⟨lb, lo, none⟩ ∧ lb < g ∧ ∀ i (h : i < l.length), w.cell? ⟨lb, lo + i, none⟩ = some (.int .i64 (l[i] : Int))
  len : l.length ≤ 1000
  pts : ∀ c ∈ l, 1 ≤ c ∧ c ≤ 1114111
theorem RxL.below {w w' : World} {g : Nat} {a : Option Addr} {l : List Nat} (h : RxL w g a l) (hb : Below g w w') : RxL w' g a l :=
  ⟨fun hp => by
    obtain ⟨lb, lo, e, h1, h2⟩ := h.cel hp
    exact ⟨lb, lo, e, h1, fun i hi => (hb.cell (p := ⟨lb, lo + i, none⟩) h1).trans (h2 i hi)⟩, h.len, h.pts⟩
theorem gN_le {l : List Nat} (h : ∀ c ∈ l, 1 ≤ c ∧ c ≤ 1114111) (i : Nat) : gN l i ≤ 1114111 := by
  by_cases hi : i < l.length
  · rw [gN_at hi]; exact (h _ (List.getElem_mem _)).2
  · rw [gN_end (by omega)]; omega
theorem blk4 {w : World} {g : Nat} {x0 x1 x2 x3 : Value} {t : TypeId} (h : w.heap[g]? = some (.cells #[x0, x1, x2, x3] t (0, 0))) :
    w.cell? ⟨g, 0, none⟩ = some x0 ∧ w.cell? ⟨g, 1, none⟩ = some x1 ∧ w.cell? ⟨g, 2, none⟩ = some x2 ∧ w.cell? ⟨g, 3, none⟩ = some x3 ∧
    w.frozen? ⟨g, 0, none⟩ = false ∧ w.frozen? ⟨g, 1, none⟩ = false ∧ w.frozen? ⟨g, 2, none⟩ = false ∧ w.frozen? ⟨g, 3, none⟩ = false ∧ g < w.heap.size := by
  have h' : w.heap[g]? = some (.cells ([x0, x1, x2, x3] : List Value).toArray t (0, 0)) := h
  exact ⟨cell_of_block h', cell_of_block h', cell_of_block h', cell_of_block h', frozen_of_row w g _ _ _ h', frozen_of_row w g _ _ _ h', frozen_of_row w g _ _ _ h', frozen_of_row w g _ _ _ h', (Array.getElem?_eq_some_iff.1 h).1⟩
theorem RxL.qt {w w' : World} {g : Nat} {a : Option Addr} {l : List Nat} (h : RxL w g a l) (hq : Qt w w') : RxL w' g a l := h.below (hq.below g)
set_option maxHeartbeats 4000000 in
theorem implAhead {g cap i d : Nat} {a : Option Addr} {l : List Nat} {nv : Value} (k : Nat) (w : World) (hb : w.heap[g]? = some (.cells #[.slice a l.length cap, .int .i64 (i : Int), .int .i64 (d : Int), nv] 101 (0, 0)))
    (hL : RxL w g a l) (hi : i ≤ 2000) (hk : k ≤ 2000) :
    Calls Tryz.prog 190 #[.pointer (some ⟨g, 0, none⟩), .int .i64 (k : Int)] w fun e w' => e = .returned (.int .i64 (gN l (i + k) : Int)) ∧ Qt w w' := by
  obtain ⟨c0, c1, c2, c3, y0, y1, y2, y3, hl⟩ := blk4 hb
  clear hb
  have hlen := hL.len
  have hs : IntKind.i64.wrap ((i : Int) + (k : Int)) = (i : Int) + (k : Int) := IntWalk.i64_in _ (by omega)
  by_cases h : l.length ≤ i + k
  · have HE := hid (gN_end h)
    have h1 : (l.length : Int) ≤ (i : Int) + (k : Int) := by omega
    clear h hL
    go_enter Tryz.func190, Tryz.ntmps190
    go_wp2_with fail
    go_quiet (fail)
    go_wp2
    go_ret
    rw [HE.out]
    exact ⟨rfl, _, rfl⟩
  · obtain ⟨lb, lo, rfl, hlb, hc⟩ := hL.cel (by omega)
    have hcell := hc (i + k) (by omega)
    have HE := hid (gN_at (l := l) (i := i + k) (by omega))
    obtain ⟨m, hm⟩ : ∃ m, i + k = m := ⟨_, rfl⟩
    obtain ⟨c, hcc⟩ : ∃ c, l[i + k]'(by omega) = c := ⟨_, rfl⟩
    rw [hcc] at hcell HE
    rw [hm] at hcell HE ⊢
    have hmi : (i : Int) + (k : Int) = (m : Int) := by omega
    have hs2 : IntKind.i64.wrap (m : Int) = (m : Int) := IntWalk.i64_in _ (by omega)
    have hm0 : (0 : Int) ≤ (m : Int) := by omega
    have hm1 : (m : Int) < (l.length : Int) := by omega
    have h1 : ¬ (l.length : Int) ≤ (m : Int) := by omega
    clear h hL hc hcc hm
    go_enter Tryz.func190, Tryz.ntmps190
    go_wp2_with fail
    go_quiet (fail)
    go_wp2_with fail
    go_quiet (fail)
    go_wp2
    go_ret
    rw [HE.out]
    exact ⟨rfl, by first | exact ⟨_, rfl⟩ | exact (Qt.one _ _).trans (Qt.one _ _)⟩
theorem implNext {g cap i d : Nat} {a : Option Addr} {l : List Nat} {nv : Value} (w : World) (hb : w.heap[g]? = some (.cells #[.slice a l.length cap, .int .i64 (i : Int), .int .i64 (d : Int), nv] 101 (0, 0)))
    (hL : RxL w g a l) (hi : i ≤ 2000) :
    Calls Tryz.prog 159 #[.pointer (some ⟨g, 0, none⟩)] w fun e w' => e = .returned (.int .i64 (gN l i : Int)) ∧ Qt w w' := by
  have CA := hid (implAhead (k := 0) w hb hL hi (by decide))
  rw [Nat.add_zero] at CA
  clear hb
  go_enter Tryz.func159, Tryz.ntmps159
  go_wp2_with fail
  refine CA.out.mono ?_
  rintro e w1 ⟨rfl, hq⟩
  go_wp2
  go_ret
  exact ⟨rfl, hq⟩
end Go.Proofs.YtomcoilmpkpoeaaGreatDoor

namespace Go.Proofs.YtomcoilmpkpoeaaGreatDoor
open Go.RowKit
set_option linter.unusedVariables false
set_option linter.unusedSimpArgs false

theorem digN_iff {c : Nat} : digN c = true ↔ 48 ≤ c ∧ c ≤ 57 := by unfold digN; simp
theorem valNd_snoc (ds : List Nat) (c : Nat) : valNd (ds ++ [c]) = 10 * valNd ds + (c - 48) := by unfold valNd; rw [List.foldl_append]; rfl
theorem valNd_more (ds : List Nat) : ∀ r : List Nat, valNd ds ≤ valNd (ds ++ r)
  | [] => by rw [List.append_nil]; exact Nat.le_refl _
  | c :: r => by
    have h := valNd_more (ds ++ [c]) r
    rw [List.append_assoc, List.singleton_append] at h
    rw [valNd_snoc] at h
    omega
theorem takeW_all {p : Nat → Bool} : ∀ (x : List Nat) (c : Nat), c ∈ x.takeWhile p → p c = true
  | [], c, h => by simp at h
  | a :: r, c, h => by
    by_cases ha : p a = true
    · rw [List.takeWhile_cons_of_pos ha] at h
      rcases List.mem_cons.1 h with rfl | h
      · exact ha
      · exact takeW_all r c h
    · rw [List.takeWhile_cons_of_neg ha] at h
      simp at h
theorem run_take (l : List Nat) (p j : Nat) (h : j < (runD l p).length) : (runD l p).take (j + 1) = (runD l p).take j ++ [gN l (p + j)] ∧ digN (gN l (p + j)) = true := by
  have hpre : ∃ z, l.drop p = runD l p ++ z := ⟨(l.drop p).dropWhile digN, by unfold runD; rw [List.takeWhile_append_dropWhile]⟩
  obtain ⟨z, hz⟩ := hpre
  have hg : gN l (p + j) = (runD l p)[j] := by
    have h1 : (l.drop p)[j]? = (runD l p)[j]? := by rw [hz, List.getElem?_append_left h]
    rw [List.getElem?_drop, List.getElem?_eq_getElem h] at h1
    unfold gN
    rw [List.getD_eq_getElem?_getD, h1]
    rfl
  rw [hg]
  refine ⟨List.take_succ_eq_append_getElem h, ?_⟩
  have hall : ∀ c ∈ runD l p, digN c = true := by
    unfold runD
    intro c hc
    exact takeW_all _ c hc
  exact hall _ (List.getElem_mem _)
theorem run_stop (l : List Nat) (p : Nat) : digN (gN l (p + (runD l p).length)) = false := by
  have key : ∀ (x : List Nat), digN ((x[(x.takeWhile digN).length]?).getD 0) = false := by
    intro x
    induction x with
    | nil => rfl
    | cons c r ih =>
      by_cases hc : digN c = true
      · rw [List.takeWhile_cons_of_pos hc, List.length_cons, List.getElem?_cons_succ]
        exact ih
      · rw [List.takeWhile_cons_of_neg hc]
        simpa using hc
  have h := key (l.drop p)
  rw [List.getElem?_drop] at h
  unfold gN runD
  rw [List.getD_eq_getElem?_getD]
  exact h
theorem run_three {l : List Nat} {p : Nat} (h : 3 ≤ (runD l p).length) (h0 : ¬ gN l p = 48) : 60 < valNd ((runD l p).take 3) := by
  obtain ⟨e0, d0⟩ := run_take l p 0 (by omega)
  obtain ⟨e1, d1⟩ := run_take l p 1 (by omega)
  obtain ⟨e2, d2⟩ := run_take l p 2 (by omega)
  rw [e2, e1, e0, valNd_snoc, valNd_snoc, valNd_snoc]
  rw [digN_iff] at d0 d1 d2
  simp only [Nat.add_zero] at d0 ⊢
  have : valNd ((runD l p).take 0) = 0 := rfl
  omega
/-- what three digits at most tell -/
theorem num_three {l : List Nat} {p j : Nat} (hj : j ≤ 3) (hl : j ≤ (runD l p).length) (he : j = 3 ∨ j = (runD l p).length) :
    (j = 0 ∨ 60 < valNd ((runD l p).take j) ∨ (gN l p = 48 ∧ 1 < j)) ∧ numAt l p = none ∨ (¬ (j = 0 ∨ 60 < valNd ((runD l p).take j) ∨ (gN l p = 48 ∧ 1 < j)) ∧ numAt l p = some (valNd ((runD l p).take j), p + j)) := by
  by_cases hlen : j = (runD l p).length
  · subst hlen
    rw [List.take_length]
    unfold numAt
    by_cases hc : (runD l p).length = 0 ∨ 60 < valNd (runD l p) ∨ (gN l p = 48 ∧ 1 < (runD l p).length)
    · left; rw [if_pos hc]; exact ⟨hc, rfl⟩
    · right; rw [if_neg hc]; exact ⟨hc, rfl⟩
  · have hj3 : j = 3 := by omega
    subst hj3
    left
    have hmore : valNd ((runD l p).take 3) ≤ valNd (runD l p) := by
      have := valNd_more ((runD l p).take 3) ((runD l p).drop 3)
      rwa [List.take_append_drop] at this
    unfold numAt
    by_cases h0 : gN l p = 48
    · exact ⟨Or.inr (Or.inr ⟨h0, by omega⟩), if_pos (Or.inr (Or.inr ⟨h0, by omega⟩))⟩
    · have := run_three (by omega) h0
      exact ⟨Or.inr (Or.inl this), if_pos (Or.inr (Or.inl (by omega)))⟩
theorem valNd_small {l : List Nat} {p j : Nat} (hj : j ≤ 3) (hl : j ≤ (runD l p).length) : valNd ((runD l p).take j) ≤ 999 ∧ (j ≤ 2 → valNd ((runD l p).take j) ≤ 99) := by
  have h : ∀ k, k ≤ 3 → k ≤ (runD l p).length → valNd ((runD l p).take k) + 1 ≤ 10 ^ k := by
    intro k
    induction k with
    | zero => intro _ _; exact Nat.le_refl _
    | succ k ih =>
      intro h1 h2
      obtain ⟨e, d⟩ := run_take l p k (by omega)
      rw [digN_iff] at d
      have := ih (by omega) (by omega)
      rw [e, valNd_snoc, Nat.pow_succ]
      omega
  have h1 := h j hj hl
  refine ⟨?_, fun h2 => ?_⟩
  · have : (10 : Nat) ^ j ≤ 10 ^ 3 := Nat.pow_le_pow_right (by decide) hj
    omega
  · have : (10 : Nat) ^ j ≤ 10 ^ 2 := Nat.pow_le_pow_right (by decide) h2
    omega
end Go.Proofs.YtomcoilmpkpoeaaGreatDoor

namespace Go.Proofs.YtomcoilmpkpoeaaGreatDoor
open Go.RowKit
set_option linter.unusedVariables false
set_option linter.unusedSimpArgs false

def NumE (l : List Nat) (i k : Nat) (e : Ending) : Prop :=
  (∃ n q, numAt l (i + k) = some (n, i + q) ∧ e = .returned (.tuple #[.int .i64 (n : Int), .int .i64 (q : Int)])) ∨ (numAt l (i + k) = none ∧ ∃ b : Int, e = .returned (.tuple #[.int .i64 (-1), .int .i64 b]))
def TimesE (l : List Nat) (i : Nat) (e : Ending) : Prop :=
  (∃ lo hi q, timesAt l i = some (lo, hi, i + q) ∧ 0 < q ∧ e = .returned (.tuple #[.int .i64 lo, .int .i64 hi, .int .i64 (q : Int)])) ∨ (timesAt l i = none ∧ e = .returned (.tuple #[.int .i64 0, .int .i64 0, .int .i64 0]))
set_option maxHeartbeats 8000000 in
theorem implNumber {g cap i d : Nat} {a : Option Addr} {l : List Nat} {nv : Value} (k : Nat) (w : World) (hb : w.heap[g]? = some (.cells #[.slice a l.length cap, .int .i64 (i : Int), .int .i64 (d : Int), nv] 101 (0, 0)))
    (hL : RxL w g a l) (hi : i ≤ 1000) (hk : k ≤ 1200) :
    Calls Tryz.prog 223 #[.pointer (some ⟨g, 0, none⟩), .int .i64 (k : Int)] w fun e w' => NumE l i k e ∧ Qt w w' := by
  have CA := hid (fun (m : Nat) (w' : World) (hq : Qt w w') (hm : m ≤ 2000) => implAhead (k := m) w' (hq.at hb) (hL.qt hq) (by omega) hm)
  have hpt := fun m => gN_le hL.pts m
  have HPT := hid hpt
  clear hb hL hpt
  obtain ⟨p, hp⟩ : ∃ p, i + k = p := ⟨_, rfl⟩
  have HP := hid hp
  have HPJ := hid (fun j => show i + (k + j) = p + j by omega)
  unfold NumE
  rw [hp]
  obtain ⟨R, hR⟩ : ∃ r, numAt l p = r := ⟨_, rfl⟩
  rw [hR]
  have HR := hid hR
  clear hp hR
  go_enter Tryz.func223, Tryz.ntmps223
  go_wp2_with fail
  refine (CA.out k _ (Qt.refl _) (by omega)).mono ?_
  rintro e w1 ⟨rfl, hq1⟩
  go_wp2
  go_loopw [1, 7, 8] (fun bv nv cv wr => ∃ j : Nat, j ≤ 3 ∧ j ≤ (runD l p).length ∧ bv = .int .i64 ((k + j : Nat) : Int) ∧ nv = .int .i64 (valNd ((runD l p).take j) : Int) ∧ cv = .int .i64 (gN l (p + j) : Int) ∧ Qt w wr) (fun bv _ _ _ => 1300 - (intOf bv).toNat)
  case atStart => exact ⟨0, by omega, Nat.zero_le _, rfl, rfl, by rw [HP.out]; rfl, hq1⟩
  case round =>
    obtain ⟨j, hj3, hjl, rfl, rfl, rfl, hq⟩ := hrel
    have hkj : ((k + j : Nat) : Int) = (k : Int) + (j : Int) := by omega
    have hvs := valNd_small hj3 hjl
    have hcle := HPT.out (p + j)
    by_cases hgo : j < 3 ∧ j < (runD l p).length
    · obtain ⟨e1, d1⟩ := run_take l p j hgo.2
      rw [digN_iff] at d1
      have hb : inB 48 (gN l (p + j) : Int) 57 = true := inB_true (by omega)
      have hlt : ((k + j : Nat) : Int) < (k : Int) + 3 := by omega
      have HV := hid (show valNd ((runD l p).take (j + 1)) = 10 * valNd ((runD l p).take j) + (gN l (p + j) - 48) by rw [e1, valNd_snoc])
      have hv2 := hvs.2 (by omega)
      obtain ⟨v, hv⟩ : ∃ v, valNd ((runD l p).take j) = v := ⟨_, rfl⟩
      obtain ⟨c, hc⟩ : ∃ c, gN l (p + j) = c := ⟨_, rfl⟩
      rw [hv] at HV hv2 ⊢
      rw [hc] at HV hb d1 ⊢
      have hj2 : j < (runD l p).length := hgo.2
      obtain ⟨m, hm⟩ : ∃ m, k + j = m := ⟨_, rfl⟩
      rw [hm] at hlt ⊢
      have hm3 : m ≤ 1300 := by omega
      have HM := hid (show k + (j + 1) = m + 1 by omega)
      have HA := hid (HPJ.out (j + 1))
      have hj33 : j < 3 := hgo.1
      have hw1 : IntKind.i64.wrap (10 * (v : Int)) = 10 * (v : Int) := IntWalk.i64_in _ (by omega)
      have hw2 : IntKind.i64.wrap (10 * (v : Int) + (c : Int)) = 10 * (v : Int) + (c : Int) := IntWalk.i64_in _ (by omega)
      have hw3 : IntKind.i64.wrap (10 * (v : Int) + (c : Int) - 48) = 10 * (v : Int) + (c : Int) - 48 := IntWalk.i64_in _ (by omega)
      have HL := hid (And.intro hj2 hj33)
      have CA1 := hid (fun (w' : World) (hq : Qt w w') => CA.out (m + 1) w' hq (by omega))
      rw [show ((m + 1 : Nat) : Int) = (m : Int) + 1 by omega] at CA1
      have d11 := d1.1
      clear hgo hjl hj3 hv hc e1 hkj hvs hm hj2 hj33 d1
      go_wp2_with (go_at_call 55; refine (within_any _ _ _ _).mono ?_; rintro e wi ⟨rfl, rfl⟩)
      refine (CA1.out _ hq).mono ?_
      rintro e w2 ⟨rfl, hq2⟩
      go_wp2
      go_roundw
      case rel =>
        refine ⟨j + 1, by have := HL.out; omega, by have := HL.out; omega, by rw [HM.out]; go_num, by rw [HV.out]; congr 1; omega, ?_, hq.trans hq2⟩
        rw [← HA.out, HM.out]
      case measure => simp [intOf]; omega
    · have hje : j = 3 ∨ j = (runD l p).length := by omega
      have hnum := num_three hj3 hjl hje
      rw [HR.out] at hnum
      have hstop : (j < 3 ∧ inB 48 (gN l (p + j) : Int) 57 = false) ∨ (j = 3) := by
        by_cases h3 : j = 3
        · exact Or.inr h3
        · left
          have h4 : j = (runD l p).length := by omega
          refine ⟨by omega, inB_false ?_⟩
          have := run_stop l p
          rw [← h4] at this
          have h5 : ¬ (48 ≤ gN l (p + j) ∧ gN l (p + j) ≤ 57) := fun h => by rw [digN_iff.2 h] at this; cases this
          omega
      obtain ⟨v, hv⟩ : ∃ v, valNd ((runD l p).take j) = v := ⟨_, rfl⟩
      obtain ⟨c, hc⟩ : ∃ c, gN l (p + j) = c := ⟨_, rfl⟩
      obtain ⟨c0, hc0⟩ : ∃ c, gN l p = c := ⟨_, rfl⟩
      rw [hv] at hnum ⊢
      rw [hc] at hstop ⊢
      rw [hc0] at hnum
      have HNUM := hid hnum
      have CA0 := hid (fun (w' : World) (hq : Qt w w') => CA.out k w' hq (by omega))
      rw [HP.out, hc0] at CA0
      obtain ⟨m, hm⟩ : ∃ m, k + j = m := ⟨_, rfl⟩
      rw [hm]
      have HMM := hid (show p + j = i + m by have := HP.out; omega)
      have hbt : ∀ c : Int, inB 48 c 57 = true ∨ inB 48 c 57 = false := fun c => by cases inB 48 c 57 <;> simp
      have hkj2 : m = k + j := hm.symm
      have hvv := hvs.1
      rw [hv] at hvv
      clear hgo hjl hv hc hc0 hkj hvs hm hje hnum
      rcases hstop with ⟨h3, hbf⟩ | h3
      · rcases HNUM.out with ⟨hbad, hnone⟩ | ⟨hgood, hsome⟩
        · have HE := hid hnone
          by_cases h0 : j = 0
          · have g0 : ((m : Int) == (k : Int)) = true := by rw [beq_iff_eq]; omega
            clear hbad hnone h0 HNUM hkj2
            go_wp2_with (go_at_call 55; refine (within_any _ _ _ _).mono ?_; rintro e wi ⟨rfl, rfl⟩)
            go_wp2
            go_ret2
            exact ⟨Or.inr ⟨HE.out, _, rfl⟩, hq⟩
          · have g0 : ((m : Int) == (k : Int)) = false := by rw [beq_eq_false_iff_ne]; omega
            by_cases h60 : 60 < v
            · have g60 : (60 : Int) < (v : Int) := by omega
              clear hbad hnone h0 HNUM hkj2
              go_wp2_with (go_at_call 55; refine (within_any _ _ _ _).mono ?_; rintro e wi ⟨rfl, rfl⟩)
              go_wp2
              go_ret2
              exact ⟨Or.inr ⟨HE.out, _, rfl⟩, hq⟩
            · have g60 : ¬ (60 : Int) < (v : Int) := by omega
              have hb2 : c0 = 48 ∧ 1 < j := by omega
              have g48 : ((c0 : Int) == 48) = true := by rw [beq_iff_eq]; omega
              have gk : (k : Int) + 1 < (m : Int) := by omega
              clear hbad hnone h0 HNUM hkj2 hb2
              go_wp2_with (go_at_call 55; refine (within_any _ _ _ _).mono ?_; rintro e wi ⟨rfl, rfl⟩)
              refine (CA0.out _ hq).mono ?_
              rintro e w5 ⟨rfl, hq5⟩
              go_wp2
              go_ret2
              exact ⟨Or.inr ⟨HE.out, _, rfl⟩, hq.trans hq5⟩
        · have HE := hid hsome
          have g0 : ((m : Int) == (k : Int)) = false := by rw [beq_eq_false_iff_ne]; omega
          have g60 : ¬ (60 : Int) < (v : Int) := by omega
          by_cases h48 : c0 = 48
          · have g48 : ((c0 : Int) == 48) = true := by rw [beq_iff_eq]; omega
            have gk : ¬ (k : Int) + 1 < (m : Int) := by omega
            clear hgood hsome HNUM hkj2 h48
            go_wp2_with (go_at_call 55; refine (within_any _ _ _ _).mono ?_; rintro e wi ⟨rfl, rfl⟩)
            refine (CA0.out _ hq).mono ?_
            rintro e w5 ⟨rfl, hq5⟩
            go_wp2
            go_ret2
            exact ⟨Or.inl ⟨v, m, by rw [HE.out, HMM.out], rfl⟩, hq.trans hq5⟩
          · have g48 : ((c0 : Int) == 48) = false := by rw [beq_eq_false_iff_ne]; omega
            clear hgood hsome HNUM hkj2 h48
            go_wp2_with (go_at_call 55; refine (within_any _ _ _ _).mono ?_; rintro e wi ⟨rfl, rfl⟩)
            refine (CA0.out _ hq).mono ?_
            rintro e w5 ⟨rfl, hq5⟩
            go_wp2
            go_ret2
            exact ⟨Or.inl ⟨v, m, by rw [HE.out, HMM.out], rfl⟩, hq.trans hq5⟩
      · have hlt3 : ¬ (m : Int) < (k : Int) + 3 := by omega
        rcases hbt (c : Int) with hbf | hbf
        · rcases HNUM.out with ⟨hbad, hnone⟩ | ⟨hgood, hsome⟩
          · have HE := hid hnone
            by_cases h0 : j = 0
            · have g0 : ((m : Int) == (k : Int)) = true := by rw [beq_iff_eq]; omega
              clear hbad hnone h0 HNUM hkj2
              go_wp2_with (go_at_call 55; refine (within_any _ _ _ _).mono ?_; rintro e wi ⟨rfl, rfl⟩)
              go_wp2
              go_ret2
              exact ⟨Or.inr ⟨HE.out, _, rfl⟩, hq⟩
            · have g0 : ((m : Int) == (k : Int)) = false := by rw [beq_eq_false_iff_ne]; omega
              by_cases h60 : 60 < v
              · have g60 : (60 : Int) < (v : Int) := by omega
                clear hbad hnone h0 HNUM hkj2
                go_wp2_with (go_at_call 55; refine (within_any _ _ _ _).mono ?_; rintro e wi ⟨rfl, rfl⟩)
                go_wp2
                go_ret2
                exact ⟨Or.inr ⟨HE.out, _, rfl⟩, hq⟩
              · have g60 : ¬ (60 : Int) < (v : Int) := by omega
                have hb2 : c0 = 48 ∧ 1 < j := by omega
                have g48 : ((c0 : Int) == 48) = true := by rw [beq_iff_eq]; omega
                have gk : (k : Int) + 1 < (m : Int) := by omega
                clear hbad hnone h0 HNUM hkj2 hb2
                go_wp2_with (go_at_call 55; refine (within_any _ _ _ _).mono ?_; rintro e wi ⟨rfl, rfl⟩)
                refine (CA0.out _ hq).mono ?_
                rintro e w5 ⟨rfl, hq5⟩
                go_wp2
                go_ret2
                exact ⟨Or.inr ⟨HE.out, _, rfl⟩, hq.trans hq5⟩
          · have HE := hid hsome
            have g0 : ((m : Int) == (k : Int)) = false := by rw [beq_eq_false_iff_ne]; omega
            have g60 : ¬ (60 : Int) < (v : Int) := by omega
            by_cases h48 : c0 = 48
            · exfalso
              omega
            · have g48 : ((c0 : Int) == 48) = false := by rw [beq_eq_false_iff_ne]; omega
              clear hgood hsome HNUM hkj2 h48
              go_wp2_with (go_at_call 55; refine (within_any _ _ _ _).mono ?_; rintro e wi ⟨rfl, rfl⟩)
              refine (CA0.out _ hq).mono ?_
              rintro e w5 ⟨rfl, hq5⟩
              go_wp2
              go_ret2
              exact ⟨Or.inl ⟨v, m, by rw [HE.out, HMM.out], rfl⟩, hq.trans hq5⟩
        · rcases HNUM.out with ⟨hbad, hnone⟩ | ⟨hgood, hsome⟩
          · have HE := hid hnone
            by_cases h0 : j = 0
            · have g0 : ((m : Int) == (k : Int)) = true := by rw [beq_iff_eq]; omega
              clear hbad hnone h0 HNUM hkj2
              go_wp2_with (go_at_call 55; refine (within_any _ _ _ _).mono ?_; rintro e wi ⟨rfl, rfl⟩)
              go_wp2
              go_ret2
              exact ⟨Or.inr ⟨HE.out, _, rfl⟩, hq⟩
            · have g0 : ((m : Int) == (k : Int)) = false := by rw [beq_eq_false_iff_ne]; omega
              by_cases h60 : 60 < v
              · have g60 : (60 : Int) < (v : Int) := by omega
                clear hbad hnone h0 HNUM hkj2
                go_wp2_with (go_at_call 55; refine (within_any _ _ _ _).mono ?_; rintro e wi ⟨rfl, rfl⟩)
                go_wp2
                go_ret2
                exact ⟨Or.inr ⟨HE.out, _, rfl⟩, hq⟩
              · have g60 : ¬ (60 : Int) < (v : Int) := by omega
                have hb2 : c0 = 48 ∧ 1 < j := by omega
                have g48 : ((c0 : Int) == 48) = true := by rw [beq_iff_eq]; omega
                have gk : (k : Int) + 1 < (m : Int) := by omega
                clear hbad hnone h0 HNUM hkj2 hb2
                go_wp2_with (go_at_call 55; refine (within_any _ _ _ _).mono ?_; rintro e wi ⟨rfl, rfl⟩)
                refine (CA0.out _ hq).mono ?_
                rintro e w5 ⟨rfl, hq5⟩
                go_wp2
                go_ret2
                exact ⟨Or.inr ⟨HE.out, _, rfl⟩, hq.trans hq5⟩
          · have HE := hid hsome
            have g0 : ((m : Int) == (k : Int)) = false := by rw [beq_eq_false_iff_ne]; omega
            have g60 : ¬ (60 : Int) < (v : Int) := by omega
            by_cases h48 : c0 = 48
            · exfalso
              omega
            · have g48 : ((c0 : Int) == 48) = false := by rw [beq_eq_false_iff_ne]; omega
              clear hgood hsome HNUM hkj2 h48
              go_wp2_with (go_at_call 55; refine (within_any _ _ _ _).mono ?_; rintro e wi ⟨rfl, rfl⟩)
              refine (CA0.out _ hq).mono ?_
              rintro e w5 ⟨rfl, hq5⟩
              go_wp2
              go_ret2
              exact ⟨Or.inl ⟨v, m, by rw [HE.out, HMM.out], rfl⟩, hq.trans hq5⟩
/-- what stands behind a curly bracket -/
def timesB (l : List Nat) (i : Nat) : Option (Int × Int × Nat) :=
  match numAt l (i + 1) with
    | none => none
    | some (lo, k) =>
      if gN l k = 44 then
        if gN l (k + 1) = 125 then some (lo, -1, k + 2)
        else match numAt l (k + 1) with
          | none => none
          | some (hi, m) => if hi < lo then none else if gN l m = 125 then some (lo, hi, m + 1) else none
      else if gN l k = 125 then some (lo, lo, k + 1) else none
theorem timesB_none {l : List Nat} {i : Nat} (h : numAt l (i + 1) = none) : timesB l i = none := by unfold timesB; rw [h]
theorem timesB_open {l : List Nat} {i lo q : Nat} (h : numAt l (i + 1) = some (lo, i + q)) (h1 : gN l (i + q) = 44) (h2 : gN l (i + q + 1) = 125) : timesB l i = some ((lo : Int), -1, i + (q + 2)) := by
  unfold timesB; rw [h]; simp only; rw [if_pos h1, if_pos h2]; rfl
theorem timesB_hi_none {l : List Nat} {i lo q : Nat} (h : numAt l (i + 1) = some (lo, i + q)) (h1 : gN l (i + q) = 44) (h2 : gN l (i + q + 1) ≠ 125) (h3 : numAt l (i + q + 1) = none) : timesB l i = none := by
  unfold timesB; rw [h]; simp only; rw [if_pos h1, if_neg h2, h3]
theorem timesB_hi_less {l : List Nat} {i lo q hi m : Nat} (h : numAt l (i + 1) = some (lo, i + q)) (h1 : gN l (i + q) = 44) (h2 : gN l (i + q + 1) ≠ 125) (h3 : numAt l (i + q + 1) = some (hi, m)) (h4 : hi < lo) : timesB l i = none := by
  unfold timesB; rw [h]; simp only; rw [if_pos h1, if_neg h2, h3]; simp only; rw [if_pos h4]
theorem timesB_hi_ok {l : List Nat} {i lo q hi r : Nat} (h : numAt l (i + 1) = some (lo, i + q)) (h1 : gN l (i + q) = 44) (h2 : gN l (i + q + 1) ≠ 125) (h3 : numAt l (i + q + 1) = some (hi, i + r)) (h4 : ¬ hi < lo) (h5 : gN l (i + r) = 125) : timesB l i = some ((lo : Int), (hi : Int), i + (r + 1)) := by
  unfold timesB; rw [h]; simp only; rw [if_pos h1, if_neg h2, h3]; simp only; rw [if_neg h4, if_pos h5]; rfl
theorem timesB_hi_bad {l : List Nat} {i lo q hi r : Nat} (h : numAt l (i + 1) = some (lo, i + q)) (h1 : gN l (i + q) = 44) (h2 : gN l (i + q + 1) ≠ 125) (h3 : numAt l (i + q + 1) = some (hi, i + r)) (h4 : ¬ hi < lo) (h5 : ¬ gN l (i + r) = 125) : timesB l i = none := by
  unfold timesB; rw [h]; simp only; rw [if_pos h1, if_neg h2, h3]; simp only; rw [if_neg h4, if_neg h5]
theorem timesB_one {l : List Nat} {i lo q : Nat} (h : numAt l (i + 1) = some (lo, i + q)) (h1 : gN l (i + q) = 125) : timesB l i = some ((lo : Int), (lo : Int), i + (q + 1)) := by
  unfold timesB; rw [h]; simp only; rw [if_neg (by omega), if_pos h1]; rfl
theorem timesB_bad {l : List Nat} {i lo q : Nat} (h : numAt l (i + 1) = some (lo, i + q)) (h1 : ¬ gN l (i + q) = 44) (h2 : ¬ gN l (i + q) = 125) : timesB l i = none := by
  unfold timesB; rw [h]; simp only; rw [if_neg h1, if_neg h2]
set_option maxHeartbeats 8000000 in
theorem implTimes {g cap i d : Nat} {a : Option Addr} {l : List Nat} {nv : Value} (w : World) (hb : w.heap[g]? = some (.cells #[.slice a l.length cap, .int .i64 (i : Int), .int .i64 (d : Int), nv] 101 (0, 0)))
    (hL : RxL w g a l) (hi : i ≤ 1000) (ht : timesN (gN l i) = true) :
    Calls Tryz.prog 208 #[.pointer (some ⟨g, 0, none⟩)] w fun e w' => TimesE l i e ∧ Qt w w' := by
  have CA := hid (fun (m : Nat) (w' : World) (hq : Qt w w') (hm : m ≤ 2000) => implAhead (k := m) w' (hq.at hb) (hL.qt hq) (by omega) hm)
  have CX := hid (fun (w' : World) (hq : Qt w w') => implNext w' (hq.at hb) (hL.qt hq) (by omega))
  have CN := hid (fun (m : Nat) (w' : World) (hq : Qt w w') (hm : m ≤ 1200) => implNumber m w' (hq.at hb) (hL.qt hq) (by omega) hm)
  have hlen := hL.len
  have hcase : gN l i = 42 ∨ gN l i = 43 ∨ gN l i = 63 ∨ gN l i = 123 := by
    unfold timesN at ht
    simp only [Bool.or_eq_true, beq_iff_eq] at ht
    omega
  clear hb hL ht
  unfold TimesE
  rcases hcase with h | h | h | h
  · have HR := hid (show timesAt l i = some (0, -1, i + 1) by unfold timesAt; rw [if_pos h])
    rw [HR.out]
    rw [h] at CX
    clear h
    go_enter Tryz.func208, Tryz.ntmps208
    go_wp2_with fail
    refine (CX.out _ (Qt.refl _)).mono ?_
    rintro e w1 ⟨rfl, hq1⟩
    go_wp2
    go_ret3
    exact ⟨Or.inl ⟨0, -1, 1, rfl, by decide, rfl⟩, hq1⟩
  · have HR := hid (show timesAt l i = some (1, -1, i + 1) by unfold timesAt; rw [if_neg (by omega), if_pos h])
    rw [HR.out]
    rw [h] at CX
    clear h
    go_enter Tryz.func208, Tryz.ntmps208
    go_wp2_with fail
    refine (CX.out _ (Qt.refl _)).mono ?_
    rintro e w1 ⟨rfl, hq1⟩
    go_wp2
    go_ret3
    exact ⟨Or.inl ⟨1, -1, 1, rfl, by decide, rfl⟩, hq1⟩
  · have HR := hid (show timesAt l i = some (0, 1, i + 1) by unfold timesAt; rw [if_neg (by omega), if_neg (by omega), if_pos h])
    rw [HR.out]
    rw [h] at CX
    clear h
    go_enter Tryz.func208, Tryz.ntmps208
    go_wp2_with fail
    refine (CX.out _ (Qt.refl _)).mono ?_
    rintro e w1 ⟨rfl, hq1⟩
    go_wp2
    go_ret3
    exact ⟨Or.inl ⟨0, 1, 1, rfl, by decide, rfl⟩, hq1⟩
  · have hR : timesAt l i = timesB l i := by unfold timesAt; rw [if_neg (by omega), if_neg (by omega), if_neg (by omega)]; rfl
    rw [hR]
    have HU := hid (show timesB l i = timesB l i from rfl)
    rw [h] at CX
    clear h hR
    go_enter Tryz.func208, Tryz.ntmps208
    go_wp2_with fail
    refine (CX.out _ (Qt.refl _)).mono ?_
    rintro e w1 ⟨rfl, hq1⟩
    go_wp2_with fail
    refine (CN.out 1 _ hq1 (by decide)).mono ?_
    rintro e w2 ⟨he, hq2⟩
    have hqA := hq1.trans hq2
    clear hq1 hq2
    rcases he with ⟨lo, q, hn, rfl⟩ | ⟨hn, b, rfl⟩
    rotate_left
    · have HR := hid (timesB_none hn)
      clear hn
      go_wp2
      go_ret3
      exact ⟨Or.inr ⟨HR.out, rfl⟩, hqA⟩
    · have hin := numAt_in hn
      have h1 : ¬ (lo : Int) < 0 := by omega
      have hq200 : q ≤ 1000 := by omega
      have hq0 : 0 < q := by omega
      have HN := hid hn
      have CAq := hid (fun (w' : World) (hq : Qt w w') => CA.out q w' hq (by omega))
      have CAq1 := hid (fun (w' : World) (hq : Qt w w') => CA.out (q + 1) w' hq (by omega))
      rw [show ((q + 1 : Nat) : Int) = (q : Int) + 1 by omega] at CAq1
      clear hn hin
      by_cases h44 : gN l (i + q) = 44
      · rw [h44] at CAq
        by_cases h125 : gN l (i + (q + 1)) = 125
        · rw [h125] at CAq1
          have HR := hid (timesB_open HN.out h44 (by rw [Nat.add_assoc]; exact h125))
          clear h44 h125
          go_wp2_with fail
          refine (CAq.out _ hqA).mono ?_
          rintro e w3 ⟨rfl, hq3⟩
          go_wp2_with fail
          refine (CAq1.out _ (hqA.trans hq3)).mono ?_
          rintro e w4 ⟨rfl, hq4⟩
          go_wp2_with fail
          refine (CAq1.out _ ((hqA.trans hq3).trans hq4)).mono ?_
          rintro e w5 ⟨rfl, hq5⟩
          go_wp2
          go_ret3
          exact ⟨Or.inl ⟨lo, -1, q + 2, HR.out, by omega, by first | rfl | (congr 4; omega)⟩, ((hqA.trans hq3).trans hq4).trans hq5⟩
        · have g125 : ((gN l (i + (q + 1)) : Int) == 125) = false := by rw [beq_eq_false_iff_ne]; omega
          have g125b : ((gN l (i + (q + 1)) : Int) != 125) = true := by rw [bne, g125]; rfl
          have CNq := hid (fun (w' : World) (hq : Qt w w') => CN.out (q + 1) w' hq (by omega))
          rw [show ((q + 1 : Nat) : Int) = (q : Int) + 1 by omega] at CNq
          obtain ⟨c, hc⟩ : ∃ c, gN l (i + (q + 1)) = c := ⟨_, rfl⟩
          rw [hc] at CAq1 g125 g125b
          have HC := hid (show gN l (i + q + 1) ≠ 125 by rw [Nat.add_assoc]; exact h125)
          have H44 := hid h44
          clear h44 h125 hc
          go_wp2_with fail
          refine (CAq.out _ hqA).mono ?_
          rintro e w3 ⟨rfl, hq3⟩
          go_wp2_with fail
          refine (CAq1.out _ (hqA.trans hq3)).mono ?_
          rintro e w4 ⟨rfl, hq4⟩
          have hqB := (hqA.trans hq3).trans hq4
          clear hqA hq3 hq4
          go_wp2_with fail
          refine (CNq.out _ hqB).mono ?_
          rintro e w5 ⟨he, hq5⟩
          have hqC := hqB.trans hq5
          clear hqB hq5
          rcases he with ⟨hi2, r, hn, rfl⟩ | ⟨hn, b, rfl⟩
          rotate_left
          · have HR := hid (timesB_hi_none HN.out H44.out HC.out (by rw [Nat.add_assoc]; exact hn))
            have hlt : (-1 : Int) < (lo : Int) := by omega
            clear hn
            go_wp2
            go_ret3
            exact ⟨Or.inr ⟨HR.out, rfl⟩, hqC⟩
          · have hin := numAt_in hn
            by_cases hlt : hi2 < lo
            · have HR := hid (timesB_hi_less HN.out H44.out HC.out (by rw [Nat.add_assoc]; exact hn) hlt)
              have hlti : (hi2 : Int) < (lo : Int) := by omega
              clear hn hin hlt
              go_wp2
              go_ret3
              exact ⟨Or.inr ⟨HR.out, rfl⟩, hqC⟩
            · have hlti : ¬ (hi2 : Int) < (lo : Int) := by omega
              have CAr := hid (fun (w' : World) (hq : Qt w w') => CA.out r w' hq (by omega))
              have hr1 : r ≤ 1000 := by omega
              have hr0 : 0 < r := by omega
              by_cases hend : gN l (i + r) = 125
              · have HR := hid (timesB_hi_ok HN.out H44.out HC.out (by rw [Nat.add_assoc]; exact hn) hlt hend)
                rw [hend] at CAr
                clear hn hin hlt hend
                go_wp2_with fail
                refine (CAr.out _ hqC).mono ?_
                rintro e w6 ⟨rfl, hq6⟩
                go_wp2
                go_ret3
                exact ⟨Or.inl ⟨lo, hi2, r + 1, HR.out, by omega, by first | rfl | (congr 4; omega)⟩, hqC.trans hq6⟩
              · have HR := hid (timesB_hi_bad HN.out H44.out HC.out (by rw [Nat.add_assoc]; exact hn) hlt hend)
                have gb : ((gN l (i + r) : Int) == 125) = false := by rw [beq_eq_false_iff_ne]; omega
                have gb2 : ((gN l (i + r) : Int) != 125) = true := by rw [bne, gb]; rfl
                clear hn hin hlt hend
                go_wp2_with fail
                refine (CAr.out _ hqC).mono ?_
                rintro e w6 ⟨rfl, hq6⟩
                go_wp2
                go_ret3
                exact ⟨Or.inr ⟨HR.out, rfl⟩, hqC.trans hq6⟩
      · have g44 : ((gN l (i + q) : Int) == 44) = false := by rw [beq_eq_false_iff_ne]; omega
        by_cases hend : gN l (i + q) = 125
        · have HR := hid (timesB_one HN.out hend)
          rw [hend] at CAq
          clear hend h44 g44
          go_wp2_with fail
          refine (CAq.out _ hqA).mono ?_
          rintro e w3 ⟨rfl, hq3⟩
          go_wp2_with fail
          refine (CAq.out _ (hqA.trans hq3)).mono ?_
          rintro e w4 ⟨rfl, hq4⟩
          go_wp2
          go_ret3
          exact ⟨Or.inl ⟨lo, lo, q + 1, HR.out, by omega, by first | rfl | (congr 4; omega)⟩, (hqA.trans hq3).trans hq4⟩
        · have HR := hid (timesB_bad HN.out h44 hend)
          have gb : ((gN l (i + q) : Int) == 125) = false := by rw [beq_eq_false_iff_ne]; omega
          have gb2 : ((gN l (i + q) : Int) != 125) = true := by rw [bne, gb]; rfl
          clear hend h44
          go_wp2_with fail
          refine (CAq.out _ hqA).mono ?_
          rintro e w3 ⟨rfl, hq3⟩
          go_wp2_with fail
          refine (CAq.out _ (hqA.trans hq3)).mono ?_
          rintro e w4 ⟨rfl, hq4⟩
          go_wp2
          go_ret3
          exact ⟨Or.inr ⟨HR.out, rfl⟩, (hqA.trans hq3).trans hq4⟩
end Go.Proofs.YtomcoilmpkpoeaaGreatDoor

namespace Go.Proofs.YtomcoilmpkpoeaaGreatDoor
open Go.RowKit
set_option linter.unusedVariables false
set_option linter.unusedSimpArgs false

theorem Kp.weak {g : Nat} {r : Option Nat} {w w' : World} (h : Kp g none w w') : Kp g r w w' := ⟨h.os, h.tape, h.output, h.size, fun b hb hg _ => h.block b hb hg (by simp)⟩
theorem blk4_set {w : World} {g o : Nat} {x0 x1 x2 x3 : Value} {t : TypeId} (v : Value) (h : w.heap[g]? = some (.cells #[x0, x1, x2, x3] t (0, 0))) :
    (w.setCell ⟨g, o, none⟩ v).heap[g]? = some (.cells (#[x0, x1, x2, x3].setIfInBounds o v) t (0, 0)) := heap_setCell_same w g o _ _ v h
/-- a reader that has come on, and an answer of two ints -/
def OneE (w w' : World) (g cap d : Nat) (a : Option Addr) (l : List Nat) (nv : Value) (i : Nat) (r : Option (Nat × Nat)) (e : Ending) : Prop :=
  (∃ c j, r = some (c, j) ∧ e = .returned (.tuple #[.int .i64 (c : Int), .int .i64 0]) ∧ w'.heap[g]? = some (.cells #[.slice a l.length cap, .int .i64 ((j : Nat) : Int), .int .i64 (d : Int), nv] 101 (0, 0))) ∨ (r = none ∧ (∃ x : Int, e = .returned (.tuple #[.int .i64 x, .int .i64 6])) ∧ w'.heap[g]? = some (.cells #[.slice a l.length cap, .int .i64 ((i : Nat) : Int), .int .i64 (d : Int), nv] 101 (0, 0)))
def escR (l : List Nat) (i : Nat) : Option (Nat × Nat) := match escAt l i with | none => none | some c => some (c, i + 2)
set_option maxHeartbeats 8000000 in
theorem implEscape {g cap i d : Nat} {a : Option Addr} {l : List Nat} {nv : Value} (w : World) (hb : w.heap[g]? = some (.cells #[.slice a l.length cap, .int .i64 (i : Int), .int .i64 (d : Int), nv] 101 (0, 0)))
    (hL : RxL w g a l) (hi : i ≤ 1000) :
    Calls Tryz.prog 222 #[.pointer (some ⟨g, 0, none⟩)] w fun e w' => OneE w w' g cap d a l nv i (escR l i) e ∧ Kp g none w w' := by
  have CA := hid (fun (w' : World) (hq : Qt w w') => implAhead (k := 1) w' (hq.at hb) (hL.qt hq) (by omega) (by decide))
  have HB := hid hb
  have hc4 := gN_le hL.pts (i + 1)
  obtain ⟨R, hR⟩ : ∃ r, escR l i = r := ⟨_, rfl⟩
  rw [hR]
  unfold escR escAt at hR
  obtain ⟨c, hc⟩ : ∃ c, gN l (i + 1) = c := ⟨_, rfl⟩
  rw [hc] at hR CA hc4
  have hw : IntKind.i64.wrap ((i : Int) + 2) = (i : Int) + 2 := IntWalk.i64_in _ (by omega)
  clear hb hL hc
  unfold OneE
  by_cases h1 : c = 110
  · subst h1
    have HR := hid (show R = some (10, i + 2) from hR.symm)
    clear hR
    go_enter Tryz.func222, Tryz.ntmps222
    go_wp2_with fail
    refine (CA.out _ (Qt.refl _)).mono ?_
    rintro e w1 ⟨rfl, hq1⟩
    have hb1 := hq1.at HB.out
    obtain ⟨c0, c1, c2, c3, y0, y1, y2, y3, hl⟩ := blk4 hb1
    have HN := hid (blk4_set (o := 1) (.int .i64 ((i + 2 : Nat) : Int)) hb1)
    rw [show ((i + 2 : Nat) : Int) = (i : Int) + 2 by omega] at HN
    clear hb1
    go_wp2_with (go_at_call 55; refine (within_any _ _ _ _).mono ?_; rintro e wi ⟨rfl, rfl⟩)
    go_ret2
    exact ⟨Or.inl ⟨10, i + 2, HR.out, rfl, by rw [show ((i + 2 : Nat) : Int) = (i : Int) + 2 by omega]; exact HN.out⟩, (hq1.kp).set 1 _⟩
  by_cases h2 : c = 116
  · subst h2
    have HR := hid (show R = some (9, i + 2) from hR.symm)
    clear hR
    go_enter Tryz.func222, Tryz.ntmps222
    go_wp2_with fail
    refine (CA.out _ (Qt.refl _)).mono ?_
    rintro e w1 ⟨rfl, hq1⟩
    have hb1 := hq1.at HB.out
    obtain ⟨c0, c1, c2, c3, y0, y1, y2, y3, hl⟩ := blk4 hb1
    have HN := hid (blk4_set (o := 1) (.int .i64 ((i + 2 : Nat) : Int)) hb1)
    rw [show ((i + 2 : Nat) : Int) = (i : Int) + 2 by omega] at HN
    clear hb1
    go_wp2_with (go_at_call 55; refine (within_any _ _ _ _).mono ?_; rintro e wi ⟨rfl, rfl⟩)
    go_ret2
    exact ⟨Or.inl ⟨9, i + 2, HR.out, rfl, by rw [show ((i + 2 : Nat) : Int) = (i : Int) + 2 by omega]; exact HN.out⟩, (hq1.kp).set 1 _⟩
  by_cases h3 : c = 114
  · subst h3
    have HR := hid (show R = some (13, i + 2) from hR.symm)
    clear hR
    go_enter Tryz.func222, Tryz.ntmps222
    go_wp2_with fail
    refine (CA.out _ (Qt.refl _)).mono ?_
    rintro e w1 ⟨rfl, hq1⟩
    have hb1 := hq1.at HB.out
    obtain ⟨c0, c1, c2, c3, y0, y1, y2, y3, hl⟩ := blk4 hb1
    have HN := hid (blk4_set (o := 1) (.int .i64 ((i + 2 : Nat) : Int)) hb1)
    rw [show ((i + 2 : Nat) : Int) = (i : Int) + 2 by omega] at HN
    clear hb1
    go_wp2_with (go_at_call 55; refine (within_any _ _ _ _).mono ?_; rintro e wi ⟨rfl, rfl⟩)
    go_ret2
    exact ⟨Or.inl ⟨13, i + 2, HR.out, rfl, by rw [show ((i + 2 : Nat) : Int) = (i : Int) + 2 by omega]; exact HN.out⟩, (hq1.kp).set 1 _⟩
  rw [if_neg h1, if_neg h2, if_neg h3] at hR
  have g1 : ((c : Int) == 110) = false := by rw [beq_eq_false_iff_ne]; omega
  have g2 : ((c : Int) == 116) = false := by rw [beq_eq_false_iff_ne]; omega
  have g3 : ((c : Int) == 114) = false := by rw [beq_eq_false_iff_ne]; omega
  have hB1 : (48 ≤ c ∧ c ≤ 57 → inB 48 (c : Int) 57 = true) ∧ (¬ (48 ≤ c ∧ c ≤ 57) → inB 48 (c : Int) 57 = false) := ⟨fun h => inB_true (by omega), fun h => inB_false (by omega)⟩
  have hB2 : (65 ≤ c ∧ c ≤ 90 → inB 65 (c : Int) 90 = true) ∧ (¬ (65 ≤ c ∧ c ≤ 90) → inB 65 (c : Int) 90 = false) := ⟨fun h => inB_true (by omega), fun h => inB_false (by omega)⟩
  have hB3 : (97 ≤ c ∧ c ≤ 122 → inB 97 (c : Int) 122 = true) ∧ (¬ (97 ≤ c ∧ c ≤ 122) → inB 97 (c : Int) 122 = false) := ⟨fun h => inB_true (by omega), fun h => inB_false (by omega)⟩
  by_cases hz : c = 0
  · subst hz
    have HR := hid (show R = none from hR.symm)
    clear hR hB1 hB2 hB3
    go_enter Tryz.func222, Tryz.ntmps222
    go_wp2_with fail
    refine (CA.out _ (Qt.refl _)).mono ?_
    rintro e w1 ⟨rfl, hq1⟩
    have hb1 := hq1.at HB.out
    obtain ⟨c0, c1, c2, c3, y0, y1, y2, y3, hl⟩ := blk4 hb1
    have HN := hid hb1
    clear hb1
    go_wp2_with (go_at_call 55; refine (within_any _ _ _ _).mono ?_; rintro e wi ⟨rfl, rfl⟩)
    go_ret2
    exact ⟨Or.inr ⟨HR.out, ⟨_, rfl⟩, HN.out⟩, hq1.kp⟩
  have g4 : ((c : Int) == 0) = false := by rw [beq_eq_false_iff_ne]; omega
  by_cases hd1 : 48 ≤ c ∧ c ≤ 57
  · have HR := hid (show R = none by rw [← hR, if_pos (Or.inr (Or.inl hd1))])
    have b1 := hB1.1 hd1
    clear hR hB1 hB2 hB3 hd1
    go_enter Tryz.func222, Tryz.ntmps222
    go_wp2_with fail
    refine (CA.out _ (Qt.refl _)).mono ?_
    rintro e w1 ⟨rfl, hq1⟩
    have hb1 := hq1.at HB.out
    obtain ⟨c0, c1, c2, c3, y0, y1, y2, y3, hl⟩ := blk4 hb1
    have HN := hid hb1
    clear hb1
    go_wp2_with (go_at_call 55; refine (within_any _ _ _ _).mono ?_; rintro e wi ⟨rfl, rfl⟩)
    go_ret2
    exact ⟨Or.inr ⟨HR.out, ⟨_, rfl⟩, HN.out⟩, hq1.kp⟩
  have b1 := hB1.2 hd1
  by_cases hd2 : 65 ≤ c ∧ c ≤ 90
  · have HR := hid (show R = none by rw [← hR, if_pos (Or.inr (Or.inr (Or.inl hd2)))])
    have b2 := hB2.1 hd2
    clear hR hB1 hB2 hB3 hd1 hd2
    go_enter Tryz.func222, Tryz.ntmps222
    go_wp2_with fail
    refine (CA.out _ (Qt.refl _)).mono ?_
    rintro e w1 ⟨rfl, hq1⟩
    have hb1 := hq1.at HB.out
    obtain ⟨c0, c1, c2, c3, y0, y1, y2, y3, hl⟩ := blk4 hb1
    have HN := hid hb1
    clear hb1
    go_wp2_with (go_at_call 55; refine (within_any _ _ _ _).mono ?_; rintro e wi ⟨rfl, rfl⟩)
    go_ret2
    exact ⟨Or.inr ⟨HR.out, ⟨_, rfl⟩, HN.out⟩, hq1.kp⟩
  have b2 := hB2.2 hd2
  by_cases hd3 : 97 ≤ c ∧ c ≤ 122
  · have HR := hid (show R = none by rw [← hR, if_pos (Or.inr (Or.inr (Or.inr hd3)))])
    have b3 := hB3.1 hd3
    clear hR hB1 hB2 hB3 hd1 hd2 hd3
    go_enter Tryz.func222, Tryz.ntmps222
    go_wp2_with fail
    refine (CA.out _ (Qt.refl _)).mono ?_
    rintro e w1 ⟨rfl, hq1⟩
    have hb1 := hq1.at HB.out
    obtain ⟨c0, c1, c2, c3, y0, y1, y2, y3, hl⟩ := blk4 hb1
    have HN := hid hb1
    clear hb1
    go_wp2_with (go_at_call 55; refine (within_any _ _ _ _).mono ?_; rintro e wi ⟨rfl, rfl⟩)
    go_ret2
    exact ⟨Or.inr ⟨HR.out, ⟨_, rfl⟩, HN.out⟩, hq1.kp⟩
  have b3 := hB3.2 hd3
  have HR := hid (show R = some (c, i + 2) by rw [← hR, if_neg (by simp only [not_or]; exact ⟨hz, hd1, hd2, hd3⟩)])
  clear hR hB1 hB2 hB3 hd1 hd2 hd3 h1 h2 h3 hz
  go_enter Tryz.func222, Tryz.ntmps222
  go_wp2_with fail
  refine (CA.out _ (Qt.refl _)).mono ?_
  rintro e w1 ⟨rfl, hq1⟩
  have hb1 := hq1.at HB.out
  obtain ⟨c0, c1, c2, c3, y0, y1, y2, y3, hl⟩ := blk4 hb1
  have HN := hid (blk4_set (o := 1) (.int .i64 ((i + 2 : Nat) : Int)) hb1)
  rw [show ((i + 2 : Nat) : Int) = (i : Int) + 2 by omega] at HN
  clear hb1
  go_wp2_with (go_at_call 55; refine (within_any _ _ _ _).mono ?_; rintro e wi ⟨rfl, rfl⟩)
  go_ret2
  exact ⟨Or.inl ⟨c, i + 2, HR.out, rfl, by rw [show ((i + 2 : Nat) : Int) = (i : Int) + 2 by omega]; exact HN.out⟩, (hq1.kp).set 1 _⟩
set_option maxHeartbeats 8000000 in
theorem implEnd {g cap i d : Nat} {a : Option Addr} {l : List Nat} {nv : Value} (w : World) (hb : w.heap[g]? = some (.cells #[.slice a l.length cap, .int .i64 (i : Int), .int .i64 (d : Int), nv] 101 (0, 0)))
    (hL : RxL w g a l) (hi : i < l.length) :
    Calls Tryz.prog 233 #[.pointer (some ⟨g, 0, none⟩)] w fun e w' => OneE w w' g cap d a l nv i (oneAt l i) e ∧ Kp g none w w' := by
  have hlen := hL.len
  have CX := hid (implNext w hb hL (by omega))
  have CE := hid (fun (w' : World) (hq : Qt w w') => implEscape w' (hq.at hb) (hL.qt hq) (by omega))
  have HB := hid hb
  by_cases h : gN l i = 92
  · have HR := hid (show oneAt l i = escR l i by unfold oneAt escR; rw [if_pos h] <;> (cases escAt l i <;> rfl))
    rw [h] at CX
    rw [HR.out]
    clear hb h
    unfold OneE at CE
    unfold OneE
    go_enter Tryz.func233, Tryz.ntmps233
    go_wp2_with fail
    refine CX.out.mono ?_
    rintro e w1 ⟨rfl, hq1⟩
    go_wp2_with fail
    refine (CE.out _ hq1).mono ?_
    rintro e w2 ⟨he, hk2⟩
    rcases he with ⟨c, j, h1, rfl, h2⟩ | ⟨h1, ⟨x, rfl⟩, h2⟩
    · have H1 := hid h1
      have H2 := hid h2
      clear h1 h2
      go_wp2
      go_ret2
      exact ⟨Or.inl ⟨c, j, H1.out, rfl, H2.out⟩, (hq1.kp).trans hk2 (RowOn.refl _ _)⟩
    · have H1 := hid h1
      have H2 := hid h2
      clear h1 h2
      go_wp2
      go_ret2
      exact ⟨Or.inr ⟨H1.out, ⟨x, rfl⟩, H2.out⟩, (hq1.kp).trans hk2 (RowOn.refl _ _)⟩
  · have HR := hid (show oneAt l i = some (gN l i, i + 1) by unfold oneAt; rw [if_neg h])
    rw [HR.out]
    have g1 : ((gN l i : Int) == 92) = false := by rw [beq_eq_false_iff_ne]; omega
    have hcle := gN_le hL.pts i
    obtain ⟨lb, lo, rfl, hlb, hcl⟩ := hL.cel (by omega)
    have hcell := hcl i hi
    rw [← gN_at hi] at hcell
    obtain ⟨c, hc⟩ : ∃ c, gN l i = c := ⟨_, rfl⟩
    rw [hc] at CX g1 hcle hcell ⊢
    have hw : IntKind.i64.wrap ((i : Int) + 1) = (i : Int) + 1 := IntWalk.i64_in _ (by omega)
    have hw2 : IntKind.i64.wrap ((i : Int) + 1 - 1) = (i : Int) := by rw [show (i : Int) + 1 - 1 = (i : Int) by omega]; exact IntWalk.i64_in _ (by omega)
    have hw3 : IntKind.i64.wrap (i : Int) = (i : Int) := IntWalk.i64_in _ (by omega)
    have hi0 : (0 : Int) ≤ (i : Int) := by omega
    have hi1 : (i : Int) < (l.length : Int) := by omega
    have hlg : ¬ lb = g := by omega
    have HCELL := hid hcell
    clear hb h hc hcl hL CE hcell
    unfold OneE
    go_enter Tryz.func233, Tryz.ntmps233
    go_wp2_with fail
    refine CX.out.mono ?_
    rintro e w1 ⟨rfl, hq1⟩
    have hb1 := hq1.at HB.out
    have hcell1 : w1.cell? ⟨lb, lo + i, none⟩ = some (.int .i64 (c : Int)) := by
      obtain ⟨m, rfl⟩ := hq1
      exact HCELL.out
    obtain ⟨c0, c1, c2, c3, y0, y1, y2, y3, hl⟩ := blk4 hb1
    have HN := hid (blk4_set (o := 1) (.int .i64 ((i + 1 : Nat) : Int)) hb1)
    rw [show ((i + 1 : Nat) : Int) = (i : Int) + 1 by omega] at HN
    clear hb1
    go_wp2_with fail
    go_quiet (fail)
    go_wp2
    go_ret2
    refine ⟨Or.inl ⟨c, i + 1, rfl, rfl, ?_⟩, ((hq1.kp).set 1 _).drewN _⟩
    rw [show ((i + 1 : Nat) : Int) = (i : Int) + 1 by omega]
    exact HN.out
end Go.Proofs.YtomcoilmpkpoeaaGreatDoor

namespace Go.Proofs.YtomcoilmpkpoeaaGreatDoor
open Go.RowKit
set_option linter.unusedVariables false
set_option linter.unusedSimpArgs false

/-- the nodes that a reader has made -/
def RxNs (X : Nat → Prop) (g : Nat) (nv : Value) (w : World) (ns : List RxNode) : Prop := ∃ css : List (List Value), w.ownsRow (g + 1) 82 6 nv ns.length css.flatten ∧ Each (Beside X g nv.ownBlock w) w css ns
theorem RxNs.kp {X : Nat → Prop} {g : Nat} {nv : Value} {w w' : World} {ns : List RxNode} (h : RxNs X g nv w ns) (k : Kp g none w w') : RxNs X g nv w' ns := by
  obtain ⟨css, h1, h2⟩ := h
  exact ⟨css, k.row h1 (fun b _ => by simp), (k.weak (r := nv.ownBlock)).each (RowOn.refl _ _) h2⟩
theorem info_rxn : (Tryz.prog.info? 82).map (fun i => (i.zero, i.size, i.bytes)) = some (some (.agg #[.int .i64 0, .int .i64 0, .int .i64 0, .bool false, .slice none 0 0, .slice none 0 0]), 6, 80) := by kernel_rfl
theorem one_rxn (n : RxNode) (a1 a2 : Option Addr) (m1 m2 k1 k2 : Nat) : ∀ u ∈ ([.int .i64 n.kind, .int .i64 n.lo, .int .i64 n.hi, .bool n.neg, .slice a1 m1 k1, .slice a2 m2 k2] : List Value), u.oneCell' = true := by
  intro u hu
  simp only [List.mem_cons, List.not_mem_nil, or_false] at hu
  rcases hu with rfl | rfl | rfl | rfl | rfl | rfl <;> rfl
def implAddNE (X : Nat → Prop) (g i d : Nat) (lv nv : Value) (w w' : World) (ns : List RxNode) (n : RxNode) (e : Ending) : Prop := ∃ nv' : Value, e = .returned (.int .i64 (ns.length : Int)) ∧ w'.heap[g]? = some (.cells #[lv, .int .i64 (i : Int), .int .i64 (d : Int), nv'] 101 (0, 0)) ∧ RxNs X g nv' w' (ns ++ [n]) ∧ RowOn w nv.ownBlock nv'.ownBlock ∧ Kp g nv.ownBlock w w'
set_option maxHeartbeats 16000000 in
set_option maxRecDepth 100000 in
theorem implAddN {X : Nat → Prop} {g i d : Nat} {lv nv : Value} {a1 a2 : Option Addr} {m1 m2 k1 k2 : Nat} {ns : List RxNode} {n : RxNode} (w : World) (hb : w.heap[g]? = some (.cells #[lv, .int .i64 (i : Int), .int .i64 (d : Int), nv] 101 (0, 0)))
    (hn : RxNs X g nv w ns) (hrd : Rd.rd (Beside X g nv.ownBlock w) w [.int .i64 n.kind, .int .i64 n.lo, .int .i64 n.hi, .bool n.neg, .slice a1 m1 k1, .slice a2 m2 k2] n) (hlen : ns.length ≤ 100000) :
    Calls Tryz.prog 160 #[.pointer (some ⟨g, 0, none⟩), .agg #[.int .i64 n.kind, .int .i64 n.lo, .int .i64 n.hi, .bool n.neg, .slice a1 m1 k1, .slice a2 m2 k2]] w fun e w' => implAddNE X g i d lv nv w w' ns n e := by
  obtain ⟨css, hown, heach⟩ := hn
  obtain ⟨ii, hi, hz0, hz1, hz2⟩ := info_parts info_rxn
  have HB := hid hb
  have hl : g < w.heap.size := (Array.getElem?_eq_some_iff.1 hb).1
  have hng : nv.ownBlock ≠ some g := fun e => by have := (hown.lt g e).1; omega
  have hlng : ¬ w.heap.size = g := by omega
  have hlng2 : ¬ g = w.heap.size := by omega
  obtain ⟨c0, c1, c2, c3, y0, y1, y2, y3, _⟩ := blk4 hb
  have HOWN := hid hown
  have HEACH := hid heach
  have HRD := hid hrd
  have HNG := hid hng
  clear hb hown heach hrd hng
  go_enter Tryz.func160, Tryz.ntmps160
  go_wp2_with fail
  refine wp_region_held_drew (S := fun w' => w'.cell? ⟨w.heap.size, 0, none⟩ = some (.int .i64 n.kind) ∧ w'.cell? ⟨w.heap.size, 1, none⟩ = some (.int .i64 n.lo) ∧ w'.cell? ⟨w.heap.size, 2, none⟩ = some (.int .i64 n.hi) ∧ w'.cell? ⟨w.heap.size, 3, none⟩ = some (.bool n.neg) ∧ w'.cell? ⟨w.heap.size, 4, none⟩ = some (.slice a1 m1 k1) ∧ w'.cell? ⟨w.heap.size, 5, none⟩ = some (.slice a2 m2 k2)) (by kernel_rfl) ?_ (fun hHeld => ?_)
  · (refine ⟨?_, ?_, ?_, ?_, ?_, ?_⟩ <;> go_simp)
  refine wpAnyH_take (i := 0) (v := ?_) rfl (by kernel_rfl) (by kernel_rfl) (by kernel_rfl) (fun _ _ _ h => h) (Or.inl ⟨by rfl, ?_⟩) (by assumption) ?_
  rotate_left
  · (intro w' hSw; (try dsimp only at hSw); go_simp; try (with_reducible rfl))
  change wpAnyH _ _ _ _ _ _ _ (Act.put _ (some 5) _) _
  try simp only [Act.put, List.setIfInBounds_toArray, List.set_cons_zero, List.set_cons_succ]
  refine wpAnyH_take (i := 1) (v := ?_) rfl (by kernel_rfl) (by kernel_rfl) (by kernel_rfl) (fun _ _ _ h => h) (Or.inl ⟨by rfl, ?_⟩) (by assumption) ?_
  rotate_left
  · (intro w' hSw; (try dsimp only at hSw); go_simp; try (with_reducible rfl))
  change wpAnyH _ _ _ _ _ _ _ (Act.put _ (some 6) _) _
  try simp only [Act.put, List.setIfInBounds_toArray, List.set_cons_zero, List.set_cons_succ]
  refine wpAnyH_take (i := 2) (v := ?_) rfl (by kernel_rfl) (by kernel_rfl) (by kernel_rfl) (fun _ _ _ h => h) (Or.inl ⟨by rfl, ?_⟩) (by assumption) ?_
  rotate_left
  · (intro w' hSw; (try dsimp only at hSw); go_simp; try (with_reducible rfl))
  change wpAnyH _ _ _ _ _ _ _ (Act.put _ (some 7) _) _
  try simp only [Act.put, List.setIfInBounds_toArray, List.set_cons_zero, List.set_cons_succ]
  refine wpAnyH_take (i := 3) (v := ?_) rfl (by kernel_rfl) (by kernel_rfl) (by kernel_rfl) (fun _ _ _ h => h) (Or.inl ⟨by rfl, ?_⟩) (by assumption) ?_
  rotate_left
  · (intro w' hSw; (try dsimp only at hSw); go_simp; try (with_reducible rfl))
  change wpAnyH _ _ _ _ _ _ _ (Act.put _ (some 8) _) _
  try simp only [Act.put, List.setIfInBounds_toArray, List.set_cons_zero, List.set_cons_succ]
  refine wpAnyH_take (i := 5) (v := ?_) rfl (by kernel_rfl) (by kernel_rfl) (by kernel_rfl) (fun _ _ _ h => h) (Or.inl ⟨by rfl, ?_⟩) (by assumption) ?_
  rotate_left
  · (intro w' hSw; (try dsimp only at hSw); go_simp; try (with_reducible rfl))
  change wpAnyH _ _ _ _ _ _ _ (Act.put _ (some 10) _) _
  try simp only [Act.put, List.setIfInBounds_toArray, List.set_cons_zero, List.set_cons_succ]
  refine wpAnyH_ready (rs := [4, 6]) (by kernel_rfl) (by simp) ?_
  refine AllReadyH.cons (i := 4) rfl (fun K hK => ?_) ?_
  · simp only [List.getElem_toArray, List.getElem_cons_succ, List.getElem_cons_zero]
    rw [if_pos (by rfl)]
    go_simp
    refine hK.out _ _ ?_ (fun hHeld => ?_)
    · first | trivial | ((try dsimp only); exact hHeld)
    clear hK K
    try simp only [Act.put, List.setIfInBounds_toArray, List.set_cons_zero, List.set_cons_succ]
    refine wpAnyH_ready (rs := [6]) (by kernel_rfl) (by simp) ?_
    refine AllReadyH.cons (i := 6) rfl (fun K hK => ?_) AllReadyH.nil
    simp only [List.getElem_toArray, List.getElem_cons_succ, List.getElem_cons_zero]
    rw [if_pos (by rfl)]
    go_simp
    refine hK.out _ _ ?_ (fun hHeld => ?_)
    · first | trivial | ((try dsimp only); (refine ⟨?_, ?_, ?_, ?_, ?_, ?_⟩ <;> go_simp))
    clear hK K
    try simp only [Act.put, List.setIfInBounds_toArray, List.set_cons_zero, List.set_cons_succ]
    refine wpAnyH_ready (rs := [7]) (by kernel_rfl) (by simp) ?_
    refine AllReadyH.cons (i := 7) rfl (fun K hK => ?_) AllReadyH.nil
    simp only [List.getElem_toArray, List.getElem_cons_succ, List.getElem_cons_zero]
    rw [if_pos (by rfl)]
    refine wp_append_lies _ (.tmp 9) (.tmp 11) 27 rfl (g + 1) 82 ii (.agg #[.int .i64 0, .int .i64 0, .int .i64 0, .bool false, .slice none 0 0, .slice none 0 0]) 6 80 Tryz.underlying27 hi hz0 hz1 hz2 rfl (by decide) nv ns.length css.flatten (by first | rfl | simp [Act.eval, Act.put]) ((HOWN.out.alloc _).drew.alloc _) ⟨w.heap.size + 1, 0, none⟩ 1 1 [.int .i64 n.kind, .int .i64 n.lo, .int .i64 n.hi, .bool n.neg, .slice a1 m1 k1, .slice a2 m2 k2] (by first | rfl | simp [Act.eval, Act.put]) rfl (World.news_of_block (B := w.heap.size + 1) (cs := #[.int .i64 n.kind, .int .i64 n.lo, .int .i64 n.hi, .bool n.neg, .slice a1 m1 k1, .slice a2 m2 k2]) (t := 82) (fr := (0, 0)) (by have h0 := heap_alloc_new (w.alloc (.cells #[.int .i64 n.kind, .int .i64 n.lo, .int .i64 n.hi, .bool n.neg, .slice a1 m1 k1, .slice a2 m2 k2] 82)).drew (.cells #[.int .i64 n.kind, .int .i64 n.lo, .int .i64 n.hi, .bool n.neg, .slice a1 m1 k1, .slice a2 m2 k2] 82); rw [show (w.alloc (.cells #[.int .i64 n.kind, .int .i64 n.lo, .int .i64 n.hi, .bool n.neg, .slice a1 m1 k1, .slice a2 m2 k2] 82)).drew.heap.size = w.heap.size + 1 by (show (w.alloc _).heap.size = _; simp)] at h0; exact h0)) (one_rxn n a1 a2 m1 m2 k1 k2) (by decide) (by unfold maxLen; omega) (by omega) (by simp; omega) _ rfl ?_
    intro g4 cap4 w5 hown5 hgrow5 hat5 hlt5
    have hk5 : Kp g nv.ownBlock w w5 := Kp.grown ((((Kp.refl g nv.ownBlock w).alloc _).drew).alloc _) hgrow5
    have hb5 : w5.heap[g]? = some (.cells #[lv, .int .i64 (i : Int), .int .i64 (d : Int), nv] 101 (0, 0)) := (hgrow5.block g (by simp; omega) (fun e => HNG.out e.symm)).trans (by
        show ((w.alloc _).alloc _).heap[g]? = _
        rw [(ext_alloc _ _).block g (by show g < (w.alloc _).heap.size; simp; omega)]
        exact ((ext_alloc w _).block g hl).trans HB.out)
    have hS5 : w5.cell? ⟨w.heap.size, 0, none⟩ = some (.int .i64 n.kind) ∧ w5.cell? ⟨w.heap.size, 1, none⟩ = some (.int .i64 n.lo) ∧ w5.cell? ⟨w.heap.size, 2, none⟩ = some (.int .i64 n.hi) ∧ w5.cell? ⟨w.heap.size, 3, none⟩ = some (.bool n.neg) ∧ w5.cell? ⟨w.heap.size, 4, none⟩ = some (.slice a1 m1 k1) ∧ w5.cell? ⟨w.heap.size, 5, none⟩ = some (.slice a2 m2 k2) := by
        have far : ∀ j, w5.cell? ⟨w.heap.size, j, none⟩ = (w.alloc (.cells #[.int .i64 n.kind, .int .i64 n.lo, .int .i64 n.hi, .bool n.neg, .slice a1 m1 k1, .slice a2 m2 k2] 82)).drew.cell? ⟨w.heap.size, j, none⟩ := fun j => World.cell?_of_block (a := ⟨w.heap.size, j, none⟩) ((hgrow5.block w.heap.size (by simp; omega) (fun e => by have := (HOWN.out.lt _ e.symm).2; omega)).trans ((ext_alloc _ _).block w.heap.size (by show w.heap.size < (w.alloc _).heap.size; simp)))
        refine ⟨?_, ?_, ?_, ?_, ?_, ?_⟩ <;> (rw [far]; go_simp)
    have hro : RowOn w nv.ownBlock (some g4) := by
        rcases hat5 with h | h
        · exact Or.inl h.symm
        · exact Or.inr ⟨g4, rfl, by simp at h; omega⟩
    have hl5 : g < w5.heap.size := Nat.lt_of_lt_of_le hl hk5.size
    obtain ⟨d0, d1, d2, d3, z0, z1, z2, z3, _⟩ := blk4 hb5
    have HOWN5 := hid hown5
    have HB5 := hid hb5
    clear hown5 hgrow5 hat5 hb5
    refine hK.out _ _ ?_ (fun hHeld => ?_)
    · first | trivial | ((try dsimp only); exact hS5)
    clear hK K
    try simp only [Act.put, List.setIfInBounds_toArray, List.set_cons_zero, List.set_cons_succ]
    refine wpAnyH_take (i := 8) (v := ?_) rfl (by kernel_rfl) (by kernel_rfl) (by kernel_rfl) (fun _ _ _ h => h) (Or.inl ⟨by rfl, ?_⟩) (by assumption) ?_
    rotate_left
    · (intro w' hSw; (try dsimp only at hSw); go_simp; try (with_reducible rfl))
    change wpAnyH _ _ _ _ _ _ _ (Act.put _ (some 13) _) _
    try simp only [Act.put, List.setIfInBounds_toArray, List.set_cons_zero, List.set_cons_succ]
    refine wpAnyH_take (i := 9) (v := ?_) rfl (by kernel_rfl) (by kernel_rfl) (by kernel_rfl) (fun _ _ _ h => h) (Or.inl ⟨by rfl, ?_⟩) (by assumption) ?_
    rotate_left
    · (intro w' hSw; (try dsimp only at hSw); go_simp; try (with_reducible rfl))
    change wpAnyH _ _ _ _ _ _ _ (Act.put _ (some 14) _) _
    try simp only [Act.put, List.setIfInBounds_toArray, List.set_cons_zero, List.set_cons_succ]
    refine wpAnyH_ready (rs := [10]) (by kernel_rfl) (by simp) ?_
    refine AllReadyH.cons (i := 10) rfl (fun K hK => ?_) AllReadyH.nil
    simp only [List.getElem_toArray, List.getElem_cons_succ, List.getElem_cons_zero]
    rw [if_pos (by rfl)]
    go_simp
    refine hK.out _ _ ?_ (fun hHeld => ?_)
    · first | trivial | ((try dsimp only); (refine ⟨?_, ?_, ?_, ?_, ?_, ?_⟩ <;> go_simp))
    clear hK K
    try simp only [Act.put, List.setIfInBounds_toArray, List.set_cons_zero, List.set_cons_succ]
    refine wpAnyH_done (by kernel_rfl) ?_ _
    clear hHeld
    have hb6 := blk4_set (o := 3) (.slice (some ⟨g4, 0, none⟩) (ns.length + 1) cap4) HB5.out
    have e0 : w5.setCell ⟨g, 3, none⟩ (.slice (some ⟨g4, 0, none⟩) (ns.length + 1) cap4) = w5.setCell ⟨g, 3, none⟩ (.slice (some ⟨g4, 0, none⟩) (ns.length + 1) cap4) := rfl
    have HB6 := hid hb6
    have hk6 := hk5.set 3 (.slice (some ⟨g4, 0, none⟩) (ns.length + 1) cap4)
    have HO6 := hid (ownsRow_setCell_below (a := ⟨g, 3, none⟩) HOWN5.out (by show g < g + 1; omega) (.slice (some ⟨g4, 0, none⟩) (ns.length + 1) cap4))
    clear hb6 e0
    go_wp2
    go_ret
    refine ⟨.slice (some ⟨g4, 0, none⟩) (ns.length + 1) cap4, rfl, HB6.out, ⟨css ++ [[.int .i64 n.kind, .int .i64 n.lo, .int .i64 n.hi, .bool n.neg, .slice a1 m1 k1, .slice a2 m2 k2]], ?_, ?_⟩, hro, hk6⟩
    · rw [List.length_append, List.flatten_append]
      have h0 := HO6.out
      simpa using h0
    · have h1 := hk6.each (r' := some g4) hro HEACH.out
      have h2 := hk6.rd (r' := some g4) hro HRD.out
      exact h1.snoc h2
  refine AllReadyH.cons (i := 6) rfl (fun K hK => ?_) ?_
  · simp only [List.getElem_toArray, List.getElem_cons_succ, List.getElem_cons_zero]
    rw [if_pos (by rfl)]
    go_simp
    refine hK.out _ _ ?_ (fun hHeld => ?_)
    · first | trivial | ((try dsimp only); (refine ⟨?_, ?_, ?_, ?_, ?_, ?_⟩ <;> go_simp))
    clear hK K
    try simp only [Act.put, List.setIfInBounds_toArray, List.set_cons_zero, List.set_cons_succ]
    refine wpAnyH_ready (rs := [4]) (by kernel_rfl) (by simp) ?_
    refine AllReadyH.cons (i := 4) rfl (fun K hK => ?_) AllReadyH.nil
    simp only [List.getElem_toArray, List.getElem_cons_succ, List.getElem_cons_zero]
    rw [if_pos (by rfl)]
    go_simp
    refine hK.out _ _ ?_ (fun hHeld => ?_)
    · first | trivial | ((try dsimp only); exact hHeld)
    clear hK K
    try simp only [Act.put, List.setIfInBounds_toArray, List.set_cons_zero, List.set_cons_succ]
    refine wpAnyH_ready (rs := [7]) (by kernel_rfl) (by simp) ?_
    refine AllReadyH.cons (i := 7) rfl (fun K hK => ?_) AllReadyH.nil
    simp only [List.getElem_toArray, List.getElem_cons_succ, List.getElem_cons_zero]
    rw [if_pos (by rfl)]
    refine wp_append_lies _ (.tmp 9) (.tmp 11) 27 rfl (g + 1) 82 ii (.agg #[.int .i64 0, .int .i64 0, .int .i64 0, .bool false, .slice none 0 0, .slice none 0 0]) 6 80 Tryz.underlying27 hi hz0 hz1 hz2 rfl (by decide) nv ns.length css.flatten (by first | rfl | simp [Act.eval, Act.put]) ((HOWN.out.alloc _).drew.alloc _) ⟨w.heap.size + 1, 0, none⟩ 1 1 [.int .i64 n.kind, .int .i64 n.lo, .int .i64 n.hi, .bool n.neg, .slice a1 m1 k1, .slice a2 m2 k2] (by first | rfl | simp [Act.eval, Act.put]) rfl (World.news_of_block (B := w.heap.size + 1) (cs := #[.int .i64 n.kind, .int .i64 n.lo, .int .i64 n.hi, .bool n.neg, .slice a1 m1 k1, .slice a2 m2 k2]) (t := 82) (fr := (0, 0)) (by have h0 := heap_alloc_new (w.alloc (.cells #[.int .i64 n.kind, .int .i64 n.lo, .int .i64 n.hi, .bool n.neg, .slice a1 m1 k1, .slice a2 m2 k2] 82)).drew (.cells #[.int .i64 n.kind, .int .i64 n.lo, .int .i64 n.hi, .bool n.neg, .slice a1 m1 k1, .slice a2 m2 k2] 82); rw [show (w.alloc (.cells #[.int .i64 n.kind, .int .i64 n.lo, .int .i64 n.hi, .bool n.neg, .slice a1 m1 k1, .slice a2 m2 k2] 82)).drew.heap.size = w.heap.size + 1 by (show (w.alloc _).heap.size = _; simp)] at h0; exact h0)) (one_rxn n a1 a2 m1 m2 k1 k2) (by decide) (by unfold maxLen; omega) (by omega) (by simp; omega) _ rfl ?_
    intro g4 cap4 w5 hown5 hgrow5 hat5 hlt5
    have hk5 : Kp g nv.ownBlock w w5 := Kp.grown ((((Kp.refl g nv.ownBlock w).alloc _).drew).alloc _) hgrow5
    have hb5 : w5.heap[g]? = some (.cells #[lv, .int .i64 (i : Int), .int .i64 (d : Int), nv] 101 (0, 0)) := (hgrow5.block g (by simp; omega) (fun e => HNG.out e.symm)).trans (by
        show ((w.alloc _).alloc _).heap[g]? = _
        rw [(ext_alloc _ _).block g (by show g < (w.alloc _).heap.size; simp; omega)]
        exact ((ext_alloc w _).block g hl).trans HB.out)
    have hS5 : w5.cell? ⟨w.heap.size, 0, none⟩ = some (.int .i64 n.kind) ∧ w5.cell? ⟨w.heap.size, 1, none⟩ = some (.int .i64 n.lo) ∧ w5.cell? ⟨w.heap.size, 2, none⟩ = some (.int .i64 n.hi) ∧ w5.cell? ⟨w.heap.size, 3, none⟩ = some (.bool n.neg) ∧ w5.cell? ⟨w.heap.size, 4, none⟩ = some (.slice a1 m1 k1) ∧ w5.cell? ⟨w.heap.size, 5, none⟩ = some (.slice a2 m2 k2) := by
        have far : ∀ j, w5.cell? ⟨w.heap.size, j, none⟩ = (w.alloc (.cells #[.int .i64 n.kind, .int .i64 n.lo, .int .i64 n.hi, .bool n.neg, .slice a1 m1 k1, .slice a2 m2 k2] 82)).drew.cell? ⟨w.heap.size, j, none⟩ := fun j => World.cell?_of_block (a := ⟨w.heap.size, j, none⟩) ((hgrow5.block w.heap.size (by simp; omega) (fun e => by have := (HOWN.out.lt _ e.symm).2; omega)).trans ((ext_alloc _ _).block w.heap.size (by show w.heap.size < (w.alloc _).heap.size; simp)))
        refine ⟨?_, ?_, ?_, ?_, ?_, ?_⟩ <;> (rw [far]; go_simp)
    have hro : RowOn w nv.ownBlock (some g4) := by
        rcases hat5 with h | h
        · exact Or.inl h.symm
        · exact Or.inr ⟨g4, rfl, by simp at h; omega⟩
    have hl5 : g < w5.heap.size := Nat.lt_of_lt_of_le hl hk5.size
    obtain ⟨d0, d1, d2, d3, z0, z1, z2, z3, _⟩ := blk4 hb5
    have HOWN5 := hid hown5
    have HB5 := hid hb5
    clear hown5 hgrow5 hat5 hb5
    refine hK.out _ _ ?_ (fun hHeld => ?_)
    · first | trivial | ((try dsimp only); exact hS5)
    clear hK K
    try simp only [Act.put, List.setIfInBounds_toArray, List.set_cons_zero, List.set_cons_succ]
    refine wpAnyH_take (i := 8) (v := ?_) rfl (by kernel_rfl) (by kernel_rfl) (by kernel_rfl) (fun _ _ _ h => h) (Or.inl ⟨by rfl, ?_⟩) (by assumption) ?_
    rotate_left
    · (intro w' hSw; (try dsimp only at hSw); go_simp; try (with_reducible rfl))
    change wpAnyH _ _ _ _ _ _ _ (Act.put _ (some 13) _) _
    try simp only [Act.put, List.setIfInBounds_toArray, List.set_cons_zero, List.set_cons_succ]
    refine wpAnyH_take (i := 9) (v := ?_) rfl (by kernel_rfl) (by kernel_rfl) (by kernel_rfl) (fun _ _ _ h => h) (Or.inl ⟨by rfl, ?_⟩) (by assumption) ?_
    rotate_left
    · (intro w' hSw; (try dsimp only at hSw); go_simp; try (with_reducible rfl))
    change wpAnyH _ _ _ _ _ _ _ (Act.put _ (some 14) _) _
    try simp only [Act.put, List.setIfInBounds_toArray, List.set_cons_zero, List.set_cons_succ]
    refine wpAnyH_ready (rs := [10]) (by kernel_rfl) (by simp) ?_
    refine AllReadyH.cons (i := 10) rfl (fun K hK => ?_) AllReadyH.nil
    simp only [List.getElem_toArray, List.getElem_cons_succ, List.getElem_cons_zero]
    rw [if_pos (by rfl)]
    go_simp
    refine hK.out _ _ ?_ (fun hHeld => ?_)
    · first | trivial | ((try dsimp only); (refine ⟨?_, ?_, ?_, ?_, ?_, ?_⟩ <;> go_simp))
    clear hK K
    try simp only [Act.put, List.setIfInBounds_toArray, List.set_cons_zero, List.set_cons_succ]
    refine wpAnyH_done (by kernel_rfl) ?_ _
    clear hHeld
    have hb6 := blk4_set (o := 3) (.slice (some ⟨g4, 0, none⟩) (ns.length + 1) cap4) HB5.out
    have e0 : w5.setCell ⟨g, 3, none⟩ (.slice (some ⟨g4, 0, none⟩) (ns.length + 1) cap4) = w5.setCell ⟨g, 3, none⟩ (.slice (some ⟨g4, 0, none⟩) (ns.length + 1) cap4) := rfl
    have HB6 := hid hb6
    have hk6 := hk5.set 3 (.slice (some ⟨g4, 0, none⟩) (ns.length + 1) cap4)
    have HO6 := hid (ownsRow_setCell_below (a := ⟨g, 3, none⟩) HOWN5.out (by show g < g + 1; omega) (.slice (some ⟨g4, 0, none⟩) (ns.length + 1) cap4))
    clear hb6 e0
    go_wp2
    go_ret
    refine ⟨.slice (some ⟨g4, 0, none⟩) (ns.length + 1) cap4, rfl, HB6.out, ⟨css ++ [[.int .i64 n.kind, .int .i64 n.lo, .int .i64 n.hi, .bool n.neg, .slice a1 m1 k1, .slice a2 m2 k2]], ?_, ?_⟩, hro, hk6⟩
    · rw [List.length_append, List.flatten_append]
      have h0 := HO6.out
      simpa using h0
    · have h1 := hk6.each (r' := some g4) hro HEACH.out
      have h2 := hk6.rd (r' := some g4) hro HRD.out
      exact h1.snoc h2
  exact AllReadyH.nil
end Go.Proofs.YtomcoilmpkpoeaaGreatDoor

namespace Go.Proofs.YtomcoilmpkpoeaaGreatDoor
open Go.Lib

/-- The code point at the head of a text and its width; (0, 0) of none. -/
def next (l : List UInt8) : Nat × Nat := if decodeL l = (65533, 1) ∨ (decodeL l).1 = 0 then (0, 0) else decodeL l

def runesGo : Nat → List UInt8 → Option (List Nat)
  | 0, l => if l = [] then some [] else none
  | n + 1, l => if l = [] then some [] else if (next l).2 = 0 then none else (runesGo n (l.drop (next l).2)).map ((next l).1 :: ·)
def runesAll (l : List UInt8) : Option (List Nat) := runesGo l.length l
def runes? (l : List UInt8) : Option (List Nat) := if l.length ≤ 1000 then runesAll l else none
def textOk (l : List UInt8) : Bool := (runes? l).isSome

theorem decodeL_pos (l : List UInt8) : 1 ≤ (decodeL l).2 := by
  rw [decodeL_N]
  rcases decodeN_shape l.length (l.getD 0 0).toNat (l.getD 1 0).toNat (l.getD 2 0).toNat (l.getD 3 0).toNat with ⟨_, e⟩ | ⟨_, _, _, _, e⟩ | ⟨_, _, _, _, _, _, e⟩ | ⟨_, _, _, _, _, _, _, e⟩ | e
  all_goals (rw [e]; dsimp only; omega)
/-- the four shapes of a code point, or none -/
theorem next_shape (l : List UInt8) :
    ((l.getD 0 0).toNat < 128 ∧ (l.getD 0 0).toNat ≠ 0 ∧ next l = ((l.getD 0 0).toNat, 1)) ∨
    (∃ c, next l = (c, 2) ∧ 128 ≤ c ∧ c < 2048 ∧ 1 < l.length ∧ (l.getD 0 0).toNat = 192 + c / 64 ∧ (l.getD 1 0).toNat = 128 + c % 64) ∨
    (∃ c, next l = (c, 3) ∧ 2048 ≤ c ∧ c < 65536 ∧ (c < 55296 ∨ 57344 ≤ c) ∧ 2 < l.length ∧ (l.getD 0 0).toNat = 224 + c / 4096 ∧ (l.getD 1 0).toNat = 128 + c / 64 % 64 ∧ (l.getD 2 0).toNat = 128 + c % 64) ∨
    (∃ c, next l = (c, 4) ∧ 65536 ≤ c ∧ c ≤ 1114111 ∧ 3 < l.length ∧ (l.getD 0 0).toNat = 240 + c / 262144 ∧ (l.getD 1 0).toNat = 128 + c / 4096 % 64 ∧ (l.getD 2 0).toNat = 128 + c / 64 % 64 ∧ (l.getD 3 0).toNat = 128 + c % 64) ∨
    next l = (0, 0) := by
  have h0 : (l.getD 0 0).toNat < 256 := (l.getD 0 0).toNat_lt
  have h1 : (l.getD 1 0).toNat < 256 := (l.getD 1 0).toNat_lt
  have h2 : (l.getD 2 0).toNat < 256 := (l.getD 2 0).toNat_lt
  have h3 : (l.getD 3 0).toNat < 256 := (l.getD 3 0).toNat_lt
  unfold next
  rw [decodeL_N]
  rcases decodeN_shape l.length (l.getD 0 0).toNat (l.getD 1 0).toNat (l.getD 2 0).toNat (l.getD 3 0).toNat with ⟨_, e⟩ | ⟨_, _, _, _, e⟩ | ⟨_, _, _, _, _, _, e⟩ | ⟨_, _, _, _, _, _, _, e⟩ | e
  · rw [e]
    by_cases hz : (l.getD 0 0).toNat = 0
    · right; right; right; right
      rw [hz]
      simp
    · left
      refine ⟨by omega, hz, ?_⟩
      rw [if_neg]
      simp only [Prod.mk.injEq, not_or]
      omega
  · rw [e]
    right; left
    refine ⟨_, if_neg ?_, by omega, by omega, by omega, by omega, by omega⟩
    simp only [Prod.mk.injEq, not_or]
    omega
  · rw [e]
    right; right; left
    refine ⟨_, if_neg ?_, by omega, by omega, by omega, by omega, by omega, by omega, by omega⟩
    simp only [Prod.mk.injEq, not_or]
    omega
  · rw [e]
    right; right; right; left
    refine ⟨_, if_neg ?_, by omega, by omega, by omega, by omega, by omega, by omega, by omega⟩
    simp only [Prod.mk.injEq, not_or]
    omega
  · rw [e]
    right; right; right; right
    simp
theorem next_nil : next [] = (0, 0) := by decide
theorem next_le (l : List UInt8) : (next l).2 ≤ l.length := by
  cases l with
  | nil => rw [next_nil]; exact Nat.le_refl _
  | cons a r =>
    rcases next_shape (a :: r) with ⟨_, _, e⟩ | ⟨c, e, _, _, h, _⟩ | ⟨c, e, _, _, _, h, _⟩ | ⟨c, e, _, _, h, _⟩ | e
    all_goals (rw [e]; simp at *; try omega)
/-- a code point -/
def isPt (c : Nat) : Prop := 1 ≤ c ∧ c ≤ 1114111 ∧ (c < 55296 ∨ 57344 ≤ c)
theorem next_pt {l : List UInt8} (h : (next l).2 ≠ 0) : isPt (next l).1 := by
  unfold isPt
  rcases next_shape l with ⟨_, _, e⟩ | ⟨c, e, _⟩ | ⟨c, e, _⟩ | ⟨c, e, _⟩ | e
  all_goals (rw [e] at h ⊢; dsimp only at h ⊢; omega)
theorem runesGo_fuel : ∀ (n m : Nat) (l : List UInt8), l.length ≤ n → l.length ≤ m → runesGo n l = runesGo m l
  | 0, m, l, hn, _ => by
    have : l = [] := List.eq_nil_of_length_eq_zero (by omega)
    subst this
    cases m <;> simp [runesGo]
  | n + 1, m, l, hn, hm => by
    cases m with
    | zero =>
      have : l = [] := List.eq_nil_of_length_eq_zero (by omega)
      subst this
      simp [runesGo]
    | succ m =>
      simp only [runesGo]
      by_cases hl : l = []
      · rw [if_pos hl, if_pos hl]
      · rw [if_neg hl, if_neg hl]
        by_cases hz : (next l).2 = 0
        · rw [if_pos hz, if_pos hz]
        · rw [if_neg hz, if_neg hz, runesGo_fuel n m (l.drop (next l).2) (by rw [List.length_drop]; omega) (by rw [List.length_drop]; omega)]
theorem runesAll_nil : runesAll [] = some [] := by simp [runesAll, runesGo]
theorem runesAll_step {l : List UInt8} (hl : l ≠ []) (hz : (next l).2 ≠ 0) : runesAll l = (runesAll (l.drop (next l).2)).map ((next l).1 :: ·) := by
  have hp := List.length_pos_iff.2 hl
  unfold runesAll
  obtain ⟨n, hn⟩ : ∃ n, l.length = n + 1 := ⟨l.length - 1, by omega⟩
  rw [hn]
  simp only [runesGo]
  rw [if_neg hl, if_neg hz, runesGo_fuel n (l.drop (next l).2).length _ (by rw [List.length_drop]; omega) (Nat.le_refl _)]
theorem runesAll_bad {l : List UInt8} (hl : l ≠ []) (hz : (next l).2 = 0) : runesAll l = none := by
  have hp := List.length_pos_iff.2 hl
  unfold runesAll
  obtain ⟨n, hn⟩ : ∃ n, l.length = n + 1 := ⟨l.length - 1, by omega⟩
  rw [hn]
  simp only [runesGo]
  rw [if_neg hl, if_pos hz]
theorem runesAll_len : ∀ (n : Nat) (l : List UInt8) (rs : List Nat), l.length = n → runesAll l = some rs → rs.length ≤ l.length ∧ (∀ c ∈ rs, isPt c) ∧ (l ≠ [] → rs ≠ []) := by
  intro n
  induction n using Nat.strongRecOn with
  | _ n ih =>
    intro l rs hn h
    by_cases hl : l = []
    · subst hl
      rw [runesAll_nil] at h
      cases h
      simp
    · by_cases hz : (next l).2 = 0
      · rw [runesAll_bad hl hz] at h; cases h
      · rw [runesAll_step hl hz] at h
        obtain ⟨r, hr, rfl⟩ := Option.map_eq_some_iff.1 h
        have hp := List.length_pos_iff.2 hl
        have hd : (l.drop (next l).2).length = l.length - (next l).2 := List.length_drop
        obtain ⟨h1, h2, _⟩ := ih _ (by omega) _ r rfl hr
        refine ⟨by simp; omega, ?_, fun _ => by simp⟩
        intro c hc
        rcases List.mem_cons.1 hc with rfl | hc
        · exact next_pt hz
        · exact h2 c hc

/-! ### The model's decoder: 'ValidString, and no byte 0' is 'runesAll' -/
theorem next_of_decode {l : List UInt8} (h1 : decodeL l ≠ (65533, 1)) (h2 : (decodeL l).1 ≠ 0) : next l = decodeL l := if_neg (by simp [h1, h2])
theorem decode_zero {l : List UInt8} (hl : l ≠ []) (h : (decodeL l).1 = 0) : l.head? = some 0 := by
  cases l with
  | nil => exact absurd rfl hl
  | cons a r =>
    rw [decodeL_N] at h
    rcases decodeN_shape (a :: r).length ((a :: r).getD 0 0).toNat ((a :: r).getD 1 0).toNat ((a :: r).getD 2 0).toNat ((a :: r).getD 3 0).toNat with ⟨_, e⟩ | ⟨_, _, _, _, e⟩ | ⟨_, _, _, _, _, _, e⟩ | ⟨_, _, _, _, _, _, _, e⟩ | e
    · rw [e] at h
      simp only [List.getD_cons_zero] at h
      have : a = 0 := UInt8.toNat_inj.1 (by simpa using h)
      simp [this]
    all_goals (rw [e] at h; dsimp only at h; omega)
theorem validGo_runes : ∀ (n : Nat) (l : List UInt8), l.length ≤ n → (validGoD n l = true ∧ (0 : UInt8) ∉ l ↔ (runesGo n l).isSome = true)
  | 0, l, hn => by
    have : l = [] := List.eq_nil_of_length_eq_zero (by omega)
    subst this
    simp [validGoD, runesGo]
  | n + 1, l, hn => by
    by_cases hl : l = []
    · subst hl; simp [validGoD, runesGo]
    · simp only [validGoD, runesGo, if_neg hl]
      by_cases h1 : decodeL l = (65533, 1)
      · have e : next l = (0, 0) := if_pos (Or.inl h1)
        rw [if_pos (by rw [h1]; exact ⟨rfl, rfl⟩), e]
        simp
      · have hne : ¬ ((decodeL l).1 = 65533 ∧ (decodeL l).2 = 1) := fun h => h1 (Prod.ext h.1 h.2)
        rw [if_neg hne]
        by_cases h2 : (decodeL l).1 = 0
        · have e : next l = (0, 0) := if_pos (Or.inr h2)
          have hz := decode_zero hl h2
          rw [e]
          constructor
          · rintro ⟨_, h⟩
            cases l with
            | nil => exact absurd rfl hl
            | cons a r => simp at hz; subst hz; simp at h
          · intro h; simp at h
        · have e := next_of_decode h1 h2
          have hp := decodeL_pos l
          have hle := decodeL_le l hl
          have ih := validGo_runes n (l.drop (decodeL l).2) (by rw [List.length_drop]; omega)
          rw [e, if_neg (by omega), Option.isSome_map, ← ih]
          have key : (0 : UInt8) ∉ l ↔ (0 : UInt8) ∉ l.drop (decodeL l).2 := by
            constructor
            · exact fun h h' => h (List.mem_of_mem_drop h')
            · intro h h'
              rw [← List.take_append_drop (decodeL l).2 l, List.mem_append] at h'
              rcases h' with h' | h'
              · have g0 : (l.getD 0 0).toNat ≠ 0 ∧ ∀ i, i < (decodeL l).2 → (l.getD i 0).toNat ≠ 0 := by
                  have hs := next_shape l
                  rw [e] at hs
                  rcases hs with ⟨ha, hb, he⟩ | ⟨c, he, hc⟩ | ⟨c, he, hc⟩ | ⟨c, he, hc⟩ | he
                  · refine ⟨hb, fun i hi => ?_⟩
                    rw [he] at hi
                    obtain rfl : i = 0 := by simp at hi; exact hi
                    exact hb
                  · refine ⟨by omega, fun i hi => ?_⟩
                    rw [he] at hi
                    have : i = 0 ∨ i = 1 := by simp at hi; omega
                    rcases this with rfl | rfl <;> omega
                  · refine ⟨by omega, fun i hi => ?_⟩
                    rw [he] at hi
                    have : i = 0 ∨ i = 1 ∨ i = 2 := by simp at hi; omega
                    rcases this with rfl | rfl | rfl <;> omega
                  · refine ⟨by omega, fun i hi => ?_⟩
                    rw [he] at hi
                    have : i = 0 ∨ i = 1 ∨ i = 2 ∨ i = 3 := by simp at hi; omega
                    rcases this with rfl | rfl | rfl | rfl <;> omega
                  · rw [he] at hp; simp at hp
                obtain ⟨i, hi, hi'⟩ := List.mem_iff_getElem.1 h'
                rw [List.length_take] at hi
                have := g0.2 i (by omega)
                rw [List.getElem_take] at hi'
                rw [List.getD_eq_getElem?_getD, List.getElem?_eq_getElem (by omega), hi'] at this
                simp at this
              · exact h h'
          rw [key]
theorem valid_runes (l : List UInt8) : (validD l = true ∧ (0 : UInt8) ∉ l) ↔ (runesAll l).isSome = true := validGo_runes l.length l (Nat.le_refl _)

/-! ### A code point's bytes -/
def enc (c : Nat) : List UInt8 :=
  if c < 128 then [UInt8.ofNat c] else if c < 2048 then [UInt8.ofNat (192 + c / 64), UInt8.ofNat (128 + c % 64)]
  else if c < 65536 then [UInt8.ofNat (224 + c / 4096), UInt8.ofNat (128 + c / 64 % 64), UInt8.ofNat (128 + c % 64)]
  else [UInt8.ofNat (240 + c / 262144), UInt8.ofNat (128 + c / 4096 % 64), UInt8.ofNat (128 + c / 64 % 64), UInt8.ofNat (128 + c % 64)]
def texts (rs : List Nat) : List UInt8 := rs.flatMap enc

theorem ofNat_toNat {n : Nat} (h : n < 256) : (UInt8.ofNat n).toNat = n := by
  rw [UInt8.toNat_ofNat']; omega
theorem ofNat_of {a : UInt8} {n : Nat} (h : a.toNat = n) : UInt8.ofNat n = a := by
  subst h; simp
theorem enc_length (c : Nat) : (enc c).length = if c < 128 then 1 else if c < 2048 then 2 else if c < 65536 then 3 else 4 := by
  unfold enc
  repeat' split
  all_goals rfl
theorem enc_pos (c : Nat) : 1 ≤ (enc c).length ∧ (enc c).length ≤ 4 := by
  rw [enc_length]
  repeat' split
  all_goals omega
theorem take_next {l : List UInt8} (h : (next l).2 ≠ 0) : l.take (next l).2 = enc (next l).1 ∧ (enc (next l).1).length = (next l).2 := by
  have hle := next_le l
  have tk : ∀ (n : Nat) (e : List UInt8), e.length = n → n ≤ l.length → (∀ i, i < n → e[i]? = some (l.getD i 0)) → l.take n = e := by
    intro n e he hn hi
    apply List.ext_getElem?
    intro i
    by_cases hin : i < n
    · rw [hi i hin, List.getElem?_take, if_pos hin, List.getElem?_eq_getElem (by omega)]
      simp [List.getD_eq_getElem?_getD, List.getElem?_eq_getElem (show i < l.length by omega)]
    · rw [List.getElem?_eq_none (by rw [List.length_take]; omega), List.getElem?_eq_none (by omega)]
  rcases next_shape l with ⟨h1, h2, e⟩ | ⟨c, e, h1, h2, h3, h4, h5⟩ | ⟨c, e, h1, h2, h2', h3, h4, h5, h6⟩ | ⟨c, e, h1, h2, h3, h4, h5, h6, h7⟩ | e
  · rw [e] at hle ⊢
    have he : enc (l.getD 0 0).toNat = [l.getD 0 0] := by unfold enc; rw [if_pos h1, ofNat_of rfl]
    refine ⟨?_, by dsimp only; rw [he]; rfl⟩
    dsimp only at hle ⊢
    rw [he]
    refine tk 1 _ rfl hle fun i hi => ?_
    obtain rfl : i = 0 := by omega
    rfl
  · rw [e] at hle ⊢
    have he : enc c = [l.getD 0 0, l.getD 1 0] := by unfold enc; rw [if_neg (by omega), if_pos h2, ofNat_of h4, ofNat_of h5]
    refine ⟨?_, by dsimp only; rw [he]; rfl⟩
    dsimp only at hle ⊢
    rw [he]
    refine tk 2 _ rfl hle fun i hi => ?_
    have : i = 0 ∨ i = 1 := by omega
    rcases this with rfl | rfl <;> rfl
  · rw [e] at hle ⊢
    have he : enc c = [l.getD 0 0, l.getD 1 0, l.getD 2 0] := by unfold enc; rw [if_neg (by omega), if_neg (by omega), if_pos h2, ofNat_of h4, ofNat_of h5, ofNat_of h6]
    refine ⟨?_, by dsimp only; rw [he]; rfl⟩
    dsimp only at hle ⊢
    rw [he]
    refine tk 3 _ rfl hle fun i hi => ?_
    have : i = 0 ∨ i = 1 ∨ i = 2 := by omega
    rcases this with rfl | rfl | rfl <;> rfl
  · rw [e] at hle ⊢
    have he : enc c = [l.getD 0 0, l.getD 1 0, l.getD 2 0, l.getD 3 0] := by unfold enc; rw [if_neg (by omega), if_neg (by omega), if_neg (by omega), ofNat_of h4, ofNat_of h5, ofNat_of h6, ofNat_of h7]
    refine ⟨?_, by dsimp only; rw [he]; rfl⟩
    dsimp only at hle ⊢
    rw [he]
    refine tk 4 _ rfl hle fun i hi => ?_
    have : i = 0 ∨ i = 1 ∨ i = 2 ∨ i = 3 := by omega
    rcases this with rfl | rfl | rfl | rfl <;> rfl
  · rw [e] at h; simp at h
theorem decodeN_of {n b0 b1 b2 b3 c w : Nat} (h0 : b0 < 256) (h : (b0 < 128 ∧ c = b0 ∧ w = 1) ∨ (128 ≤ c ∧ c < 2048 ∧ w = 2 ∧ 1 < n ∧ b0 = 192 + c / 64 ∧ b1 = 128 + c % 64) ∨
    (2048 ≤ c ∧ c < 65536 ∧ (c < 55296 ∨ 57344 ≤ c) ∧ w = 3 ∧ 2 < n ∧ b0 = 224 + c / 4096 ∧ b1 = 128 + c / 64 % 64 ∧ b2 = 128 + c % 64) ∨
    (65536 ≤ c ∧ c ≤ 1114111 ∧ w = 4 ∧ 3 < n ∧ b0 = 240 + c / 262144 ∧ b1 = 128 + c / 4096 % 64 ∧ b2 = 128 + c / 64 % 64 ∧ b3 = 128 + c % 64)) : decodeN n b0 b1 b2 b3 = (c, w) := by
  unfold decodeN
  rcases h with ⟨h1, rfl, rfl⟩ | ⟨h1, h2, rfl, h3, h4, h5⟩ | ⟨h1, h2, h2', rfl, h3, h4, h5, h6⟩ | ⟨h1, h2, rfl, h3, h4, h5, h6, h7⟩
  · rw [if_pos h1]
  · rw [if_neg (by omega), if_pos (by omega), if_pos (by omega)]
    congr 1; omega
  · rw [if_neg (by omega), if_neg (by omega), if_pos (by omega), if_pos (by omega)]
    congr 1; omega
  · rw [if_neg (by omega), if_neg (by omega), if_neg (by omega), if_pos (by omega), if_pos (by omega)]
    congr 1; omega
theorem next_enc {c : Nat} (hc : isPt c) (r : List UInt8) : next (enc c ++ r) = (c, (enc c).length) := by
  obtain ⟨c1, c2, c3⟩ := hc
  have hd : decodeL (enc c ++ r) = (c, (enc c).length) := by
    rw [decodeL_N]
    apply decodeN_of (UInt8.toNat_lt _)
    by_cases a1 : c < 128
    · have e : enc c = [UInt8.ofNat c] := by unfold enc; rw [if_pos a1]
      left
      rw [e]
      refine ⟨?_, ?_, rfl⟩
      · show (UInt8.ofNat c).toNat < 128
        rw [ofNat_toNat (by omega)]; exact a1
      · show c = (UInt8.ofNat c).toNat
        rw [ofNat_toNat (by omega)]
    · by_cases a2 : c < 2048
      · have e : enc c = [UInt8.ofNat (192 + c / 64), UInt8.ofNat (128 + c % 64)] := by unfold enc; rw [if_neg a1, if_pos a2]
        right; left
        rw [e]
        exact ⟨by omega, a2, rfl, by simp, ofNat_toNat (by omega), ofNat_toNat (by omega)⟩
      · by_cases a3 : c < 65536
        · have e : enc c = [UInt8.ofNat (224 + c / 4096), UInt8.ofNat (128 + c / 64 % 64), UInt8.ofNat (128 + c % 64)] := by unfold enc; rw [if_neg a1, if_neg a2, if_pos a3]
          right; right; left
          rw [e]
          exact ⟨by omega, a3, c3, rfl, by simp, ofNat_toNat (by omega), ofNat_toNat (by omega), ofNat_toNat (by omega)⟩
        · have e : enc c = [UInt8.ofNat (240 + c / 262144), UInt8.ofNat (128 + c / 4096 % 64), UInt8.ofNat (128 + c / 64 % 64), UInt8.ofNat (128 + c % 64)] := by unfold enc; rw [if_neg a1, if_neg a2, if_neg a3]
          right; right; right
          rw [e]
          exact ⟨by omega, c2, rfl, by simp, ofNat_toNat (by omega), ofNat_toNat (by omega), ofNat_toNat (by omega), ofNat_toNat (by omega)⟩
  rw [next_of_decode]
  · exact hd
  · rw [hd]
    intro h
    simp only [Prod.mk.injEq] at h
    rw [h.1] at h
    simp [enc_length] at h
  · rw [hd]; dsimp only; omega
theorem enc_ne (c : Nat) : enc c ≠ [] := by
  intro h
  have := (enc_pos c).1
  rw [h] at this
  simp at this
theorem runes_texts : ∀ (rs : List Nat), (∀ c ∈ rs, isPt c) → runesAll (texts rs) = some rs
  | [], _ => by simp [texts, runesAll_nil]
  | c :: r, h => by
    have e := next_enc (h c (by simp)) (texts r)
    have ht : texts (c :: r) = enc c ++ texts r := by simp [texts]
    rw [ht, runesAll_step (by simp [enc_ne]) (by rw [e]; have := (enc_pos c).1; dsimp only; omega), e]
    simp only [List.drop_left]
    rw [runes_texts r (fun c hc => h c (by simp [hc]))]
    rfl
theorem texts_runes : ∀ (n : Nat) (l : List UInt8) (rs : List Nat), l.length = n → runesAll l = some rs → texts rs = l := by
  intro n
  induction n using Nat.strongRecOn with
  | _ n ih =>
    intro l rs hn h
    by_cases hl : l = []
    · subst hl
      rw [runesAll_nil] at h
      cases h
      rfl
    · by_cases hz : (next l).2 = 0
      · rw [runesAll_bad hl hz] at h; cases h
      · rw [runesAll_step hl hz] at h
        obtain ⟨r, hr, rfl⟩ := Option.map_eq_some_iff.1 h
        have hp := List.length_pos_iff.2 hl
        have hd : (l.drop (next l).2).length = l.length - (next l).2 := List.length_drop
        have := ih _ (by omega) _ r rfl hr
        have ht : texts ((next l).1 :: r) = enc (next l).1 ++ texts r := by simp [texts]
        rw [ht, this, ← (take_next hz).1, List.take_append_drop]
theorem texts_append (a b : List Nat) : texts (a ++ b) = texts a ++ texts b := by simp [texts]
theorem runesAll_append : ∀ (n : Nat) (a b : List UInt8) (ra : List Nat), a.length = n → runesAll a = some ra → runesAll (a ++ b) = (runesAll b).map (ra ++ ·) := by
  intro n a b ra hn h
  clear hn
  have ha := texts_runes _ a ra rfl h
  have hp := (runesAll_len _ a ra rfl h).2.1
  subst ha
  clear h
  induction ra with
  | nil => simp [texts]
  | cons c r ih =>
    have e := next_enc (hp c (by simp)) (texts r ++ b)
    have ht : texts (c :: r) ++ b = enc c ++ (texts r ++ b) := by simp [texts]
    rw [ht, runesAll_step (by simp [enc_ne]) (by rw [e]; have := (enc_pos c).1; dsimp only; omega), e]
    simp only [List.drop_left]
    rw [ih (fun c hc => hp c (by simp [hc]))]
    cases runesAll b <;> simp

/-! ### The head of a text, reckoned byte by byte -/
instance (c : Nat) : Decidable (isPt c) := by unfold isPt; exact inferInstance
theorem next_none {l : List UInt8} (h1 : ∀ c, next l ≠ (c, 1)) (h2 : ∀ c, next l ≠ (c, 2)) (h3 : ∀ c, next l ≠ (c, 3)) (h4 : ∀ c, next l ≠ (c, 4)) : next l = (0, 0) := by
  rcases next_shape l with ⟨_, _, e⟩ | ⟨c, e, _⟩ | ⟨c, e, _⟩ | ⟨c, e, _⟩ | e
  · exact absurd e (h1 _)
  · exact absurd e (h2 _)
  · exact absurd e (h3 _)
  · exact absurd e (h4 _)
  · exact e
/-- a first byte that begins nothing -/
theorem next_lead {l : List UInt8} (h : 128 ≤ (l.getD 0 0).toNat) (h' : (l.getD 0 0).toNat < 192 ∨ 248 ≤ (l.getD 0 0).toNat) : next l = (0, 0) := by
  rcases next_shape l with ⟨_, _, e⟩ | ⟨c, e, _⟩ | ⟨c, e, _⟩ | ⟨c, e, _⟩ | e
  · omega
  · omega
  · omega
  · omega
  · exact e
/-- the text ends too early, or a byte behind the first is no continuation -/
theorem next_short {l : List UInt8} {n : Nat} (hn : (n = 2 ∧ 192 ≤ (l.getD 0 0).toNat ∧ (l.getD 0 0).toNat ≤ 223) ∨ (n = 3 ∧ 224 ≤ (l.getD 0 0).toNat ∧ (l.getD 0 0).toNat ≤ 239) ∨ (n = 4 ∧ 240 ≤ (l.getD 0 0).toNat ∧ (l.getD 0 0).toNat ≤ 247))
    (h : l.length < n ∨ ∃ j, 1 ≤ j ∧ j < n ∧ ((l.getD j 0).toNat < 128 ∨ 191 < (l.getD j 0).toNat)) : next l = (0, 0) := by
  have bad : ∀ j, j < 4 → ((l.getD j 0).toNat < 128 ∨ 191 < (l.getD j 0).toNat) → 1 ≤ j → j < n → next l = (0, 0) := by
    clear h
    intro j hj hb h1 hjn
    have hj' : j = 1 ∨ j = 2 ∨ j = 3 := by omega
    rcases next_shape l with ⟨_, _, e⟩ | ⟨c, e, _⟩ | ⟨c, e, _⟩ | ⟨c, e, _⟩ | e
    · omega
    · rcases hj' with rfl | rfl | rfl <;> omega
    · rcases hj' with rfl | rfl | rfl <;> omega
    · rcases hj' with rfl | rfl | rfl <;> omega
    · exact e
  rcases h with h | ⟨j, h1, h2, h3⟩
  · rcases next_shape l with ⟨_, _, e⟩ | ⟨c, e, _⟩ | ⟨c, e, _⟩ | ⟨c, e, _⟩ | e
    · omega
    · omega
    · omega
    · omega
    · exact e
  · exact bad j (by omega) h3 h1 h2
theorem next_whole {l : List UInt8} {n c : Nat} (hl : n ≤ l.length)
    (h : (n = 1 ∧ (l.getD 0 0).toNat < 128 ∧ c = (l.getD 0 0).toNat) ∨
      (n = 2 ∧ 192 ≤ (l.getD 0 0).toNat ∧ (l.getD 0 0).toNat ≤ 223 ∧ 128 ≤ (l.getD 1 0).toNat ∧ (l.getD 1 0).toNat ≤ 191 ∧ c = 64 * ((l.getD 0 0).toNat - 192) + ((l.getD 1 0).toNat - 128)) ∨
      (n = 3 ∧ 224 ≤ (l.getD 0 0).toNat ∧ (l.getD 0 0).toNat ≤ 239 ∧ 128 ≤ (l.getD 1 0).toNat ∧ (l.getD 1 0).toNat ≤ 191 ∧ 128 ≤ (l.getD 2 0).toNat ∧ (l.getD 2 0).toNat ≤ 191 ∧ c = 64 * (64 * ((l.getD 0 0).toNat - 224) + ((l.getD 1 0).toNat - 128)) + ((l.getD 2 0).toNat - 128)) ∨
      (n = 4 ∧ 240 ≤ (l.getD 0 0).toNat ∧ (l.getD 0 0).toNat ≤ 247 ∧ 128 ≤ (l.getD 1 0).toNat ∧ (l.getD 1 0).toNat ≤ 191 ∧ 128 ≤ (l.getD 2 0).toNat ∧ (l.getD 2 0).toNat ≤ 191 ∧ 128 ≤ (l.getD 3 0).toNat ∧ (l.getD 3 0).toNat ≤ 191 ∧
        c = 64 * (64 * (64 * ((l.getD 0 0).toNat - 240) + ((l.getD 1 0).toNat - 128)) + ((l.getD 2 0).toNat - 128)) + ((l.getD 3 0).toNat - 128))) :
    next l = if isPt c ∧ (enc c).length = n then (c, n) else (0, 0) := by
  by_cases hg : isPt c ∧ (enc c).length = n
  · rw [if_pos hg]
    obtain ⟨⟨p1, p2, p3⟩, hlen⟩ := hg
    rw [enc_length] at hlen
    rw [next_of_decode]
    · rw [decodeL_N]
      apply decodeN_of (UInt8.toNat_lt _)
      rcases h with ⟨rfl, h⟩ | ⟨rfl, h⟩ | ⟨rfl, h⟩ | ⟨rfl, h⟩
      · left; exact ⟨by omega, by omega, rfl⟩
      · right; left
        have : 128 ≤ c ∧ c < 2048 := by
          split at hlen
          · omega
          · split at hlen
            · omega
            · split at hlen <;> omega
        refine ⟨this.1, this.2, rfl, by omega, by omega, by omega⟩
      · right; right; left
        have : 2048 ≤ c ∧ c < 65536 := by
          split at hlen
          · omega
          · split at hlen
            · omega
            · split at hlen <;> omega
        refine ⟨this.1, this.2, p3, rfl, by omega, by omega, by omega, by omega⟩
      · right; right; right
        have : 65536 ≤ c := by
          split at hlen
          · omega
          · split at hlen
            · omega
            · split at hlen <;> omega
        refine ⟨this, p2, rfl, by omega, by omega, by omega, by omega, by omega⟩
    all_goals
      have hd : decodeL l = (c, n) := by
        rw [decodeL_N]
        apply decodeN_of (UInt8.toNat_lt _)
        rcases h with ⟨rfl, h⟩ | ⟨rfl, h⟩ | ⟨rfl, h⟩ | ⟨rfl, h⟩
        · left; exact ⟨by omega, by omega, rfl⟩
        · right; left
          have : 128 ≤ c ∧ c < 2048 := by
            split at hlen
            · omega
            · split at hlen
              · omega
              · split at hlen <;> omega
          refine ⟨this.1, this.2, rfl, by omega, by omega, by omega⟩
        · right; right; left
          have : 2048 ≤ c ∧ c < 65536 := by
            split at hlen
            · omega
            · split at hlen
              · omega
              · split at hlen <;> omega
          refine ⟨this.1, this.2, p3, rfl, by omega, by omega, by omega, by omega⟩
        · right; right; right
          have : 65536 ≤ c := by
            split at hlen
            · omega
            · split at hlen
              · omega
              · split at hlen <;> omega
          refine ⟨this, p2, rfl, by omega, by omega, by omega, by omega, by omega⟩
      rw [hd]
    · intro he
      simp only [Prod.mk.injEq] at he
      obtain ⟨rfl, rfl⟩ := he
      simp at hlen
    · dsimp only; omega
  · rw [if_neg hg]
    have no : ∀ c' n', next l = (c', n') → n' ≠ 0 → c' = c → n' = n → False := by
      intro c' n' e hn hc hnn
      subst hc hnn
      have h1 := next_pt (l := l) (by rw [e]; exact hn)
      have h2 := (take_next (l := l) (by rw [e]; exact hn)).2
      rw [e] at h1 h2
      exact hg ⟨h1, h2⟩
    rcases next_shape l with ⟨a1, a2, e⟩ | ⟨c', e, a⟩ | ⟨c', e, a⟩ | ⟨c', e, a⟩ | e
    · exact (no _ _ e (by omega) (by omega) (by omega)).elim
    · exact (no _ _ e (by omega) (by omega) (by omega)).elim
    · exact (no _ _ e (by omega) (by omega) (by omega)).elim
    · exact (no _ _ e (by omega) (by omega) (by omega)).elim
    · exact e

/-! ### A list of bytes as a string -/
def mkB (l : List UInt8) : ByteArray := ⟨l.toArray⟩
theorem mkB_data (l : List UInt8) : (mkB l).data.toList = l := rfl
theorem mkB_of (s : ByteArray) : mkB s.data.toList = s := by cases s; simp [mkB]
theorem mkB_append (a b : List UInt8) : mkB a ++ mkB b = mkB (a ++ b) := by
  have : (mkB a ++ mkB b).data.toList = (mkB (a ++ b)).data.toList := by simp [mkB]
  rw [← mkB_of (mkB a ++ mkB b), this, mkB_of]
theorem mkB_size (l : List UInt8) : (mkB l).size = l.length := by rw [Lib.size_eq]; rfl
end Go.Proofs.YtomcoilmpkpoeaaGreatDoor

namespace Go.Proofs.YtomcoilmpkpoeaaGreatDoor
open Go.RowKit
set_option linter.unusedVariables false
set_option linter.unusedSimpArgs false

def encN (x : Nat) : ByteArray := if x < 0x80 then ⟨#[UInt8.ofNat x]⟩ else if x < 0x800 then ⟨#[UInt8.ofNat (0xC0 + x / 64), UInt8.ofNat (0x80 + x % 64)]⟩ else if x < 0x10000 then ⟨#[UInt8.ofNat (0xE0 + x / 4096), UInt8.ofNat (0x80 + x / 64 % 64), UInt8.ofNat (0x80 + x % 64)]⟩ else ⟨#[UInt8.ofNat (0xF0 + x / 262144), UInt8.ofNat (0x80 + x / 4096 % 64), UInt8.ofNat (0x80 + x / 64 % 64), UInt8.ofNat (0x80 + x % 64)]⟩
theorem encode_eq (r : Int) : Utf8.encode r = encN (if Utf8.valid r then r.toNat else Utf8.runeError) := rfl
theorem encN_low {x : Nat} (h : x < 128) : (encN x).data.toList = [UInt8.ofNat x] := by
  unfold encN
  rw [if_pos h]
theorem encN_len (x : Nat) : 1 ≤ (encN x).data.toList.length ∧ (encN x).data.toList.length ≤ 4 := by
  unfold encN
  repeat' split
  all_goals simp
theorem encN_high {x : Nat} (h1 : 128 ≤ x) (h2 : x ≤ 1114111) : ∃ b r, (encN x).data.toList = b :: r ∧ 128 ≤ b.toNat := by
  unfold encN
  rw [if_neg (by omega)]
  split
  · exact ⟨_, _, rfl, by rw [UInt8.toNat_ofNat']; omega⟩
  · split
    · exact ⟨_, _, rfl, by rw [UInt8.toNat_ofNat']; omega⟩
    · exact ⟨_, _, rfl, by rw [UInt8.toNat_ofNat']; omega⟩
/-- (a name of its own: the kernel would run the projections of what is encoded) -/
def blist (b : ByteArray) : List UInt8 := b.data.toList
theorem blist_mk (b : ByteArray) : b = mkB (blist b) := (mkB_of b).symm
def encU (c : Nat) : List UInt8 := blist (Utf8.encode (c : Int))
theorem encU_mk (c : Nat) : Utf8.encode (c : Int) = mkB (encU c) := blist_mk _
theorem blist_low {x : Nat} (h : x < 128) : blist (encN x) = [UInt8.ofNat x] := encN_low h
theorem blist_len (x : Nat) : 1 ≤ (blist (encN x)).length ∧ (blist (encN x)).length ≤ 4 := encN_len x
theorem blist_high {x : Nat} (h1 : 128 ≤ x) (h2 : x ≤ 1114111) : ∃ b r, blist (encN x) = b :: r ∧ 128 ≤ b.toNat := encN_high h1 h2
theorem encU_eq (c : Nat) : encU c = blist (encN (if Utf8.valid (c : Int) then (c : Int).toNat else Utf8.runeError)) := congrArg blist (encode_eq _)
theorem encU_low {c : Nat} (h : c < 128) : encU c = [UInt8.ofNat c] := by
  have hv : Utf8.valid (c : Int) = true := by rw [validRune_eq]; unfold validRune; exact decide_eq_true (Or.inl ⟨by omega, by omega⟩)
  rw [encU_eq, hv, if_pos rfl, Int.toNat_natCast]
  exact blist_low h
theorem encU_len (c : Nat) : 1 ≤ (encU c).length ∧ (encU c).length ≤ 4 := by
  rw [encU_eq]
  exact blist_len _
theorem runeErr_eq : Utf8.runeError = 65533 := rfl
theorem encU_high {c : Nat} (h : 128 ≤ c) : ∃ b r, encU c = b :: r ∧ 128 ≤ b.toNat := by
  rw [encU_eq]
  by_cases hv : Utf8.valid (c : Int) = true
  · rw [if_pos hv, Int.toNat_natCast]
    rw [validRune_eq] at hv
    unfold validRune at hv
    exact blist_high h (by have := of_decide_eq_true hv; omega)
  · rw [if_neg hv, runeErr_eq]
    exact blist_high (by omega) (by omega)
/-- a name's bytes -/
def nameB (acc : List Nat) : List UInt8 := acc.flatMap encU
theorem nameB_app (acc : List Nat) (c : Nat) : nameB (acc ++ [c]) = nameB acc ++ encU c := by simp [nameB]
theorem nameB_len (acc : List Nat) : (nameB acc).length ≤ 4 * acc.length := by
  induction acc with
  | nil => simp [nameB]
  | cons c r ih =>
    have h1 := (encU_len c).2
    have h2 : nameB (c :: r) = encU c ++ nameB r := by simp [nameB]
    rw [h2, List.length_append, List.length_cons]; omega
theorem nameB_lit (acc t : List Nat) (ht : ∀ c ∈ t, c < 128) : nameB acc = t.map UInt8.ofNat ↔ acc = t := by
  constructor
  · intro h
    induction acc generalizing t with
    | nil => cases t with
      | nil => rfl
      | cons a b => simp [nameB] at h
    | cons c r ih =>
      have h2 : nameB (c :: r) = encU c ++ nameB r := by simp [nameB]
      rw [h2] at h
      cases t with
      | nil =>
        have := (encU_len c).1
        simp at h
        rw [h.1] at this; simp at this
      | cons a b =>
        have ha := ht a (by simp)
        by_cases hc : c < 128
        · rw [encU_low hc] at h
          simp only [List.map_cons, List.cons_append, List.nil_append, List.cons.injEq] at h
          have e : c = a := by
            have := congrArg UInt8.toNat h.1
            rw [UInt8.toNat_ofNat', UInt8.toNat_ofNat'] at this; omega
          rw [e, ih b (fun c hc => ht c (by simp [hc])) h.2]
        · obtain ⟨x, y, e, hx⟩ := encU_high (c := c) (by omega)
          rw [e] at h
          simp only [List.map_cons, List.cons_append, List.cons.injEq] at h
          have := congrArg UInt8.toNat h.1
          rw [UInt8.toNat_ofNat'] at this; omega
  · rintro rfl
    induction acc with
    | nil => rfl
    | cons c r ih =>
      have h2 : nameB (c :: r) = encU c ++ nameB r := by simp [nameB]
      rw [h2, encU_low (ht c (by simp)), ih (fun c hc => ht c (by simp [hc]))]; rfl
theorem nameB_is (acc t : List Nat) (s : ByteArray) (hs : s.data.toList = t.map UInt8.ofNat) (ht : ∀ c ∈ t, c < 128) : ((mkB (nameB acc)).toList == s.toList) = decide (acc = t) := by
  rw [Lib.toList_data, Lib.toList_data, hs, mkB_data, Bool.eq_iff_iff]
  simp only [beq_iff_eq, decide_eq_true_eq]
  exact nameB_lit acc t ht

/-! ### Where a name ends -/
def clsEnd (l : List Nat) (j : Nat) : Bool := decide (gN l j = 58) && decide (gN l (j + 1) = 93)
/-- the first place from j on where a name ends -/
def clsAt (l : List Nat) : Nat → Nat → Option Nat
  | 0, _ => none
  | f + 1, j => if clsEnd l j = true then some j else if l.length ≤ j then none else clsAt l f (j + 1)
/-- a class off the place of its name -/
def clsR (l : List Nat) (i : Nat) : IR := match clsAt l (l.length + 1 - i) i with
  | none => .er 4 0
  | some k => if classOf ((l.drop i).take (k - i)) = [] then .er 4 0 else .ok (classOf ((l.drop i).take (k - i))) (k + 2)
theorem clsAt_some {l : List Nat} {f j k : Nat} (h : clsAt l f j = some k) : j ≤ k ∧ clsEnd l k = true ∧ ∀ m, j ≤ m → m < k → clsEnd l m = false := by
  induction f generalizing j with
  | zero => simp [clsAt] at h
  | succ f ih =>
    unfold clsAt at h
    split at h
    · rename_i h1
      cases h
      exact ⟨Nat.le_refl _, h1, fun m _ _ => by omega⟩
    · rename_i h1
      split at h
      · simp at h
      · obtain ⟨a, b, c⟩ := ih h
        refine ⟨by omega, b, fun m h2 h3 => ?_⟩
        by_cases e : m = j
        · subst e; simpa using h1
        · exact c m (by omega) h3
theorem clsAt_none {l : List Nat} {f j : Nat} (h : clsAt l f j = none) (hf : l.length + 1 ≤ f + j) : ∀ m, j ≤ m → clsEnd l m = false := by
  induction f generalizing j with
  | zero =>
    intro m hm
    unfold clsEnd
    rw [gN_end (by omega)]; rfl
  | succ f ih =>
    unfold clsAt at h
    split at h
    · simp at h
    · rename_i h1
      intro m hm
      by_cases e : m = j
      · subst e; simpa using h1
      · split at h
        · unfold clsEnd
          rw [gN_end (by omega)]; rfl
        · exact ih h (by omega) m (by omega)
theorem classOf_mem {nm : List Nat} (h : 58 ∈ nm) : classOf nm = [] := by
  unfold classOf
  repeat' split
  all_goals first | rfl | (exfalso; subst nm; revert h; decide) | (exfalso; rename_i e; rw [e] at h; revert h; decide)
theorem takeWhile_lt {p : Nat → Bool} {l : List Nat} (h : (l.takeWhile p).length < l.length) : p (gN l (l.takeWhile p).length) = false := by
  induction l with
  | nil => simp at h
  | cons a r ih =>
    by_cases ha : p a = true
    · rw [List.takeWhile_cons_of_pos ha] at h ⊢
      simp only [List.length_cons] at h ⊢
      have := ih (by omega)
      unfold gN at this ⊢
      simpa using this
    · rw [List.takeWhile_cons_of_neg ha]
      simpa [gN] using ha
theorem takeWhile_pt {p : Nat → Bool} {l : List Nat} {m : Nat} (h : m < (l.takeWhile p).length) : p (gN l m) = true := by
  induction l generalizing m with
  | nil => simp at h
  | cons a r ih =>
    by_cases ha : p a = true
    · rw [List.takeWhile_cons_of_pos ha] at h
      cases m with
      | zero => simpa [gN] using ha
      | succ m => simpa [gN] using ih (m := m) (by simpa using h)
    · rw [List.takeWhile_cons_of_neg ha] at h; simp at h
theorem gN_drop (l : List Nat) (i m : Nat) : gN (l.drop i) m = gN l (i + m) := by
  unfold gN
  rw [List.getD_eq_getElem?_getD, List.getD_eq_getElem?_getD, List.getElem?_drop]
theorem takeWhile_take (p : Nat → Bool) (l : List Nat) : l.takeWhile p = l.take (l.takeWhile p).length := by
  induction l with
  | nil => rfl
  | cons a r ih =>
    by_cases ha : p a = true
    · rw [List.takeWhile_cons_of_pos ha, List.length_cons, List.take_succ_cons, ← ih]
    · rw [List.takeWhile_cons_of_neg ha]; rfl
theorem clsR_item {l : List Nat} {i : Nat} (h : gN l i = 91 ∧ gN l (i + 1) = 58) : itemAt l i = clsR l (i + 2) := by
  unfold itemAt
  rw [if_pos h]
  clear h
  generalize i + 2 = j
  unfold clsR
  have hd : (nameAtC l j).length ≤ l.length - j := by
    unfold nameAtC
    exact Nat.le_trans (List.Sublist.length_le (List.takeWhile_sublist _)) (by rw [List.length_drop]; exact Nat.le_refl _)
  have hin : ∀ m, j ≤ m → m < j + (nameAtC l j).length → gN l m ≠ 58 := by
    intro m h1 h2 h3
    have h4 := takeWhile_pt (p := fun c => c != 58) (l := l.drop j) (m := m - j) (by show _ < (nameAtC l j).length; omega)
    rw [gN_drop, show j + (m - j) = m by omega, h3] at h4
    simp at h4
  have hst : (nameAtC l j).length < l.length - j → gN l (j + (nameAtC l j).length) = 58 := by
    intro h1
    have h4 := takeWhile_lt (p := fun c => c != 58) (l := l.drop j) (by show (nameAtC l j).length < _; rw [List.length_drop]; exact h1)
    rw [gN_drop] at h4
    change (gN l (j + (nameAtC l j).length) != 58) = false at h4
    simpa using h4
  cases hk : clsAt l (l.length + 1 - j) j with
  | none =>
    have hn := clsAt_none hk (by omega)
    rw [if_pos]
    right
    intro ⟨h1, h2⟩
    have := hn (j + (nameAtC l j).length) (by omega)
    unfold clsEnd at this
    rw [h1, h2] at this
    simp at this
  | some k =>
    obtain ⟨a, b, c⟩ := clsAt_some hk
    have b2 : gN l k = 58 ∧ gN l (k + 1) = 93 := by unfold clsEnd at b; simpa using b
    have hkl : k < l.length := gN_lt (by omega)
    have hle : j + (nameAtC l j).length ≤ k := by
      rcases Nat.lt_or_ge k (j + (nameAtC l j).length) with h1 | h1
      · exact absurd b2.1 (hin k a h1)
      · exact h1
    by_cases he : j + (nameAtC l j).length = k
    · have hnm : nameAtC l j = (l.drop j).take (k - j) := by
        unfold nameAtC at he ⊢
        rw [takeWhile_take, show ((l.drop j).takeWhile (fun c => c != 58)).length = k - j by omega]
      rw [he, hnm]
      by_cases h0 : classOf ((l.drop j).take (k - j)) = []
      · rw [if_pos (Or.inl h0)]; simp only [h0, if_true]
      · rw [if_neg (by simp only [not_or, Decidable.not_not]; exact ⟨h0, b2⟩)]; simp only [h0, if_false]
    · have h58 := hst (by omega)
      have hmem : (58 : Nat) ∈ (l.drop j).take (k - j) := by
        have hlt : (nameAtC l j).length < ((l.drop j).take (k - j)).length := by rw [List.length_take, List.length_drop]; omega
        have : ((l.drop j).take (k - j))[(nameAtC l j).length] = 58 := by
          rw [List.getElem_take, List.getElem_drop, ← gN_at, h58]
        rw [← this]
        exact List.getElem_mem _
      simp only [classOf_mem hmem, if_true]
      rw [if_pos]
      right
      intro ⟨_, h2⟩
      have := c (j + (nameAtC l j).length) (by omega) (by omega)
      unfold clsEnd at this
      rw [h58, h2] at this
      simp at this
end Go.Proofs.YtomcoilmpkpoeaaGreatDoor

namespace Go.Proofs.YtomcoilmpkpoeaaGreatDoor
open Go.RowKit
set_option linter.unusedVariables false
set_option linter.unusedSimpArgs false

theorem nameB_is' (acc t : List Nat) (s : List UInt8) (hs : s = t.map UInt8.ofNat) (ht : ∀ c ∈ t, c < 128) : ((mkB (nameB acc)).toList == s) = decide (acc = t) := by
  rw [Lib.toList_data, hs, mkB_data, Bool.eq_iff_iff]
  simp only [beq_iff_eq, decide_eq_true_eq]
  exact nameB_lit acc t ht
def ints' (s : List Int) : List Value := s.map (Value.int .i64)
/-- an answer of a row of ints and a code; where the reader then stands -/
def ItemE (w w' : World) (g cap d : Nat) (a : Option Addr) (l : List Nat) (nv : Value) (r : IR) (e : Ending) : Prop :=
  (∃ s j b, r = .ok s j ∧ e = .returned (.tuple #[.slice (some ⟨b, 0, none⟩) s.length s.length, .int .i64 0]) ∧ w.heap.size ≤ b ∧ w'.heap[b]? = some (.cells (ints' s).toArray 3 (0, 0)) ∧ w'.heap[g]? = some (.cells #[.slice a l.length cap, .int .i64 ((j : Nat) : Int), .int .i64 (d : Int), nv] 101 (0, 0)))
  ∨ (∃ c p x j, r = .er c p ∧ e = .returned (.tuple #[x, .int .i64 ((c : Nat) : Int)]) ∧ (c = 6 ∨ c = 4) ∧ (c = 6 → j = p) ∧ w'.heap[g]? = some (.cells #[.slice a l.length cap, .int .i64 ((j : Nat) : Int), .int .i64 (d : Int), nv] 101 (0, 0)))
theorem take_step {l : List Nat} {p j : Nat} (h : p ≤ j) (hl : j < l.length) : (l.drop p).take (j + 1 - p) = (l.drop p).take (j - p) ++ [gN l j] := by
  rw [show j + 1 - p = (j - p) + 1 by omega, List.take_succ_eq_append_getElem (by rw [List.length_drop]; omega), List.getElem_drop, ← gN_at]
  simp only [show p + (j - p) = j by omega]
theorem clsAt_skip {l : List Nat} {j : Nat} : ∀ (f p : Nat), p ≤ j → j ≤ l.length → l.length + 1 ≤ f + p → (∀ m, p ≤ m → m < j → clsEnd l m = false) → clsAt l f p = clsAt l (f - (j - p)) j
  | 0, p, h1, h2, h3, h => by rw [show j = p by omega]; simp
  | f + 1, p, h1, h2, h3, h => by
    by_cases e : p = j
    · subst e; simp
    · have hp := h p (Nat.le_refl _) (by omega)
      rw [show clsAt l (f + 1) p = (if clsEnd l p = true then some p else if l.length ≤ p then none else clsAt l f (p + 1)) from rfl, hp, if_neg (by simp), if_neg (by omega), clsAt_skip f (p + 1) (by omega) h2 (by omega) (fun m a b => h m (by omega) b)]
      congr 1; omega
theorem clsAt_here {l : List Nat} {j f : Nat} (hf : 0 < f) (h : clsEnd l j = true) : clsAt l f j = some j := by
  cases f with
  | zero => omega
  | succ f => simp [clsAt, h]
theorem clsAt_over {l : List Nat} {f : Nat} (h : clsEnd l l.length = false) : clsAt l f l.length = none := by
  cases f with
  | zero => rfl
  | succ f => simp [clsAt, h]
def strSz (v : Value) : Nat := match v with | .string s => s.size | _ => 0
theorem Kp.base {g : Nat} {w w' : World} (h : Kp g none w w') (hg : g < w.heap.size) : Below g w w' := h.below (Nat.le_of_lt hg) (fun b e => by cases e)
set_option maxHeartbeats 16000000 in
theorem implClass {g cap i d : Nat} {a : Option Addr} {l : List Nat} {nv : Value} (w : World) (hb : w.heap[g]? = some (.cells #[.slice a l.length cap, .int .i64 (i : Int), .int .i64 (d : Int), nv] 101 (0, 0)))
    (hL : RxL w g a l) (hi : i + 2 ≤ l.length) :
    Calls Tryz.prog 232 #[.pointer (some ⟨g, 0, none⟩)] w fun e w' => ItemE w w' g cap d a l nv (clsR l (i + 2)) e ∧ Kp g none w w' := by
  have hlen := hL.len
  have hg : g < w.heap.size := (Array.getElem?_eq_some_iff.1 hb).1
  have CX := hid (fun (w' : World) (j : Nat) (hk : Kp g none w w') (hb' : w'.heap[g]? = some (.cells #[.slice a l.length cap, .int .i64 ((j : Nat) : Int), .int .i64 (d : Int), nv] 101 (0, 0))) (hj : j ≤ 1000) => implNext w' hb' (hL.below (hk.base hg)) (by omega))
  have CA := hid (fun (w' : World) (j : Nat) (hk : Kp g none w w') (hb' : w'.heap[g]? = some (.cells #[.slice a l.length cap, .int .i64 ((j : Nat) : Int), .int .i64 (d : Int), nv] 101 (0, 0))) (hj : j ≤ 1000) => implAhead (k := 1) w' hb' (hL.below (hk.base hg)) (by omega) (by decide))
  have HPT := hid (fun m => gN_le hL.pts m)
  obtain ⟨c0, c1, c2, c3, y0, y1, y2, y3, hl⟩ := blk4 hb
  have HN := hid (blk4_set (o := 1) (.int .i64 ((i + 2 : Nat) : Int)) hb)
  rw [show ((i + 2 : Nat) : Int) = (i : Int) + 2 by omega] at HN
  have hw : IntKind.i64.wrap ((i : Int) + 2) = (i : Int) + 2 := IntWalk.i64_in _ (by omega)
  obtain ⟨R, hR⟩ : ∃ r, clsR l (i + 2) = r := ⟨_, rfl⟩
  rw [hR]
  have HR := hid hR
  clear hb hR hL
  obtain ⟨p, hp⟩ : ∃ p, i + 2 = p := ⟨_, rfl⟩
  rw [hp] at hi HR
  have hip : (i : Int) + 2 = (p : Int) := by omega
  rw [hip] at HN hw
  have HP := hid hp
  clear hp
  unfold ItemE
  go_enter Tryz.func232, Tryz.ntmps232
  go_wp2
  go_loopw [4] (fun sv wr => ∃ j : Nat, p ≤ j ∧ j ≤ l.length ∧ sv = .string (mkB (nameB ((l.drop p).take (j - p)))) ∧ (∀ m, p ≤ m → m < j → clsEnd l m = false) ∧ wr.heap[g]? = some (.cells #[.slice a l.length cap, .int .i64 ((j : Nat) : Int), .int .i64 (d : Int), nv] 101 (0, 0)) ∧ Kp g none w wr) (fun sv _ => 4000 - strSz sv)
  case atStart => exact ⟨p, Nat.le_refl _, hi, by simp [nameB, mkB], fun m _ _ => by omega, HN.out, (Kp.refl g none w).set 1 _⟩
  case round =>
    obtain ⟨j, hpj, hjl, rfl, hno, hbr, hkr⟩ := hrel
    have hj1 : j ≤ 1000 := by omega
    have CXJ := hid (fun (w' : World) (hq : Qt wr w') => CX.out w' j (hkr.trans hq.kp (RowOn.refl _ _)) (hq.at hbr) hj1)
    have CAJ := hid (fun (w' : World) (hq : Qt wr w') => CA.out w' j (hkr.trans hq.kp (RowOn.refl _ _)) (hq.at hbr) hj1)
    have HBR := hid hbr
    have HNO := hid hno
    have HKR := hid hkr
    obtain ⟨c0, c1, c2, c3, y0, y1, y2, y3, hlr⟩ := blk4 hbr
    have hcle := HPT.out j
    obtain ⟨c, hc⟩ : ∃ c, gN l j = c := ⟨_, rfl⟩
    obtain ⟨k, hk⟩ : ∃ c, gN l (j + 1) = c := ⟨_, rfl⟩
    rw [hc] at CXJ hcle
    rw [hk] at CAJ
    have HC := hid hc
    have HK := hid hk
    clear hbr hno hkr hc hk
    have g1 : ((c : Int) == 58) = decide (c = 58) := by by_cases h : c = 58 <;> simp [h]; omega
    have g2 : ((k : Int) == 93) = decide (k = 93) := by by_cases h : k = 93 <;> simp [h]; omega
    by_cases hend : c = 58 ∧ k = 93
    · obtain ⟨rfl, rfl⟩ := hend
      have hlt : j < l.length := gN_lt (by have := HC.out; omega)
      have HF := hid (show R = if classOf ((l.drop p).take (j - p)) = [] then .er 4 0 else .ok (classOf ((l.drop p).take (j - p))) (j + 2) by
        rw [← HR.out]
        unfold clsR
        rw [clsAt_skip (j := j) _ _ hpj hjl (by omega) HNO.out, clsAt_here (by omega) (by unfold clsEnd; rw [HC.out, HK.out]; simp)])
      obtain ⟨acc, hacc⟩ : ∃ x, (l.drop p).take (j - p) = x := ⟨_, rfl⟩
      rw [hacc] at HF ⊢
      clear hacc g1 g2
      have hw3 : IntKind.i64.wrap ((j : Int) + 2) = (j : Int) + 2 := IntWalk.i64_in _ (by omega)
      have b0 : ((mkB (nameB acc)).toList == ([97, 108, 112, 104, 97] : List UInt8)) = decide (acc = [97, 108, 112, 104, 97]) := nameB_is' acc [97, 108, 112, 104, 97] _ rfl (by decide)
      have b1 : ((mkB (nameB acc)).toList == ([100, 105, 103, 105, 116] : List UInt8)) = decide (acc = [100, 105, 103, 105, 116]) := nameB_is' acc [100, 105, 103, 105, 116] _ rfl (by decide)
      have b2 : ((mkB (nameB acc)).toList == ([97, 108, 110, 117, 109] : List UInt8)) = decide (acc = [97, 108, 110, 117, 109]) := nameB_is' acc [97, 108, 110, 117, 109] _ rfl (by decide)
      have b3 : ((mkB (nameB acc)).toList == ([117, 112, 112, 101, 114] : List UInt8)) = decide (acc = [117, 112, 112, 101, 114]) := nameB_is' acc [117, 112, 112, 101, 114] _ rfl (by decide)
      have b4 : ((mkB (nameB acc)).toList == ([108, 111, 119, 101, 114] : List UInt8)) = decide (acc = [108, 111, 119, 101, 114]) := nameB_is' acc [108, 111, 119, 101, 114] _ rfl (by decide)
      have b5 : ((mkB (nameB acc)).toList == ([115, 112, 97, 99, 101] : List UInt8)) = decide (acc = [115, 112, 97, 99, 101]) := nameB_is' acc [115, 112, 97, 99, 101] _ rfl (by decide)
      have b6 : ((mkB (nameB acc)).toList == ([98, 108, 97, 110, 107] : List UInt8)) = decide (acc = [98, 108, 97, 110, 107]) := nameB_is' acc [98, 108, 97, 110, 107] _ rfl (by decide)
      have b7 : ((mkB (nameB acc)).toList == ([112, 117, 110, 99, 116] : List UInt8)) = decide (acc = [112, 117, 110, 99, 116]) := nameB_is' acc [112, 117, 110, 99, 116] _ rfl (by decide)
      have b8 : ((mkB (nameB acc)).toList == ([120, 100, 105, 103, 105, 116] : List UInt8)) = decide (acc = [120, 100, 105, 103, 105, 116]) := nameB_is' acc [120, 100, 105, 103, 105, 116] _ rfl (by decide)
      by_cases h0 : acc = [97, 108, 112, 104, 97]
      · rw [decide_eq_true h0] at b0
        have HO := hid (show R = .ok [65, 90, 97, 122] (j + 2) by rw [HF.out, h0]; rfl)
        clear h0 b1 b2 b3 b4 b5 b6 b7 b8
        go_wp2_with fail
        refine (CXJ.out _ (Qt.refl _)).mono ?_
        rintro e w1 ⟨rfl, hq1⟩
        go_wp2_with fail
        refine (CAJ.out _ hq1).mono ?_
        rintro e w2 ⟨rfl, hq2⟩
        have hq := hq1.trans hq2
        clear hq1 hq2
        have hb2 := hq.at HBR.out
        obtain ⟨d0, d1, d2, d3, z0, z1, z2, z3, hl2⟩ := blk4 hb2
        have HN2 := hid (blk4_set (o := 1) (.int .i64 ((j + 2 : Nat) : Int)) hb2)
        rw [show ((j + 2 : Nat) : Int) = (j : Int) + 2 by omega] at HN2
        clear hb2
        go_wp2_with fail
        go_ret2
        refine ⟨Or.inl ⟨[65, 90, 97, 122], j + 2, _, HO.out, rfl, (HKR.out.trans hq.kp (RowOn.refl _ _)).size, ?_, ?_⟩, (((HKR.out.trans hq.kp (RowOn.refl _ _)).set 1 _).alloc _)⟩
        · rw [← show (w2.setCell ⟨g, 1, none⟩ (.int .i64 ((j : Int) + 2))).heap.size = w2.heap.size by simp]; exact heap_alloc_new _ _
        · rw [show ((j + 2 : Nat) : Int) = (j : Int) + 2 by omega]; exact ((ext_alloc _ _).block g (by simp; exact hl2)).trans HN2.out
      rw [decide_eq_false h0] at b0
      by_cases h1 : acc = [100, 105, 103, 105, 116]
      · rw [decide_eq_true h1] at b1
        have HO := hid (show R = .ok [48, 57] (j + 2) by rw [HF.out, h1]; rfl)
        clear h1 b2 b3 b4 b5 b6 b7 b8
        go_wp2_with fail
        refine (CXJ.out _ (Qt.refl _)).mono ?_
        rintro e w1 ⟨rfl, hq1⟩
        go_wp2_with fail
        refine (CAJ.out _ hq1).mono ?_
        rintro e w2 ⟨rfl, hq2⟩
        have hq := hq1.trans hq2
        clear hq1 hq2
        have hb2 := hq.at HBR.out
        obtain ⟨d0, d1, d2, d3, z0, z1, z2, z3, hl2⟩ := blk4 hb2
        have HN2 := hid (blk4_set (o := 1) (.int .i64 ((j + 2 : Nat) : Int)) hb2)
        rw [show ((j + 2 : Nat) : Int) = (j : Int) + 2 by omega] at HN2
        clear hb2
        go_wp2_with fail
        go_ret2
        refine ⟨Or.inl ⟨[48, 57], j + 2, _, HO.out, rfl, (HKR.out.trans hq.kp (RowOn.refl _ _)).size, ?_, ?_⟩, (((HKR.out.trans hq.kp (RowOn.refl _ _)).set 1 _).alloc _)⟩
        · rw [← show (w2.setCell ⟨g, 1, none⟩ (.int .i64 ((j : Int) + 2))).heap.size = w2.heap.size by simp]; exact heap_alloc_new _ _
        · rw [show ((j + 2 : Nat) : Int) = (j : Int) + 2 by omega]; exact ((ext_alloc _ _).block g (by simp; exact hl2)).trans HN2.out
      rw [decide_eq_false h1] at b1
      by_cases h2 : acc = [97, 108, 110, 117, 109]
      · rw [decide_eq_true h2] at b2
        have HO := hid (show R = .ok [48, 57, 65, 90, 97, 122] (j + 2) by rw [HF.out, h2]; rfl)
        clear h2 b3 b4 b5 b6 b7 b8
        go_wp2_with fail
        refine (CXJ.out _ (Qt.refl _)).mono ?_
        rintro e w1 ⟨rfl, hq1⟩
        go_wp2_with fail
        refine (CAJ.out _ hq1).mono ?_
        rintro e w2 ⟨rfl, hq2⟩
        have hq := hq1.trans hq2
        clear hq1 hq2
        have hb2 := hq.at HBR.out
        obtain ⟨d0, d1, d2, d3, z0, z1, z2, z3, hl2⟩ := blk4 hb2
        have HN2 := hid (blk4_set (o := 1) (.int .i64 ((j + 2 : Nat) : Int)) hb2)
        rw [show ((j + 2 : Nat) : Int) = (j : Int) + 2 by omega] at HN2
        clear hb2
        go_wp2_with fail
        go_ret2
        refine ⟨Or.inl ⟨[48, 57, 65, 90, 97, 122], j + 2, _, HO.out, rfl, (HKR.out.trans hq.kp (RowOn.refl _ _)).size, ?_, ?_⟩, (((HKR.out.trans hq.kp (RowOn.refl _ _)).set 1 _).alloc _)⟩
        · rw [← show (w2.setCell ⟨g, 1, none⟩ (.int .i64 ((j : Int) + 2))).heap.size = w2.heap.size by simp]; exact heap_alloc_new _ _
        · rw [show ((j + 2 : Nat) : Int) = (j : Int) + 2 by omega]; exact ((ext_alloc _ _).block g (by simp; exact hl2)).trans HN2.out
      rw [decide_eq_false h2] at b2
      by_cases h3 : acc = [117, 112, 112, 101, 114]
      · rw [decide_eq_true h3] at b3
        have HO := hid (show R = .ok [65, 90] (j + 2) by rw [HF.out, h3]; rfl)
        clear h3 b4 b5 b6 b7 b8
        go_wp2_with fail
        refine (CXJ.out _ (Qt.refl _)).mono ?_
        rintro e w1 ⟨rfl, hq1⟩
        go_wp2_with fail
        refine (CAJ.out _ hq1).mono ?_
        rintro e w2 ⟨rfl, hq2⟩
        have hq := hq1.trans hq2
        clear hq1 hq2
        have hb2 := hq.at HBR.out
        obtain ⟨d0, d1, d2, d3, z0, z1, z2, z3, hl2⟩ := blk4 hb2
        have HN2 := hid (blk4_set (o := 1) (.int .i64 ((j + 2 : Nat) : Int)) hb2)
        rw [show ((j + 2 : Nat) : Int) = (j : Int) + 2 by omega] at HN2
        clear hb2
        go_wp2_with fail
        go_ret2
        refine ⟨Or.inl ⟨[65, 90], j + 2, _, HO.out, rfl, (HKR.out.trans hq.kp (RowOn.refl _ _)).size, ?_, ?_⟩, (((HKR.out.trans hq.kp (RowOn.refl _ _)).set 1 _).alloc _)⟩
        · rw [← show (w2.setCell ⟨g, 1, none⟩ (.int .i64 ((j : Int) + 2))).heap.size = w2.heap.size by simp]; exact heap_alloc_new _ _
        · rw [show ((j + 2 : Nat) : Int) = (j : Int) + 2 by omega]; exact ((ext_alloc _ _).block g (by simp; exact hl2)).trans HN2.out
      rw [decide_eq_false h3] at b3
      by_cases h4 : acc = [108, 111, 119, 101, 114]
      · rw [decide_eq_true h4] at b4
        have HO := hid (show R = .ok [97, 122] (j + 2) by rw [HF.out, h4]; rfl)
        clear h4 b5 b6 b7 b8
        go_wp2_with fail
        refine (CXJ.out _ (Qt.refl _)).mono ?_
        rintro e w1 ⟨rfl, hq1⟩
        go_wp2_with fail
        refine (CAJ.out _ hq1).mono ?_
        rintro e w2 ⟨rfl, hq2⟩
        have hq := hq1.trans hq2
        clear hq1 hq2
        have hb2 := hq.at HBR.out
        obtain ⟨d0, d1, d2, d3, z0, z1, z2, z3, hl2⟩ := blk4 hb2
        have HN2 := hid (blk4_set (o := 1) (.int .i64 ((j + 2 : Nat) : Int)) hb2)
        rw [show ((j + 2 : Nat) : Int) = (j : Int) + 2 by omega] at HN2
        clear hb2
        go_wp2_with fail
        go_ret2
        refine ⟨Or.inl ⟨[97, 122], j + 2, _, HO.out, rfl, (HKR.out.trans hq.kp (RowOn.refl _ _)).size, ?_, ?_⟩, (((HKR.out.trans hq.kp (RowOn.refl _ _)).set 1 _).alloc _)⟩
        · rw [← show (w2.setCell ⟨g, 1, none⟩ (.int .i64 ((j : Int) + 2))).heap.size = w2.heap.size by simp]; exact heap_alloc_new _ _
        · rw [show ((j + 2 : Nat) : Int) = (j : Int) + 2 by omega]; exact ((ext_alloc _ _).block g (by simp; exact hl2)).trans HN2.out
      rw [decide_eq_false h4] at b4
      by_cases h5 : acc = [115, 112, 97, 99, 101]
      · rw [decide_eq_true h5] at b5
        have HO := hid (show R = .ok [9, 13, 32, 32] (j + 2) by rw [HF.out, h5]; rfl)
        clear h5 b6 b7 b8
        go_wp2_with fail
        refine (CXJ.out _ (Qt.refl _)).mono ?_
        rintro e w1 ⟨rfl, hq1⟩
        go_wp2_with fail
        refine (CAJ.out _ hq1).mono ?_
        rintro e w2 ⟨rfl, hq2⟩
        have hq := hq1.trans hq2
        clear hq1 hq2
        have hb2 := hq.at HBR.out
        obtain ⟨d0, d1, d2, d3, z0, z1, z2, z3, hl2⟩ := blk4 hb2
        have HN2 := hid (blk4_set (o := 1) (.int .i64 ((j + 2 : Nat) : Int)) hb2)
        rw [show ((j + 2 : Nat) : Int) = (j : Int) + 2 by omega] at HN2
        clear hb2
        go_wp2_with fail
        go_ret2
        refine ⟨Or.inl ⟨[9, 13, 32, 32], j + 2, _, HO.out, rfl, (HKR.out.trans hq.kp (RowOn.refl _ _)).size, ?_, ?_⟩, (((HKR.out.trans hq.kp (RowOn.refl _ _)).set 1 _).alloc _)⟩
        · rw [← show (w2.setCell ⟨g, 1, none⟩ (.int .i64 ((j : Int) + 2))).heap.size = w2.heap.size by simp]; exact heap_alloc_new _ _
        · rw [show ((j + 2 : Nat) : Int) = (j : Int) + 2 by omega]; exact ((ext_alloc _ _).block g (by simp; exact hl2)).trans HN2.out
      rw [decide_eq_false h5] at b5
      by_cases h6 : acc = [98, 108, 97, 110, 107]
      · rw [decide_eq_true h6] at b6
        have HO := hid (show R = .ok [9, 9, 32, 32] (j + 2) by rw [HF.out, h6]; rfl)
        clear h6 b7 b8
        go_wp2_with fail
        refine (CXJ.out _ (Qt.refl _)).mono ?_
        rintro e w1 ⟨rfl, hq1⟩
        go_wp2_with fail
        refine (CAJ.out _ hq1).mono ?_
        rintro e w2 ⟨rfl, hq2⟩
        have hq := hq1.trans hq2
        clear hq1 hq2
        have hb2 := hq.at HBR.out
        obtain ⟨d0, d1, d2, d3, z0, z1, z2, z3, hl2⟩ := blk4 hb2
        have HN2 := hid (blk4_set (o := 1) (.int .i64 ((j + 2 : Nat) : Int)) hb2)
        rw [show ((j + 2 : Nat) : Int) = (j : Int) + 2 by omega] at HN2
        clear hb2
        go_wp2_with fail
        go_ret2
        refine ⟨Or.inl ⟨[9, 9, 32, 32], j + 2, _, HO.out, rfl, (HKR.out.trans hq.kp (RowOn.refl _ _)).size, ?_, ?_⟩, (((HKR.out.trans hq.kp (RowOn.refl _ _)).set 1 _).alloc _)⟩
        · rw [← show (w2.setCell ⟨g, 1, none⟩ (.int .i64 ((j : Int) + 2))).heap.size = w2.heap.size by simp]; exact heap_alloc_new _ _
        · rw [show ((j + 2 : Nat) : Int) = (j : Int) + 2 by omega]; exact ((ext_alloc _ _).block g (by simp; exact hl2)).trans HN2.out
      rw [decide_eq_false h6] at b6
      by_cases h7 : acc = [112, 117, 110, 99, 116]
      · rw [decide_eq_true h7] at b7
        have HO := hid (show R = .ok [33, 47, 58, 64, 91, 96, 123, 126] (j + 2) by rw [HF.out, h7]; rfl)
        clear h7 b8
        go_wp2_with fail
        refine (CXJ.out _ (Qt.refl _)).mono ?_
        rintro e w1 ⟨rfl, hq1⟩
        go_wp2_with fail
        refine (CAJ.out _ hq1).mono ?_
        rintro e w2 ⟨rfl, hq2⟩
        have hq := hq1.trans hq2
        clear hq1 hq2
        have hb2 := hq.at HBR.out
        obtain ⟨d0, d1, d2, d3, z0, z1, z2, z3, hl2⟩ := blk4 hb2
        have HN2 := hid (blk4_set (o := 1) (.int .i64 ((j + 2 : Nat) : Int)) hb2)
        rw [show ((j + 2 : Nat) : Int) = (j : Int) + 2 by omega] at HN2
        clear hb2
        go_wp2_with fail
        go_ret2
        refine ⟨Or.inl ⟨[33, 47, 58, 64, 91, 96, 123, 126], j + 2, _, HO.out, rfl, (HKR.out.trans hq.kp (RowOn.refl _ _)).size, ?_, ?_⟩, (((HKR.out.trans hq.kp (RowOn.refl _ _)).set 1 _).alloc _)⟩
        · rw [← show (w2.setCell ⟨g, 1, none⟩ (.int .i64 ((j : Int) + 2))).heap.size = w2.heap.size by simp]; exact heap_alloc_new _ _
        · rw [show ((j + 2 : Nat) : Int) = (j : Int) + 2 by omega]; exact ((ext_alloc _ _).block g (by simp; exact hl2)).trans HN2.out
      rw [decide_eq_false h7] at b7
      by_cases h8 : acc = [120, 100, 105, 103, 105, 116]
      · rw [decide_eq_true h8] at b8
        have HO := hid (show R = .ok [48, 57, 65, 70, 97, 102] (j + 2) by rw [HF.out, h8]; rfl)
        clear h8
        go_wp2_with fail
        refine (CXJ.out _ (Qt.refl _)).mono ?_
        rintro e w1 ⟨rfl, hq1⟩
        go_wp2_with fail
        refine (CAJ.out _ hq1).mono ?_
        rintro e w2 ⟨rfl, hq2⟩
        have hq := hq1.trans hq2
        clear hq1 hq2
        have hb2 := hq.at HBR.out
        obtain ⟨d0, d1, d2, d3, z0, z1, z2, z3, hl2⟩ := blk4 hb2
        have HN2 := hid (blk4_set (o := 1) (.int .i64 ((j + 2 : Nat) : Int)) hb2)
        rw [show ((j + 2 : Nat) : Int) = (j : Int) + 2 by omega] at HN2
        clear hb2
        go_wp2_with fail
        go_ret2
        refine ⟨Or.inl ⟨[48, 57, 65, 70, 97, 102], j + 2, _, HO.out, rfl, (HKR.out.trans hq.kp (RowOn.refl _ _)).size, ?_, ?_⟩, (((HKR.out.trans hq.kp (RowOn.refl _ _)).set 1 _).alloc _)⟩
        · rw [← show (w2.setCell ⟨g, 1, none⟩ (.int .i64 ((j : Int) + 2))).heap.size = w2.heap.size by simp]; exact heap_alloc_new _ _
        · rw [show ((j + 2 : Nat) : Int) = (j : Int) + 2 by omega]; exact ((ext_alloc _ _).block g (by simp; exact hl2)).trans HN2.out
      rw [decide_eq_false h8] at b8
      have HO := hid (show R = .er 4 0 by rw [HF.out, show classOf acc = [] by unfold classOf; rw [if_neg h0, if_neg h1, if_neg h2, if_neg h3, if_neg h4, if_neg h5, if_neg h6, if_neg h7, if_neg h8]]; rfl)
      clear h0 h1 h2 h3 h4 h5 h6 h7 h8
      go_wp2_with fail
      refine (CXJ.out _ (Qt.refl _)).mono ?_
      rintro e w1 ⟨rfl, hq1⟩
      go_wp2_with fail
      refine (CAJ.out _ hq1).mono ?_
      rintro e w2 ⟨rfl, hq2⟩
      have hq := hq1.trans hq2
      clear hq1 hq2
      have hb2 := hq.at HBR.out
      obtain ⟨d0, d1, d2, d3, z0, z1, z2, z3, hl2⟩ := blk4 hb2
      have HN2 := hid (blk4_set (o := 1) (.int .i64 ((j + 2 : Nat) : Int)) hb2)
      rw [show ((j + 2 : Nat) : Int) = (j : Int) + 2 by omega] at HN2
      clear hb2
      go_wp2_with fail
      go_ret2
      refine ⟨Or.inr ⟨4, 0, _, j + 2, HO.out, rfl, Or.inr rfl, fun h => absurd h (by decide), ?_⟩, ((HKR.out.trans hq.kp (RowOn.refl _ _)).set 1 _)⟩
      rw [show ((j + 2 : Nat) : Int) = (j : Int) + 2 by omega]; exact HN2.out
    · by_cases h58 : c = 58
      · have h93 : ¬ k = 93 := fun h => hend ⟨h58, h⟩
        have hlt : j < l.length := gN_lt (by have := HC.out; omega)
        subst h58
        clear hend
        go_wp2_with fail
        refine (CXJ.out _ (Qt.refl _)).mono ?_
        rintro e w1 ⟨rfl, hq1⟩
        go_wp2_with fail
        refine (CAJ.out _ hq1).mono ?_
        rintro e w2 ⟨rfl, hq2⟩
        have hq := hq1.trans hq2
        clear hq1 hq2
        have hcc : (58 : Nat) < 128 := by decide
        have hb2 := hq.at HBR.out
        obtain ⟨d0, d1, d2, d3, z0, z1, z2, z3, hl2⟩ := blk4 hb2
        have hneq : ((j : Int) == (l.length : Int)) = false := by rw [beq_eq_false_iff_ne]; omega
        clear hb2
        go_wp2_with fail
        go_quiet (fail)
        go_wp2_with fail
        refine (CXJ.out _ (hq.trans (Qt.one _ _))).mono ?_
        rintro e w3 ⟨rfl, hq3⟩
        have hq3' := (hq.trans (Qt.one _ _)).trans hq3
        have hb3 := hq3'.at HBR.out
        obtain ⟨f0, f1, f2, f3, t0, t1, t2, t3, hl3⟩ := blk4 hb3
        have HN3 := hid (blk4_set (o := 1) (.int .i64 ((j + 1 : Nat) : Int)) hb3)
        rw [show ((j + 1 : Nat) : Int) = (j : Int) + 1 by omega] at HN3
        clear hb3
        have hi32 : IntKind.i32.wrap (58 : Int) = 58 := IntWalk.i32_in _ (by omega)
        have hE : Utf8.encode (58 : Int) = mkB (encU 58) := encU_mk _
        have hw3 : IntKind.i64.wrap ((j : Int) + 1) = (j : Int) + 1 := IntWalk.i64_in _ (by omega)
        have hX := nameB_len ((l.drop p).take (j - p))
        rw [List.length_take, List.length_drop] at hX
        have hX2 := encU_len 58
        have HNX := hid (nameB_app ((l.drop p).take (j - p)) 58)
        obtain ⟨X, hXX⟩ : ∃ x, nameB ((l.drop p).take (j - p)) = x := ⟨_, rfl⟩
        have HXX := hid hXX
        rw [hXX] at hX HNX ⊢
        have s1 := mkB_size X
        have s2 := mkB_size (encU 58)
        have s3 : ¬ 9223372036854775807 < X.length + (encU 58).length := by omega
        have HX := hid (And.intro hX hX2)
        clear hX hX2 hXX
        go_wp2
        go_roundw
        case rel =>
          refine ⟨j + 1, by omega, by omega, ?_, ?_, HN3.out, ((HKR.out.trans hq3'.kp (RowOn.refl _ _)).set 1 _)⟩
          · rw [mkB_append, ← HNX.out, take_step hpj hlt, HC.out]
          · intro m h1 h2
            by_cases hm : m = j
            · subst hm
              unfold clsEnd
              rw [HC.out, HK.out]
              simp [h93]
            · exact HNO.out m h1 (by omega)
        case measure =>
          have h1 := HX.out
          rw [HXX.out]
          show 4000 - (mkB X ++ mkB (encU 58)).size < 4000 - (mkB X).size
          rw [mkB_append, mkB_size, mkB_size, List.length_append]
          omega
      · clear hend
        have hb58 : ((c : Int) == 58) = false := by rw [g1]; simp [h58]
        clear g1 g2
        by_cases hje : j = l.length
        · subst hje
          have HF := hid (show R = .er 4 0 by
            rw [← HR.out]
            unfold clsR
            rw [clsAt_skip (j := l.length) _ _ hpj (Nat.le_refl _) (by omega) HNO.out, clsAt_over (by unfold clsEnd; rw [HC.out]; simp [h58])])
          go_wp2_with fail
          refine (CXJ.out _ (Qt.refl _)).mono ?_
          rintro e w2 ⟨rfl, hq⟩
          have hb2 := hq.at HBR.out
          obtain ⟨d0, d1, d2, d3, z0, z1, z2, z3, hl2⟩ := blk4 hb2
          have heq : ((l.length : Int) == (l.length : Int)) = true := by simp
          go_wp2_with fail
          go_quiet (fail)
          go_wp2
          go_ret2
          exact ⟨Or.inr ⟨4, 0, _, _, HF.out, rfl, Or.inr rfl, fun h => absurd h (by decide), hb2⟩, (HKR.out.trans hq.kp (RowOn.refl _ _)).drewN _⟩
        · have hlt : j < l.length := by omega
          go_wp2_with fail
          refine (CXJ.out _ (Qt.refl _)).mono ?_
          rintro e w2 ⟨rfl, hq⟩
          have hb2 := hq.at HBR.out
          obtain ⟨d0, d1, d2, d3, z0, z1, z2, z3, hl2⟩ := blk4 hb2
          have hneq : ((j : Int) == (l.length : Int)) = false := by rw [beq_eq_false_iff_ne]; omega
          clear hb2
          go_wp2_with fail
          go_quiet (fail)
          go_wp2_with fail
          refine (CXJ.out _ (hq.trans (Qt.one _ _))).mono ?_
          rintro e w3 ⟨rfl, hq3⟩
          have hq3' := (hq.trans (Qt.one _ _)).trans hq3
          have hb3 := hq3'.at HBR.out
          obtain ⟨f0, f1, f2, f3, t0, t1, t2, t3, hl3⟩ := blk4 hb3
          have HN3 := hid (blk4_set (o := 1) (.int .i64 ((j + 1 : Nat) : Int)) hb3)
          rw [show ((j + 1 : Nat) : Int) = (j : Int) + 1 by omega] at HN3
          clear hb3
          have hi32 : IntKind.i32.wrap (c : Int) = c := IntWalk.i32_in _ (by omega)
          have hE : Utf8.encode (c : Int) = mkB (encU c) := encU_mk _
          have hw3 : IntKind.i64.wrap ((j : Int) + 1) = (j : Int) + 1 := IntWalk.i64_in _ (by omega)
          have hX := nameB_len ((l.drop p).take (j - p))
          rw [List.length_take, List.length_drop] at hX
          have hX2 := encU_len c
          have HNX := hid (nameB_app ((l.drop p).take (j - p)) c)
          obtain ⟨X, hXX⟩ : ∃ x, nameB ((l.drop p).take (j - p)) = x := ⟨_, rfl⟩
          have HXX := hid hXX
          rw [hXX] at hX HNX ⊢
          have s1 := mkB_size X
          have s2 := mkB_size (encU c)
          have s3 : ¬ 9223372036854775807 < X.length + (encU c).length := by omega
          have HX := hid (And.intro hX hX2)
          clear hX hX2 hXX
          go_wp2
          go_roundw
          case rel =>
            refine ⟨j + 1, by omega, by omega, ?_, ?_, HN3.out, ((HKR.out.trans hq3'.kp (RowOn.refl _ _)).set 1 _)⟩
            · rw [mkB_append, ← HNX.out, take_step hpj hlt, HC.out]
            · intro m h1 h2
              by_cases hm : m = j
              · subst hm
                unfold clsEnd
                rw [HC.out, HK.out]
                simp [h58]
              · exact HNO.out m h1 (by omega)
          case measure =>
            have h1 := HX.out
            rw [HXX.out]
            show 4000 - (mkB X ++ mkB (encU c)).size < 4000 - (mkB X).size
            rw [mkB_append, mkB_size, mkB_size, List.length_append]
            omega
end Go.Proofs.YtomcoilmpkpoeaaGreatDoor

namespace Go.Proofs.YtomcoilmpkpoeaaGreatDoor
open Go.RowKit
set_option linter.unusedVariables false
set_option linter.unusedSimpArgs false

/-- the lists are those of a tree: each kid stands before its list, each but the last is a kid once -/
def treeOk (ks : List (List Int)) : Prop := 0 < ks.length ∧ (∀ i (h : i < ks.length), ∀ k ∈ ks[i], 0 ≤ k ∧ k < (i : Int)) ∧ ∀ m : Nat, m + 1 < ks.length → ks.flatten.count (m : Int) = 1
open Classical in
noncomputable def treeB (ks : List (List Int)) : Bool := decide (treeOk ks)
open Classical in
theorem treeB_true {ks : List (List Int)} (h : treeOk ks) : treeB ks = true := decide_eq_true h
open Classical in
theorem treeB_false {ks : List (List Int)} (h : ¬ treeOk ks) : treeB ks = false := decide_eq_false h
open Classical in
theorem treeB_iff {ks : List (List Int)} : treeB ks = true ↔ treeOk ks := decide_eq_true_iff
/-- the kids of the first lists, and the first ones of the next -/
def procd (ks : List (List Int)) (i j : Nat) : List Int := (ks.take i).flatten ++ (ks.getD i []).take j
theorem procd_zero (ks : List (List Int)) : procd ks 0 0 = [] := by simp [procd]
theorem procd_next (ks : List (List Int)) (i : Nat) (h : i < ks.length) : procd ks (i + 1) 0 = procd ks i ks[i].length := by
  unfold procd
  rw [List.take_succ_eq_append_getElem h, List.flatten_append]
  simp [List.getD_eq_getElem?_getD, List.getElem?_eq_getElem h]
theorem procd_step (ks : List (List Int)) (i j : Nat) (h : i < ks.length) (hj : j < ks[i].length) : procd ks i (j + 1) = procd ks i j ++ [ks[i][j]] := by
  unfold procd
  rw [List.getD_eq_getElem?_getD, List.getElem?_eq_getElem h]
  simp only [Option.getD_some]
  rw [List.take_succ_eq_append_getElem hj, List.append_assoc]
theorem procd_all (ks : List (List Int)) : procd ks ks.length 0 = ks.flatten := by
  unfold procd
  simp
theorem procd_len (ks : List (List Int)) (i j : Nat) : (procd ks i j).length ≤ ks.flatten.length := by
  unfold procd
  rcases Nat.lt_or_ge i ks.length with h | h
  · have e : ks.flatten = (ks.take i).flatten ++ (ks[i] ++ (ks.drop (i + 1)).flatten) := by
      conv => lhs; rw [← List.take_append_drop i ks]
      rw [List.flatten_append, List.drop_eq_getElem_cons h, List.flatten_cons]
    rw [e, List.getD_eq_getElem?_getD, List.getElem?_eq_getElem h]
    simp only [List.length_append, Option.getD_some, List.length_take]
    omega
  · rw [List.getD_eq_getElem?_getD, List.getElem?_eq_none h, List.take_of_length_le h]
    simp
/-- all of these kids stand before their lists -/
def inBf (ks : List (List Int)) (i : Nat) : Prop := ∀ m (h : m < ks.length), m < i → ∀ k ∈ ks[m], 0 ≤ k ∧ k < (m : Int)
theorem not_tree_at {ks : List (List Int)} {i j : Nat} (h : i < ks.length) (hj : j < ks[i].length) (hk : ¬ (0 ≤ ks[i][j] ∧ ks[i][j] < (i : Int))) : ¬ treeOk ks :=
  fun ht => hk (ht.2.1 i h _ (List.getElem_mem hj))
/-- how often each stands -/
def cnts (n : Nat) (P : List Int) : List Value := (List.range n).map fun m : Nat => .int .i64 ((P.count (m : Int) : Nat) : Int)
theorem cnts_len (n : Nat) (P : List Int) : (cnts n P).length = n := by simp [cnts]
theorem cnts_nil (n : Nat) : cnts n [] = List.replicate n (.int .i64 0) := by
  apply List.ext_getElem
  · simp [cnts]
  · intro i h1 h2; simp [cnts]
theorem cnts_get {n m : Nat} (P : List Int) (h : m < n) : (cnts n P)[m]? = some (.int .i64 ((P.count (m : Int) : Nat) : Int)) := by
  unfold cnts
  rw [List.getElem?_map, List.getElem?_range h]
  rfl
theorem cnts_set {n m : Nat} (P : List Int) (h : m < n) : (cnts n P).set m (.int .i64 (((P.count (m : Int) : Nat) : Int) + 1)) = cnts n (P ++ [(m : Int)]) := by
  apply List.ext_getElem
  · simp [cnts]
  · intro i h1 h2
    rw [List.getElem_set]
    by_cases e : m = i
    · subst e
      rw [if_pos rfl]
      simp [cnts]
    · rw [if_neg e]
      have : ¬ ((m : Int) = (i : Int)) := by omega
      simp [cnts, List.count_append, List.count_cons, this]
/-- which ones stand -/
def useds (n : Nat) (P : List Int) : List Value := (List.range n).map fun m : Nat => .bool (decide ((m : Int) ∈ P))
theorem useds_len (n : Nat) (P : List Int) : (useds n P).length = n := by simp [useds]
theorem useds_nil (n : Nat) : useds n [] = List.replicate n (.bool false) := by
  apply List.ext_getElem
  · simp [useds]
  · intro i h1 h2; simp [useds]
theorem useds_get {n m : Nat} (P : List Int) (h : m < n) : (useds n P)[m]? = some (.bool (decide ((m : Int) ∈ P))) := by
  unfold useds
  rw [List.getElem?_map, List.getElem?_range h]
  rfl
theorem useds_set {n m : Nat} (P : List Int) (h : m < n) : (useds n P).set m (.bool true) = useds n (P ++ [(m : Int)]) := by
  apply List.ext_getElem
  · simp [useds]
  · intro i h1 h2
    rw [List.getElem_set]
    by_cases e : m = i
    · subst e
      rw [if_pos rfl]
      simp [useds]
    · rw [if_neg e]
      have : ¬ ((i : Int) = (m : Int)) := by omega
      simp [useds, this]
theorem nodup_count {P : List Int} (h : P.Nodup) (k : Int) : P.count k ≤ 1 := by
  induction P with
  | nil => simp
  | cons x r ih =>
    rw [List.nodup_cons] at h
    rw [List.count_cons]
    by_cases e : x = k
    · subst e
      rw [List.count_eq_zero_of_not_mem h.1]
      simp
    · have := ih h.2
      simp [e, this]
theorem count_dup {P : List Int} {k : Int} (h : k ∈ P) (Q : List Int) : 2 ≤ (P ++ [k] ++ Q).count k := by
  have h1 : 0 < P.count k := List.count_pos_iff.2 h
  rw [List.count_append, List.count_append]
  simp
  omega
theorem procd_rest (ks : List (List Int)) (i j : Nat) (h : i < ks.length) (hj : j ≤ ks[i].length) : ∃ Q, ks.flatten = procd ks i j ++ Q := by
  refine ⟨ks[i].drop j ++ (ks.drop (i + 1)).flatten, ?_⟩
  unfold procd
  conv => lhs; rw [← List.take_append_drop i ks]
  rw [List.flatten_append, List.drop_eq_getElem_cons h, List.flatten_cons, List.getD_eq_getElem?_getD, List.getElem?_eq_getElem h]
  simp only [Option.getD_some]
  rw [List.append_assoc, ← List.append_assoc (ks[i].take j), List.take_append_drop]
/-- a kid that stands twice: it is no tree -/
theorem not_tree_dup {ks : List (List Int)} {i j : Nat} (h : i < ks.length) (hj : j < ks[i].length) (hk : ks[i][j] < (i : Int)) (hm : ks[i][j] ∈ procd ks i j) : ¬ treeOk ks := by
  intro ht
  have h0 := ht.2.1 i h _ (List.getElem_mem hj)
  obtain ⟨Q, hQ⟩ := procd_rest ks i (j + 1) h hj
  rw [procd_step ks i j h hj] at hQ
  have h1 := count_dup hm Q
  rw [← hQ] at h1
  have h2 := ht.2.2 ks[i][j].toNat (by omega)
  rw [Int.toNat_of_nonneg h0.1] at h2
  omega

/-! ### Sizes -/
theorem snocInd {α : Type} {p : List α → Prop} (h0 : p []) (h1 : ∀ l a, p l → p (l ++ [a])) (l : List α) : p l := by
  have h : ∀ r : List α, p r.reverse := by
    intro r
    induction r with
    | nil => exact h0
    | cons a r ih => rw [List.reverse_cons]; exact h1 _ _ ih
  have := h l.reverse
  rwa [List.reverse_reverse] at this
def often (n : RxNode) : Nat := if n.kind = 9 then (max 1 (max n.lo n.hi)).toNat else 1
def szAt (n : RxNode) (szs : List Nat) : Nat := min 100000 (1 + often n * (n.kids.map fun k => szs.getD k.toNat 0).sum)
def sizesL (ns : List RxNode) : List Nat := ns.foldl (fun szs n => szs ++ [szAt n szs]) []
theorem sizesL_snoc (ns : List RxNode) (n : RxNode) : sizesL (ns ++ [n]) = sizesL ns ++ [szAt n (sizesL ns)] := by
  unfold sizesL
  rw [List.foldl_append]
  rfl
theorem sizesL_len (ns : List RxNode) : (sizesL ns).length = ns.length := by
  refine snocInd (p := fun ns => (sizesL ns).length = ns.length) rfl (fun l a ih => ?_) ns
  rw [sizesL_snoc, List.length_append, ih]; simp
theorem sizesL_take (ns : List RxNode) (i : Nat) (h : i < ns.length) : sizesL (ns.take (i + 1)) = sizesL (ns.take i) ++ [szAt ns[i] (sizesL (ns.take i))] := by
  rw [List.take_succ_eq_append_getElem h, sizesL_snoc]
theorem sizesL_in (ns : List RxNode) : ∀ s ∈ sizesL ns, 1 ≤ s ∧ s ≤ 100000 := by
  refine snocInd (p := fun ns => ∀ s ∈ sizesL ns, 1 ≤ s ∧ s ≤ 100000) (fun s h => by cases h) (fun l a ih s h => ?_) ns
  rw [sizesL_snoc] at h
  rcases List.mem_append.1 h with h | h
  · exact ih s h
  · rw [List.mem_singleton.1 h]
    unfold szAt
    omega
def kidsOf (ns : List RxNode) : List (List Int) := ns.map (·.kids)
open Classical in
noncomputable def sizeOf' (ns : List RxNode) : Nat := if treeB (kidsOf ns) = true then (sizesL ns).getLastD 0 else 0
/-- the sum of the first kids' sizes -/
def sumK (n : RxNode) (szs : List Nat) (j : Nat) : Nat := ((n.kids.take j).map fun k => szs.getD k.toNat 0).sum
theorem sumK_zero (n : RxNode) (szs : List Nat) : sumK n szs 0 = 0 := by simp [sumK]
theorem sumK_step (n : RxNode) (szs : List Nat) (j : Nat) (h : j < n.kids.length) : sumK n szs (j + 1) = sumK n szs j + szs.getD n.kids[j].toNat 0 := by
  unfold sumK
  rw [List.take_succ_eq_append_getElem h, List.map_append, List.sum_append]
  simp
theorem sumK_all (n : RxNode) (szs : List Nat) : sumK n szs n.kids.length = (n.kids.map fun k => szs.getD k.toNat 0).sum := by simp [sumK]
theorem szAt_eq (n : RxNode) (szs : List Nat) : szAt n szs = min 100000 (1 + often n * sumK n szs n.kids.length) := by rw [sumK_all]; rfl
/-- the capped sum of impl -/
theorem cap_one (S : Nat) : min 100000 (1 + min 100000 S) = min 100000 (1 + 1 * S) := by omega
theorem cap_mul (S c : Nat) (hc : 1 ≤ c) : min 100000 (1 + min 100000 S * min 100000 c) = min 100000 (1 + c * S) := by
  rcases Nat.lt_or_ge S 100000 with h1 | h1
  · rcases Nat.lt_or_ge c 100000 with h2 | h2
    · rw [Nat.min_eq_right (Nat.le_of_lt h1), Nat.min_eq_right (Nat.le_of_lt h2), Nat.mul_comm]
    · rw [Nat.min_eq_right (Nat.le_of_lt h1), Nat.min_eq_left h2]
      rcases Nat.eq_zero_or_pos S with h3 | h3
      · subst h3; simp
      · have a1 : 100000 ≤ S * 100000 := Nat.le_mul_of_pos_left _ h3
        have a2 : 100000 ≤ c * S := Nat.le_trans h2 (Nat.le_mul_of_pos_right _ h3)
        omega
  · rw [Nat.min_eq_left h1]
    have a1 : 100000 ≤ 100000 * min 100000 c := Nat.le_mul_of_pos_right _ (by omega)
    have a2 : 100000 ≤ c * S := Nat.le_trans h1 (Nat.le_mul_of_pos_left _ (by omega))
    omega
/-- a step of the reference's capped sum -/
theorem capS_big {c z t : Nat} (hz : 1 ≤ z) (h : ¬ c ≤ 100000 / z) : 100000 ≤ t + c * z := by
  have h1 : 100000 / z + 1 ≤ c := by omega
  have h2 := Nat.lt_div_mul_add (a := 100000) hz
  have h3 := Nat.mul_le_mul_right z h1
  rw [Nat.add_mul] at h3
  omega
theorem capS_small {c z : Nat} (hz : 1 ≤ z) (h : c ≤ 100000 / z) : c * z ≤ 100000 := by
  have h2 := Nat.div_mul_le_self 100000 z
  exact Nat.le_trans (Nat.mul_le_mul_right z h) h2
end Go.Proofs.YtomcoilmpkpoeaaGreatDoor

namespace Go.Proofs.YtomcoilmpkpoeaaGreatDoor
open Go.RowKit
set_option linter.unusedVariables false
set_option linter.unusedSimpArgs false

theorem u8_cast {n : Nat} (h : n < 256) : ((UInt8.ofNat n).toNat : Int) = (n : Int) := by rw [ofNat_toNat h]
theorem u8_val {n : Nat} {x : Int} (h : n < 256) (hx : x = (n : Int)) : Value.int .u8 x = .int .u8 ((UInt8.ofNat n).toNat : Int) := by rw [u8_cast h, hx]
def byteVals (l : List UInt8) : List Value := l.map fun b => .int .u8 (b.toNat : Int)
theorem byteVals_length (l : List UInt8) : (byteVals l).length = l.length := by simp [byteVals]
/-- a code point, as a test -/
def ptB (c : Int) : Bool := decide (1 ≤ c ∧ c ≤ 1114111) && !decide (55296 ≤ c ∧ c ≤ 57343)
theorem ptB_iff {c : Nat} : ptB (c : Int) = true ↔ isPt c := by
  unfold ptB isPt
  simp
  omega

theorem specPoint (c : Int) (w : World) : Calls Tryz.prog 71 #[.int .i64 c] w fun e w' => e = .returned (.bool (ptB c)) ∧ w = w' := by
  by_cases h1 : 1 ≤ c ∧ c ≤ 1114111
  · have b1 : inB 1 c 1114111 = true := inB_true h1
    by_cases h2 : 55296 ≤ c ∧ c ≤ 57343
    · have b2 : inB 55296 c 57343 = true := inB_true h2
      have hr := hid (show ptB c = false by unfold ptB; simp [h1, h2])
      clear h1 h2
      go_enter Tryz.func71, Tryz.ntmps71
      go_wp2_with (go_at_call 44; refine (between_any _ _ _ _).mono ?_; rintro e w1 ⟨rfl, rfl⟩)
      go_ret
      exact ⟨end_bool hr.out.symm, rfl⟩
    · have b2 : inB 55296 c 57343 = false := inB_false h2
      have hr := hid (show ptB c = true by unfold ptB; rw [decide_eq_true h1, decide_eq_false h2]; rfl)
      clear h1 h2
      go_enter Tryz.func71, Tryz.ntmps71
      go_wp2_with (go_at_call 44; refine (between_any _ _ _ _).mono ?_; rintro e w1 ⟨rfl, rfl⟩)
      go_ret
      exact ⟨end_bool hr.out.symm, rfl⟩
  · have b1 : inB 1 c 1114111 = false := inB_false h1
    have hr := hid (show ptB c = false by unfold ptB; rw [decide_eq_false h1]; rfl)
    clear h1
    go_enter Tryz.func71, Tryz.ntmps71
    go_wp2_with (go_at_call 44; refine (between_any _ _ _ _).mono ?_; rintro e w1 ⟨rfl, rfl⟩)
    go_ret
    exact ⟨end_bool hr.out.symm, rfl⟩

set_option maxHeartbeats 1000000 in
theorem specBytes (c : Nat) (h1 : 1 ≤ c) (h2 : c ≤ 1114111) (w : World) :
    Calls Tryz.prog 147 #[.int .i64 c] w fun e w' => e = .returned (.slice (some ⟨w.heap.size, 0, none⟩) (enc c).length (enc c).length) ∧ w' = w.alloc (.cells (byteVals (enc c)).toArray 5) := by
  by_cases a1 : c < 128
  · have e : enc c = [UInt8.ofNat c] := by unfold enc; rw [if_pos a1]
    have E := hid e
    have t1 : (c : Int) < 128 := by omega
    clear e
    go_enter Tryz.func147, Tryz.ntmps147
    go_wp2
    go_ret
    rw [E.out]
    refine ⟨rfl, ?_⟩
    rw [u8_val (n := c) (x := (c : Int)) (by omega) rfl]
    rfl
  · by_cases a2 : c < 2048
    · have e : enc c = [UInt8.ofNat (192 + c / 64), UInt8.ofNat (128 + c % 64)] := by unfold enc; rw [if_neg a1, if_pos a2]
      have E := hid e
      have t1 : ¬ (c : Int) < 128 := by omega
      have t2 : (c : Int) < 2048 := by omega
      clear e
      go_enter Tryz.func147, Tryz.ntmps147
      go_wp2
      go_ret
      rw [E.out]
      refine ⟨rfl, ?_⟩
      rw [u8_val (n := 192 + c / 64) (x := 192 + (c : Int) / 64) (by omega) (by omega), u8_val (n := 128 + c % 64) (x := 128 + (c : Int) % 64) (by omega) (by omega)]
      rfl
    · by_cases a3 : c < 65536
      · have e : enc c = [UInt8.ofNat (224 + c / 4096), UInt8.ofNat (128 + c / 64 % 64), UInt8.ofNat (128 + c % 64)] := by unfold enc; rw [if_neg a1, if_neg a2, if_pos a3]
        have E := hid e
        have t1 : ¬ (c : Int) < 128 := by omega
        have t2 : ¬ (c : Int) < 2048 := by omega
        have t3 : (c : Int) < 65536 := by omega
        clear e
        go_enter Tryz.func147, Tryz.ntmps147
        go_wp2
        go_ret
        rw [E.out]
        refine ⟨rfl, ?_⟩
        rw [u8_val (n := 224 + c / 4096) (x := 224 + (c : Int) / 4096) (by omega) (by omega), u8_val (n := 128 + c / 64 % 64) (x := 128 + (c : Int) / 64 % 64) (by omega) (by omega), u8_val (n := 128 + c % 64) (x := 128 + (c : Int) % 64) (by omega) (by omega)]
        rfl
      · have e : enc c = [UInt8.ofNat (240 + c / 262144), UInt8.ofNat (128 + c / 4096 % 64), UInt8.ofNat (128 + c / 64 % 64), UInt8.ofNat (128 + c % 64)] := by unfold enc; rw [if_neg a1, if_neg a2, if_neg a3]
        have E := hid e
        have t1 : ¬ (c : Int) < 128 := by omega
        have t2 : ¬ (c : Int) < 2048 := by omega
        have t3 : ¬ (c : Int) < 65536 := by omega
        clear e
        go_enter Tryz.func147, Tryz.ntmps147
        go_wp2
        go_ret
        rw [E.out]
        refine ⟨rfl, ?_⟩
        rw [u8_val (n := 240 + c / 262144) (x := 240 + (c : Int) / 262144) (by omega) (by omega), u8_val (n := 128 + c / 4096 % 64) (x := 128 + (c : Int) / 4096 % 64) (by omega) (by omega), u8_val (n := 128 + c / 64 % 64) (x := 128 + (c : Int) / 64 % 64) (by omega) (by omega), u8_val (n := 128 + c % 64) (x := 128 + (c : Int) % 64) (by omega) (by omega)]
        rfl

/-! ### The loop of l01Next: the continuations -/
/-- the code point as far as the first k bytes tell it -/
def foldC (l : List UInt8) (c0 : Nat) : Nat → Nat
  | 0 => c0
  | k + 1 => 64 * foldC l c0 k + ((l.getD (k + 1) 0).toNat - 128)
def contTo (l : List UInt8) (k : Nat) : Prop := ∀ j, 1 ≤ j → j ≤ k → 128 ≤ (l.getD j 0).toNat ∧ (l.getD j 0).toNat ≤ 191
theorem foldC_1 (l : List UInt8) (c0 : Nat) : foldC l c0 1 = 64 * c0 + ((l.getD 1 0).toNat - 128) := rfl
theorem foldC_2 (l : List UInt8) (c0 : Nat) : foldC l c0 2 = 64 * (64 * c0 + ((l.getD 1 0).toNat - 128)) + ((l.getD 2 0).toNat - 128) := rfl
theorem foldC_3 (l : List UInt8) (c0 : Nat) : foldC l c0 3 = 64 * (64 * (64 * c0 + ((l.getD 1 0).toNat - 128)) + ((l.getD 2 0).toNat - 128)) + ((l.getD 3 0).toNat - 128) := rfl
theorem foldC_le {l : List UInt8} {c0 : Nat} (h0 : c0 < 128) : ∀ k, k ≤ 3 → foldC l c0 k < 100000000 := by
  intro k hk
  have b1 : (l.getD 1 0).toNat < 256 := UInt8.toNat_lt _
  have b2 : (l.getD 2 0).toNat < 256 := UInt8.toNat_lt _
  have b3 : (l.getD 3 0).toNat < 256 := UInt8.toNat_lt _
  have hk' : k = 0 ∨ k = 1 ∨ k = 2 ∨ k = 3 := by omega
  rcases hk' with rfl | rfl | rfl | rfl
  · have : foldC l c0 0 = c0 := rfl
    omega
  · rw [foldC_1]; omega
  · rw [foldC_2]; omega
  · rw [foldC_3]; omega

theorem getD_drop_get (s : ByteArray) (at' j : Nat) (h : at' + j < s.size) : (s.data.toList.drop at').getD j 0 = s[at' + j] := by
  rw [List.getD_eq_getElem?_getD, List.getElem?_drop, List.getElem?_eq_getElem (by rw [← Lib.size_eq]; exact h)]
  rfl
theorem next_at {l : List UInt8} {n c0 : Nat} (hl : n ≤ l.length)
    (hn : (n = 1 ∧ (l.getD 0 0).toNat < 128 ∧ c0 = (l.getD 0 0).toNat) ∨ (n = 2 ∧ 192 ≤ (l.getD 0 0).toNat ∧ (l.getD 0 0).toNat ≤ 223 ∧ c0 = (l.getD 0 0).toNat - 192) ∨
      (n = 3 ∧ 224 ≤ (l.getD 0 0).toNat ∧ (l.getD 0 0).toNat ≤ 239 ∧ c0 = (l.getD 0 0).toNat - 224) ∨ (n = 4 ∧ 240 ≤ (l.getD 0 0).toNat ∧ (l.getD 0 0).toNat ≤ 247 ∧ c0 = (l.getD 0 0).toNat - 240)) (hc : contTo l (n - 1)) :
    next l = if isPt (foldC l c0 (n - 1)) ∧ (enc (foldC l c0 (n - 1))).length = n then (foldC l c0 (n - 1), n) else (0, 0) := by
  apply next_whole hl
  rcases hn with ⟨rfl, h⟩ | ⟨rfl, h⟩ | ⟨rfl, h⟩ | ⟨rfl, h⟩
  · left; exact ⟨rfl, h.1, h.2⟩
  · right; left
    have h1 := hc 1 (by omega) (by omega)
    exact ⟨rfl, h.1, h.2.1, h1.1, h1.2, by rw [h.2.2, ← foldC_1]⟩
  · right; right; left
    have h1 := hc 1 (by omega) (by omega)
    have h2 := hc 2 (by omega) (by omega)
    exact ⟨rfl, h.1, h.2.1, h1.1, h1.2, h2.1, h2.2, by rw [h.2.2, ← foldC_2]⟩
  · right; right; right
    have h1 := hc 1 (by omega) (by omega)
    have h2 := hc 2 (by omega) (by omega)
    have h3 := hc 3 (by omega) (by omega)
    exact ⟨rfl, h.1, h.2.1, h1.1, h1.2, h2.1, h2.2, h3.1, h3.2, by rw [h.2.2, ← foldC_3]⟩
theorem end_pair {a b c d : Int} (h1 : a = c) (h2 : b = d) : Ending.returned (.tuple #[.int .i64 a, .int .i64 b]) = Ending.returned (.tuple #[.int .i64 c, .int .i64 d]) := by rw [h1, h2]

set_option maxHeartbeats 4000000 in
set_option maxRecDepth 100000 in
theorem specNext (s : ByteArray) (at' : Nat) (w : World) (hat : at' < s.size) (hs : s.size ≤ 1000000) :
    Calls Tryz.prog 113 #[.string s, .int .i64 at'] w fun e w' => e = .returned (.tuple #[.int .i64 (next (s.data.toList.drop at')).1, .int .i64 (next (s.data.toList.drop at')).2]) ∧ Below w.heap.size w w' := by
  have hlen : (s.data.toList.drop at').length = s.size - at' := by rw [List.length_drop, ← Lib.size_eq]
  have hg : ∀ j (hj : at' + j < s.size), (s.data.toList.drop at').getD j 0 = s[at' + j] := fun j hj => getD_drop_get s at' j hj
  generalize s.data.toList.drop at' = l at hlen hg ⊢
  obtain ⟨b0, hb0⟩ : ∃ b0, s[at'].toNat = b0 := ⟨_, rfl⟩
  have hb : b0 < 256 := hb0 ▸ UInt8.toNat_lt _
  have hl0 : (l.getD 0 0).toNat = b0 := by rw [hg 0 hat]; exact hb0
  have hG := hid hg
  have HL := hid hlen
  have H0 := hid hl0
  clear hg hlen hl0
  have hcls : ((b0 : Int) < 128) ∨ (¬ (b0 : Int) < 128 ∧ inB 192 (b0 : Int) 223 = true) ∨ (¬ (b0 : Int) < 128 ∧ inB 192 (b0 : Int) 223 = false ∧ inB 224 (b0 : Int) 239 = true) ∨ (¬ (b0 : Int) < 128 ∧ inB 192 (b0 : Int) 223 = false ∧ inB 224 (b0 : Int) 239 = false ∧ inB 240 (b0 : Int) 247 = true) ∨
      (¬ (b0 : Int) < 128 ∧ inB 192 (b0 : Int) 223 = false ∧ inB 224 (b0 : Int) 239 = false ∧ inB 240 (b0 : Int) 247 = false) := by
    unfold inB
    simp only [decide_eq_true_eq, decide_eq_false_iff_not]
    omega
  rcases hcls with g1 | ⟨g1, g2⟩ | ⟨g1, g2, g3⟩ | ⟨g1, g2, g3, g4⟩ | ⟨g1, g2, g3, g4⟩
  · have hr : b0 < 128 := by omega
    have HR := hid hr
    have hc0 : b0 < 128 := by omega
    by_cases hfit : (s.size : Int) - at' < 1
    · omega
    have HA := hid (fun hc => next_at (l := l) (n := 1) (c0 := b0) (by rw [HL.out]; omega) (Or.inl ⟨rfl, by rw [H0.out]; exact HR.out, by rw [H0.out]⟩) hc)
    have hf3 : foldC l b0 0 < 100000000 := foldC_le hc0 0 (by omega)
    obtain ⟨c, hcd⟩ : ∃ c, foldC l b0 0 = c := ⟨_, rfl⟩
    have HCD := hid hcd
    rw [hcd] at hf3
    clear hr hcd
    go_enter Tryz.func113, Tryz.ntmps113
    go_wp2_with (go_at_call 44; refine (between_any _ _ _ _).mono ?_; rintro e w1 ⟨rfl, rfl⟩)
    go_loop [8, 9] (fun c k => ∃ m : Nat, m + 1 ≤ 1 ∧ k = .int .i64 ((m + 1 : Nat) : Int) ∧ c = .int .i64 (foldC l b0 m : Nat) ∧ contTo l m) (fun _ k => 5 - (intOf k).toNat)
    case atStart => exact ⟨0, by omega, rfl, rfl, fun j h1 h2 => absurd h1 (by omega)⟩
    case round =>
      obtain ⟨m, hm, rfl, rfl, hct⟩ := hrel
      have HCT := hid hct
      clear hct
      by_cases hlt : m + 1 < 1
      · omega
      · obtain rfl : m = 0 := by omega
        have HN := hid (HA.out HCT.out)
        rw [HCD.out]
        by_cases hp : isPt c
        · have gp : ptB (c : Int) = true := ptB_iff.2 hp
          have hp' := hp
          obtain ⟨p1, p2, _⟩ := hp'
          have HP := hid hp
          clear hp
          have hw : ∃ x, ((enc c).length : Int) = x := ⟨_, rfl⟩
          by_cases hl : (enc c).length = 1
          · have gl : (((enc c).length : Int) != 1) = false := by rw [hl]; rfl
            have HLL := hid hl
            clear hl
            go_wp2_with (first | (go_at_call 71; refine (specPoint _ _).mono ?_; rintro e w1 ⟨rfl, rfl⟩) | (go_at_call 147; refine (specBytes _ p1 p2 _).mono ?_; rintro e w1 ⟨rfl, rfl⟩))
            go_ret2
            exact ⟨end_pair (by rw [HN.out, HCD.out, if_pos ⟨HP.out, HLL.out⟩]) (by rw [HN.out, HCD.out, if_pos ⟨HP.out, HLL.out⟩]; rfl), ext_alloc _ _⟩
          · have gl : (((enc c).length : Int) != 1) = true := by rw [bne_iff_ne]; omega
            have HLL := hid hl
            clear hl
            go_wp2_with (first | (go_at_call 71; refine (specPoint _ _).mono ?_; rintro e w1 ⟨rfl, rfl⟩) | (go_at_call 147; refine (specBytes _ p1 p2 _).mono ?_; rintro e w1 ⟨rfl, rfl⟩))
            go_ret2
            exact ⟨end_pair (by rw [HN.out, HCD.out, if_neg (fun h => HLL.out h.2)]; rfl) (by rw [HN.out, HCD.out, if_neg (fun h => HLL.out h.2)]; rfl), ext_alloc _ _⟩
        · have gp : ptB (c : Int) = false := by rw [Bool.eq_false_iff]; exact fun h => hp (ptB_iff.1 h)
          have HP := hid hp
          clear hp
          go_wp2_with (first | (go_at_call 71; refine (specPoint _ _).mono ?_; rintro e w1 ⟨rfl, rfl⟩))
          go_ret2
          exact ⟨end_pair (by rw [HN.out, HCD.out, if_neg (fun h => HP.out h.1)]; rfl) (by rw [HN.out, HCD.out, if_neg (fun h => HP.out h.1)]; rfl), Below.refl _ _⟩
  · have hr : 192 ≤ b0 ∧ b0 ≤ 223 := by unfold inB at g2; simp only [decide_eq_true_eq] at g2; omega
    have HR := hid hr
    have hc0 : (b0 - 192) < 128 := by omega
    by_cases hfit : (s.size : Int) - at' < 2
    · have HZ := hid (next_short (l := l) (n := 2) (Or.inl ⟨rfl, by rw [H0.out]; exact HR.out.1, by rw [H0.out]; exact HR.out.2⟩) (Or.inl (by rw [HL.out]; omega)))
      clear hr
      go_enter Tryz.func113, Tryz.ntmps113
      go_wp2_with (go_at_call 44; refine (between_any _ _ _ _).mono ?_; rintro e w1 ⟨rfl, rfl⟩)
      go_ret2
      exact ⟨end_pair (by rw [HZ.out]; rfl) (by rw [HZ.out]; rfl), Below.refl _ _⟩
    have HA := hid (fun hc => next_at (l := l) (n := 2) (c0 := (b0 - 192)) (by rw [HL.out]; omega) (Or.inr (Or.inl ⟨rfl, by rw [H0.out]; exact HR.out.1, by rw [H0.out]; exact HR.out.2, by rw [H0.out]⟩)) hc)
    have hf3 : foldC l (b0 - 192) 1 < 100000000 := foldC_le hc0 1 (by omega)
    obtain ⟨c, hcd⟩ : ∃ c, foldC l (b0 - 192) 1 = c := ⟨_, rfl⟩
    have HCD := hid hcd
    rw [hcd] at hf3
    clear hr hcd
    go_enter Tryz.func113, Tryz.ntmps113
    go_wp2_with (go_at_call 44; refine (between_any _ _ _ _).mono ?_; rintro e w1 ⟨rfl, rfl⟩)
    go_loop [8, 9] (fun c k => ∃ m : Nat, m + 1 ≤ 2 ∧ k = .int .i64 ((m + 1 : Nat) : Int) ∧ c = .int .i64 (foldC l (b0 - 192) m : Nat) ∧ contTo l m) (fun _ k => 5 - (intOf k).toNat)
    case atStart => exact ⟨0, by omega, rfl, by rw [show ((foldC l (b0 - 192) 0 : Nat) : Int) = (b0 : Int) - 192 from by show (((b0 - 192) : Nat) : Int) = _; have := HR.out; omega], fun j h1 h2 => absurd h1 (by omega)⟩
    case round =>
      obtain ⟨m, hm, rfl, rfl, hct⟩ := hrel
      have HCT := hid hct
      clear hct
      by_cases hlt : m + 1 < 2
      · have hin : at' + (m + 1) < s.size := by omega
        obtain ⟨x, hx⟩ : ∃ x, s[at' + (m + 1)].toNat = x := ⟨_, rfl⟩
        have hx' : s[at' + m + 1].toNat = x := hx
        have hxl : (l.getD (m + 1) 0).toNat = x := by rw [hG.out (m + 1) hin]; exact hx
        have hxb : x < 256 := hx ▸ UInt8.toNat_lt _
        have HX := hid hxl
        have hfm : foldC l (b0 - 192) m < 100000000 := foldC_le hc0 m (by omega)
        clear hxl
        by_cases hcc : 128 ≤ x ∧ x ≤ 191
        · have gb : inB 128 (x : Int) 191 = true := inB_true (by omega)
          have HF := hid (show ((foldC l (b0 - 192) (m + 1) : Nat) : Int) = 64 * (foldC l (b0 - 192) m : Nat) + x - 128 by
            show ((64 * foldC l (b0 - 192) m + ((l.getD (m + 1) 0).toNat - 128) : Nat) : Int) = _
            rw [HX.out]; omega)
          have HCC := hid hcc
          clear hcc
          go_wp2_with (go_at_call 44; refine (between_any _ _ _ _).mono ?_; rintro e w1 ⟨rfl, rfl⟩)
          go_round
          case rel => exact ⟨m + 1, by omega, by go_num, by rw [HF.out], fun j h1 h2 => by
            by_cases hj : j = m + 1
            · subst hj; rw [HX.out]; exact HCC.out
            · exact HCT.out j h1 (by omega)⟩
          case measure => simp [intOf]; omega
        · have gb : inB 128 (x : Int) 191 = false := inB_false (by omega)
          have HZ := hid (next_short (l := l) (n := 2) (Or.inl ⟨rfl, by rw [H0.out]; exact HR.out.1, by rw [H0.out]; exact HR.out.2⟩) (Or.inr ⟨m + 1, by omega, hlt, by rw [HX.out]; omega⟩))
          clear hcc
          go_wp2_with (go_at_call 44; refine (between_any _ _ _ _).mono ?_; rintro e w1 ⟨rfl, rfl⟩)
          go_ret2
          exact ⟨end_pair (by rw [HZ.out]; rfl) (by rw [HZ.out]; rfl), Below.refl _ _⟩
      · obtain rfl : m = 1 := by omega
        have HN := hid (HA.out HCT.out)
        rw [HCD.out]
        by_cases hp : isPt c
        · have gp : ptB (c : Int) = true := ptB_iff.2 hp
          have hp' := hp
          obtain ⟨p1, p2, _⟩ := hp'
          have HP := hid hp
          clear hp
          have hw : ∃ x, ((enc c).length : Int) = x := ⟨_, rfl⟩
          by_cases hl : (enc c).length = 2
          · have gl : (((enc c).length : Int) != 2) = false := by rw [hl]; rfl
            have HLL := hid hl
            clear hl
            go_wp2_with (first | (go_at_call 71; refine (specPoint _ _).mono ?_; rintro e w1 ⟨rfl, rfl⟩) | (go_at_call 147; refine (specBytes _ p1 p2 _).mono ?_; rintro e w1 ⟨rfl, rfl⟩))
            go_ret2
            exact ⟨end_pair (by rw [HN.out, HCD.out, if_pos ⟨HP.out, HLL.out⟩]) (by rw [HN.out, HCD.out, if_pos ⟨HP.out, HLL.out⟩]; rfl), ext_alloc _ _⟩
          · have gl : (((enc c).length : Int) != 2) = true := by rw [bne_iff_ne]; omega
            have HLL := hid hl
            clear hl
            go_wp2_with (first | (go_at_call 71; refine (specPoint _ _).mono ?_; rintro e w1 ⟨rfl, rfl⟩) | (go_at_call 147; refine (specBytes _ p1 p2 _).mono ?_; rintro e w1 ⟨rfl, rfl⟩))
            go_ret2
            exact ⟨end_pair (by rw [HN.out, HCD.out, if_neg (fun h => HLL.out h.2)]; rfl) (by rw [HN.out, HCD.out, if_neg (fun h => HLL.out h.2)]; rfl), ext_alloc _ _⟩
        · have gp : ptB (c : Int) = false := by rw [Bool.eq_false_iff]; exact fun h => hp (ptB_iff.1 h)
          have HP := hid hp
          clear hp
          go_wp2_with (first | (go_at_call 71; refine (specPoint _ _).mono ?_; rintro e w1 ⟨rfl, rfl⟩))
          go_ret2
          exact ⟨end_pair (by rw [HN.out, HCD.out, if_neg (fun h => HP.out h.1)]; rfl) (by rw [HN.out, HCD.out, if_neg (fun h => HP.out h.1)]; rfl), Below.refl _ _⟩
  · have hr : 224 ≤ b0 ∧ b0 ≤ 239 := by unfold inB at g3; simp only [decide_eq_true_eq] at g3; omega
    have HR := hid hr
    have hc0 : (b0 - 224) < 128 := by omega
    by_cases hfit : (s.size : Int) - at' < 3
    · have HZ := hid (next_short (l := l) (n := 3) (Or.inr (Or.inl ⟨rfl, by rw [H0.out]; exact HR.out.1, by rw [H0.out]; exact HR.out.2⟩)) (Or.inl (by rw [HL.out]; omega)))
      clear hr
      go_enter Tryz.func113, Tryz.ntmps113
      go_wp2_with (go_at_call 44; refine (between_any _ _ _ _).mono ?_; rintro e w1 ⟨rfl, rfl⟩)
      go_ret2
      exact ⟨end_pair (by rw [HZ.out]; rfl) (by rw [HZ.out]; rfl), Below.refl _ _⟩
    have HA := hid (fun hc => next_at (l := l) (n := 3) (c0 := (b0 - 224)) (by rw [HL.out]; omega) (Or.inr (Or.inr (Or.inl ⟨rfl, by rw [H0.out]; exact HR.out.1, by rw [H0.out]; exact HR.out.2, by rw [H0.out]⟩))) hc)
    have hf3 : foldC l (b0 - 224) 2 < 100000000 := foldC_le hc0 2 (by omega)
    obtain ⟨c, hcd⟩ : ∃ c, foldC l (b0 - 224) 2 = c := ⟨_, rfl⟩
    have HCD := hid hcd
    rw [hcd] at hf3
    clear hr hcd
    go_enter Tryz.func113, Tryz.ntmps113
    go_wp2_with (go_at_call 44; refine (between_any _ _ _ _).mono ?_; rintro e w1 ⟨rfl, rfl⟩)
    go_loop [8, 9] (fun c k => ∃ m : Nat, m + 1 ≤ 3 ∧ k = .int .i64 ((m + 1 : Nat) : Int) ∧ c = .int .i64 (foldC l (b0 - 224) m : Nat) ∧ contTo l m) (fun _ k => 5 - (intOf k).toNat)
    case atStart => exact ⟨0, by omega, rfl, by rw [show ((foldC l (b0 - 224) 0 : Nat) : Int) = (b0 : Int) - 224 from by show (((b0 - 224) : Nat) : Int) = _; have := HR.out; omega], fun j h1 h2 => absurd h1 (by omega)⟩
    case round =>
      obtain ⟨m, hm, rfl, rfl, hct⟩ := hrel
      have HCT := hid hct
      clear hct
      by_cases hlt : m + 1 < 3
      · have hin : at' + (m + 1) < s.size := by omega
        obtain ⟨x, hx⟩ : ∃ x, s[at' + (m + 1)].toNat = x := ⟨_, rfl⟩
        have hx' : s[at' + m + 1].toNat = x := hx
        have hxl : (l.getD (m + 1) 0).toNat = x := by rw [hG.out (m + 1) hin]; exact hx
        have hxb : x < 256 := hx ▸ UInt8.toNat_lt _
        have HX := hid hxl
        have hfm : foldC l (b0 - 224) m < 100000000 := foldC_le hc0 m (by omega)
        clear hxl
        by_cases hcc : 128 ≤ x ∧ x ≤ 191
        · have gb : inB 128 (x : Int) 191 = true := inB_true (by omega)
          have HF := hid (show ((foldC l (b0 - 224) (m + 1) : Nat) : Int) = 64 * (foldC l (b0 - 224) m : Nat) + x - 128 by
            show ((64 * foldC l (b0 - 224) m + ((l.getD (m + 1) 0).toNat - 128) : Nat) : Int) = _
            rw [HX.out]; omega)
          have HCC := hid hcc
          clear hcc
          go_wp2_with (go_at_call 44; refine (between_any _ _ _ _).mono ?_; rintro e w1 ⟨rfl, rfl⟩)
          go_round
          case rel => exact ⟨m + 1, by omega, by go_num, by rw [HF.out], fun j h1 h2 => by
            by_cases hj : j = m + 1
            · subst hj; rw [HX.out]; exact HCC.out
            · exact HCT.out j h1 (by omega)⟩
          case measure => simp [intOf]; omega
        · have gb : inB 128 (x : Int) 191 = false := inB_false (by omega)
          have HZ := hid (next_short (l := l) (n := 3) (Or.inr (Or.inl ⟨rfl, by rw [H0.out]; exact HR.out.1, by rw [H0.out]; exact HR.out.2⟩)) (Or.inr ⟨m + 1, by omega, hlt, by rw [HX.out]; omega⟩))
          clear hcc
          go_wp2_with (go_at_call 44; refine (between_any _ _ _ _).mono ?_; rintro e w1 ⟨rfl, rfl⟩)
          go_ret2
          exact ⟨end_pair (by rw [HZ.out]; rfl) (by rw [HZ.out]; rfl), Below.refl _ _⟩
      · obtain rfl : m = 2 := by omega
        have HN := hid (HA.out HCT.out)
        rw [HCD.out]
        by_cases hp : isPt c
        · have gp : ptB (c : Int) = true := ptB_iff.2 hp
          have hp' := hp
          obtain ⟨p1, p2, _⟩ := hp'
          have HP := hid hp
          clear hp
          have hw : ∃ x, ((enc c).length : Int) = x := ⟨_, rfl⟩
          by_cases hl : (enc c).length = 3
          · have gl : (((enc c).length : Int) != 3) = false := by rw [hl]; rfl
            have HLL := hid hl
            clear hl
            go_wp2_with (first | (go_at_call 71; refine (specPoint _ _).mono ?_; rintro e w1 ⟨rfl, rfl⟩) | (go_at_call 147; refine (specBytes _ p1 p2 _).mono ?_; rintro e w1 ⟨rfl, rfl⟩))
            go_ret2
            exact ⟨end_pair (by rw [HN.out, HCD.out, if_pos ⟨HP.out, HLL.out⟩]) (by rw [HN.out, HCD.out, if_pos ⟨HP.out, HLL.out⟩]; rfl), ext_alloc _ _⟩
          · have gl : (((enc c).length : Int) != 3) = true := by rw [bne_iff_ne]; omega
            have HLL := hid hl
            clear hl
            go_wp2_with (first | (go_at_call 71; refine (specPoint _ _).mono ?_; rintro e w1 ⟨rfl, rfl⟩) | (go_at_call 147; refine (specBytes _ p1 p2 _).mono ?_; rintro e w1 ⟨rfl, rfl⟩))
            go_ret2
            exact ⟨end_pair (by rw [HN.out, HCD.out, if_neg (fun h => HLL.out h.2)]; rfl) (by rw [HN.out, HCD.out, if_neg (fun h => HLL.out h.2)]; rfl), ext_alloc _ _⟩
        · have gp : ptB (c : Int) = false := by rw [Bool.eq_false_iff]; exact fun h => hp (ptB_iff.1 h)
          have HP := hid hp
          clear hp
          go_wp2_with (first | (go_at_call 71; refine (specPoint _ _).mono ?_; rintro e w1 ⟨rfl, rfl⟩))
          go_ret2
          exact ⟨end_pair (by rw [HN.out, HCD.out, if_neg (fun h => HP.out h.1)]; rfl) (by rw [HN.out, HCD.out, if_neg (fun h => HP.out h.1)]; rfl), Below.refl _ _⟩
  · have hr : 240 ≤ b0 ∧ b0 ≤ 247 := by unfold inB at g4; simp only [decide_eq_true_eq] at g4; omega
    have HR := hid hr
    have hc0 : (b0 - 240) < 128 := by omega
    by_cases hfit : (s.size : Int) - at' < 4
    · have HZ := hid (next_short (l := l) (n := 4) (Or.inr (Or.inr ⟨rfl, by rw [H0.out]; exact HR.out.1, by rw [H0.out]; exact HR.out.2⟩)) (Or.inl (by rw [HL.out]; omega)))
      clear hr
      go_enter Tryz.func113, Tryz.ntmps113
      go_wp2_with (go_at_call 44; refine (between_any _ _ _ _).mono ?_; rintro e w1 ⟨rfl, rfl⟩)
      go_ret2
      exact ⟨end_pair (by rw [HZ.out]; rfl) (by rw [HZ.out]; rfl), Below.refl _ _⟩
    have HA := hid (fun hc => next_at (l := l) (n := 4) (c0 := (b0 - 240)) (by rw [HL.out]; omega) (Or.inr (Or.inr (Or.inr ⟨rfl, by rw [H0.out]; exact HR.out.1, by rw [H0.out]; exact HR.out.2, by rw [H0.out]⟩))) hc)
    have hf3 : foldC l (b0 - 240) 3 < 100000000 := foldC_le hc0 3 (by omega)
    obtain ⟨c, hcd⟩ : ∃ c, foldC l (b0 - 240) 3 = c := ⟨_, rfl⟩
    have HCD := hid hcd
    rw [hcd] at hf3
    clear hr hcd
    go_enter Tryz.func113, Tryz.ntmps113
    go_wp2_with (go_at_call 44; refine (between_any _ _ _ _).mono ?_; rintro e w1 ⟨rfl, rfl⟩)
    go_loop [8, 9] (fun c k => ∃ m : Nat, m + 1 ≤ 4 ∧ k = .int .i64 ((m + 1 : Nat) : Int) ∧ c = .int .i64 (foldC l (b0 - 240) m : Nat) ∧ contTo l m) (fun _ k => 5 - (intOf k).toNat)
    case atStart => exact ⟨0, by omega, rfl, by rw [show ((foldC l (b0 - 240) 0 : Nat) : Int) = (b0 : Int) - 240 from by show (((b0 - 240) : Nat) : Int) = _; have := HR.out; omega], fun j h1 h2 => absurd h1 (by omega)⟩
    case round =>
      obtain ⟨m, hm, rfl, rfl, hct⟩ := hrel
      have HCT := hid hct
      clear hct
      by_cases hlt : m + 1 < 4
      · have hin : at' + (m + 1) < s.size := by omega
        obtain ⟨x, hx⟩ : ∃ x, s[at' + (m + 1)].toNat = x := ⟨_, rfl⟩
        have hx' : s[at' + m + 1].toNat = x := hx
        have hxl : (l.getD (m + 1) 0).toNat = x := by rw [hG.out (m + 1) hin]; exact hx
        have hxb : x < 256 := hx ▸ UInt8.toNat_lt _
        have HX := hid hxl
        have hfm : foldC l (b0 - 240) m < 100000000 := foldC_le hc0 m (by omega)
        clear hxl
        by_cases hcc : 128 ≤ x ∧ x ≤ 191
        · have gb : inB 128 (x : Int) 191 = true := inB_true (by omega)
          have HF := hid (show ((foldC l (b0 - 240) (m + 1) : Nat) : Int) = 64 * (foldC l (b0 - 240) m : Nat) + x - 128 by
            show ((64 * foldC l (b0 - 240) m + ((l.getD (m + 1) 0).toNat - 128) : Nat) : Int) = _
            rw [HX.out]; omega)
          have HCC := hid hcc
          clear hcc
          go_wp2_with (go_at_call 44; refine (between_any _ _ _ _).mono ?_; rintro e w1 ⟨rfl, rfl⟩)
          go_round
          case rel => exact ⟨m + 1, by omega, by go_num, by rw [HF.out], fun j h1 h2 => by
            by_cases hj : j = m + 1
            · subst hj; rw [HX.out]; exact HCC.out
            · exact HCT.out j h1 (by omega)⟩
          case measure => simp [intOf]; omega
        · have gb : inB 128 (x : Int) 191 = false := inB_false (by omega)
          have HZ := hid (next_short (l := l) (n := 4) (Or.inr (Or.inr ⟨rfl, by rw [H0.out]; exact HR.out.1, by rw [H0.out]; exact HR.out.2⟩)) (Or.inr ⟨m + 1, by omega, hlt, by rw [HX.out]; omega⟩))
          clear hcc
          go_wp2_with (go_at_call 44; refine (between_any _ _ _ _).mono ?_; rintro e w1 ⟨rfl, rfl⟩)
          go_ret2
          exact ⟨end_pair (by rw [HZ.out]; rfl) (by rw [HZ.out]; rfl), Below.refl _ _⟩
      · obtain rfl : m = 3 := by omega
        have HN := hid (HA.out HCT.out)
        rw [HCD.out]
        by_cases hp : isPt c
        · have gp : ptB (c : Int) = true := ptB_iff.2 hp
          have hp' := hp
          obtain ⟨p1, p2, _⟩ := hp'
          have HP := hid hp
          clear hp
          have hw : ∃ x, ((enc c).length : Int) = x := ⟨_, rfl⟩
          by_cases hl : (enc c).length = 4
          · have gl : (((enc c).length : Int) != 4) = false := by rw [hl]; rfl
            have HLL := hid hl
            clear hl
            go_wp2_with (first | (go_at_call 71; refine (specPoint _ _).mono ?_; rintro e w1 ⟨rfl, rfl⟩) | (go_at_call 147; refine (specBytes _ p1 p2 _).mono ?_; rintro e w1 ⟨rfl, rfl⟩))
            go_ret2
            exact ⟨end_pair (by rw [HN.out, HCD.out, if_pos ⟨HP.out, HLL.out⟩]) (by rw [HN.out, HCD.out, if_pos ⟨HP.out, HLL.out⟩]; rfl), ext_alloc _ _⟩
          · have gl : (((enc c).length : Int) != 4) = true := by rw [bne_iff_ne]; omega
            have HLL := hid hl
            clear hl
            go_wp2_with (first | (go_at_call 71; refine (specPoint _ _).mono ?_; rintro e w1 ⟨rfl, rfl⟩) | (go_at_call 147; refine (specBytes _ p1 p2 _).mono ?_; rintro e w1 ⟨rfl, rfl⟩))
            go_ret2
            exact ⟨end_pair (by rw [HN.out, HCD.out, if_neg (fun h => HLL.out h.2)]; rfl) (by rw [HN.out, HCD.out, if_neg (fun h => HLL.out h.2)]; rfl), ext_alloc _ _⟩
        · have gp : ptB (c : Int) = false := by rw [Bool.eq_false_iff]; exact fun h => hp (ptB_iff.1 h)
          have HP := hid hp
          clear hp
          go_wp2_with (first | (go_at_call 71; refine (specPoint _ _).mono ?_; rintro e w1 ⟨rfl, rfl⟩))
          go_ret2
          exact ⟨end_pair (by rw [HN.out, HCD.out, if_neg (fun h => HP.out h.1)]; rfl) (by rw [HN.out, HCD.out, if_neg (fun h => HP.out h.1)]; rfl), Below.refl _ _⟩
  · have hz : next l = (0, 0) := next_lead (by rw [H0.out]; omega) (by
      rw [H0.out]
      unfold inB at g2 g3 g4
      simp only [decide_eq_false_iff_not] at g2 g3 g4
      omega)
    have HZ := hid hz
    clear hz
    go_enter Tryz.func113, Tryz.ntmps113
    go_wp2_with (go_at_call 44; refine (between_any _ _ _ _).mono ?_; rintro e w1 ⟨rfl, rfl⟩)
    go_ret2
    exact ⟨end_pair (by rw [HZ.out]; rfl) (by rw [HZ.out]; rfl), Below.refl _ _⟩

end Go.Proofs.YtomcoilmpkpoeaaGreatDoor

namespace Go.Proofs.YtomcoilmpkpoeaaGreatDoor
open Go.RowKit
set_option linter.unusedVariables false
set_option linter.unusedSimpArgs false

theorem encN_enc (c : Nat) : blist (encN c) = enc c := by
  unfold blist encN enc
  repeat' split
  all_goals rfl
theorem encU_enc {c : Nat} (h : isPt c) : encU c = enc c := by
  have hv : Utf8.valid (c : Int) = true := by
    rw [validRune_eq]; unfold validRune
    obtain ⟨h1, h2, h3⟩ := h
    exact decide_eq_true (by omega)
  rw [encU_eq, hv, if_pos rfl, Int.toNat_natCast]
  exact encN_enc c
theorem encI_size (r : Int) : (Utf8.encode r).size ≤ 4 := by
  rw [encode_eq, Lib.size_eq]
  exact (encN_len _).2
theorem enc_le (c : Nat) : (enc c).length ≤ 4 := by
  rw [enc_length]
  repeat' split
  all_goals omega
theorem enc_ge (c : Nat) : 1 ≤ (enc c).length := by
  rw [enc_length]
  repeat' split
  all_goals omega

/-- is it an ASCII sign of these? -/
def hasB (sp : List UInt8) (c : Int) : Bool := decide (0 ≤ c ∧ c < 128) && sp.contains (UInt8.ofNat c.toNat)
/-- a code point, behind a backslash if it is a special one -/
def charP (sp : List UInt8) (c : Int) : List UInt8 :=
  if c = 10 then [92, 110] else if c = 9 then [92, 116] else if c = 13 then [92, 114]
  else if hasB sp c = true then 92 :: enc c.toNat else enc c.toNat
theorem charP_len (sp : List UInt8) (c : Int) : 1 ≤ (charP sp c).length ∧ (charP sp c).length ≤ 5 := by
  have h1 := enc_le c.toNat
  have h2 := enc_ge c.toNat
  unfold charP
  repeat' split
  all_goals try simp only [List.length_cons, List.length_nil]
  all_goals omega
def spChar : List UInt8 := [92, 94, 36, 46, 91, 124, 40, 41, 42, 43, 63, 123]
def spSet : List UInt8 := [92, 93, 91, 94, 45]
def setBody : List Int → List UInt8
  | a :: b :: r => charP spSet a ++ ((if a = b then [] else 45 :: charP spSet b) ++ setBody r)
  | _ => []
theorem setBody_ge : ∀ s : List Int, s.length ≤ 2 * (setBody s).length + 1
  | [] => by simp
  | [_] => by simp
  | a :: b :: r => by
    have h1 := (charP_len spSet a).1
    have h2 := setBody_ge r
    rw [setBody, List.length_append, List.length_append]
    simp only [List.length_cons]
    omega
/-- the text of so many pairs at the front -/
theorem setBody_take : ∀ (k : Nat) (s : List Int) (h : 2 * k + 1 < s.length), setBody (s.take (2 * (k + 1))) = setBody (s.take (2 * k)) ++ (charP spSet s[2 * k] ++ (if s[2 * k] = s[2 * k + 1] then [] else 45 :: charP spSet s[2 * k + 1]))
  | 0, a :: b :: r, h => by simp [setBody]
  | 0, [_], h => by simp at h
  | 0, [], h => by simp at h
  | k + 1, [], h => by simp at h
  | k + 1, [_], h => by simp at h
  | k + 1, a :: b :: r, h => by
    have ih := setBody_take k r (by simp only [List.length_cons] at h; omega)
    have e1 : (a :: b :: r).take (2 * (k + 1 + 1)) = a :: b :: r.take (2 * (k + 1)) := by
      rw [show 2 * (k + 1 + 1) = (2 * (k + 1)) + 1 + 1 by omega, List.take_succ_cons, List.take_succ_cons]
    have e2 : (a :: b :: r).take (2 * (k + 1)) = a :: b :: r.take (2 * k) := by
      rw [show 2 * (k + 1) = (2 * k) + 1 + 1 by omega, List.take_succ_cons, List.take_succ_cons]
    have e3 : (a :: b :: r)[2 * (k + 1)]'(by omega) = r[2 * k]'(by simp only [List.length_cons] at h; omega) := by
      simp only [show 2 * (k + 1) = (2 * k) + 1 + 1 by omega, List.getElem_cons_succ]
    have e4 : (a :: b :: r)[2 * (k + 1) + 1]'(by omega) = r[2 * k + 1]'(by simp only [List.length_cons] at h; omega) := by
      simp only [show 2 * (k + 1) + 1 = (2 * k + 1) + 1 + 1 by omega, List.getElem_cons_succ]
    rw [e1, e2, e3, e4, setBody, setBody, ih]
    simp only [List.append_assoc]
def setOpen (neg : Bool) : List UInt8 := if neg then [91, 94] else [91]
def setBad (n : RxNode) : Bool := decide (n.set.length % 2 = 1) || n.set.any fun c => !ptB c
def setT (n : RxNode) : Option (List UInt8) := if setBad n = true then none else some (setOpen n.neg ++ setBody n.set ++ [93])
/-- how often -/
def timesP (lo hi : Int) : List UInt8 :=
  if lo = 0 ∧ hi = -1 then [42] else if lo = 1 ∧ hi = -1 then [43] else if lo = 0 ∧ hi = 1 then [63]
  else if lo = hi then 123 :: (Lib.itoa lo ++ [125]) else if hi = -1 then 123 :: (Lib.itoa lo ++ [44, 125])
  else 123 :: (Lib.itoa lo ++ 44 :: (Lib.itoa hi ++ [125]))
def kidP (ks : List Int) (kind : Int) (t : List UInt8) : List UInt8 := if ks.contains kind = true then 40 :: (t ++ [41]) else t
/-- a kid's text, off the kinds and the texts of all nodes -/
def kidT (ks : List Int) (kinds : List Int) (ts : List ByteArray) (k : Int) : List UInt8 := kidP ks (kinds.getD k.toNat 0) (ts.getD k.toNat ⟨#[]⟩).data.toList
/-- texts in a row, something between each two -/
def joinB (sep : List UInt8) : List (List UInt8) → List UInt8
  | [] => []
  | [a] => a
  | a :: b :: r => a ++ (sep ++ joinB sep (b :: r))
def nodeT (kinds : List Int) (ts : List ByteArray) (n : RxNode) : Option (List UInt8) :=
  if n.kind = 1 then some []
  else if n.kind = 2 then (if ptB n.lo = true then some (charP spChar n.lo) else none)
  else if n.kind = 3 then some [46] else if n.kind = 5 then some [94] else if n.kind = 6 then some [36]
  else if n.kind = 4 then setT n
  else if n.kind = 7 then some (joinB [] (n.kids.map (kidT [7, 8, 1] kinds ts)))
  else if n.kind = 8 then some (joinB [124] (n.kids.map (kidT [8] kinds ts)))
  else if n.kind = 9 then (if n.kids.length ≠ 1 ∨ n.lo < 0 ∨ n.hi < -1 then none else some (kidT [7, 8, 9, 1] kinds ts (n.kids.getD 0 0) ++ timesP n.lo n.hi))
  else none
/-- a node's text of at most 1000 bytes -/
def stepT (kinds : List Int) (ts : List ByteArray) (n : RxNode) : Option ByteArray :=
  match nodeT kinds ts n with
  | none => none
  | some t => if t.length ≤ 1000 then some (mkB t) else none
def textsGo (kinds : List Int) : List RxNode → List ByteArray → Option (List ByteArray)
  | [], ts => some ts
  | n :: r, ts => match stepT kinds ts n with
    | none => none
    | some t => textsGo kinds r (ts ++ [t])
def kindsOf (ns : List RxNode) : List Int := ns.map (·.kind)
/-- a pattern's text; none if it has none -/
noncomputable def textP (ns : List RxNode) : Option ByteArray :=
  if treeB (kidsOf ns) = true then (textsGo (kindsOf ns) ns []).map fun ts => ts.getLastD ⟨#[]⟩ else none
theorem textsGo_step {kinds : List Int} {ns : List RxNode} {k : Nat} {ts : List ByteArray} {t : ByteArray} (h : k < ns.length) (hs : stepT kinds ts ns[k] = some t) : textsGo kinds (ns.drop k) ts = textsGo kinds (ns.drop (k + 1)) (ts ++ [t]) := by
  rw [List.drop_eq_getElem_cons h, textsGo, hs]
theorem textsGo_bad {kinds : List Int} {ns : List RxNode} {k : Nat} {ts : List ByteArray} (h : k < ns.length) (hs : stepT kinds ts ns[k] = none) : textsGo kinds (ns.drop k) ts = none := by
  rw [List.drop_eq_getElem_cons h, textsGo, hs]
theorem textsGo_end {kinds : List Int} {ns : List RxNode} {k : Nat} {ts : List ByteArray} (h : ns.length ≤ k) : textsGo kinds (ns.drop k) ts = some ts := by
  rw [List.drop_eq_nil_of_le h, textsGo]
theorem stepT_size {kinds : List Int} {ts : List ByteArray} {n : RxNode} {t : ByteArray} (h : stepT kinds ts n = some t) : t.size ≤ 1000 := by
  unfold stepT at h
  split at h
  · cases h
  · split at h
    · injection h with h
      subst h
      rw [mkB_size]; assumption
    · cases h
theorem joinB_snoc (sep : List UInt8) : ∀ (xs : List (List UInt8)) (a : List UInt8), joinB sep (xs ++ [a]) = joinB sep xs ++ ((if xs = [] then [] else sep) ++ a)
  | [], a => by simp [joinB]
  | [b], a => by simp [joinB]
  | b :: c :: r, a => by
    have ih := joinB_snoc sep (c :: r) a
    simp only [List.cons_append] at ih ⊢
    rw [joinB, ih, joinB]
    simp
theorem joinB_mono (sep : List UInt8) (xs ys : List (List UInt8)) : (joinB sep xs).length ≤ (joinB sep (xs ++ ys)).length := by
  refine snocInd (p := fun ys => (joinB sep xs).length ≤ (joinB sep (xs ++ ys)).length) (by simp) (fun ys a ih => ?_) ys
  show _ ≤ (joinB sep (xs ++ (ys ++ [a]))).length
  rw [← List.append_assoc, joinB_snoc, List.length_append]
  exact Nat.le_trans ih (Nat.le_add_right _ _)
theorem kidT_len (ks kinds : List Int) (ts : List ByteArray) (k : Int) (h : ∀ t ∈ ts, t.size ≤ 1000) : (kidT ks kinds ts k).length ≤ 1002 := by
  have hg : (ts.getD k.toNat ⟨#[]⟩).data.toList.length ≤ 1000 := by
    rw [← Lib.size_eq, List.getD_eq_getElem?_getD]
    rcases Nat.lt_or_ge k.toNat ts.length with h1 | h1
    · rw [List.getElem?_eq_getElem h1]; exact h _ (List.getElem_mem h1)
    · rw [List.getElem?_eq_none h1]; exact Nat.zero_le _
  unfold kidT kidP
  split
  · simp only [List.length_cons, List.length_append, List.length_nil]; omega
  · omega
theorem joinB_len (sep : List UInt8) (hs : sep.length ≤ 1) : ∀ (xs : List (List UInt8)), (∀ x ∈ xs, x.length ≤ 1002) → (joinB sep xs).length ≤ xs.length * 1003
  | [], _ => by simp [joinB]
  | [a], h => by have := h a (by simp); simp [joinB]; omega
  | a :: b :: r, h => by
    have h1 := h a (by simp)
    have h2 := joinB_len sep hs (b :: r) (fun x hx => h x (by simp [hx]))
    rw [joinB, List.length_append, List.length_append]
    simp only [List.length_cons] at h2 ⊢
    omega
end Go.Proofs.YtomcoilmpkpoeaaGreatDoor

namespace Go.Proofs.YtomcoilmpkpoeaaGreatDoor
open Go.RowKit
set_option linter.unusedVariables false
set_option linter.unusedSimpArgs false

/-- the code points of a text, none where it is none -/
def runesN (l : List UInt8) : List Nat := (runes? l).getD []
def intVals (rs : List Nat) : List Value := rs.map fun (c : Nat) => Value.int .i64 (c : Int)
theorem intVals_length (rs : List Nat) : (intVals rs).length = rs.length := by simp [intVals]
theorem intVals_snoc (rs : List Nat) (c : Nat) : intVals (rs ++ [c]) = intVals rs ++ [.int .i64 (c : Int)] := by simp [intVals]
theorem runes_some {l : List UInt8} {rs : List Nat} (h : l.length ≤ 1000) (hr : runesAll l = some rs) : runesN l = rs ∧ textOk l = true := by
  unfold runesN textOk runes?
  rw [if_pos h, hr]
  exact ⟨rfl, rfl⟩
theorem runes_none {l : List UInt8} (hr : ¬ l.length ≤ 1000 ∨ runesAll l = none) : runesN l = [] ∧ textOk l = false := by
  unfold runesN textOk runes?
  by_cases h : l.length ≤ 1000
  · rw [if_pos h]
    rcases hr with hr | hr
    · exact absurd h hr
    · rw [hr]; exact ⟨rfl, rfl⟩
  · rw [if_neg h]; exact ⟨rfl, rfl⟩

theorem own_none {w : World} {base : Nat} (h : base ≤ w.heap.size) (e : TypeId) : (w.alloc (.cells #[] e)).ownsRow base e 1 (.slice (some ⟨w.heap.size, 0, none⟩) 0 0) 0 [] := World.ownsRow_lit w #[] 0 h (by decide) rfl
theorem info_int : (Tryz.prog.info? 3).map (fun i => (i.zero, i.size, i.bytes)) = some (some (.int .i64 0), 1, 8) := by kernel_rfl
set_option maxHeartbeats 2000000 in
theorem specRunes (s : ByteArray) (w : World) :
    Calls Tryz.prog 67 #[.string s] w fun e w' => ∃ u, e = .returned (.tuple #[u, .bool (textOk s.data.toList)]) ∧ w'.ownsRow w.heap.size 3 1 u (runesN s.data.toList).length (intVals (runesN s.data.toList)) ∧ Below w.heap.size w w' := by
  obtain ⟨l, hl⟩ : ∃ l, s.data.toList = l := ⟨_, rfl⟩
  have hsl : s.size = l.length := by rw [Lib.size_eq, hl]
  rw [hl]
  obtain ⟨i0, hi, hz0, hz1, hz2⟩ := info_parts info_int
  by_cases hbig : (1000 : Int) < s.size
  · obtain ⟨e1, e2⟩ := runes_none (l := l) (Or.inl (by omega))
    rw [e1, e2]
    clear hi hz0 hz1 hz2 e1 e2
    go_enter Tryz.func67, Tryz.ntmps67
    go_wp2
    go_ret2
    exact ⟨_, rfl, own_none (Nat.le_refl _) _, ext_alloc _ _⟩
  · have HL := hid hl
    have HSL := hid hsl
    clear hl hsl
    have hlen : l.length ≤ 1000 := by have := HSL.out; omega
    have hsz : s.size ≤ 1000 := by omega
    go_enter Tryz.func67, Tryz.ntmps67
    go_wp2
    go_loopw [4, 5] (fun out at' wr => ∃ (k : Nat) (rs : List Nat), k ≤ s.size ∧ at' = .int .i64 k ∧ Hid (runesAll l = (runesAll (l.drop k)).map (rs ++ ·)) ∧ wr.ownsRow w.heap.size 3 1 out rs.length (intVals rs) ∧ Below w.heap.size w wr ∧ rs.length ≤ k) (fun _ at' _ => s.size - (intOf at').toNat)
    case atStart => exact ⟨0, [], Nat.zero_le _, rfl, by show runesAll l = _; simp, own_none (Nat.le_refl _) _, ext_alloc _ _, Nat.le_refl _⟩
    case round =>
      obtain ⟨k, rs, hk, rfl, HR, hown, hb, hrk⟩ := hrel
      by_cases hlt : k < s.size
      · obtain ⟨c, hc⟩ : ∃ c, (next (l.drop k)).1 = c := ⟨_, rfl⟩
        obtain ⟨n, hn⟩ : ∃ n, (next (l.drop k)).2 = n := ⟨_, rfl⟩
        have hne : l.drop k ≠ [] := by
          intro h
          have := congrArg List.length h
          rw [List.length_drop] at this
          have := HSL.out
          simp at *
          omega
        have hnl : n ≤ s.size - k := by
          have := next_le (l.drop k)
          rw [hn, List.length_drop] at this
          have := HSL.out
          omega
        have HC := hid hc
        have HN := hid hn
        have HNE := hid hne
        clear hc hn hne
        go_wp2_with fail
        refine (specNext s k _ hlt (by omega)).mono ?_
        rintro e w1 ⟨rfl, hb1⟩
        rw [HL.out, HC.out, HN.out]
        have hown1 := own_later hown hb1
        have hB1 := ext_trans hb hb1
        by_cases hz : n = 0
        · subst hz
          obtain ⟨e1, e2⟩ := runes_none (l := l) (Or.inr (by rw [HR.out, runesAll_bad HNE.out HN.out]; rfl))
          have E1 := hid e1
          have E2 := hid e2
          clear e1 e2 hi hz0 hz1 hz2 hown hown1
          go_wp2
          go_ret2
          rw [E1.out, E2.out]
          exact ⟨_, rfl, own_none hB1.size _, ext_trans hB1 (ext_alloc _ _)⟩
        · have hz' : ((n : Int) == 0) = false := by rw [beq_eq_false_iff_ne]; omega
          have HR' := hid (show runesAll l = (runesAll (l.drop (k + n))).map ((rs ++ [c]) ++ ·) by
            rw [HR.out, runesAll_step HNE.out (by rw [HN.out]; exact hz), HC.out, HN.out, List.drop_drop]
            cases runesAll (List.drop (k + n) l) <;> simp)
          clear hown HR
          go_wp2_with ((at_builtin; refine wpList_append_own _ rfl _ _ 78 rfl w.heap.size 3 i0 (.int .i64 0) 1 8 Tryz.underlying78 hi hz0 hz1 hz2 rfl (by decide) _ _ _ rfl (hown1.alloc _) ⟨w1.heap.size, 0, none⟩ 1 1 [.int .i64 (c : Int)] rfl rfl ?c1 ?c2 ?c3 ?c4 ?c5 ?_))
          case c1 => exact cell_one_new _ _ _
          case c2 => intro u hu; simp at hu; subst hu; rfl
          case c3 => unfold maxLen; omega
          case c4 => omega
          case c5 => simp; exact Nat.le_trans hB1.size (by omega)
          intro v' w2 hown2 hgrow _
          have hlt' := (hown1.alloc (.cells #[.int .i64 (c : Int)] 3)).lt
          have hB2 : Below w.heap.size w w2 := (ext_trans hB1 (ext_alloc _ _)).grown hgrow (ext_trans hB1 (ext_alloc _ _)).size (fun q hq => (hlt' q hq).1)
          clear hi hz0 hz1 hz2 hgrow hown1 hlt'
          go_wp2
          go_roundw
          case rel => exact ⟨k + n, rs ++ [c], by omega, by go_num, HR'.out, by rw [intVals_snoc, List.length_append]; exact hown2, hB2, by rw [List.length_append]; simp; omega⟩
          case measure => simp [intOf]; omega
      · have : k = s.size := by omega
        subst this
        have hd : l.drop s.size = [] := List.drop_eq_nil_of_le (by rw [HSL.out]; exact Nat.le_refl _)
        obtain ⟨e1, e2⟩ := runes_some (l := l) (rs := rs) hlen (by rw [HR.out, hd, runesAll_nil]; simp)
        have E1 := hid e1
        have E2 := hid e2
        clear e1 e2 hd hi hz0 hz1 hz2
        go_wp2
        go_ret2
        rw [E1.out, E2.out]
        exact ⟨_, rfl, hown, hb⟩
end Go.Proofs.YtomcoilmpkpoeaaGreatDoor
