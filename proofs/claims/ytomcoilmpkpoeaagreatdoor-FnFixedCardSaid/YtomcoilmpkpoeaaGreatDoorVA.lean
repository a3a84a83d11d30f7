/-
  What is proved here: a reading 'Rd' of plain Lean data off the model's cells (ints, bools, bytes, strings, pairs, slices of these), that it stands while the blocks that it passes through stand,
  and that whatever the row's form reads ('DataW.trod') is read so. No condition; no program in sight.
  What is proved here: the program's struct types as Lean structures, read off cells; what the row's form reads at these types is read so. No condition.
  What is proved here: the drawing of numbers (l01Cur): what pick, size, once return lies in its bounds, and nothing but the cursor's own block changes. No condition.
  What is proved here: the drawing of texts (word, any, line): the string that is returned is of a bounded size; nothing but the cursor's own block changes. No condition.
  What is proved here: what laws on drawn values share: the code's bytes, its bound, a drawn int. No condition.
  What is proved here: plain laws on texts as lists of bytes: the code point at the head ('next'), the code points of a text ('runes?'), UTF-8's own decoder of the model beside them. No program in sight; no condition.
  What is proved here: within and l01Between: n stands from lo to hi. No condition.
  What is proved here: the laws' size, copy and comparison of slices of strings and of ints. No condition.
  What is proved here: the reference's texts: l01Point, l01Bytes, l01Next, Runes, TextOk. No condition.
  What is proved here: the reference's Runes and TextOk. No condition.
-/
import Derived.Below
import Derived.Deep.Slices
import Derived.ChangeOld
import Derived.ProofKit
import Derived.Test.YtomcoilmpkpoeaaGreatDoorProg
import Derived.KernelRfl
import Derived.Deep.QuietTactic
import Derived.BigQuiet
import Derived.Deep.RegionHeld3
import Derived.Laws.AppendOwn
import Derived.Laws.Build
import Derived.Laws.Concat
import Derived.Laws.Cover1
import Derived.Lib.MapLaws
import Derived.Lib.ValidU
import Derived.Lib.TrimUEq
import Derived.Lib.Strings
import Derived.Test.YtomcoilmpkpoeaaGreatDoorRows
import Derived.WalkKit
import Derived.WalkSpells
import Derived.WalkLawsBesides
import Derived.Deep.OwnRows
namespace Go.Proofs.YtomcoilmpkpoeaaGreatDoor
open Go.RowKit Go.ChangeShapes Go.WideShapes

theorem hid {p : Prop} (h : p) : Hid p := h

/-- The two worlds hold the same in every block of S. -/
def Same (S : Nat → Prop) (w w' : World) : Prop := ∀ b, S b → w'.heap[b]? = w.heap[b]?
theorem Same.refl (S : Nat → Prop) (w : World) : Same S w w := fun _ _ => rfl
theorem Same.trans {S : Nat → Prop} {a b c : World} (h : Same S a b) (k : Same S b c) : Same S a c := fun i hi => (k i hi).trans (h i hi)
theorem Same.mono {S T : Nat → Prop} {w w' : World} (h : Same S w w') (hs : ∀ b, T b → S b) : Same T w w' := fun b hb => h b (hs b hb)
theorem Same.cell {S : Nat → Prop} {w w' : World} (h : Same S w w') {p : Addr} (hp : S p.block) : w'.cell? p = w.cell? p := World.cell?_of_block (w := w) (h p.block hp)
theorem Same.of_below {B : Nat} {w w' : World} (h : Below B w w') : Same (fun b => b < B) w w' := fun b hb => h.block b hb

theorem bcell {W w1 : World} {B : Nat} (hb : Below B W w1) : (∀ b o, b < B → w1.cell? ⟨b, o, none⟩ = W.cell? ⟨b, o, none⟩) ∧ (∀ b o, b < B → w1.frozen? ⟨b, o, none⟩ = W.frozen? ⟨b, o, none⟩) :=
  ⟨fun b o h => hb.cell (p := ⟨b, o, none⟩) h, fun b o h => hb.frozen (p := ⟨b, o, none⟩) h⟩

/-- Blocks that lie in a world. -/
def Old (w : World) : Nat → Prop := fun b => b < w.heap.size
/-- Blocks from B on that lie in a world. -/
def New (B : Nat) (w : World) : Nat → Prop := fun b => B ≤ b ∧ b < w.heap.size

/-- A Lean type that is read off n cells: R S w cells x: through blocks of S alone. -/
class Rd (α : Type) where
  n : Nat
  rd : (Nat → Prop) → World → List Value → α → Prop
  pos : 0 < n
  len : ∀ {S : Nat → Prop} {w : World} {cs : List Value} {x : α}, rd S w cs x → cs.length = n
  mono : ∀ {S T : Nat → Prop} {w : World} {cs : List Value} {x : α}, (∀ b, S b → T b) → rd S w cs x → rd T w cs x
  same : ∀ {S : Nat → Prop} {w w' : World} {cs : List Value} {x : α}, Same S w w' → rd S w cs x → rd S w' cs x

def Rd.r {α : Type} [Rd α] (S : Nat → Prop) (w : World) (cs : List Value) (x : α) : Prop := Rd.rd S w cs x

theorem Rd.below {α : Type} [Rd α] {B : Nat} {S : Nat → Prop} {w w' : World} {cs : List Value} {x : α} (hb : Below B w w') (hS : ∀ b, S b → b < B) (h : Rd.rd S w cs x) : Rd.rd S w' cs x :=
  Rd.same (fun b hb' => hb.block b (hS b hb')) h
/-- what is read in the old world is read in every later one -/
theorem Rd.later {α : Type} [Rd α] {w w' : World} {cs : List Value} {x : α} (hb : Below w.heap.size w w') (h : Rd.rd (Old w) w cs x) : Rd.rd (Old w') w' cs x :=
  Rd.mono (fun b (hb' : b < w.heap.size) => Nat.lt_of_lt_of_le hb' hb.size) (Rd.below hb (fun _ h => h) h)
theorem Rd.later' {α : Type} [Rd α] {B : Nat} {w w' : World} {cs : List Value} {x : α} (hb : Below w.heap.size w w') (h : Rd.rd (New B w) w cs x) : Rd.rd (New B w') w' cs x :=
  Rd.mono (fun b (hb' : B ≤ b ∧ b < w.heap.size) => ⟨hb'.1, Nat.lt_of_lt_of_le hb'.2 hb.size⟩) (Rd.below hb (fun _ h => h.2) h)
theorem Rd.old {α : Type} [Rd α] {B : Nat} {w : World} {cs : List Value} {x : α} (h : Rd.rd (New B w) w cs x) : Rd.rd (Old w) w cs x := Rd.mono (fun _ h => h.2) h

instance : Rd Int where
  n := 1
  rd _ _ cs x := cs = [.int .i64 x] ∧ -9223372036854775808 ≤ x ∧ x ≤ 9223372036854775807
  pos := Nat.one_pos
  len h := by rw [h.1]; rfl
  mono _ h := h
  same _ h := h
instance : Rd Bool where
  n := 1
  rd _ _ cs x := cs = [.bool x]
  pos := Nat.one_pos
  len h := by rw [h]; rfl
  mono _ h := h
  same _ h := h
instance : Rd UInt8 where
  n := 1
  rd _ _ cs x := cs = [.int .u8 x.toNat]
  pos := Nat.one_pos
  len h := by rw [h]; rfl
  mono _ h := h
  same _ h := h
instance : Rd ByteArray where
  n := 1
  rd _ _ cs x := cs = [.string x] ∧ x.size ≤ 9223372036854775807
  pos := Nat.one_pos
  len h := by rw [h.1]; rfl
  mono _ h := h
  same _ h := h
instance {α β : Type} [Rd α] [Rd β] : Rd (α × β) where
  n := Rd.n α + Rd.n β
  rd S w cs x := ∃ c1 c2, cs = c1 ++ c2 ∧ Rd.rd S w c1 x.1 ∧ Rd.rd S w c2 x.2
  pos := Nat.add_pos_left Rd.pos _
  len := by rintro S w cs x ⟨c1, c2, rfl, h1, h2⟩; rw [List.length_append, Rd.len h1, Rd.len h2]
  mono hs := by rintro ⟨c1, c2, rfl, h1, h2⟩; exact ⟨c1, c2, rfl, Rd.mono hs h1, Rd.mono hs h2⟩
  same hs := by rintro ⟨c1, c2, rfl, h1, h2⟩; exact ⟨c1, c2, rfl, Rd.same hs h1, Rd.same hs h2⟩

/-- A row of elements of k cells each from an address on. -/
def rowOf {α : Type} [Rd α] (S : Nat → Prop) (w : World) (b off : Nat) (xs : List α) : Prop :=
  S b ∧ ∀ (i : Nat) (h : i < xs.length), ∃ cs : List Value, (∀ j, j < Rd.n α → w.cell? ⟨b, off + i * Rd.n α + j, none⟩ = cs[j]?) ∧ Rd.rd S w cs xs[i]

instance {α : Type} [Rd α] : Rd (List α) where
  n := 1
  rd S w cs xs := ∃ a cap, cs = [.slice a xs.length cap] ∧ xs.length ≤ cap ∧ cap ≤ 9223372036854775807 ∧ (0 < xs.length → ∃ b off, a = some ⟨b, off, none⟩ ∧ rowOf S w b off xs)
  pos := Nat.one_pos
  len := by rintro S w cs x ⟨a, cap, rfl, _⟩; rfl
  mono hs := by
    rintro ⟨a, cap, rfl, h1, h2, h3⟩
    refine ⟨a, cap, rfl, h1, h2, fun h => ?_⟩
    obtain ⟨b, off, rfl, hb, hr⟩ := h3 h
    exact ⟨b, off, rfl, hs b hb, fun i hi => let ⟨cs, h4, h5⟩ := hr i hi; ⟨cs, h4, Rd.mono hs h5⟩⟩
  same hs := by
    rintro ⟨a, cap, rfl, h1, h2, h3⟩
    refine ⟨a, cap, rfl, h1, h2, fun h => ?_⟩
    obtain ⟨b, off, rfl, hb, hr⟩ := h3 h
    exact ⟨b, off, rfl, hb, fun i hi => let ⟨cs, h4, h5⟩ := hr i hi; ⟨cs, fun j hj => (hs.cell (p := ⟨b, _, none⟩) hb).trans (h4 j hj), Rd.same hs h5⟩⟩

/-- Through a view: a structure reads as its parts. -/
@[reducible] def Rd.via {α β : Type} [Rd β] (f : α → β) : Rd α where
  n := Rd.n β
  rd S w cs x := Rd.rd S w cs (f x)
  pos := Rd.pos
  len h := Rd.len h
  mono hs h := Rd.mono hs h
  same hs h := Rd.same hs h

/-! ### What the row's form reads is read so. -/
def Opens (P : Program) (t : TypeId) (α : Type) [Rd α] : Prop :=
  ∀ {H : Type} {enc : TypeId × Value → H} {w : World} {fuel : Nat} {cs : List Value} {d : DataW H × List MemPlace},
    DataW.trod enc P w 0 (fun _ => true) true fuel t cs = some d → ∃ x : α, Rd.rd (Old w) w cs x

theorem wf_i64 {n : Int} (h : (Lit.int .i64 n).wf = true) : -9223372036854775808 ≤ n ∧ n ≤ 9223372036854775807 := by
  simp [Lit.wf, IntKind.min, IntKind.max, IntKind.signed, IntKind.bits] at h
  omega
theorem opens_int {P : Program} {t : TypeId} (ht : P.underlying t = some (.int .i64)) : Opens P t Int := by
  intro H enc w fuel cs d h
  obtain ⟨n, rfl, _, hw⟩ := DataW.trod_int ht h
  exact ⟨n, rfl, wf_i64 hw⟩
theorem opens_byte {P : Program} {t : TypeId} (ht : P.underlying t = some (.int .u8)) : Opens P t UInt8 := by
  intro H enc w fuel cs d h
  obtain ⟨n, rfl, _, hw⟩ := DataW.trod_int ht h
  simp [Lit.wf, IntKind.min, IntKind.max, IntKind.signed, IntKind.bits] at hw
  refine ⟨UInt8.ofNat n.toNat, ?_⟩
  have e : ((UInt8.ofNat n.toNat).toNat : Int) = n := by
    rw [UInt8.toNat_ofNat']
    omega
  show _ = [Value.int IntKind.u8 _]
  rw [e]
theorem opens_bool {P : Program} {t : TypeId} (ht : P.underlying t = some .bool) : Opens P t Bool := by
  intro H enc w fuel cs d h
  obtain ⟨n, rfl, _⟩ := DataW.trod_bool ht h
  exact ⟨n, rfl⟩
theorem opens_string {P : Program} {t : TypeId} (ht : P.underlying t = some .string) : Opens P t ByteArray := by
  intro H enc w fuel cs d h
  obtain ⟨n, rfl, _, hs⟩ := DataW.trod_string ht h
  exact ⟨n, rfl, hs⟩
theorem cell_lt {w : World} {a : Addr} {v : Value} (h : w.cell? a = some v) : a.block < w.heap.size := by
  unfold World.cell? at h
  cases e : w.heap[a.block]? with
  | none => rw [e] at h; simp at h
  | some o => exact (Array.getElem?_eq_some_iff.1 e).1
theorem opens_slice {P : Program} {t e : TypeId} {α : Type} [Rd α] (ht : P.underlying t = some (.slice e)) (hn : P.cellsOf e = Rd.n α) (he : Opens P e α) : Opens P t (List α) := by
  intro H enc w fuel cs d h
  rcases Go.Deep.open_slice ht h with ⟨rfl, _⟩ | ⟨a, len, cap, m, n, D, Pl, rfl, _, hl, hm, hmm, _, hx⟩
  · exact ⟨[], none, 0, rfl, Nat.le_refl _, by omega, fun h => absurd h (by simp)⟩
  · simp only [if_true] at hmm
    subst hmm
    have each : ∀ i, i < len → ∃ x : α, ∃ cs', w.cells? 0 (a.add (i * Rd.n α)) (Rd.n α) = some cs' ∧ Rd.rd (Old w) w cs' x := by
      intro i hi
      obtain ⟨cs', h1, h2⟩ := hx i (by omega)
      obtain ⟨x, h3⟩ := he h2
      rw [hn] at h1
      exact ⟨x, cs', h1, h3⟩
    by_cases h0 : len = 0
    · subst h0
      exact ⟨[], some a, m, rfl, Nat.zero_le _, hm, fun h => absurd h (by simp)⟩
    · haveI : Inhabited α := ⟨(each 0 (by omega)).choose⟩
      obtain ⟨f, hf⟩ := Go.Deep.choose_lt each
      have hp : 0 < Rd.n α := Rd.pos
      obtain ⟨cs0, h00, _⟩ := hf 0 (by omega)
      have hc0 := (World.cells?_some h00).2.2 0 hp
      rw [List.getElem?_eq_getElem (by rw [(World.cells?_some h00).2.1]; exact hp)] at hc0
      have hsp := World.cell?_spot hc0
      obtain ⟨b, off, spot⟩ := a
      have hspn : spot = none := by simpa [Addr.add] using hsp
      subst hspn
      have hlt : b < w.heap.size := by have := cell_lt hc0; simpa [Addr.add] using this
      refine ⟨(List.range len).map f, some ⟨b, off, none⟩, m, by simp, by simpa using hl, hm, fun _ => ⟨b, off, rfl, hlt, fun i hi => ?_⟩⟩
      have hi' : i < len := by simpa using hi
      obtain ⟨cs', h1, h2⟩ := hf i hi'
      refine ⟨cs', fun j hj => ?_, by simpa using h2⟩
      rw [← (World.cells?_some h1).2.2 j hj]
      congr 1
      unfold Addr.add
      by_cases hj0 : j = 0 <;> by_cases hi0 : i * Rd.n α = 0 <;> simp [hj0, hi0] <;> omega

theorem drop_take_append {cs : List Value} {n m : Nat} (h : cs.length = n + m) : cs = (cs.drop 0).take n ++ (cs.drop n).take m := by
  rw [List.drop_zero, List.take_of_length_le (i := m) (by simp; omega), List.take_append_drop]

/-- The structs' parts. -/
def Parts (P : Program) (fs : List (TypeId × Nat)) (α : Type) [Rd α] : Prop :=
  ∀ {H : Type} {enc : TypeId × Value → H} {w : World} {fuel : Nat} {cs : List Value},
    (∀ f ∈ fs, ∃ d, DataW.trod enc P w 0 (fun _ => true) true fuel f.1 ((cs.drop f.2).take (P.cellsOf f.1)) = some d) → ∀ o, (∀ f ∈ fs.head?, f.2 = o) → ∃ x : α, Rd.rd (Old w) w ((cs.drop o).take (Rd.n α)) x

theorem parts_one {P : Program} {t : TypeId} {o : Nat} {α : Type} [Rd α] (hn : P.cellsOf t = Rd.n α) (h : Opens P t α) : Parts P [(t, o)] α := by
  intro H enc w fuel cs hf o' ho
  obtain ⟨d, hd⟩ := hf (t, o) (by simp)
  have := ho (t, o) (by simp)
  simp only at this
  subst this
  rw [← hn]
  exact h hd
theorem parts_cons {P : Program} {t : TypeId} {o : Nat} {fs : List (TypeId × Nat)} {α β : Type} [Rd α] [Rd β] (hn : P.cellsOf t = Rd.n α) (hne : ∀ f ∈ fs.head?, f.2 = o + Rd.n α) (h : Opens P t α) (hs : Parts P fs β) : Parts P ((t, o) :: fs) (α × β) := by
  intro H enc w fuel cs hf o' ho
  obtain ⟨d, hd⟩ := hf (t, o) (by simp)
  have := ho (t, o) (by simp)
  simp only at this
  subst this
  obtain ⟨x, hx⟩ := h hd
  obtain ⟨y, hy⟩ := hs (fun f hf' => hf f (by simp [hf'])) (o + Rd.n α) hne
  rw [hn] at hx
  refine ⟨(x, y), _, _, ?_, hx, hy⟩
  show List.take (Rd.n α + Rd.n β) _ = _
  rw [List.take_add, List.drop_drop]
theorem opens_struct {P : Program} {t : TypeId} {fs : Array Field} {α β : Type} [Rd α] [Rd β] (ht : P.underlying t = some (.struct fs)) (hn : P.cellsOf t = Rd.n β)
    (hp : Parts P (fs.toList.map fun f => (f.type, f.offset)) β) (h0 : ∀ f ∈ fs.toList.head?, f.offset = 0) (v : ∀ {S : Nat → Prop} {w : World} {cs : List Value} (y : β), Rd.rd S w cs y → ∃ x : α, Rd.rd S w cs x) : Opens P t α := by
  intro H enc w fuel cs d h
  obtain ⟨xs, n, rfl, _, hl, hlen, hf⟩ := DataW.trod_struct ht h
  have key : ∀ g ∈ fs.toList.map (fun f => (f.type, f.offset)), ∃ d, DataW.trod enc P w 0 (fun _ => true) true n g.1 ((cs.drop g.2).take (P.cellsOf g.1)) = some d := by
    intro g hg
    obtain ⟨f, hf', rfl⟩ := List.mem_map.1 hg
    obtain ⟨i, hi, rfl⟩ := List.mem_iff_getElem.1 hf'
    have hi' : i < fs.size := by simpa using hi
    have := hf i fs[i] (by simp [hi'])
    rw [List.getElem?_eq_getElem (by omega)] at this
    exact ⟨_, by simpa using this⟩
  obtain ⟨y, hy⟩ := hp key 0 (by
    intro f hf'
    cases hfs : fs.toList with
    | nil => rw [hfs] at hf'; simp at hf'
    | cons a r =>
      rw [hfs] at hf' h0
      simp at hf' h0
      subst hf'
      exact h0)
  rw [List.drop_zero, ← hn, ← hl, List.take_length] at hy
  exact v y hy

/-- An argument of a law: its value's cells. -/
theorem okWide_one {P : Program} {w : World} {r : Reach} {base : Nat} {t : TypeId} {v : Value} (h : Value.okWide P w r base t v) (hs : (match P.underlying t with | some (.struct _) | some (.array _ _) => false | _ => true) = true)
    (x : ∃ u, v.cells.toList = [u]) : v.cells.toList = [v] := by
  cases v <;> simp_all [Value.cells, Value.okWide]
  rename_i cs
  split at hs
  · simp at hs
  · simp at hs
  · rename_i h1 h2
    revert h
    split
    · rename_i fs hfs; exact absurd hfs (h1 fs)
    · rename_i k e hke; exact absurd hke (h2 k e)
    · intro h
      exfalso
      unfold Cell.okWide at h
      split at h <;> simp_all [Cell.ok]

theorem arg_plain {P : Program} {w : World} {r : Reach} {base : Nat} {t : TypeId} {v : Value} {α : Type} [Rd α] {H : Type} {enc : TypeId × Value → H} {d : DataW H} {p : List MemPlace} (ho : Opens P t α) (hn : Rd.n α = 1) (hs : (match P.underlying t with | some (.struct _) | some (.array _ _) => false | _ => true) = true)
    (hval : Value.okWide P w r base t v) (h : DataW.Trod enc P w 0 (fun _ => true) true t v d p) : ∃ x : α, Rd.rd (Old w) w [v] x := by
  obtain ⟨m, hm⟩ := h
  obtain ⟨x, hx⟩ := ho hm
  have hl := Rd.len hx
  rw [hn] at hl
  have e := okWide_one hval hs (by
    match hc : v.cells.toList, hl with
    | [u], _ => exact ⟨u, rfl⟩)
  rw [e] at hx
  exact ⟨x, hx⟩
theorem arg_struct {P : Program} {w : World} {r : Reach} {base : Nat} {t : TypeId} {v : Value} {α : Type} [Rd α] {H : Type} {enc : TypeId × Value → H} {d : DataW H} {p : List MemPlace} {fs : Array Field} (ht : P.underlying t = some (.struct fs)) (ho : Opens P t α)
    (hval : Value.okWide P w r base t v) (h : DataW.Trod enc P w 0 (fun _ => true) true t v d p) : ∃ (cs : Array Value) (x : α), v = .agg cs ∧ Rd.rd (Old w) w cs.toList x := by
  obtain ⟨cs, rfl, _⟩ := okWide_struct ht hval
  obtain ⟨m, hm⟩ := h
  obtain ⟨x, hx⟩ := ho hm
  exact ⟨cs, x, rfl, hx⟩
theorem trod_lt' {P : Program} {w : World} {t : TypeId} {v : Value} {H : Type} {enc : TypeId × Value → H} {d : DataW H} {p : List MemPlace} (h : DataW.Trod enc P w 0 (fun _ => true) true t v d p) : ∀ x ∈ p, x.block < w.heap.size := by
  obtain ⟨m, hm⟩ := h
  exact DataW.trod_lt m _ _ _ hm

/-! ### A block of the call's own, known whole: its cells are the elements' cells, one behind the other. -/
theorem cell_of_block {w : World} {g j : Nat} {cs : List Value} {e : TypeId} {fr : Nat × Nat} (hg : w.heap[g]? = some (.cells cs.toArray e fr)) : w.cell? ⟨g, j, none⟩ = cs[j]? := by
  unfold World.cell?
  rw [hg]
  simp
theorem flatten_get {css : List (List Value)} {n : Nat} (h : ∀ cs ∈ css, cs.length = n) : ∀ (i j : Nat) (hi : i < css.length), j < n → (css.flatten)[i * n + j]? = css[i][j]? := by
  induction css with
  | nil => intro i j hi; exact absurd hi (by simp)
  | cons c r ih =>
    intro i j hi hj
    have hc : c.length = n := h c (by simp)
    cases i with
    | zero => simp only [List.flatten_cons, Nat.zero_mul, Nat.zero_add, List.getElem_cons_zero]; rw [List.getElem?_append_left (by omega)]
    | succ i =>
      have := ih (fun cs hcs => h cs (by simp [hcs])) i j (by simpa using hi) hj
      simp only [List.flatten_cons, List.getElem_cons_succ]
      rw [List.getElem?_append_right (by rw [hc, Nat.add_mul]; omega), ← this]
      congr 1
      rw [hc, Nat.add_mul]; omega
theorem flatten_length {css : List (List Value)} {n : Nat} (h : ∀ cs ∈ css, cs.length = n) : css.flatten.length = css.length * n := by
  induction css with
  | nil => simp
  | cons c r ih => rw [List.flatten_cons, List.length_append, ih (fun cs hcs => h cs (by simp [hcs])), h c (by simp), List.length_cons, Nat.add_mul]; omega
/-- The elements read one by one off their cells. -/
def Each {α : Type} [Rd α] (S : Nat → Prop) (w : World) (css : List (List Value)) (xs : List α) : Prop :=
  css.length = xs.length ∧ ∀ (i : Nat) (h : i < css.length) (h' : i < xs.length), Rd.rd S w css[i] xs[i]
theorem Each.nil {α : Type} [Rd α] {S : Nat → Prop} {w : World} : Each S w [] ([] : List α) := ⟨rfl, fun i h => absurd h (by simp)⟩
theorem Each.mono {α : Type} [Rd α] {S T : Nat → Prop} {w : World} {css : List (List Value)} {xs : List α} (h : Each S w css xs) (hs : ∀ b, S b → T b) : Each T w css xs := ⟨h.1, fun i a b => Rd.mono hs (h.2 i a b)⟩
theorem Each.same {α : Type} [Rd α] {S : Nat → Prop} {w w' : World} {css : List (List Value)} {xs : List α} (h : Each S w css xs) (hs : Same S w w') : Each S w' css xs := ⟨h.1, fun i a b => Rd.same hs (h.2 i a b)⟩
theorem Each.len {α : Type} [Rd α] {S : Nat → Prop} {w : World} {css : List (List Value)} {xs : List α} (h : Each S w css xs) : ∀ cs ∈ css, cs.length = Rd.n α := by
  intro cs hcs
  obtain ⟨i, hi, rfl⟩ := List.mem_iff_getElem.1 hcs
  exact Rd.len (h.2 i hi (by rw [← h.1]; exact hi))
theorem Each.snoc {α : Type} [Rd α] {S : Nat → Prop} {w : World} {css : List (List Value)} {xs : List α} {cs : List Value} {x : α} (h : Each S w css xs) (hx : Rd.rd S w cs x) : Each S w (css ++ [cs]) (xs ++ [x]) := by
  refine ⟨by simp [h.1], fun i a b => ?_⟩
  by_cases hi : i < css.length
  · have hi' : i < xs.length := by rw [← h.1]; exact hi
    rw [List.getElem_append_left hi, List.getElem_append_left hi']
    exact h.2 i hi hi'
  · have e1 : i = css.length := by simp at a; omega
    subst e1
    have e2 : css.length = xs.length := h.1
    rw [List.getElem_append_right (Nat.le_refl _), List.getElem_append_right (by omega)]
    simpa [e2] using hx
/-- A slice at the head of such a block reads as the elements. -/
theorem rd_of_block {α : Type} [Rd α] {S : Nat → Prop} {w : World} {g cap : Nat} {css : List (List Value)} {xs : List α} {rest : List Value} {e : TypeId} {fr : Nat × Nat} (hg : w.heap[g]? = some (.cells (css.flatten ++ rest).toArray e fr))
    (he : Each S w css xs) (hS : S g) (hl : xs.length ≤ cap) (hc : cap ≤ 9223372036854775807) : Rd.rd S w [.slice (some ⟨g, 0, none⟩) xs.length cap] xs := by
  refine ⟨some ⟨g, 0, none⟩, cap, rfl, hl, hc, fun _ => ⟨g, 0, rfl, hS, fun i hi => ?_⟩⟩
  have hi' : i < css.length := by rw [he.1]; exact hi
  refine ⟨css[i], fun j hj => ?_, he.2 i hi' hi⟩
  rw [cell_of_block hg, Nat.zero_add, ← flatten_get he.len i j hi' hj]
  rw [List.getElem?_append_left]
  rw [flatten_length he.len]
  have : (i + 1) * Rd.n α ≤ css.length * Rd.n α := Nat.mul_le_mul_right _ hi'
  rw [Nat.add_mul] at this
  omega
theorem toList_madeCells1 (z : Value) (n : Nat) : madeCells #[z] n = (List.replicate n z).toArray := by
  rw [← toList_madeCells_one z n]
/-- One store further: the next element's single cell. -/
theorem set_flatten1 {css : List (List Value)} {m : Nat} {z v : Value} (h : ∀ cs ∈ css, cs.length = 1) :
    (css.flatten ++ List.replicate (m + 1) z).set css.length v = (css ++ [[v]]).flatten ++ List.replicate m z := by
  have hl := flatten_length h
  rw [Nat.mul_one] at hl
  rw [List.set_append_right _ _ (by omega), hl, Nat.sub_self, List.replicate_succ, List.set_cons_zero, List.flatten_append]
  simp

theorem fill_made (w : World) (z : Value) (n : Nat) (e : TypeId) : (w.alloc (.cells (madeCells #[z] n) e)).heap[w.heap.size]? = some (.cells ((([] : List (List Value)).flatten ++ List.replicate (n - 0) z).toArray) e (0, 0)) := by
  rw [toList_madeCells1]
  exact heap_alloc_new w _
theorem fill_old {w : World} {g k n : Nat} {css : List (List Value)} {z : Value} {e : TypeId} {fr : Nat × Nat} (hg : w.heap[g]? = some (.cells (css.flatten ++ List.replicate (n - k) z).toArray e fr)) (h : ∀ cs ∈ css, cs.length = 1) (hl : css.length = k) (hk : k < n) :
    w.cell? ⟨g, k, none⟩ = some z := by
  have hfl := flatten_length h
  rw [cell_of_block hg, List.getElem?_append_right (by omega), List.getElem?_replicate, if_pos (by omega)]
theorem fill_set {w : World} {g k n : Nat} {css : List (List Value)} {z v : Value} {e : TypeId} (hg : w.heap[g]? = some (.cells (css.flatten ++ List.replicate (n - k) z).toArray e (0, 0))) (h : ∀ cs ∈ css, cs.length = 1) (hl : css.length = k) (hk : k < n) :
    (w.setCell ⟨g, k, none⟩ v).heap[g]? = some (.cells ((css ++ [[v]]).flatten ++ List.replicate (n - (k + 1)) z).toArray e (0, 0)) := by
  rw [heap_setCell_same w g k _ _ _ hg]
  subst hl
  rw [show n - css.length = (n - (css.length + 1)) + 1 by omega, List.setIfInBounds_toArray, set_flatten1 h]
theorem each_take {α : Type} [Rd α] {S : Nat → Prop} {w : World} {css : List (List Value)} {xs : List α} {k : Nat} (h : Each S w css (xs.take k)) (hk : k ≤ xs.length) : css.length = k := by
  rw [h.1, List.length_take]; omega
theorem each_next {α : Type} [Rd α] {S : Nat → Prop} {w : World} {css : List (List Value)} {xs : List α} {k : Nat} {cs : List Value} (h : Each S w css (xs.take k)) (hk : k < xs.length) (hx : Rd.rd S w cs xs[k]) : Each S w (css ++ [cs]) (xs.take (k + 1)) := by
  rw [List.take_succ_eq_append_getElem hk]
  exact h.snoc hx

theorem ext_trans {a b c : World} (h1 : Below a.heap.size a b) (h2 : Below b.heap.size b c) : Below a.heap.size a c := h1.trans (h2.mono h1.size)
theorem ext_alloc (w : World) (o : Obj) : Below w.heap.size w (w.alloc o) := (Below.refl _ _).alloc (Nat.le_refl _) o
theorem rdSlc {α : Type} [Rd α] {S : Nat → Prop} {w : World} {cs : List Value} {xs : List α} (h : Rd.rd S w cs xs) : ∃ (a : Option Addr) (c : Nat), cs = [.slice a xs.length c] := by
  obtain ⟨a, c, h, _⟩ := h
  exact ⟨a, c, h⟩
def sumTo {α : Type} (f : α → Nat) (xs : List α) (k : Nat) : Nat := ((xs.take k).map f).sum
theorem sumTo_zero {α : Type} (f : α → Nat) (xs : List α) : sumTo f xs 0 = 0 := by simp [sumTo]
theorem sumTo_succ {α : Type} (f : α → Nat) (xs : List α) (k : Nat) (h : k < xs.length) : sumTo f xs (k + 1) = sumTo f xs k + f xs[k] := by
  unfold sumTo
  rw [List.take_succ_eq_append_getElem h, List.map_append, List.sum_append]
  simp
theorem sumTo_le {α : Type} (f : α → Nat) (xs : List α) {k m : Nat} (h : k ≤ m) : sumTo f xs k ≤ sumTo f xs m := by
  unfold sumTo
  have e : xs.take m = xs.take k ++ (xs.take m).drop k := by
    have := (List.take_append_drop k (xs.take m)).symm
    rwa [List.take_take, Nat.min_eq_left h] at this
  rw [e, List.map_append, List.sum_append]
  exact Nat.le_add_right _ _
/-- The size that the laws reckon. -/
class Sz (α : Type) where
  sz : α → Nat
instance : Sz Int := ⟨fun _ => 0⟩
instance : Sz Bool := ⟨fun _ => 0⟩
instance : Sz ByteArray := ⟨ByteArray.size⟩
instance {α : Type} [Sz α] : Sz (List α) := ⟨fun xs => xs.length + sumTo Sz.sz xs xs.length⟩

/-- What lay from B on in w1 lies in W as it did. -/
def Keeps (B : Nat) (w1 W : World) : Prop := w1.heap.size ≤ W.heap.size ∧ Same (New B w1) w1 W
theorem Keeps.refl (B : Nat) (w : World) : Keeps B w w := ⟨Nat.le_refl _, Same.refl _ _⟩
theorem Keeps.set {B : Nat} {w1 W : World} {p : Addr} (h : Keeps B w1 W) (hp : p.block < B) (u : Value) : Keeps B w1 (W.setCell p u) :=
  ⟨by simpa [World.setCell] using h.1, fun b hb => (Below.heap_setCell W p u b (by have := hb.1; omega)).trans (h.2 b hb)⟩
theorem Keeps.alloc {B : Nat} {w1 W : World} (h : Keeps B w1 W) (o : Obj) : Keeps B w1 (W.alloc o) :=
  ⟨Nat.le_trans h.1 (ext_alloc W o).size, fun b hb => ((ext_alloc W o).block b (Nat.lt_of_lt_of_le hb.2 h.1)).trans (h.2 b hb)⟩
theorem Keeps.call {B : Nat} {w1 W W' : World} (h : Keeps B w1 W) (hb : Below W.heap.size W W') : Keeps B w1 W' :=
  ⟨Nat.le_trans h.1 hb.size, fun b hb' => (hb.block b (Nat.lt_of_lt_of_le hb'.2 h.1)).trans (h.2 b hb')⟩
theorem Keeps.rd {α : Type} [Rd α] {A B : Nat} {w1 W : World} {cs : List Value} {x : α} (h : Keeps B w1 W) (hA : A ≤ B) (hx : Rd.rd (New B w1) w1 cs x) : Rd.rd (New A W) W cs x :=
  Rd.mono (fun b (hb : B ≤ b ∧ b < w1.heap.size) => ⟨Nat.le_trans hA hb.1, Nat.lt_of_lt_of_le hb.2 h.1⟩) (Rd.same h.2 hx)
theorem keeps_cells {w w' : World} (hb : Below w.heap.size w w') : ∀ (p : Addr) (v : Value), w.cell? p = some v → w'.cell? p = some v := fun _ _ h => (hb.cell (cell_lt h)).trans h

/-! ### A row of elements of n cells, made at one stroke and filled one by one -/
theorem make_cells {P : Program} {t e : TypeId} {n bytes : Nat} (ht : P.underlying t = some (.slice e)) (hinfo : (P.info? e).map (fun i => (i.zero.isSome, i.size, i.bytes)) = some (true, n, bytes)) (c : Nat) (hbytes : bytes * c ≤ 281474976710656) (h63 : c ≤ 9223372036854775807) :
    ∃ zc : List Value, zc.length = c * n ∧ ∀ w, (Instr.makeSlice t (.int .i64 (c : Int)) (.int .i64 (c : Int))).run P w = .ok (.slice (some ⟨w.heap.size, 0, none⟩) c c) (w.alloc (.cells zc.toArray e)) := by
  obtain ⟨i, hi, hz⟩ := Option.map_eq_some_iff.1 hinfo
  simp only [Prod.mk.injEq] at hz
  obtain ⟨h1, rfl, rfl⟩ := hz
  obtain ⟨z, hz⟩ := Option.isSome_iff_exists.1 h1
  refine ⟨(madeCells z.cells (c * i.size)).toList, by rw [Array.length_toList, size_madeCells], fun w => ?_⟩
  have hb' : (i.bytes : Int) * (c : Int) ≤ 281474976710656 := by
    have h : ((i.bytes * c : Nat) : Int) ≤ 281474976710656 := by omega
    rwa [Int.natCast_mul] at h
  have hr := run_make (P := P) w t e i z ht hi hz .i64 .i64 c c (by omega) (Int.le_refl _) hb' (by omega)
  simpa only [Int.toNat_natCast, Array.toArray_toList] using hr
theorem row_get {w : World} {g k n : Nat} {css : List (List Value)} {rest : List Value} {e : TypeId} {fr : Nat × Nat} (hg : w.heap[g]? = some (.cells (css.flatten ++ rest).toArray e fr)) (h : ∀ cs ∈ css, cs.length = n) (hl : css.length = k) (hr : n ≤ rest.length) {j : Nat} (hj : j < n) :
    ∃ v, w.cell? ⟨g, k * n + j, none⟩ = some v := by
  have hfl := flatten_length h
  rw [cell_of_block hg, List.getElem?_append_right (by rw [hfl, hl]; omega), hfl, hl, Nat.add_sub_cancel_left, List.getElem?_eq_getElem (by omega)]
  exact ⟨_, rfl⟩
/-- Cells stored one behind the other. -/
def setAll (w : World) (g o : Nat) : Nat → List Value → World
  | _, [] => w
  | i, c :: r => setAll (w.setCell ⟨g, o + i, none⟩ c) g o (i + 1) r
theorem setAll_block : ∀ (cs : List Value) (w : World) (g o i : Nat) (A B C : List Value) (e : TypeId), w.heap[g]? = some (.cells (A ++ B ++ C).toArray e (0, 0)) → A.length = o + i → B.length = cs.length →
    (setAll w g o i cs).heap[g]? = some (.cells (A ++ cs ++ C).toArray e (0, 0)) ∧ (∀ b, b ≠ g → (setAll w g o i cs).heap[b]? = w.heap[b]?) ∧ (setAll w g o i cs).heap.size = w.heap.size ∧ (∀ K (w0 : World), Below K w0 w → K ≤ g → Below K w0 (setAll w g o i cs))
  | [], w, g, o, i, A, B, C, e, hg, hA, hB => by
    have : B = [] := List.eq_nil_of_length_eq_zero hB
    subst this
    exact ⟨hg, fun _ _ => rfl, rfl, fun _ _ h _ => h⟩
  | c :: r, w, g, o, i, A, B, C, e, hg, hA, hB => by
    cases B with
    | nil => simp at hB
    | cons b B =>
      have hs := heap_setCell_same w g (o + i) _ _ c hg
      rw [List.setIfInBounds_toArray, ← hA, List.append_assoc, List.set_append_right _ _ (Nat.le_refl _), Nat.sub_self, List.cons_append, List.set_cons_zero] at hs
      have hs' : (w.setCell ⟨g, A.length, none⟩ c).heap[g]? = some (.cells ((A ++ [c]) ++ B ++ C).toArray e (0, 0)) := by
        rw [hs]; simp
      obtain ⟨h1, h2, h3, h4⟩ := setAll_block r (w.setCell ⟨g, A.length, none⟩ c) g o (i + 1) (A ++ [c]) B C e hs' (by simp; omega) (by simpa using hB)
      rw [hA] at h1 h2 h3 h4
      refine ⟨?_, fun k hk => (h2 k hk).trans (Below.heap_setCell _ _ _ _ hk), by rw [show (setAll w g o i (c :: r)).heap.size = _ from h3]; simp [World.setCell], fun K w0 hb hK => h4 K w0 (hb.setCell hK _) hK⟩
      show (setAll (w.setCell ⟨g, o + i, none⟩ c) g o (i + 1) r).heap[g]? = _
      rw [h1]
      simp
theorem sz_each {α : Type} [Sz α] {xs : List α} {m : Nat} (h : Sz.sz xs ≤ m) : ∀ k (hk : k < xs.length), Sz.sz xs[k] ≤ m := by
  intro k hk
  have e : Sz.sz xs = xs.length + sumTo Sz.sz xs xs.length := rfl
  have h1 := sumTo_succ Sz.sz xs k hk
  have h2 := sumTo_le Sz.sz xs (show k + 1 ≤ xs.length by omega)
  omega
theorem row_next {α : Type} [Rd α] {w0 wr w1 : World} {g k n : Nat} {css : List (List Value)} {rest : List Value} {xs : List α} {cs1 : List Value} {e : TypeId} (hn : Rd.n α = n) (hk : k < xs.length)
    (hg : w1.heap[g]? = some (.cells (css.flatten ++ rest).toArray e (0, 0))) (he : Each (New (g + 1) wr) wr css (xs.take k)) (hcl : css.length = k) (hrl : rest.length = (xs.length - k) * n)
    (hgw : g < wr.heap.size) (hb1 : Below wr.heap.size wr w1) (hB1 : Below g w0 w1) (hr1 : Rd.rd (New wr.heap.size w1) w1 cs1 xs[k]) :
    ∃ rest', (setAll w1 g (k * n) 0 cs1).heap[g]? = some (.cells ((css ++ [cs1]).flatten ++ rest').toArray e (0, 0)) ∧ rest'.length = (xs.length - (k + 1)) * n ∧ g < (setAll w1 g (k * n) 0 cs1).heap.size ∧
      Below g w0 (setAll w1 g (k * n) 0 cs1) ∧ Each (New (g + 1) (setAll w1 g (k * n) 0 cs1)) (setAll w1 g (k * n) 0 cs1) (css ++ [cs1]) (xs.take (k + 1)) := by
  subst hn
  have hfl := flatten_length he.len
  have hc1 := Rd.len hr1
  have hmul : (xs.length - k) * Rd.n α = (xs.length - (k + 1)) * Rd.n α + Rd.n α := by
    rw [show xs.length - k = (xs.length - (k + 1)) + 1 by omega, Nat.add_mul, Nat.one_mul]
  obtain ⟨h1, h2, h3, h4⟩ := setAll_block cs1 w1 g (k * Rd.n α) 0 css.flatten (rest.take (Rd.n α)) (rest.drop (Rd.n α)) e (by rw [List.append_assoc, List.take_append_drop]; exact hg) (by rw [hfl, hcl]; rfl) (by rw [List.length_take, hc1]; omega)
  have hsame : Same (New (g + 1) w1) w1 (setAll w1 g (k * Rd.n α) 0 cs1) := fun b hb => h2 b (by have := hb.1; omega)
  have hs1 := hb1.size
  refine ⟨rest.drop (Rd.n α), by rw [h1]; simp, by rw [List.length_drop]; omega, by rw [h3]; omega, h4 _ _ hB1 (Nat.le_refl _), each_next ?_ hk ?_⟩
  · have e1 := he.same (S := New (g + 1) wr) (w' := w1) (fun b hb => hb1.block b hb.2)
    have e2 := e1.mono (T := New (g + 1) w1) (fun b hb => ⟨hb.1, Nat.lt_of_lt_of_le hb.2 hs1⟩)
    have e3 := e2.same hsame
    exact e3.mono (fun b hb => ⟨hb.1, by rw [h3]; exact hb.2⟩)
  · have e2 : Rd.rd (New (g + 1) w1) w1 cs1 xs[k] := Rd.mono (fun b (hb : wr.heap.size ≤ b ∧ b < w1.heap.size) => ⟨by omega, hb.2⟩) hr1
    exact Rd.mono (fun b (hb : g + 1 ≤ b ∧ b < w1.heap.size) => ⟨hb.1, by rw [h3]; exact hb.2⟩) (Rd.same hsame e2)

theorem own_later {w w1 : World} {base : Nat} {e : TypeId} {size : Nat} {v : Value} {n : Nat} {xs : List Value} (h : w.ownsRow base e size v n xs) (hb : Below w.heap.size w w1) : w1.ownsRow base e size v n xs :=
  h.kept (row := none) ⟨hb.os, hb.tape, hb.output, hb.size, fun k hk _ => hb.block k hk⟩ (by cases hv : v.ownBlock <;> simp)
/-- a row of the call's own reads as its elements -/
theorem rd_of_own {α : Type} [Rd α] {S : Nat → Prop} {w : World} {base : Nat} {e : TypeId} {v : Value} {css : List (List Value)} {xs : List α} (h : w.ownsRow base e (Rd.n α) v xs.length css.flatten) (he : Each S w css xs) (hS : ∀ b, base ≤ b → b < w.heap.size → S b) : Rd.rd S w [v] xs := by
  rcases h.2 with ⟨rfl, hn⟩ | ⟨g, cap, cur, rfl, hb, hg, hnc, hcm, hcs, htake⟩
  · rw [show xs = [] from List.eq_nil_of_length_eq_zero hn]
    exact ⟨none, 0, rfl, Nat.le_refl _, by omega, fun h => absurd h (by simp)⟩
  · have hlt : g < w.heap.size := (Array.getElem?_eq_some_iff.1 hg).1
    have hcur : cur = (css.flatten ++ cur.toList.drop (xs.length * Rd.n α)).toArray := by
      rw [← htake, List.take_append_drop]
    rw [hcur] at hg
    exact rd_of_block hg he (hS g hb hlt) hnc (by unfold maxLen at hcm; omega)

/-! ### Small things -/
theorem end_int {a b : Int} (h : a = b) : Ending.returned (.int .i64 a) = Ending.returned (.int .i64 b) := by rw [h]
theorem end_string {a b : ByteArray} (h : a = b) : Ending.returned (.string a) = Ending.returned (.string b) := by rw [h]
theorem end_bool {b c : Bool} (h : b = c) : Ending.returned (.bool b) = Ending.returned (.bool c) := by rw [h]
theorem end_two {a b c d : Int} (h : (a, b) = (c, d)) : Ending.returned (.tuple #[.int .i64 a, .int .i64 b]) = Ending.returned (.tuple #[.int .i64 c, .int .i64 d]) := by cases h; rfl
/-- What is left of 'left' behind a thing of this size; -1 if it is too great. -/
def szOut (left : Int) (n : Nat) : Int := if (n : Int) ≤ left then left - n else -1
theorem szOut_nonneg {left : Int} {n : Nat} (h : ¬ szOut left n < 0) : (n : Int) ≤ left := by
  unfold szOut at h
  split at h <;> omega
theorem szOut_bad {left : Int} {n : Nat} (h : left < (n : Int)) : szOut left n = -1 := by
  unfold szOut
  rw [if_neg (by omega)]
theorem szOut_val {left : Int} {n : Nat} (h : (n : Int) ≤ left) : szOut left n = left - n := by
  unfold szOut
  rw [if_pos h]

#print axioms opens_struct
#print axioms opens_slice
end Go.Proofs.YtomcoilmpkpoeaaGreatDoor

namespace Go.Proofs.YtomcoilmpkpoeaaGreatDoor
open Go.RowKit

structure Dec where
  neg : Bool
  dig : ByteArray
  exp : Int
@[reducible] instance : Rd Dec := Rd.via fun x => (x.neg, x.dig, x.exp)
structure Val where
  kind : Int
  num : Dec
  text : ByteArray
@[reducible] instance : Rd Val := Rd.via fun x => (x.kind, x.num, x.text)
structure Arr where
  keys : List ByteArray
  vals : List Val
@[reducible] instance : Rd Arr := Rd.via fun x => (x.keys, x.vals)
structure Leaf where
  path : ByteArray
  kind : Int
  text : ByteArray
@[reducible] instance : Rd Leaf := Rd.via fun x => (x.path, x.kind, x.text)
structure RxNode where
  kind : Int
  lo : Int
  hi : Int
  neg : Bool
  set : List Int
  kids : List Int
@[reducible] instance : Rd RxNode := Rd.via fun x => (x.kind, x.lo, x.hi, x.neg, x.set, x.kids)
structure Rx where
  nodes : List RxNode
@[reducible] instance : Rd Rx := Rd.via fun x => x.nodes
structure NfaOp where
  op : Int
  a : Int
  b : Int
  neg : Bool
  set : List Int
@[reducible] instance : Rd NfaOp := Rd.via fun x => (x.op, x.a, x.b, x.neg, x.set)
structure Nfa where
  ops : List NfaOp
@[reducible] instance : Rd Nfa := Rd.via fun x => x.ops
structure Row where
  cells : List ByteArray
@[reducible] instance : Rd Row := Rd.via fun x => x.cells
structure JNode where
  kind : Int
  text : ByteArray
  keys : List ByteArray
  kids : List Int
@[reducible] instance : Rd JNode := Rd.via fun x => (x.kind, x.text, x.keys, x.kids)
structure Json where
  nodes : List JNode
@[reducible] instance : Rd Json := Rd.via fun x => x.nodes
structure Conf where
  tag : Int
  fs : ByteArray
  rs : ByteArray
  ofs : ByteArray
  ors : ByteArray
  head : Bool
@[reducible] instance : Rd Conf := Rd.via fun x => (x.tag, x.fs, x.rs, x.ofs, x.ors, x.head)
structure Rec where
  text : ByteArray
  cells : List ByteArray
  leaves : List Leaf
@[reducible] instance : Rd Rec := Rd.via fun x => (x.text, x.cells, x.leaves)
structure File where
  name : ByteArray
  text : ByteArray
@[reducible] instance : Rd File := Rd.via fun x => (x.name, x.text)
structure WorldT where
  inp : Conf
  out : Conf
  files : List File
  args : List ByteArray
@[reducible] instance : Rd WorldT := Rd.via fun x => (x.inp, x.out, x.files, x.args)
structure Ins where
  op : Int
  place : Int
  a : Int
  b : Int
  s : ByteArray
@[reducible] instance : Rd Ins := Rd.via fun x => (x.op, x.place, x.a, x.b, x.s)
structure Job where
  world : WorldT
  source : ByteArray
  fuel : Int
@[reducible] instance : Rd Job := Rd.via fun x => (x.world, x.source, x.fuel)

theorem opens_4 : Opens Tryz.prog 4 Bool := opens_bool Tryz.underlying4
theorem opens_9 : Opens Tryz.prog 9 ByteArray := opens_string Tryz.underlying9
theorem opens_3 : Opens Tryz.prog 3 Int := opens_int Tryz.underlying3
theorem opens_90 : Opens Tryz.prog 90 (List ByteArray) := opens_slice Tryz.underlying90 (by kernel_rfl) opens_9
theorem opens_78 : Opens Tryz.prog 78 (List Int) := opens_slice Tryz.underlying78 (by kernel_rfl) opens_3
theorem opens_80 : Opens Tryz.prog 80 RxNode :=
  opens_struct (β := Int × Int × Int × Bool × (List Int) × (List Int)) Tryz.underlying80 (by kernel_rfl) (parts_cons (by kernel_rfl) (by intro f hf; cases hf; rfl) opens_3 (parts_cons (by kernel_rfl) (by intro f hf; cases hf; rfl) opens_3 (parts_cons (by kernel_rfl) (by intro f hf; cases hf; rfl) opens_3 (parts_cons (by kernel_rfl) (by intro f hf; cases hf; rfl) opens_4 (parts_cons (by kernel_rfl) (by intro f hf; cases hf; rfl) opens_78 (parts_one (by kernel_rfl) opens_78)))))) (by intro f hf; cases hf; rfl) (fun y h => ⟨⟨y.1, y.2.1, y.2.2.1, y.2.2.2.1, y.2.2.2.2.1, y.2.2.2.2.2⟩, h⟩)
theorem opens_22 : Opens Tryz.prog 22 (List RxNode) := opens_slice Tryz.underlying22 (by kernel_rfl) opens_80
theorem opens_24 : Opens Tryz.prog 24 Rx :=
  opens_struct (β := (List RxNode)) Tryz.underlying24 (by kernel_rfl) (parts_one (by kernel_rfl) opens_22) (by intro f hf; cases hf; rfl) (fun y h => ⟨⟨y⟩, h⟩)
end Go.Proofs.YtomcoilmpkpoeaaGreatDoor

namespace Go.Proofs.YtomcoilmpkpoeaaGreatDoor
open Go.RowKit
set_option linter.unusedVariables false
set_option linter.unusedSimpArgs false

/-- The block p holds a cursor over a code that lies below B. -/
def Cur (B : Nat) (w : World) (p k : Nat) : Prop :=
  ∃ (a : Option Addr) (n cap seed : Nat), w.heap[p]? = some (.cells #[.slice a n cap, .int .i64 (k : Int), .int .i64 (seed : Int)] 105 (0, 0)) ∧ seed < 65521 ∧ n ≤ 1048576 ∧ B ≤ p ∧
    (0 < n → ∃ g off, a = some ⟨g, off, none⟩ ∧ g < B ∧ ∀ i, i < n → ∃ x : Nat, x < 256 ∧ w.cell? ⟨g, off + i, none⟩ = some (.int .u8 (x : Int)))
/-- What a world becomes where one block alone may have changed. -/
theorem grown_refl (w : World) (r : Option Nat) : w.grownBy w r := ⟨rfl, rfl, rfl, Nat.le_refl _, fun _ _ _ => rfl⟩
theorem grown_trans {a b c : World} {r : Option Nat} (h1 : a.grownBy b r) (h2 : b.grownBy c r) : a.grownBy c r :=
  ⟨h2.os.trans h1.os, h2.tape.trans h1.tape, h2.output.trans h1.output, Nat.le_trans h1.size h2.size, fun k hk hr => (h2.block k (Nat.lt_of_lt_of_le hk h1.size) hr).trans (h1.block k hk hr)⟩
theorem grown_set {a b : World} {p : Nat} (h : a.grownBy b (some p)) (o : Nat) (v : Value) : a.grownBy (b.setCell ⟨p, o, none⟩ v) (some p) :=
  grown_trans h ⟨rfl, rfl, rfl, by simp [World.setCell], fun k hk hr => heap_setCell_other b ⟨p, o, none⟩ k v (fun e => hr (by rw [e]))⟩
theorem grown_below {B : Nat} {a b c : World} {p : Nat} (h : Below B a b) (hB : B ≤ a.heap.size) (hp : B ≤ p) (h2 : b.grownBy c (some p)) : Below B a c :=
  ⟨h2.os.trans h.os, h2.tape.trans h.tape, h2.output.trans h.output, Nat.le_trans h.size h2.size, fun i hi => (h2.block i (Nat.lt_of_lt_of_le (Nat.lt_of_lt_of_le hi hB) h.size) (fun e => by cases e; omega)).trans (h.block i hi)⟩
theorem below_grown {a b : World} {r : Option Nat} (h : Below a.heap.size a b) : a.grownBy b r :=
  ⟨h.os, h.tape, h.output, h.size, fun k hk _ => h.block k hk⟩
theorem grown_alloc {a b : World} {r : Option Nat} (h : a.grownBy b r) (o : Obj) : a.grownBy (b.alloc o) r := grown_trans h (below_grown (ext_alloc _ _))
theorem grown_drewN {a b : World} {r : Option Nat} (h : a.grownBy b r) (q : Nat) : a.grownBy (b.drewN q) r := ⟨h.os, h.tape, h.output, h.size, h.block⟩
theorem grown_drew {a b : World} {r : Option Nat} (h : a.grownBy b r) : a.grownBy b.drew r := ⟨h.os, h.tape, h.output, h.size, h.block⟩
/-- A cursor stays one where its block stands and what lies below B. -/
theorem Cur.keep {B : Nat} {w w' : World} {p k : Nat} (h : Cur B w p k) (hp : w'.heap[p]? = w.heap[p]?) (hb : Below B w w') : Cur B w' p k := by
  obtain ⟨a, n, cap, seed, h1, h2, h3, h4, h5⟩ := h
  refine ⟨a, n, cap, seed, hp.trans h1, h2, h3, h4, fun hn => ?_⟩
  obtain ⟨g, off, e, hg, hx⟩ := h5 hn
  exact ⟨g, off, e, hg, fun i hi => let ⟨x, hx1, hx2⟩ := hx i hi; ⟨x, hx1, ((bcell hb).1 g _ hg).trans hx2⟩⟩
theorem Cur.lt {B : Nat} {w : World} {p k : Nat} (h : Cur B w p k) : B ≤ p ∧ p < w.heap.size := by
  obtain ⟨a, n, cap, seed, h1, h2, h3, h4, h5⟩ := h
  exact ⟨h4, (Array.getElem?_eq_some_iff.1 h1).1⟩
theorem Cur.later {B : Nat} {w w' : World} {p k : Nat} (h : Cur B w p k) (hb : Below w.heap.size w w') : Cur B w' p k :=
  h.keep (hb.block p h.lt.2) (hb.mono (Nat.le_trans h.lt.1 (Nat.le_of_lt h.lt.2)))

theorem cur_new {B : Nat} {w w' : World} {p k k' : Nat} {a : Option Addr} {n cap seed seed' : Nat} (h1 : w.heap[p]? = some (.cells #[.slice a n cap, .int .i64 (k : Int), .int .i64 (seed : Int)] 105 (0, 0))) (h3 : n ≤ 1048576) (h4 : B ≤ p)
    (h5 : 0 < n → ∃ g off, a = some ⟨g, off, none⟩ ∧ g < B ∧ ∀ i, i < n → ∃ x : Nat, x < 256 ∧ w.cell? ⟨g, off + i, none⟩ = some (.int .u8 (x : Int)))
    (h' : w'.heap[p]? = some (.cells #[.slice a n cap, .int .i64 (k' : Int), .int .i64 (seed' : Int)] 105 (0, 0))) (h2 : seed' < 65521) (hg : w.grownBy w' (some p)) : Cur B w' p k' := by
  refine ⟨a, n, cap, seed', h', h2, h3, h4, fun hn => ?_⟩
  obtain ⟨g, off, e, hg1, hx⟩ := h5 hn
  exact ⟨g, off, e, hg1, fun i hi => let ⟨x, hx1, hx2⟩ := hx i hi; ⟨x, hx1, hg.cell hx2 (fun e => absurd (Option.some.inj e) (Nat.ne_of_lt (Nat.lt_of_lt_of_le hg1 h4)))⟩⟩

set_option maxHeartbeats 4000000 in
set_option maxRecDepth 100000 in
theorem curPick {B p k : Nat} (n : Int) (w : World) (hc : Cur B w p k) (hk : k ≤ 1000000000000) (hn : n ≤ 9223372036854775807) :
    Calls Tryz.prog 54 #[.pointer (some ⟨p, 0, none⟩), .int .i64 n] w fun e w' => ∃ r : Nat, e = .returned (.int .i64 (r : Int)) ∧ ((r : Int) < n ∨ r = 0) ∧ ∃ k', k' ≤ k + 1 ∧ Cur B w' p k' ∧ w.grownBy w' (some p) := by
  by_cases h2 : n < 2
  · go_enter Tryz.func54, Tryz.ntmps54
    go_wp2
    go_ret
    exact ⟨0, rfl, Or.inr rfl, k, by omega, hc, grown_refl _ _⟩
  obtain ⟨a, len, cap, seed, hblk, hseed, hlen, hBp, hcode⟩ := hc
  have c0 : w.cell? ⟨p, 0, none⟩ = some (.slice a len cap) := cell_of_row w p 0 _ _ _ hblk
  have c1 : w.cell? ⟨p, 1, none⟩ = some (.int .i64 (k : Int)) := cell_of_row w p 1 _ _ _ hblk
  have c2 : w.cell? ⟨p, 2, none⟩ = some (.int .i64 (seed : Int)) := cell_of_row w p 2 _ _ _ hblk
  have z1 : w.frozen? ⟨p, 1, none⟩ = false := frozen_of_row w p 1 _ _ hblk
  have z2 : w.frozen? ⟨p, 2, none⟩ = false := frozen_of_row w p 2 _ _ hblk
  have HB := hid hblk
  have HC := hid hcode
  have hn1 : (0 : Int) < n := by omega
  by_cases hin : (k : Int) < (len : Int)
  · obtain ⟨g, off, rfl, hg, hx⟩ := hcode (by omega)
    obtain ⟨x, hx1, hx2⟩ := hx k (by omega)
    have hk0 : (0 : Int) ≤ (k : Int) := by omega
    have hr : ∃ r : Nat, ((x : Int) % n) = (r : Int) ∧ (r : Int) < n := ⟨((x : Int) % n).toNat, by have := Int.emod_nonneg (x : Int) (show n ≠ 0 by omega); omega, by have := Int.emod_lt_of_pos (x : Int) hn1; have := Int.emod_nonneg (x : Int) (show n ≠ 0 by omega); omega⟩
    obtain ⟨r, hr1, hr2⟩ := hr
    have HR := hid hr1
    clear hblk hcode hx hr1
    go_enter Tryz.func54, Tryz.ntmps54
    go_wp2_with (go_quiet (fail))
    go_ret
    refine ⟨r, end_int HR.out, Or.inl hr2, k + 1, Nat.le_refl _, ?_, grown_set (grown_drewN (grown_refl _ _) _) _ _⟩
    exact cur_new HB.out hlen hBp HC.out ((heap_setCell_same _ p 1 _ _ _ (show (World.drewN w _).heap[p]? = _ from HB.out)).trans rfl) hseed (grown_set (grown_drewN (grown_refl _ _) _) _ _)
  · have hs1 : ((seed : Int) * 1103 + 12345) % 65521 = (((seed * 1103 + 12345) % 65521 : Nat) : Int) := by omega
    obtain ⟨sd, hsd⟩ : ∃ sd, (seed * 1103 + 12345) % 65521 = sd := ⟨_, rfl⟩
    have hsdl : sd < 65521 := by omega
    rw [hsd] at hs1
    by_cases hz : (0 : Int) < (len : Int)
    · obtain ⟨g, off, rfl, hg, hx⟩ := hcode (by omega)
      have hm1 : (k : Int) % (len : Int) = ((k % len : Nat) : Int) := by omega
      have hm2 : k % len < len := Nat.mod_lt _ (by omega)
      obtain ⟨m, hm⟩ : ∃ m, k % len = m := ⟨_, rfl⟩
      rw [hm] at hm1 hm2
      obtain ⟨x, hx1, hx2⟩ := hx m hm2
      have hm3 : (0 : Int) ≤ (m : Int) := by omega
      have hm4 : (m : Int) < (len : Int) := by omega
      have hd7 : (sd : Int) / 7 = ((sd / 7 : Nat) : Int) := by omega
      obtain ⟨y, hy⟩ : ∃ y, sd / 7 = y := ⟨_, rfl⟩
      rw [hy] at hd7
      have hyl : y < 65521 := by omega
      have hr : ∃ r : Nat, (((y : Int) + (x : Int)) % n) = (r : Int) ∧ (r : Int) < n := ⟨(((y : Int) + (x : Int)) % n).toNat, by have := Int.emod_nonneg ((y : Int) + (x : Int)) (show n ≠ 0 by omega); omega, by have := Int.emod_lt_of_pos ((y : Int) + (x : Int)) hn1; have := Int.emod_nonneg ((y : Int) + (x : Int)) (show n ≠ 0 by omega); omega⟩
      obtain ⟨r, hr1, hr2⟩ := hr
      have HR := hid hr1
      have hgp : g ≠ p := by omega
      have hgp' : p ≠ g := by omega
      have hlz : (len : Int) ≠ 0 := by omega
      have hlz2 : ((len : Int) == 0) = false := by rw [beq_eq_false_iff_ne]; exact hlz
      clear hblk hcode hx hr1 hsd hm hy
      go_enter Tryz.func54, Tryz.ntmps54
      go_wp2_with (go_quiet (fail))
      go_ret
      refine ⟨r, end_int HR.out, Or.inl hr2, k + 1, Nat.le_refl _, ?_, by repeat' (first | exact grown_refl _ _ | refine grown_set ?_ _ _ | refine grown_drewN ?_ _)⟩
      refine cur_new (seed' := sd) HB.out hlen hBp HC.out ((heap_setCell_same _ p 1 _ _ _ (((heap_setCell_same _ p 2 _ _ _ (show (World.drewN w _).heap[p]? = _ from HB.out)).trans rfl : _ = some (Obj.cells #[.slice (some ⟨g, off, none⟩) len cap, .int .i64 (k : Int), .int .i64 (sd : Int)] 105 (0, 0))))).trans rfl) hsdl ?_
      repeat' (first | exact grown_refl _ _ | refine grown_set ?_ _ _ | refine grown_drewN ?_ _)
    · have hz0 : len = 0 := by omega
      subst hz0
      clear hblk hcode
      go_enter Tryz.func54, Tryz.ntmps54
      go_wp2_with (go_quiet (fail))
      go_ret
      refine ⟨0, end_int (by simp), Or.inr rfl, k + 1, Nat.le_refl _, ?_, by repeat' (first | exact grown_refl _ _ | refine grown_set ?_ _ _ | refine grown_drewN ?_ _)⟩
      refine cur_new (seed' := sd) HB.out hlen hBp HC.out ((heap_setCell_same _ p 1 _ _ _ (((heap_setCell_same _ p 2 _ _ _ (show (World.drewN w _).heap[p]? = _ from HB.out)).trans rfl : _ = some (Obj.cells #[.slice a 0 cap, .int .i64 (k : Int), .int .i64 (sd : Int)] 105 (0, 0))))).trans rfl) hsdl ?_
      repeat' (first | exact grown_refl _ _ | refine grown_set ?_ _ _ | refine grown_drewN ?_ _)

theorem wpAnyH_weaken {P : Program} {ops : Array Oper} {Q : Exit → Act → World → Prop} {md : Region.Mode} {S S' : World → Prop} (h : ∀ w, S' w → S w) : ∀ {fuel : Nat} {listed : Array Bool} {a : Act} {w : World}, wpAnyH P md ops Q S' fuel listed a w → wpAnyH P md ops Q S fuel listed a w
  | 0, _, _, _, h1 => h1
  | _ + 1, _, _, _, h1 => ⟨h1.1, fun i hi => wpOp_mono (fun a' w' h' => ⟨h _ h'.1, wpAnyH_weaken h h'.2⟩) (h1.2 i hi)⟩
theorem Cur.drew {B : Nat} {w : World} {p k : Nat} (h : Cur B w p k) : Cur B w.drew p k := h.keep rfl ⟨rfl, rfl, rfl, Nat.le_refl _, fun _ _ => rfl⟩
theorem Cur.drewN {B : Nat} {w : World} {p k : Nat} (h : Cur B w p k) (q : Nat) : Cur B (w.drewN q) p k := h.keep rfl ⟨rfl, rfl, rfl, Nat.le_refl _, fun _ _ => rfl⟩
theorem Cur.alloc {B : Nat} {w : World} {p k : Nat} (h : Cur B w p k) (o : Obj) : Cur B (w.alloc o) p k := h.later (ext_alloc _ _)

theorem curOnce {B p k : Nat} (n : Int) (w : World) (hc : Cur B w p k) (hk : k ≤ 1000000000000) (h0 : 0 ≤ n) (hn : n ≤ 9223372036854775807) :
    Calls Tryz.prog 52 #[.pointer (some ⟨p, 0, none⟩), .int .i64 n] w fun e w' => ∃ b : Bool, e = .returned (.bool b) ∧ ∃ k', k' ≤ k + 1 ∧ Cur B w' p k' ∧ w.grownBy w' (some p) := by
  go_enter Tryz.func52, Tryz.ntmps52
  go_wp2_with fail
  refine (curPick n _ hc hk hn).mono ?_
  rintro e w1 ⟨r, rfl, hr, k1, hk1, hc1, hg1⟩
  go_wp2
  go_ret
  exact ⟨_, rfl, k1, hk1, hc1, hg1⟩
set_option maxHeartbeats 1000000 in
theorem curSize {B p k : Nat} (n : Int) (w : World) (hc : Cur B w p k) (hk : k ≤ 1000000000000) (h0 : 0 ≤ n) (hn : n ≤ 1000000) :
    Calls Tryz.prog 84 #[.pointer (some ⟨p, 0, none⟩), .int .i64 n] w fun e w' => ∃ r : Nat, e = .returned (.int .i64 (r : Int)) ∧ (r : Int) ≤ n ∧ ∃ k', k' ≤ k + 1 ∧ Cur B w' p k' ∧ w.grownBy w' (some p) := by
  have hc' := hc
  obtain ⟨a, len, cap, seed, hblk, hseed, hlen, hBp, hcode⟩ := hc'
  have c0 : w.cell? ⟨p, 0, none⟩ = some (.slice a len cap) := cell_of_row w p 0 _ _ _ hblk
  obtain ⟨d, hd⟩ : ∃ d, len / 10 = d := ⟨_, rfl⟩
  have hd1 : (len : Int) / 10 = (d : Int) := by omega
  have hd2 : d ≤ 1048576 := by omega
  clear hblk hcode hd
  by_cases hgt : n < 1 + (d : Int)
  · go_enter Tryz.func84, Tryz.ntmps84
    go_wp2_with fail
    refine (curPick _ _ hc hk (by omega)).mono ?_
    rintro e w1 ⟨r, rfl, hr, k1, hk1, hc1, hg1⟩
    go_wp2
    go_ret
    exact ⟨r, rfl, by omega, k1, hk1, hc1, hg1⟩
  · go_enter Tryz.func84, Tryz.ntmps84
    go_wp2_with fail
    refine (curPick _ _ hc hk (by omega)).mono ?_
    rintro e w1 ⟨r, rfl, hr, k1, hk1, hc1, hg1⟩
    go_wp2
    go_ret
    exact ⟨r, rfl, by omega, k1, hk1, hc1, hg1⟩
set_option maxRecDepth 100000 in
theorem curOpen {a : Option Addr} {n cap : Nat} (w : World) (hn : n ≤ 1048576) (hcode : 0 < n → ∃ g off, a = some ⟨g, off, none⟩ ∧ g < w.heap.size ∧ ∀ i, i < n → ∃ x : Nat, x < 256 ∧ w.cell? ⟨g, off + i, none⟩ = some (.int .u8 (x : Int))) :
    Calls Tryz.prog 37 #[.slice a n cap] w fun e w' => e = .returned (.pointer (some ⟨w.heap.size, 0, none⟩)) ∧ Cur w.heap.size w' w.heap.size 0 ∧ Below w.heap.size w w' := by
  have hm : (n : Int) % 1000 = ((n % 1000 : Nat) : Int) := by omega
  obtain ⟨m, hm2⟩ : ∃ m, n % 1000 = m := ⟨_, rfl⟩
  have hm3 : m < 1000 := by omega
  rw [hm2] at hm
  have HC := hid hcode
  clear hcode hm2
  go_enter Tryz.func37, Tryz.ntmps37
  go_wp2
  go_ret
  refine ⟨rfl, ⟨a, n, cap, 17 + m, (heap_alloc_new w _).trans (by rw [show ((17 + m : Nat) : Int) = 17 + (m : Int) by omega]; rfl), by omega, hn, Nat.le_refl _, fun h0 => ?_⟩, ext_alloc _ _⟩
  obtain ⟨g, off, e, hg, hx⟩ := HC.out h0
  exact ⟨g, off, e, hg, fun i hi => let ⟨x, hx1, hx2⟩ := hx i hi; ⟨x, hx1, ((bcell (ext_alloc w _)).1 g _ hg).trans hx2⟩⟩
end Go.Proofs.YtomcoilmpkpoeaaGreatDoor

namespace Go.Proofs.YtomcoilmpkpoeaaGreatDoor
open Go.RowKit
set_option linter.unusedVariables false
set_option linter.unusedSimpArgs false

def strUpTo (m : Nat) : Value → Bool
  | .string s => decide (s.size ≤ m)
  | _ => false
theorem lit_str {w : World} {g r m : Nat} {cs : Array Value} {e : TypeId} {fr : Nat × Nat} (hg : w.heap[g]? = some (.cells cs e fr)) (ha : cs.toList.all (strUpTo m) = true) (hr : r < cs.size) : ∃ t : ByteArray, t.size ≤ m ∧ w.cell? ⟨g, r, none⟩ = some (.string t) := by
  have h1 : w.cell? ⟨g, r, none⟩ = cs[r]? := cell_of_row w g r cs e fr hg
  have h2 : cs[r]? = some cs[r] := Array.getElem?_eq_getElem hr
  have h3 := List.all_eq_true.1 ha cs[r] (by simp)
  cases hv : cs[r] with
  | string s =>
    rw [hv] at h2 h3
    exact ⟨s, of_decide_eq_true h3, h1.trans h2⟩
  | _ => rw [hv] at h3; cases h3
def isU8 : Value → Bool
  | .int .u8 x => decide (0 ≤ x ∧ x < 256)
  | _ => false
theorem lit_u8 {w : World} {g r : Nat} {cs : Array Value} {e : TypeId} {fr : Nat × Nat} (hg : w.heap[g]? = some (.cells cs e fr)) (ha : cs.toList.all isU8 = true) (hr : r < cs.size) : ∃ x : Nat, x < 256 ∧ w.cell? ⟨g, r, none⟩ = some (.int .u8 (x : Int)) := by
  have h1 : w.cell? ⟨g, r, none⟩ = cs[r]? := cell_of_row w g r cs e fr hg
  have h2 : cs[r]? = some cs[r] := Array.getElem?_eq_getElem hr
  have h3 := List.all_eq_true.1 ha cs[r] (by simp)
  cases hv : cs[r] with
  | int k x =>
    rw [hv] at h2 h3
    cases k <;> first | (cases h3; done) | skip
    have h4 : 0 ≤ x ∧ x < 256 := of_decide_eq_true h3
    exact ⟨x.toNat, by omega, by rw [h1, h2, Int.toNat_of_nonneg h4.1]⟩
  | _ => rw [hv] at h3; cases h3

theorem lit_str' {w w' : World} {cs : Array Value} {e : TypeId} {r m p : Nat} (hg : (w.alloc (.cells cs e)).grownBy w' (some p)) (hp : p < w.heap.size) (ha : cs.toList.all (strUpTo m) = true) (hr : r < cs.size) : ∃ t : ByteArray, t.size ≤ m ∧ w'.cell? ⟨w.heap.size, r, none⟩ = some (.string t) := by
  obtain ⟨t, h1, h2⟩ := lit_str (heap_alloc_new w (.cells cs e)) ha hr
  exact ⟨t, h1, hg.cell h2 (fun e => absurd (Option.some.inj e) (Nat.ne_of_gt hp))⟩
theorem lit_u8' {w w' : World} {cs : Array Value} {e : TypeId} {r p : Nat} (hg : (w.alloc (.cells cs e)).grownBy w' (some p)) (hp : p < w.heap.size) (ha : cs.toList.all isU8 = true) (hr : r < cs.size) : ∃ x : Nat, x < 256 ∧ w'.cell? ⟨w.heap.size, r, none⟩ = some (.int .u8 (x : Int)) := by
  obtain ⟨t, h1, h2⟩ := lit_u8 (heap_alloc_new w (.cells cs e)) ha hr
  exact ⟨t, h1, hg.cell h2 (fun e => absurd (Option.some.inj e) (Nat.ne_of_gt hp))⟩


end Go.Proofs.YtomcoilmpkpoeaaGreatDoor

namespace Go.Proofs.YtomcoilmpkpoeaaGreatDoor
open Go.RowKit
set_option linter.unusedVariables false
set_option linter.unusedSimpArgs false

theorem opens_33 : Opens Tryz.prog 33 (List UInt8) := opens_slice Tryz.underlying33 (by kernel_rfl) (opens_byte Tryz.underlying5)
theorem rdBytes {S : Nat → Prop} {w : World} {v : Value} {c : List UInt8} (h : Rd.rd S w [v] c) :
    ∃ a cap, v = .slice a c.length cap ∧ c.length ≤ cap ∧ cap ≤ 9223372036854775807 ∧ (0 < c.length → ∃ g off, a = some ⟨g, off, none⟩ ∧ S g ∧ ∀ i, i < c.length → ∃ x : Nat, x < 256 ∧ w.cell? ⟨g, off + i, none⟩ = some (.int .u8 (x : Int))) := by
  obtain ⟨a, cap, hv, h1, h2, h3⟩ := h
  refine ⟨a, cap, by simpa using hv, h1, h2, fun h => ?_⟩
  obtain ⟨g, off, ha, hb, hr⟩ := h3 h
  refine ⟨g, off, ha, hb, fun i hi => ?_⟩
  obtain ⟨cs, h4, rfl⟩ := hr i hi
  have := h4 0 Nat.one_pos
  simp only [Rd.n, Nat.mul_one, Nat.add_zero] at this
  exact ⟨(c[i]).toNat, (c[i]).toNat_lt, this⟩
/-- the world behind a draw: nothing old has changed -/
theorem drawn_below {w w1 w2 : World} (hb : Below w.heap.size w w1) (hg : w1.grownBy w2 (some w.heap.size)) : Below w.heap.size w w2 :=
  hb.grown hg hb.size (fun q hq => by cases hq; exact Nat.le_refl _)
theorem lawBig {S : Nat → Prop} {v : Value} {c : List UInt8} (w : World) (h : Rd.rd S w [v] c) :
    Calls Tryz.prog 11 #[v] w fun e w' => e = .returned (.bool (decide (1048576 < (c.length : Int)))) ∧ w = w' := by
  obtain ⟨a, cap, rfl, h1, h2, hc⟩ := rdBytes h
  clear hc h
  by_cases hb : 1048576 < (c.length : Int)
  · have HB := hid (decide_eq_true hb)
    go_enter Tryz.func11, Tryz.ntmps11
    go_wp2
    go_ret
    exact ⟨end_bool HB.out.symm, rfl⟩
  · have HB := hid (decide_eq_false hb)
    go_enter Tryz.func11, Tryz.ntmps11
    go_wp2
    go_ret
    exact ⟨end_bool HB.out.symm, rfl⟩
def isI64 : Value → Bool
  | .int .i64 x => decide (-9223372036854775808 ≤ x ∧ x ≤ 9223372036854775807)
  | _ => false
theorem lit_int' {w w' : World} {cs : Array Value} {e : TypeId} {r p : Nat} (hg : (w.alloc (.cells cs e)).grownBy w' (some p)) (hp : p < w.heap.size) (ha : cs.toList.all isI64 = true) (hr : r < cs.size) : ∃ t : Int, (-9223372036854775808 ≤ t ∧ t ≤ 9223372036854775807) ∧ w'.cell? ⟨w.heap.size, r, none⟩ = some (.int .i64 t) := by
  have h1 : (w.alloc (.cells cs e)).cell? ⟨w.heap.size, r, none⟩ = cs[r]? := cell_of_row _ _ r cs e _ (heap_alloc_new w _)
  have h2 : cs[r]? = some cs[r] := Array.getElem?_eq_getElem hr
  have h3 := List.all_eq_true.1 ha cs[r] (by simp)
  cases hv : cs[r] with
  | int k x =>
    rw [hv] at h2 h3
    cases k <;> first | (cases h3; done) | skip
    exact ⟨x, of_decide_eq_true h3, hg.cell (h1.trans h2) (fun e => absurd (Option.some.inj e) (Nat.ne_of_gt hp))⟩
  | _ => rw [hv] at h3; cases h3
set_option maxHeartbeats 4000000 in
set_option maxRecDepth 100000 in
theorem curRaw {B p k : Nat} (w : World) (hc : Cur B w p k) (hk : k ≤ 900000000000) :
    Calls Tryz.prog 53 #[.pointer (some ⟨p, 0, none⟩)] w fun e w' => ∃ r : Int, e = .returned (.int .i64 r) ∧ (-9223372036854775808 ≤ r ∧ r ≤ 9223372036854775807) ∧ ∃ k', k' ≤ k + 2 ∧ Cur B w' p k' ∧ w.grownBy w' (some p) := by
  have hlt := hc.lt
  go_enter Tryz.func53, Tryz.ntmps53
  go_wp2_with fail
  refine (curPick 8 _ hc (by omega) (by omega)).mono ?_
  rintro e w1 ⟨m, rfl, hm, k1, hk1, hc1, hg1⟩
  by_cases m0 : m = 0
  · have f0 : ((m : Int) == 0) = true := by simp [m0]
    clear m0
    go_wp2_with fail
    refine (curPick 256 _ hc1 (by omega) (by omega)).mono ?_
    rintro e w2 ⟨x, rfl, hx, k2, hk2, hc2, hg2⟩
    have hx1 : (x : Int) ≤ 255 := by omega
    have hw1 : IntKind.i64.wrap ((x : Int) - 128) = (x : Int) - 128 := IntWalk.i64_in _ (by omega)
    clear hx
    go_wp2
    go_ret
    exact ⟨(x : Int) - 128, rfl, by omega, k2, by omega, hc2, grown_trans hg1 hg2⟩
  have f0 : ((m : Int) == 0) = false := by rw [beq_eq_false_iff_ne]; omega
  by_cases m1 : m = 1
  · have f1 : ((m : Int) == 1) = true := by simp [m1]
    clear m0 m1
    go_wp2_with fail
    refine (curPick 8 _ (hc1.alloc _) (by omega) (by omega)).mono ?_
    rintro e w2 ⟨x, rfl, hx, k2, hk2, hc2, hg2⟩
    have hx1 : (x : Int) < 8 := by omega
    have hx0 : (0 : Int) ≤ (x : Int) := by omega
    have hlt1 := hc1.lt
    obtain ⟨t, ht, htc⟩ := lit_int' (r := x) hg2 hlt1.2 (by decide) (by show x < 8; omega)
    clear hx
    go_wp2
    go_ret
    exact ⟨t, rfl, ht, k2, by omega, hc2, grown_trans (grown_alloc hg1 _) hg2⟩
  have f1 : ((m : Int) == 1) = false := by rw [beq_eq_false_iff_ne]; omega
  clear m0 m1
  go_wp2_with fail
  refine (curPick 14 _ hc1 (by omega) (by omega)).mono ?_
  rintro e w2 ⟨x, rfl, hx, k2, hk2, hc2, hg2⟩
  have hx1 : (x : Int) ≤ 13 := by omega
  have hw1 : IntKind.i64.wrap ((x : Int) - 3) = (x : Int) - 3 := IntWalk.i64_in _ (by omega)
  clear hx
  go_wp2
  go_ret
  exact ⟨(x : Int) - 3, rfl, by omega, k2, by omega, hc2, grown_trans hg1 hg2⟩
end Go.Proofs.YtomcoilmpkpoeaaGreatDoor

namespace Go.Proofs.YtomcoilmpkpoeaaGreatDoor
open Go.Lib

/-- The code point at the head of a text and its width; (0, 0) of none. -/
def next (l : List UInt8) : Nat × Nat := if decodeL l = (65533, 1) ∨ (decodeL l).1 = 0 then (0, 0) else decodeL l

def runesGo : Nat → List UInt8 → Option (List Nat)
  | 0, l => if l = [] then some [] else none
  | n + 1, l => if l = [] then some [] else if (next l).2 = 0 then none else (runesGo n (l.drop (next l).2)).map ((next l).1 :: ·)
def runesAll (l : List UInt8) : Option (List Nat) := runesGo l.length l
def runes? (l : List UInt8) : Option (List Nat) := if l.length ≤ 1000 then runesAll l else none
def textOk (l : List UInt8) : Bool := (runes? l).isSome

theorem decodeL_pos (l : List UInt8) : 1 ≤ (decodeL l).2 := by
  rw [decodeL_N]
  rcases decodeN_shape l.length (l.getD 0 0).toNat (l.getD 1 0).toNat (l.getD 2 0).toNat (l.getD 3 0).toNat with ⟨_, e⟩ | ⟨_, _, _, _, e⟩ | ⟨_, _, _, _, _, _, e⟩ | ⟨_, _, _, _, _, _, _, e⟩ | e
  all_goals (rw [e]; dsimp only; omega)
/-- the four shapes of a code point, or none -/
theorem next_shape (l : List UInt8) :
    ((l.getD 0 0).toNat < 128 ∧ (l.getD 0 0).toNat ≠ 0 ∧ next l = ((l.getD 0 0).toNat, 1)) ∨
    (∃ c, next l = (c, 2) ∧ 128 ≤ c ∧ c < 2048 ∧ 1 < l.length ∧ (l.getD 0 0).toNat = 192 + c / 64 ∧ (l.getD 1 0).toNat = 128 + c % 64) ∨
    (∃ c, next l = (c, 3) ∧ 2048 ≤ c ∧ c < 65536 ∧ (c < 55296 ∨ 57344 ≤ c) ∧ 2 < l.length ∧ (l.getD 0 0).toNat = 224 + c / 4096 ∧ (l.getD 1 0).toNat = 128 + c / 64 % 64 ∧ (l.getD 2 0).toNat = 128 + c % 64) ∨
    (∃ c, next l = (c, 4) ∧ 65536 ≤ c ∧ c ≤ 1114111 ∧ 3 < l.length ∧ (l.getD 0 0).toNat = 240 + c / 262144 ∧ (l.getD 1 0).toNat = 128 + c / 4096 % 64 ∧ (l.getD 2 0).toNat = 128 + c / 64 % 64 ∧ (l.getD 3 0).toNat = 128 + c % 64) ∨
    next l = (0, 0) := by
  have h0 : (l.getD 0 0).toNat < 256 := (l.getD 0 0).toNat_lt
  have h1 : (l.getD 1 0).toNat < 256 := (l.getD 1 0).toNat_lt
  have h2 : (l.getD 2 0).toNat < 256 := (l.getD 2 0).toNat_lt
  have h3 : (l.getD 3 0).toNat < 256 := (l.getD 3 0).toNat_lt
  unfold next
  rw [decodeL_N]
  rcases decodeN_shape l.length (l.getD 0 0).toNat (l.getD 1 0).toNat (l.getD 2 0).toNat (l.getD 3 0).toNat with ⟨_, e⟩ | ⟨_, _, _, _, e⟩ | ⟨_, _, _, _, _, _, e⟩ | ⟨_, _, _, _, _, _, _, e⟩ | e
  · rw [e]
    by_cases hz : (l.getD 0 0).toNat = 0
    · right; right; right; right
      rw [hz]
      simp
    · left
      refine ⟨by omega, hz, ?_⟩
      rw [if_neg]
      simp only [Prod.mk.injEq, not_or]
      omega
  · rw [e]
    right; left
    refine ⟨_, if_neg ?_, by omega, by omega, by omega, by omega, by omega⟩
    simp only [Prod.mk.injEq, not_or]
    omega
  · rw [e]
    right; right; left
    refine ⟨_, if_neg ?_, by omega, by omega, by omega, by omega, by omega, by omega, by omega⟩
    simp only [Prod.mk.injEq, not_or]
    omega
  · rw [e]
    right; right; right; left
    refine ⟨_, if_neg ?_, by omega, by omega, by omega, by omega, by omega, by omega, by omega⟩
    simp only [Prod.mk.injEq, not_or]
    omega
  · rw [e]
    right; right; right; right
    simp
theorem next_nil : next [] = (0, 0) := by decide
theorem next_le (l : List UInt8) : (next l).2 ≤ l.length := by
  cases l with
  | nil => rw [next_nil]; exact Nat.le_refl _
  | cons a r =>
    rcases next_shape (a :: r) with ⟨_, _, e⟩ | ⟨c, e, _, _, h, _⟩ | ⟨c, e, _, _, _, h, _⟩ | ⟨c, e, _, _, h, _⟩ | e
    all_goals (rw [e]; simp at *; try omega)
/-- a code point -/
def isPt (c : Nat) : Prop := 1 ≤ c ∧ c ≤ 1114111 ∧ (c < 55296 ∨ 57344 ≤ c)
theorem next_pt {l : List UInt8} (h : (next l).2 ≠ 0) : isPt (next l).1 := by
  unfold isPt
  rcases next_shape l with ⟨_, _, e⟩ | ⟨c, e, _⟩ | ⟨c, e, _⟩ | ⟨c, e, _⟩ | e
  all_goals (rw [e] at h ⊢; dsimp only at h ⊢; omega)
theorem runesGo_fuel : ∀ (n m : Nat) (l : List UInt8), l.length ≤ n → l.length ≤ m → runesGo n l = runesGo m l
  | 0, m, l, hn, _ => by
    have : l = [] := List.eq_nil_of_length_eq_zero (by omega)
    subst this
    cases m <;> simp [runesGo]
  | n + 1, m, l, hn, hm => by
    cases m with
    | zero =>
      have : l = [] := List.eq_nil_of_length_eq_zero (by omega)
      subst this
      simp [runesGo]
    | succ m =>
      simp only [runesGo]
      by_cases hl : l = []
      · rw [if_pos hl, if_pos hl]
      · rw [if_neg hl, if_neg hl]
        by_cases hz : (next l).2 = 0
        · rw [if_pos hz, if_pos hz]
        · rw [if_neg hz, if_neg hz, runesGo_fuel n m (l.drop (next l).2) (by rw [List.length_drop]; omega) (by rw [List.length_drop]; omega)]
theorem runesAll_nil : runesAll [] = some [] := by simp [runesAll, runesGo]
theorem runesAll_step {l : List UInt8} (hl : l ≠ []) (hz : (next l).2 ≠ 0) : runesAll l = (runesAll (l.drop (next l).2)).map ((next l).1 :: ·) := by
  have hp := List.length_pos_iff.2 hl
  unfold runesAll
  obtain ⟨n, hn⟩ : ∃ n, l.length = n + 1 := ⟨l.length - 1, by omega⟩
  rw [hn]
  simp only [runesGo]
  rw [if_neg hl, if_neg hz, runesGo_fuel n (l.drop (next l).2).length _ (by rw [List.length_drop]; omega) (Nat.le_refl _)]
theorem runesAll_bad {l : List UInt8} (hl : l ≠ []) (hz : (next l).2 = 0) : runesAll l = none := by
  have hp := List.length_pos_iff.2 hl
  unfold runesAll
  obtain ⟨n, hn⟩ : ∃ n, l.length = n + 1 := ⟨l.length - 1, by omega⟩
  rw [hn]
  simp only [runesGo]
  rw [if_neg hl, if_pos hz]
theorem runesAll_len : ∀ (n : Nat) (l : List UInt8) (rs : List Nat), l.length = n → runesAll l = some rs → rs.length ≤ l.length ∧ (∀ c ∈ rs, isPt c) ∧ (l ≠ [] → rs ≠ []) := by
  intro n
  induction n using Nat.strongRecOn with
  | _ n ih =>
    intro l rs hn h
    by_cases hl : l = []
    · subst hl
      rw [runesAll_nil] at h
      cases h
      simp
    · by_cases hz : (next l).2 = 0
      · rw [runesAll_bad hl hz] at h; cases h
      · rw [runesAll_step hl hz] at h
        obtain ⟨r, hr, rfl⟩ := Option.map_eq_some_iff.1 h
        have hp := List.length_pos_iff.2 hl
        have hd : (l.drop (next l).2).length = l.length - (next l).2 := List.length_drop
        obtain ⟨h1, h2, _⟩ := ih _ (by omega) _ r rfl hr
        refine ⟨by simp; omega, ?_, fun _ => by simp⟩
        intro c hc
        rcases List.mem_cons.1 hc with rfl | hc
        · exact next_pt hz
        · exact h2 c hc

/-! ### The model's decoder: 'ValidString, and no byte 0' is 'runesAll' -/
theorem next_of_decode {l : List UInt8} (h1 : decodeL l ≠ (65533, 1)) (h2 : (decodeL l).1 ≠ 0) : next l = decodeL l := if_neg (by simp [h1, h2])
theorem decode_zero {l : List UInt8} (hl : l ≠ []) (h : (decodeL l).1 = 0) : l.head? = some 0 := by
  cases l with
  | nil => exact absurd rfl hl
  | cons a r =>
    rw [decodeL_N] at h
    rcases decodeN_shape (a :: r).length ((a :: r).getD 0 0).toNat ((a :: r).getD 1 0).toNat ((a :: r).getD 2 0).toNat ((a :: r).getD 3 0).toNat with ⟨_, e⟩ | ⟨_, _, _, _, e⟩ | ⟨_, _, _, _, _, _, e⟩ | ⟨_, _, _, _, _, _, _, e⟩ | e
    · rw [e] at h
      simp only [List.getD_cons_zero] at h
      have : a = 0 := UInt8.toNat_inj.1 (by simpa using h)
      simp [this]
    all_goals (rw [e] at h; dsimp only at h; omega)
theorem validGo_runes : ∀ (n : Nat) (l : List UInt8), l.length ≤ n → (validGoD n l = true ∧ (0 : UInt8) ∉ l ↔ (runesGo n l).isSome = true)
  | 0, l, hn => by
    have : l = [] := List.eq_nil_of_length_eq_zero (by omega)
    subst this
    simp [validGoD, runesGo]
  | n + 1, l, hn => by
    by_cases hl : l = []
    · subst hl; simp [validGoD, runesGo]
    · simp only [validGoD, runesGo, if_neg hl]
      by_cases h1 : decodeL l = (65533, 1)
      · have e : next l = (0, 0) := if_pos (Or.inl h1)
        rw [if_pos (by rw [h1]; exact ⟨rfl, rfl⟩), e]
        simp
      · have hne : ¬ ((decodeL l).1 = 65533 ∧ (decodeL l).2 = 1) := fun h => h1 (Prod.ext h.1 h.2)
        rw [if_neg hne]
        by_cases h2 : (decodeL l).1 = 0
        · have e : next l = (0, 0) := if_pos (Or.inr h2)
          have hz := decode_zero hl h2
          rw [e]
          constructor
          · rintro ⟨_, h⟩
            cases l with
            | nil => exact absurd rfl hl
            | cons a r => simp at hz; subst hz; simp at h
          · intro h; simp at h
        · have e := next_of_decode h1 h2
          have hp := decodeL_pos l
          have hle := decodeL_le l hl
          have ih := validGo_runes n (l.drop (decodeL l).2) (by rw [List.length_drop]; omega)
          rw [e, if_neg (by omega), Option.isSome_map, ← ih]
          have key : (0 : UInt8) ∉ l ↔ (0 : UInt8) ∉ l.drop (decodeL l).2 := by
            constructor
            · exact fun h h' => h (List.mem_of_mem_drop h')
            · intro h h'
              rw [← List.take_append_drop (decodeL l).2 l, List.mem_append] at h'
              rcases h' with h' | h'
              · have g0 : (l.getD 0 0).toNat ≠ 0 ∧ ∀ i, i < (decodeL l).2 → (l.getD i 0).toNat ≠ 0 := by
                  have hs := next_shape l
                  rw [e] at hs
                  rcases hs with ⟨ha, hb, he⟩ | ⟨c, he, hc⟩ | ⟨c, he, hc⟩ | ⟨c, he, hc⟩ | he
                  · refine ⟨hb, fun i hi => ?_⟩
                    rw [he] at hi
                    obtain rfl : i = 0 := by simp at hi; exact hi
                    exact hb
                  · refine ⟨by omega, fun i hi => ?_⟩
                    rw [he] at hi
                    have : i = 0 ∨ i = 1 := by simp at hi; omega
                    rcases this with rfl | rfl <;> omega
                  · refine ⟨by omega, fun i hi => ?_⟩
                    rw [he] at hi
                    have : i = 0 ∨ i = 1 ∨ i = 2 := by simp at hi; omega
                    rcases this with rfl | rfl | rfl <;> omega
                  · refine ⟨by omega, fun i hi => ?_⟩
                    rw [he] at hi
                    have : i = 0 ∨ i = 1 ∨ i = 2 ∨ i = 3 := by simp at hi; omega
                    rcases this with rfl | rfl | rfl | rfl <;> omega
                  · rw [he] at hp; simp at hp
                obtain ⟨i, hi, hi'⟩ := List.mem_iff_getElem.1 h'
                rw [List.length_take] at hi
                have := g0.2 i (by omega)
                rw [List.getElem_take] at hi'
                rw [List.getD_eq_getElem?_getD, List.getElem?_eq_getElem (by omega), hi'] at this
                simp at this
              · exact h h'
          rw [key]
theorem valid_runes (l : List UInt8) : (validD l = true ∧ (0 : UInt8) ∉ l) ↔ (runesAll l).isSome = true := validGo_runes l.length l (Nat.le_refl _)

/-! ### A code point's bytes -/
def enc (c : Nat) : List UInt8 :=
  if c < 128 then [UInt8.ofNat c] else if c < 2048 then [UInt8.ofNat (192 + c / 64), UInt8.ofNat (128 + c % 64)]
  else if c < 65536 then [UInt8.ofNat (224 + c / 4096), UInt8.ofNat (128 + c / 64 % 64), UInt8.ofNat (128 + c % 64)]
  else [UInt8.ofNat (240 + c / 262144), UInt8.ofNat (128 + c / 4096 % 64), UInt8.ofNat (128 + c / 64 % 64), UInt8.ofNat (128 + c % 64)]
def texts (rs : List Nat) : List UInt8 := rs.flatMap enc

theorem ofNat_toNat {n : Nat} (h : n < 256) : (UInt8.ofNat n).toNat = n := by
  rw [UInt8.toNat_ofNat']; omega
theorem ofNat_of {a : UInt8} {n : Nat} (h : a.toNat = n) : UInt8.ofNat n = a := by
  subst h; simp
theorem enc_length (c : Nat) : (enc c).length = if c < 128 then 1 else if c < 2048 then 2 else if c < 65536 then 3 else 4 := by
  unfold enc
  repeat' split
  all_goals rfl
theorem enc_pos (c : Nat) : 1 ≤ (enc c).length ∧ (enc c).length ≤ 4 := by
  rw [enc_length]
  repeat' split
  all_goals omega
theorem take_next {l : List UInt8} (h : (next l).2 ≠ 0) : l.take (next l).2 = enc (next l).1 ∧ (enc (next l).1).length = (next l).2 := by
  have hle := next_le l
  have tk : ∀ (n : Nat) (e : List UInt8), e.length = n → n ≤ l.length → (∀ i, i < n → e[i]? = some (l.getD i 0)) → l.take n = e := by
    intro n e he hn hi
    apply List.ext_getElem?
    intro i
    by_cases hin : i < n
    · rw [hi i hin, List.getElem?_take, if_pos hin, List.getElem?_eq_getElem (by omega)]
      simp [List.getD_eq_getElem?_getD, List.getElem?_eq_getElem (show i < l.length by omega)]
    · rw [List.getElem?_eq_none (by rw [List.length_take]; omega), List.getElem?_eq_none (by omega)]
  rcases next_shape l with ⟨h1, h2, e⟩ | ⟨c, e, h1, h2, h3, h4, h5⟩ | ⟨c, e, h1, h2, h2', h3, h4, h5, h6⟩ | ⟨c, e, h1, h2, h3, h4, h5, h6, h7⟩ | e
  · rw [e] at hle ⊢
    have he : enc (l.getD 0 0).toNat = [l.getD 0 0] := by unfold enc; rw [if_pos h1, ofNat_of rfl]
    refine ⟨?_, by dsimp only; rw [he]; rfl⟩
    dsimp only at hle ⊢
    rw [he]
    refine tk 1 _ rfl hle fun i hi => ?_
    obtain rfl : i = 0 := by omega
    rfl
  · rw [e] at hle ⊢
    have he : enc c = [l.getD 0 0, l.getD 1 0] := by unfold enc; rw [if_neg (by omega), if_pos h2, ofNat_of h4, ofNat_of h5]
    refine ⟨?_, by dsimp only; rw [he]; rfl⟩
    dsimp only at hle ⊢
    rw [he]
    refine tk 2 _ rfl hle fun i hi => ?_
    have : i = 0 ∨ i = 1 := by omega
    rcases this with rfl | rfl <;> rfl
  · rw [e] at hle ⊢
    have he : enc c = [l.getD 0 0, l.getD 1 0, l.getD 2 0] := by unfold enc; rw [if_neg (by omega), if_neg (by omega), if_pos h2, ofNat_of h4, ofNat_of h5, ofNat_of h6]
    refine ⟨?_, by dsimp only; rw [he]; rfl⟩
    dsimp only at hle ⊢
    rw [he]
    refine tk 3 _ rfl hle fun i hi => ?_
    have : i = 0 ∨ i = 1 ∨ i = 2 := by omega
    rcases this with rfl | rfl | rfl <;> rfl
  · rw [e] at hle ⊢
    have he : enc c = [l.getD 0 0, l.getD 1 0, l.getD 2 0, l.getD 3 0] := by unfold enc; rw [if_neg (by omega), if_neg (by omega), if_neg (by omega), ofNat_of h4, ofNat_of h5, ofNat_of h6, ofNat_of h7]
    refine ⟨?_, by dsimp only; rw [he]; rfl⟩
    dsimp only at hle ⊢
    rw [he]
    refine tk 4 _ rfl hle fun i hi => ?_
    have : i = 0 ∨ i = 1 ∨ i = 2 ∨ i = 3 := by omega
    rcases this with rfl | rfl | rfl | rfl <;> rfl
  · rw [e] at h; simp at h
theorem decodeN_of {n b0 b1 b2 b3 c w : Nat} (h0 : b0 < 256) (h : (b0 < 128 ∧ c = b0 ∧ w = 1) ∨ (128 ≤ c ∧ c < 2048 ∧ w = 2 ∧ 1 < n ∧ b0 = 192 + c / 64 ∧ b1 = 128 + c % 64) ∨
    (2048 ≤ c ∧ c < 65536 ∧ (c < 55296 ∨ 57344 ≤ c) ∧ w = 3 ∧ 2 < n ∧ b0 = 224 + c / 4096 ∧ b1 = 128 + c / 64 % 64 ∧ b2 = 128 + c % 64) ∨
    (65536 ≤ c ∧ c ≤ 1114111 ∧ w = 4 ∧ 3 < n ∧ b0 = 240 + c / 262144 ∧ b1 = 128 + c / 4096 % 64 ∧ b2 = 128 + c / 64 % 64 ∧ b3 = 128 + c % 64)) : decodeN n b0 b1 b2 b3 = (c, w) := by
  unfold decodeN
  rcases h with ⟨h1, rfl, rfl⟩ | ⟨h1, h2, rfl, h3, h4, h5⟩ | ⟨h1, h2, h2', rfl, h3, h4, h5, h6⟩ | ⟨h1, h2, rfl, h3, h4, h5, h6, h7⟩
  · rw [if_pos h1]
  · rw [if_neg (by omega), if_pos (by omega), if_pos (by omega)]
    congr 1; omega
  · rw [if_neg (by omega), if_neg (by omega), if_pos (by omega), if_pos (by omega)]
    congr 1; omega
  · rw [if_neg (by omega), if_neg (by omega), if_neg (by omega), if_pos (by omega), if_pos (by omega)]
    congr 1; omega
theorem next_enc {c : Nat} (hc : isPt c) (r : List UInt8) : next (enc c ++ r) = (c, (enc c).length) := by
  obtain ⟨c1, c2, c3⟩ := hc
  have hd : decodeL (enc c ++ r) = (c, (enc c).length) := by
    rw [decodeL_N]
    apply decodeN_of (UInt8.toNat_lt _)
    by_cases a1 : c < 128
    · have e : enc c = [UInt8.ofNat c] := by unfold enc; rw [if_pos a1]
      left
      rw [e]
      refine ⟨?_, ?_, rfl⟩
      · show (UInt8.ofNat c).toNat < 128
        rw [ofNat_toNat (by omega)]; exact a1
      · show c = (UInt8.ofNat c).toNat
        rw [ofNat_toNat (by omega)]
    · by_cases a2 : c < 2048
      · have e : enc c = [UInt8.ofNat (192 + c / 64), UInt8.ofNat (128 + c % 64)] := by unfold enc; rw [if_neg a1, if_pos a2]
        right; left
        rw [e]
        exact ⟨by omega, a2, rfl, by simp, ofNat_toNat (by omega), ofNat_toNat (by omega)⟩
      · by_cases a3 : c < 65536
        · have e : enc c = [UInt8.ofNat (224 + c / 4096), UInt8.ofNat (128 + c / 64 % 64), UInt8.ofNat (128 + c % 64)] := by unfold enc; rw [if_neg a1, if_neg a2, if_pos a3]
          right; right; left
          rw [e]
          exact ⟨by omega, a3, c3, rfl, by simp, ofNat_toNat (by omega), ofNat_toNat (by omega), ofNat_toNat (by omega)⟩
        · have e : enc c = [UInt8.ofNat (240 + c / 262144), UInt8.ofNat (128 + c / 4096 % 64), UInt8.ofNat (128 + c / 64 % 64), UInt8.ofNat (128 + c % 64)] := by unfold enc; rw [if_neg a1, if_neg a2, if_neg a3]
          right; right; right
          rw [e]
          exact ⟨by omega, c2, rfl, by simp, ofNat_toNat (by omega), ofNat_toNat (by omega), ofNat_toNat (by omega), ofNat_toNat (by omega)⟩
  rw [next_of_decode]
  · exact hd
  · rw [hd]
    intro h
    simp only [Prod.mk.injEq] at h
    rw [h.1] at h
    simp [enc_length] at h
  · rw [hd]; dsimp only; omega
theorem enc_ne (c : Nat) : enc c ≠ [] := by
  intro h
  have := (enc_pos c).1
  rw [h] at this
  simp at this
theorem runes_texts : ∀ (rs : List Nat), (∀ c ∈ rs, isPt c) → runesAll (texts rs) = some rs
  | [], _ => by simp [texts, runesAll_nil]
  | c :: r, h => by
    have e := next_enc (h c (by simp)) (texts r)
    have ht : texts (c :: r) = enc c ++ texts r := by simp [texts]
    rw [ht, runesAll_step (by simp [enc_ne]) (by rw [e]; have := (enc_pos c).1; dsimp only; omega), e]
    simp only [List.drop_left]
    rw [runes_texts r (fun c hc => h c (by simp [hc]))]
    rfl
theorem texts_runes : ∀ (n : Nat) (l : List UInt8) (rs : List Nat), l.length = n → runesAll l = some rs → texts rs = l := by
  intro n
  induction n using Nat.strongRecOn with
  | _ n ih =>
    intro l rs hn h
    by_cases hl : l = []
    · subst hl
      rw [runesAll_nil] at h
      cases h
      rfl
    · by_cases hz : (next l).2 = 0
      · rw [runesAll_bad hl hz] at h; cases h
      · rw [runesAll_step hl hz] at h
        obtain ⟨r, hr, rfl⟩ := Option.map_eq_some_iff.1 h
        have hp := List.length_pos_iff.2 hl
        have hd : (l.drop (next l).2).length = l.length - (next l).2 := List.length_drop
        have := ih _ (by omega) _ r rfl hr
        have ht : texts ((next l).1 :: r) = enc (next l).1 ++ texts r := by simp [texts]
        rw [ht, this, ← (take_next hz).1, List.take_append_drop]
theorem texts_append (a b : List Nat) : texts (a ++ b) = texts a ++ texts b := by simp [texts]
theorem runesAll_append : ∀ (n : Nat) (a b : List UInt8) (ra : List Nat), a.length = n → runesAll a = some ra → runesAll (a ++ b) = (runesAll b).map (ra ++ ·) := by
  intro n a b ra hn h
  clear hn
  have ha := texts_runes _ a ra rfl h
  have hp := (runesAll_len _ a ra rfl h).2.1
  subst ha
  clear h
  induction ra with
  | nil => simp [texts]
  | cons c r ih =>
    have e := next_enc (hp c (by simp)) (texts r ++ b)
    have ht : texts (c :: r) ++ b = enc c ++ (texts r ++ b) := by simp [texts]
    rw [ht, runesAll_step (by simp [enc_ne]) (by rw [e]; have := (enc_pos c).1; dsimp only; omega), e]
    simp only [List.drop_left]
    rw [ih (fun c hc => hp c (by simp [hc]))]
    cases runesAll b <;> simp

/-! ### The head of a text, reckoned byte by byte -/
instance (c : Nat) : Decidable (isPt c) := by unfold isPt; exact inferInstance
theorem next_none {l : List UInt8} (h1 : ∀ c, next l ≠ (c, 1)) (h2 : ∀ c, next l ≠ (c, 2)) (h3 : ∀ c, next l ≠ (c, 3)) (h4 : ∀ c, next l ≠ (c, 4)) : next l = (0, 0) := by
  rcases next_shape l with ⟨_, _, e⟩ | ⟨c, e, _⟩ | ⟨c, e, _⟩ | ⟨c, e, _⟩ | e
  · exact absurd e (h1 _)
  · exact absurd e (h2 _)
  · exact absurd e (h3 _)
  · exact absurd e (h4 _)
  · exact e
/-- a first byte that begins nothing -/
theorem next_lead {l : List UInt8} (h : 128 ≤ (l.getD 0 0).toNat) (h' : (l.getD 0 0).toNat < 192 ∨ 248 ≤ (l.getD 0 0).toNat) : next l = (0, 0) := by
  rcases next_shape l with ⟨_, _, e⟩ | ⟨c, e, _⟩ | ⟨c, e, _⟩ | ⟨c, e, _⟩ | e
  · omega
  · omega
  · omega
  · omega
  · exact e
/-- the text ends too early, or a byte behind the first is no continuation -/
theorem next_short {l : List UInt8} {n : Nat} (hn : (n = 2 ∧ 192 ≤ (l.getD 0 0).toNat ∧ (l.getD 0 0).toNat ≤ 223) ∨ (n = 3 ∧ 224 ≤ (l.getD 0 0).toNat ∧ (l.getD 0 0).toNat ≤ 239) ∨ (n = 4 ∧ 240 ≤ (l.getD 0 0).toNat ∧ (l.getD 0 0).toNat ≤ 247))
    (h : l.length < n ∨ ∃ j, 1 ≤ j ∧ j < n ∧ ((l.getD j 0).toNat < 128 ∨ 191 < (l.getD j 0).toNat)) : next l = (0, 0) := by
  have bad : ∀ j, j < 4 → ((l.getD j 0).toNat < 128 ∨ 191 < (l.getD j 0).toNat) → 1 ≤ j → j < n → next l = (0, 0) := by
    clear h
    intro j hj hb h1 hjn
    have hj' : j = 1 ∨ j = 2 ∨ j = 3 := by omega
    rcases next_shape l with ⟨_, _, e⟩ | ⟨c, e, _⟩ | ⟨c, e, _⟩ | ⟨c, e, _⟩ | e
    · omega
    · rcases hj' with rfl | rfl | rfl <;> omega
    · rcases hj' with rfl | rfl | rfl <;> omega
    · rcases hj' with rfl | rfl | rfl <;> omega
    · exact e
  rcases h with h | ⟨j, h1, h2, h3⟩
  · rcases next_shape l with ⟨_, _, e⟩ | ⟨c, e, _⟩ | ⟨c, e, _⟩ | ⟨c, e, _⟩ | e
    · omega
    · omega
    · omega
    · omega
    · exact e
  · exact bad j (by omega) h3 h1 h2
theorem next_whole {l : List UInt8} {n c : Nat} (hl : n ≤ l.length)
    (h : (n = 1 ∧ (l.getD 0 0).toNat < 128 ∧ c = (l.getD 0 0).toNat) ∨
      (n = 2 ∧ 192 ≤ (l.getD 0 0).toNat ∧ (l.getD 0 0).toNat ≤ 223 ∧ 128 ≤ (l.getD 1 0).toNat ∧ (l.getD 1 0).toNat ≤ 191 ∧ c = 64 * ((l.getD 0 0).toNat - 192) + ((l.getD 1 0).toNat - 128)) ∨
      (n = 3 ∧ 224 ≤ (l.getD 0 0).toNat ∧ (l.getD 0 0).toNat ≤ 239 ∧ 128 ≤ (l.getD 1 0).toNat ∧ (l.getD 1 0).toNat ≤ 191 ∧ 128 ≤ (l.getD 2 0).toNat ∧ (l.getD 2 0).toNat ≤ 191 ∧ c = 64 * (64 * ((l.getD 0 0).toNat - 224) + ((l.getD 1 0).toNat - 128)) + ((l.getD 2 0).toNat - 128)) ∨
      (n = 4 ∧ 240 ≤ (l.getD 0 0).toNat ∧ (l.getD 0 0).toNat ≤ 247 ∧ 128 ≤ (l.getD 1 0).toNat ∧ (l.getD 1 0).toNat ≤ 191 ∧ 128 ≤ (l.getD 2 0).toNat ∧ (l.getD 2 0).toNat ≤ 191 ∧ 128 ≤ (l.getD 3 0).toNat ∧ (l.getD 3 0).toNat ≤ 191 ∧
        c = 64 * (64 * (64 * ((l.getD 0 0).toNat - 240) + ((l.getD 1 0).toNat - 128)) + ((l.getD 2 0).toNat - 128)) + ((l.getD 3 0).toNat - 128))) :
    next l = if isPt c ∧ (enc c).length = n then (c, n) else (0, 0) := by
  by_cases hg : isPt c ∧ (enc c).length = n
  · rw [if_pos hg]
    obtain ⟨⟨p1, p2, p3⟩, hlen⟩ := hg
    rw [enc_length] at hlen
    rw [next_of_decode]
    · rw [decodeL_N]
      apply decodeN_of (UInt8.toNat_lt _)
      rcases h with ⟨rfl, h⟩ | ⟨rfl, h⟩ | ⟨rfl, h⟩ | ⟨rfl, h⟩
      · left; exact ⟨by omega, by omega, rfl⟩
      · right; left
        have : 128 ≤ c ∧ c < 2048 := by
          split at hlen
          · omega
          · split at hlen
            · omega
            · split at hlen <;> omega
        refine ⟨this.1, this.2, rfl, by omega, by omega, by omega⟩
      · right; right; left
        have : 2048 ≤ c ∧ c < 65536 := by
          split at hlen
          · omega
          · split at hlen
            · omega
            · split at hlen <;> omega
        refine ⟨this.1, this.2, p3, rfl, by omega, by omega, by omega, by omega⟩
      · right; right; right
        have : 65536 ≤ c := by
          split at hlen
          · omega
          · split at hlen
            · omega
            · split at hlen <;> omega
        refine ⟨this, p2, rfl, by omega, by omega, by omega, by omega, by omega⟩
    all_goals
      have hd : decodeL l = (c, n) := by
        rw [decodeL_N]
        apply decodeN_of (UInt8.toNat_lt _)
        rcases h with ⟨rfl, h⟩ | ⟨rfl, h⟩ | ⟨rfl, h⟩ | ⟨rfl, h⟩
        · left; exact ⟨by omega, by omega, rfl⟩
        · right; left
          have : 128 ≤ c ∧ c < 2048 := by
            split at hlen
            · omega
            · split at hlen
              · omega
              · split at hlen <;> omega
          refine ⟨this.1, this.2, rfl, by omega, by omega, by omega⟩
        · right; right; left
          have : 2048 ≤ c ∧ c < 65536 := by
            split at hlen
            · omega
            · split at hlen
              · omega
              · split at hlen <;> omega
          refine ⟨this.1, this.2, p3, rfl, by omega, by omega, by omega, by omega⟩
        · right; right; right
          have : 65536 ≤ c := by
            split at hlen
            · omega
            · split at hlen
              · omega
              · split at hlen <;> omega
          refine ⟨this, p2, rfl, by omega, by omega, by omega, by omega, by omega⟩
      rw [hd]
    · intro he
      simp only [Prod.mk.injEq] at he
      obtain ⟨rfl, rfl⟩ := he
      simp at hlen
    · dsimp only; omega
  · rw [if_neg hg]
    have no : ∀ c' n', next l = (c', n') → n' ≠ 0 → c' = c → n' = n → False := by
      intro c' n' e hn hc hnn
      subst hc hnn
      have h1 := next_pt (l := l) (by rw [e]; exact hn)
      have h2 := (take_next (l := l) (by rw [e]; exact hn)).2
      rw [e] at h1 h2
      exact hg ⟨h1, h2⟩
    rcases next_shape l with ⟨a1, a2, e⟩ | ⟨c', e, a⟩ | ⟨c', e, a⟩ | ⟨c', e, a⟩ | e
    · exact (no _ _ e (by omega) (by omega) (by omega)).elim
    · exact (no _ _ e (by omega) (by omega) (by omega)).elim
    · exact (no _ _ e (by omega) (by omega) (by omega)).elim
    · exact (no _ _ e (by omega) (by omega) (by omega)).elim
    · exact e

/-! ### A list of bytes as a string -/
def mkB (l : List UInt8) : ByteArray := ⟨l.toArray⟩
theorem mkB_data (l : List UInt8) : (mkB l).data.toList = l := rfl
theorem mkB_of (s : ByteArray) : mkB s.data.toList = s := by cases s; simp [mkB]
theorem mkB_append (a b : List UInt8) : mkB a ++ mkB b = mkB (a ++ b) := by
  have : (mkB a ++ mkB b).data.toList = (mkB (a ++ b)).data.toList := by simp [mkB]
  rw [← mkB_of (mkB a ++ mkB b), this, mkB_of]
theorem mkB_size (l : List UInt8) : (mkB l).size = l.length := by rw [Lib.size_eq]; rfl
end Go.Proofs.YtomcoilmpkpoeaaGreatDoor

namespace Go.Proofs.YtomcoilmpkpoeaaGreatDoor
open Go.RowKit

/-- n stands from lo to hi (a name of its own: the walk does not look into it) -/
def inB (lo n hi : Int) : Bool := decide (lo ≤ n ∧ n ≤ hi)
theorem inB_true {lo n hi : Int} (h : lo ≤ n ∧ n ≤ hi) : inB lo n hi = true := decide_eq_true h
theorem inB_false {lo n hi : Int} (h : ¬ (lo ≤ n ∧ n ≤ hi)) : inB lo n hi = false := decide_eq_false h
theorem within_any (n lo hi : Int) (w : World) :
    Calls Tryz.prog 55 #[.int .i64 n, .int .i64 lo, .int .i64 hi] w fun e w' => e = .returned (.bool (inB lo n hi)) ∧ w = w' := by
  by_cases h1 : lo ≤ n
  · by_cases h2 : n ≤ hi
    · go_enter Tryz.func55, Tryz.ntmps55
      go_wp2
      go_ret
      exact ⟨end_bool (by rw [inB_true ⟨h1, h2⟩]), rfl⟩
    · go_enter Tryz.func55, Tryz.ntmps55
      go_wp2
      go_ret
      exact ⟨end_bool (by rw [inB_false (by omega)]), rfl⟩
  · go_enter Tryz.func55, Tryz.ntmps55
    go_wp2
    go_ret
    exact ⟨end_bool (by rw [inB_false (by omega)]), rfl⟩

theorem between_any (n lo hi : Int) (w : World) :
    Calls Tryz.prog 44 #[.int .i64 n, .int .i64 lo, .int .i64 hi] w fun e w' => e = .returned (.bool (inB lo n hi)) ∧ w = w' := by
  by_cases h1 : lo ≤ n
  · by_cases h2 : n ≤ hi
    · go_enter Tryz.func44, Tryz.ntmps44
      go_wp2
      go_ret
      exact ⟨end_bool (by rw [inB_true ⟨h1, h2⟩]), rfl⟩
    · go_enter Tryz.func44, Tryz.ntmps44
      go_wp2
      go_ret
      exact ⟨end_bool (by rw [inB_false (by omega)]), rfl⟩
  · go_enter Tryz.func44, Tryz.ntmps44
    go_wp2
    go_ret
    exact ⟨end_bool (by rw [inB_false (by omega)]), rfl⟩

end Go.Proofs.YtomcoilmpkpoeaaGreatDoor

namespace Go.Proofs.YtomcoilmpkpoeaaGreatDoor
open Go.RowKit

theorem rdStrs {S : Nat → Prop} {w : World} {v : Value} {xs : List ByteArray} (h : Rd.rd S w [v] xs) :
    ∃ a cap, v = .slice a xs.length cap ∧ xs.length ≤ cap ∧ cap ≤ 9223372036854775807 ∧ (0 < xs.length → ∃ b off, a = some ⟨b, off, none⟩ ∧ S b ∧ ∀ i (hi : i < xs.length), w.cell? ⟨b, off + i, none⟩ = some (.string xs[i]) ∧ xs[i].size ≤ 9223372036854775807) := by
  obtain ⟨a, cap, hv, h1, h2, h3⟩ := h
  refine ⟨a, cap, by simpa using hv, h1, h2, fun h => ?_⟩
  obtain ⟨b, off, ha, hb, hr⟩ := h3 h
  refine ⟨b, off, ha, hb, fun i hi => ?_⟩
  obtain ⟨cs, h4, rfl, h5⟩ := hr i hi
  have := h4 0 Nat.one_pos
  simp only [Rd.n, Nat.mul_one, Nat.add_zero] at this
  exact ⟨this, h5⟩

theorem ba_toList_inj {a b : ByteArray} (h : a.toList = b.toList) : a = b := by
  rw [Lib.toList_data, Lib.toList_data] at h
  rw [← Lib.mk_data a, ← Lib.mk_data b, h]
theorem ba_ne {a b : ByteArray} (h : a ≠ b) : (a.toList == b.toList) = false := by
  simp only [beq_eq_false_iff_ne]
  exact fun e => h (ba_toList_inj e)
theorem sz_strs (xs : List ByteArray) : Sz.sz xs = xs.length + sumTo ByteArray.size xs xs.length := rfl
theorem sz_len {α : Type} [Sz α] (xs : List α) : xs.length ≤ Sz.sz xs := Nat.le_add_right _ _
theorem arr_of_list {a : Array Value} {l : List Value} (h : a.toList = l) : a = l.toArray := by
  rw [← h]

end Go.Proofs.YtomcoilmpkpoeaaGreatDoor

namespace Go.Proofs.YtomcoilmpkpoeaaGreatDoor
open Go.RowKit
set_option linter.unusedVariables false
set_option linter.unusedSimpArgs false

theorem u8_cast {n : Nat} (h : n < 256) : ((UInt8.ofNat n).toNat : Int) = (n : Int) := by rw [ofNat_toNat h]
theorem u8_val {n : Nat} {x : Int} (h : n < 256) (hx : x = (n : Int)) : Value.int .u8 x = .int .u8 ((UInt8.ofNat n).toNat : Int) := by rw [u8_cast h, hx]
def byteVals (l : List UInt8) : List Value := l.map fun b => .int .u8 (b.toNat : Int)
theorem byteVals_length (l : List UInt8) : (byteVals l).length = l.length := by simp [byteVals]
/-- a code point, as a test -/
def ptB (c : Int) : Bool := decide (1 ≤ c ∧ c ≤ 1114111) && !decide (55296 ≤ c ∧ c ≤ 57343)
theorem ptB_iff {c : Nat} : ptB (c : Int) = true ↔ isPt c := by
  unfold ptB isPt
  simp
  omega

theorem specPoint (c : Int) (w : World) : Calls Tryz.prog 71 #[.int .i64 c] w fun e w' => e = .returned (.bool (ptB c)) ∧ w = w' := by
  by_cases h1 : 1 ≤ c ∧ c ≤ 1114111
  · have b1 : inB 1 c 1114111 = true := inB_true h1
    by_cases h2 : 55296 ≤ c ∧ c ≤ 57343
    · have b2 : inB 55296 c 57343 = true := inB_true h2
      have hr := hid (show ptB c = false by unfold ptB; simp [h1, h2])
      clear h1 h2
      go_enter Tryz.func71, Tryz.ntmps71
      go_wp2_with (go_at_call 44; refine (between_any _ _ _ _).mono ?_; rintro e w1 ⟨rfl, rfl⟩)
      go_ret
      exact ⟨end_bool hr.out.symm, rfl⟩
    · have b2 : inB 55296 c 57343 = false := inB_false h2
      have hr := hid (show ptB c = true by unfold ptB; rw [decide_eq_true h1, decide_eq_false h2]; rfl)
      clear h1 h2
      go_enter Tryz.func71, Tryz.ntmps71
      go_wp2_with (go_at_call 44; refine (between_any _ _ _ _).mono ?_; rintro e w1 ⟨rfl, rfl⟩)
      go_ret
      exact ⟨end_bool hr.out.symm, rfl⟩
  · have b1 : inB 1 c 1114111 = false := inB_false h1
    have hr := hid (show ptB c = false by unfold ptB; rw [decide_eq_false h1]; rfl)
    clear h1
    go_enter Tryz.func71, Tryz.ntmps71
    go_wp2_with (go_at_call 44; refine (between_any _ _ _ _).mono ?_; rintro e w1 ⟨rfl, rfl⟩)
    go_ret
    exact ⟨end_bool hr.out.symm, rfl⟩

set_option maxHeartbeats 1000000 in
theorem specBytes (c : Nat) (h1 : 1 ≤ c) (h2 : c ≤ 1114111) (w : World) :
    Calls Tryz.prog 147 #[.int .i64 c] w fun e w' => e = .returned (.slice (some ⟨w.heap.size, 0, none⟩) (enc c).length (enc c).length) ∧ w' = w.alloc (.cells (byteVals (enc c)).toArray 5) := by
  by_cases a1 : c < 128
  · have e : enc c = [UInt8.ofNat c] := by unfold enc; rw [if_pos a1]
    have E := hid e
    have t1 : (c : Int) < 128 := by omega
    clear e
    go_enter Tryz.func147, Tryz.ntmps147
    go_wp2
    go_ret
    rw [E.out]
    refine ⟨rfl, ?_⟩
    rw [u8_val (n := c) (x := (c : Int)) (by omega) rfl]
    rfl
  · by_cases a2 : c < 2048
    · have e : enc c = [UInt8.ofNat (192 + c / 64), UInt8.ofNat (128 + c % 64)] := by unfold enc; rw [if_neg a1, if_pos a2]
      have E := hid e
      have t1 : ¬ (c : Int) < 128 := by omega
      have t2 : (c : Int) < 2048 := by omega
      clear e
      go_enter Tryz.func147, Tryz.ntmps147
      go_wp2
      go_ret
      rw [E.out]
      refine ⟨rfl, ?_⟩
      rw [u8_val (n := 192 + c / 64) (x := 192 + (c : Int) / 64) (by omega) (by omega), u8_val (n := 128 + c % 64) (x := 128 + (c : Int) % 64) (by omega) (by omega)]
      rfl
    · by_cases a3 : c < 65536
      · have e : enc c = [UInt8.ofNat (224 + c / 4096), UInt8.ofNat (128 + c / 64 % 64), UInt8.ofNat (128 + c % 64)] := by unfold enc; rw [if_neg a1, if_neg a2, if_pos a3]
        have E := hid e
        have t1 : ¬ (c : Int) < 128 := by omega
        have t2 : ¬ (c : Int) < 2048 := by omega
        have t3 : (c : Int) < 65536 := by omega
        clear e
        go_enter Tryz.func147, Tryz.ntmps147
        go_wp2
        go_ret
        rw [E.out]
        refine ⟨rfl, ?_⟩
        rw [u8_val (n := 224 + c / 4096) (x := 224 + (c : Int) / 4096) (by omega) (by omega), u8_val (n := 128 + c / 64 % 64) (x := 128 + (c : Int) / 64 % 64) (by omega) (by omega), u8_val (n := 128 + c % 64) (x := 128 + (c : Int) % 64) (by omega) (by omega)]
        rfl
      · have e : enc c = [UInt8.ofNat (240 + c / 262144), UInt8.ofNat (128 + c / 4096 % 64), UInt8.ofNat (128 + c / 64 % 64), UInt8.ofNat (128 + c % 64)] := by unfold enc; rw [if_neg a1, if_neg a2, if_neg a3]
        have E := hid e
        have t1 : ¬ (c : Int) < 128 := by omega
        have t2 : ¬ (c : Int) < 2048 := by omega
        have t3 : ¬ (c : Int) < 65536 := by omega
        clear e
        go_enter Tryz.func147, Tryz.ntmps147
        go_wp2
        go_ret
        rw [E.out]
        refine ⟨rfl, ?_⟩
        rw [u8_val (n := 240 + c / 262144) (x := 240 + (c : Int) / 262144) (by omega) (by omega), u8_val (n := 128 + c / 4096 % 64) (x := 128 + (c : Int) / 4096 % 64) (by omega) (by omega), u8_val (n := 128 + c / 64 % 64) (x := 128 + (c : Int) / 64 % 64) (by omega) (by omega), u8_val (n := 128 + c % 64) (x := 128 + (c : Int) % 64) (by omega) (by omega)]
        rfl

/-! ### The loop of l01Next: the continuations -/
/-- the code point as far as the first k bytes tell it -/
def foldC (l : List UInt8) (c0 : Nat) : Nat → Nat
  | 0 => c0
  | k + 1 => 64 * foldC l c0 k + ((l.getD (k + 1) 0).toNat - 128)
def contTo (l : List UInt8) (k : Nat) : Prop := ∀ j, 1 ≤ j → j ≤ k → 128 ≤ (l.getD j 0).toNat ∧ (l.getD j 0).toNat ≤ 191
theorem foldC_1 (l : List UInt8) (c0 : Nat) : foldC l c0 1 = 64 * c0 + ((l.getD 1 0).toNat - 128) := rfl
theorem foldC_2 (l : List UInt8) (c0 : Nat) : foldC l c0 2 = 64 * (64 * c0 + ((l.getD 1 0).toNat - 128)) + ((l.getD 2 0).toNat - 128) := rfl
theorem foldC_3 (l : List UInt8) (c0 : Nat) : foldC l c0 3 = 64 * (64 * (64 * c0 + ((l.getD 1 0).toNat - 128)) + ((l.getD 2 0).toNat - 128)) + ((l.getD 3 0).toNat - 128) := rfl
theorem foldC_le {l : List UInt8} {c0 : Nat} (h0 : c0 < 128) : ∀ k, k ≤ 3 → foldC l c0 k < 100000000 := by
  intro k hk
  have b1 : (l.getD 1 0).toNat < 256 := UInt8.toNat_lt _
  have b2 : (l.getD 2 0).toNat < 256 := UInt8.toNat_lt _
  have b3 : (l.getD 3 0).toNat < 256 := UInt8.toNat_lt _
  have hk' : k = 0 ∨ k = 1 ∨ k = 2 ∨ k = 3 := by omega
  rcases hk' with rfl | rfl | rfl | rfl
  · have : foldC l c0 0 = c0 := rfl
    omega
  · rw [foldC_1]; omega
  · rw [foldC_2]; omega
  · rw [foldC_3]; omega

theorem getD_drop_get (s : ByteArray) (at' j : Nat) (h : at' + j < s.size) : (s.data.toList.drop at').getD j 0 = s[at' + j] := by
  rw [List.getD_eq_getElem?_getD, List.getElem?_drop, List.getElem?_eq_getElem (by rw [← Lib.size_eq]; exact h)]
  rfl
theorem next_at {l : List UInt8} {n c0 : Nat} (hl : n ≤ l.length)
    (hn : (n = 1 ∧ (l.getD 0 0).toNat < 128 ∧ c0 = (l.getD 0 0).toNat) ∨ (n = 2 ∧ 192 ≤ (l.getD 0 0).toNat ∧ (l.getD 0 0).toNat ≤ 223 ∧ c0 = (l.getD 0 0).toNat - 192) ∨
      (n = 3 ∧ 224 ≤ (l.getD 0 0).toNat ∧ (l.getD 0 0).toNat ≤ 239 ∧ c0 = (l.getD 0 0).toNat - 224) ∨ (n = 4 ∧ 240 ≤ (l.getD 0 0).toNat ∧ (l.getD 0 0).toNat ≤ 247 ∧ c0 = (l.getD 0 0).toNat - 240)) (hc : contTo l (n - 1)) :
    next l = if isPt (foldC l c0 (n - 1)) ∧ (enc (foldC l c0 (n - 1))).length = n then (foldC l c0 (n - 1), n) else (0, 0) := by
  apply next_whole hl
  rcases hn with ⟨rfl, h⟩ | ⟨rfl, h⟩ | ⟨rfl, h⟩ | ⟨rfl, h⟩
  · left; exact ⟨rfl, h.1, h.2⟩
  · right; left
    have h1 := hc 1 (by omega) (by omega)
    exact ⟨rfl, h.1, h.2.1, h1.1, h1.2, by rw [h.2.2, ← foldC_1]⟩
  · right; right; left
    have h1 := hc 1 (by omega) (by omega)
    have h2 := hc 2 (by omega) (by omega)
    exact ⟨rfl, h.1, h.2.1, h1.1, h1.2, h2.1, h2.2, by rw [h.2.2, ← foldC_2]⟩
  · right; right; right
    have h1 := hc 1 (by omega) (by omega)
    have h2 := hc 2 (by omega) (by omega)
    have h3 := hc 3 (by omega) (by omega)
    exact ⟨rfl, h.1, h.2.1, h1.1, h1.2, h2.1, h2.2, h3.1, h3.2, by rw [h.2.2, ← foldC_3]⟩
theorem end_pair {a b c d : Int} (h1 : a = c) (h2 : b = d) : Ending.returned (.tuple #[.int .i64 a, .int .i64 b]) = Ending.returned (.tuple #[.int .i64 c, .int .i64 d]) := by rw [h1, h2]

set_option maxHeartbeats 4000000 in
set_option maxRecDepth 100000 in
theorem specNext (s : ByteArray) (at' : Nat) (w : World) (hat : at' < s.size) (hs : s.size ≤ 1000000) :
    Calls Tryz.prog 113 #[.string s, .int .i64 at'] w fun e w' => e = .returned (.tuple #[.int .i64 (next (s.data.toList.drop at')).1, .int .i64 (next (s.data.toList.drop at')).2]) ∧ Below w.heap.size w w' := by
  have hlen : (s.data.toList.drop at').length = s.size - at' := by rw [List.length_drop, ← Lib.size_eq]
  have hg : ∀ j (hj : at' + j < s.size), (s.data.toList.drop at').getD j 0 = s[at' + j] := fun j hj => getD_drop_get s at' j hj
  generalize s.data.toList.drop at' = l at hlen hg ⊢
  obtain ⟨b0, hb0⟩ : ∃ b0, s[at'].toNat = b0 := ⟨_, rfl⟩
  have hb : b0 < 256 := hb0 ▸ UInt8.toNat_lt _
  have hl0 : (l.getD 0 0).toNat = b0 := by rw [hg 0 hat]; exact hb0
  have hG := hid hg
  have HL := hid hlen
  have H0 := hid hl0
  clear hg hlen hl0
  have hcls : ((b0 : Int) < 128) ∨ (¬ (b0 : Int) < 128 ∧ inB 192 (b0 : Int) 223 = true) ∨ (¬ (b0 : Int) < 128 ∧ inB 192 (b0 : Int) 223 = false ∧ inB 224 (b0 : Int) 239 = true) ∨ (¬ (b0 : Int) < 128 ∧ inB 192 (b0 : Int) 223 = false ∧ inB 224 (b0 : Int) 239 = false ∧ inB 240 (b0 : Int) 247 = true) ∨
      (¬ (b0 : Int) < 128 ∧ inB 192 (b0 : Int) 223 = false ∧ inB 224 (b0 : Int) 239 = false ∧ inB 240 (b0 : Int) 247 = false) := by
    unfold inB
    simp only [decide_eq_true_eq, decide_eq_false_iff_not]
    omega
  rcases hcls with g1 | ⟨g1, g2⟩ | ⟨g1, g2, g3⟩ | ⟨g1, g2, g3, g4⟩ | ⟨g1, g2, g3, g4⟩
  · have hr : b0 < 128 := by omega
    have HR := hid hr
    have hc0 : b0 < 128 := by omega
    by_cases hfit : (s.size : Int) - at' < 1
    · omega
    have HA := hid (fun hc => next_at (l := l) (n := 1) (c0 := b0) (by rw [HL.out]; omega) (Or.inl ⟨rfl, by rw [H0.out]; exact HR.out, by rw [H0.out]⟩) hc)
    have hf3 : foldC l b0 0 < 100000000 := foldC_le hc0 0 (by omega)
    obtain ⟨c, hcd⟩ : ∃ c, foldC l b0 0 = c := ⟨_, rfl⟩
    have HCD := hid hcd
    rw [hcd] at hf3
    clear hr hcd
    go_enter Tryz.func113, Tryz.ntmps113
    go_wp2_with (go_at_call 44; refine (between_any _ _ _ _).mono ?_; rintro e w1 ⟨rfl, rfl⟩)
    go_loop [8, 9] (fun c k => ∃ m : Nat, m + 1 ≤ 1 ∧ k = .int .i64 ((m + 1 : Nat) : Int) ∧ c = .int .i64 (foldC l b0 m : Nat) ∧ contTo l m) (fun _ k => 5 - (intOf k).toNat)
    case atStart => exact ⟨0, by omega, rfl, rfl, fun j h1 h2 => absurd h1 (by omega)⟩
    case round =>
      obtain ⟨m, hm, rfl, rfl, hct⟩ := hrel
      have HCT := hid hct
      clear hct
      by_cases hlt : m + 1 < 1
      · omega
      · obtain rfl : m = 0 := by omega
        have HN := hid (HA.out HCT.out)
        rw [HCD.out]
        by_cases hp : isPt c
        · have gp : ptB (c : Int) = true := ptB_iff.2 hp
          have hp' := hp
          obtain ⟨p1, p2, _⟩ := hp'
          have HP := hid hp
          clear hp
          have hw : ∃ x, ((enc c).length : Int) = x := ⟨_, rfl⟩
          by_cases hl : (enc c).length = 1
          · have gl : (((enc c).length : Int) != 1) = false := by rw [hl]; rfl
            have HLL := hid hl
            clear hl
            go_wp2_with (first | (go_at_call 71; refine (specPoint _ _).mono ?_; rintro e w1 ⟨rfl, rfl⟩) | (go_at_call 147; refine (specBytes _ p1 p2 _).mono ?_; rintro e w1 ⟨rfl, rfl⟩))
            go_ret2
            exact ⟨end_pair (by rw [HN.out, HCD.out, if_pos ⟨HP.out, HLL.out⟩]) (by rw [HN.out, HCD.out, if_pos ⟨HP.out, HLL.out⟩]; rfl), ext_alloc _ _⟩
          · have gl : (((enc c).length : Int) != 1) = true := by rw [bne_iff_ne]; omega
            have HLL := hid hl
            clear hl
            go_wp2_with (first | (go_at_call 71; refine (specPoint _ _).mono ?_; rintro e w1 ⟨rfl, rfl⟩) | (go_at_call 147; refine (specBytes _ p1 p2 _).mono ?_; rintro e w1 ⟨rfl, rfl⟩))
            go_ret2
            exact ⟨end_pair (by rw [HN.out, HCD.out, if_neg (fun h => HLL.out h.2)]; rfl) (by rw [HN.out, HCD.out, if_neg (fun h => HLL.out h.2)]; rfl), ext_alloc _ _⟩
        · have gp : ptB (c : Int) = false := by rw [Bool.eq_false_iff]; exact fun h => hp (ptB_iff.1 h)
          have HP := hid hp
          clear hp
          go_wp2_with (first | (go_at_call 71; refine (specPoint _ _).mono ?_; rintro e w1 ⟨rfl, rfl⟩))
          go_ret2
          exact ⟨end_pair (by rw [HN.out, HCD.out, if_neg (fun h => HP.out h.1)]; rfl) (by rw [HN.out, HCD.out, if_neg (fun h => HP.out h.1)]; rfl), Below.refl _ _⟩
  · have hr : 192 ≤ b0 ∧ b0 ≤ 223 := by unfold inB at g2; simp only [decide_eq_true_eq] at g2; omega
    have HR := hid hr
    have hc0 : (b0 - 192) < 128 := by omega
    by_cases hfit : (s.size : Int) - at' < 2
    · have HZ := hid (next_short (l := l) (n := 2) (Or.inl ⟨rfl, by rw [H0.out]; exact HR.out.1, by rw [H0.out]; exact HR.out.2⟩) (Or.inl (by rw [HL.out]; omega)))
      clear hr
      go_enter Tryz.func113, Tryz.ntmps113
      go_wp2_with (go_at_call 44; refine (between_any _ _ _ _).mono ?_; rintro e w1 ⟨rfl, rfl⟩)
      go_ret2
      exact ⟨end_pair (by rw [HZ.out]; rfl) (by rw [HZ.out]; rfl), Below.refl _ _⟩
    have HA := hid (fun hc => next_at (l := l) (n := 2) (c0 := (b0 - 192)) (by rw [HL.out]; omega) (Or.inr (Or.inl ⟨rfl, by rw [H0.out]; exact HR.out.1, by rw [H0.out]; exact HR.out.2, by rw [H0.out]⟩)) hc)
    have hf3 : foldC l (b0 - 192) 1 < 100000000 := foldC_le hc0 1 (by omega)
    obtain ⟨c, hcd⟩ : ∃ c, foldC l (b0 - 192) 1 = c := ⟨_, rfl⟩
    have HCD := hid hcd
    rw [hcd] at hf3
    clear hr hcd
    go_enter Tryz.func113, Tryz.ntmps113
    go_wp2_with (go_at_call 44; refine (between_any _ _ _ _).mono ?_; rintro e w1 ⟨rfl, rfl⟩)
    go_loop [8, 9] (fun c k => ∃ m : Nat, m + 1 ≤ 2 ∧ k = .int .i64 ((m + 1 : Nat) : Int) ∧ c = .int .i64 (foldC l (b0 - 192) m : Nat) ∧ contTo l m) (fun _ k => 5 - (intOf k).toNat)
    case atStart => exact ⟨0, by omega, rfl, by rw [show ((foldC l (b0 - 192) 0 : Nat) : Int) = (b0 : Int) - 192 from by show (((b0 - 192) : Nat) : Int) = _; have := HR.out; omega], fun j h1 h2 => absurd h1 (by omega)⟩
    case round =>
      obtain ⟨m, hm, rfl, rfl, hct⟩ := hrel
      have HCT := hid hct
      clear hct
      by_cases hlt : m + 1 < 2
      · have hin : at' + (m + 1) < s.size := by omega
        obtain ⟨x, hx⟩ : ∃ x, s[at' + (m + 1)].toNat = x := ⟨_, rfl⟩
        have hx' : s[at' + m + 1].toNat = x := hx
        have hxl : (l.getD (m + 1) 0).toNat = x := by rw [hG.out (m + 1) hin]; exact hx
        have hxb : x < 256 := hx ▸ UInt8.toNat_lt _
        have HX := hid hxl
        have hfm : foldC l (b0 - 192) m < 100000000 := foldC_le hc0 m (by omega)
        clear hxl
        by_cases hcc : 128 ≤ x ∧ x ≤ 191
        · have gb : inB 128 (x : Int) 191 = true := inB_true (by omega)
          have HF := hid (show ((foldC l (b0 - 192) (m + 1) : Nat) : Int) = 64 * (foldC l (b0 - 192) m : Nat) + x - 128 by
            show ((64 * foldC l (b0 - 192) m + ((l.getD (m + 1) 0).toNat - 128) : Nat) : Int) = _
            rw [HX.out]; omega)
          have HCC := hid hcc
          clear hcc
          go_wp2_with (go_at_call 44; refine (between_any _ _ _ _).mono ?_; rintro e w1 ⟨rfl, rfl⟩)
          go_round
          case rel => exact ⟨m + 1, by omega, by go_num, by rw [HF.out], fun j h1 h2 => by
            by_cases hj : j = m + 1
            · subst hj; rw [HX.out]; exact HCC.out
            · exact HCT.out j h1 (by omega)⟩
          case measure => simp [intOf]; omega
        · have gb : inB 128 (x : Int) 191 = false := inB_false (by omega)
          have HZ := hid (next_short (l := l) (n := 2) (Or.inl ⟨rfl, by rw [H0.out]; exact HR.out.1, by rw [H0.out]; exact HR.out.2⟩) (Or.inr ⟨m + 1, by omega, hlt, by rw [HX.out]; omega⟩))
          clear hcc
          go_wp2_with (go_at_call 44; refine (between_any _ _ _ _).mono ?_; rintro e w1 ⟨rfl, rfl⟩)
          go_ret2
          exact ⟨end_pair (by rw [HZ.out]; rfl) (by rw [HZ.out]; rfl), Below.refl _ _⟩
      · obtain rfl : m = 1 := by omega
        have HN := hid (HA.out HCT.out)
        rw [HCD.out]
        by_cases hp : isPt c
        · have gp : ptB (c : Int) = true := ptB_iff.2 hp
          have hp' := hp
          obtain ⟨p1, p2, _⟩ := hp'
          have HP := hid hp
          clear hp
          have hw : ∃ x, ((enc c).length : Int) = x := ⟨_, rfl⟩
          by_cases hl : (enc c).length = 2
          · have gl : (((enc c).length : Int) != 2) = false := by rw [hl]; rfl
            have HLL := hid hl
            clear hl
            go_wp2_with (first | (go_at_call 71; refine (specPoint _ _).mono ?_; rintro e w1 ⟨rfl, rfl⟩) | (go_at_call 147; refine (specBytes _ p1 p2 _).mono ?_; rintro e w1 ⟨rfl, rfl⟩))
            go_ret2
            exact ⟨end_pair (by rw [HN.out, HCD.out, if_pos ⟨HP.out, HLL.out⟩]) (by rw [HN.out, HCD.out, if_pos ⟨HP.out, HLL.out⟩]; rfl), ext_alloc _ _⟩
          · have gl : (((enc c).length : Int) != 2) = true := by rw [bne_iff_ne]; omega
            have HLL := hid hl
            clear hl
            go_wp2_with (first | (go_at_call 71; refine (specPoint _ _).mono ?_; rintro e w1 ⟨rfl, rfl⟩) | (go_at_call 147; refine (specBytes _ p1 p2 _).mono ?_; rintro e w1 ⟨rfl, rfl⟩))
            go_ret2
            exact ⟨end_pair (by rw [HN.out, HCD.out, if_neg (fun h => HLL.out h.2)]; rfl) (by rw [HN.out, HCD.out, if_neg (fun h => HLL.out h.2)]; rfl), ext_alloc _ _⟩
        · have gp : ptB (c : Int) = false := by rw [Bool.eq_false_iff]; exact fun h => hp (ptB_iff.1 h)
          have HP := hid hp
          clear hp
          go_wp2_with (first | (go_at_call 71; refine (specPoint _ _).mono ?_; rintro e w1 ⟨rfl, rfl⟩))
          go_ret2
          exact ⟨end_pair (by rw [HN.out, HCD.out, if_neg (fun h => HP.out h.1)]; rfl) (by rw [HN.out, HCD.out, if_neg (fun h => HP.out h.1)]; rfl), Below.refl _ _⟩
  · have hr : 224 ≤ b0 ∧ b0 ≤ 239 := by unfold inB at g3; simp only [decide_eq_true_eq] at g3; omega
    have HR := hid hr
    have hc0 : (b0 - 224) < 128 := by omega
    by_cases hfit : (s.size : Int) - at' < 3
    · have HZ := hid (next_short (l := l) (n := 3) (Or.inr (Or.inl ⟨rfl, by rw [H0.out]; exact HR.out.1, by rw [H0.out]; exact HR.out.2⟩)) (Or.inl (by rw [HL.out]; omega)))
      clear hr
      go_enter Tryz.func113, Tryz.ntmps113
      go_wp2_with (go_at_call 44; refine (between_any _ _ _ _).mono ?_; rintro e w1 ⟨rfl, rfl⟩)
      go_ret2
      exact ⟨end_pair (by rw [HZ.out]; rfl) (by rw [HZ.out]; rfl), Below.refl _ _⟩
    have HA := hid (fun hc => next_at (l := l) (n := 3) (c0 := (b0 - 224)) (by rw [HL.out]; omega) (Or.inr (Or.inr (Or.inl ⟨rfl, by rw [H0.out]; exact HR.out.1, by rw [H0.out]; exact HR.out.2, by rw [H0.out]⟩))) hc)
    have hf3 : foldC l (b0 - 224) 2 < 100000000 := foldC_le hc0 2 (by omega)
    obtain ⟨c, hcd⟩ : ∃ c, foldC l (b0 - 224) 2 = c := ⟨_, rfl⟩
    have HCD := hid hcd
    rw [hcd] at hf3
    clear hr hcd
    go_enter Tryz.func113, Tryz.ntmps113
    go_wp2_with (go_at_call 44; refine (between_any _ _ _ _).mono ?_; rintro e w1 ⟨rfl, rfl⟩)
    go_loop [8, 9] (fun c k => ∃ m : Nat, m + 1 ≤ 3 ∧ k = .int .i64 ((m + 1 : Nat) : Int) ∧ c = .int .i64 (foldC l (b0 - 224) m : Nat) ∧ contTo l m) (fun _ k => 5 - (intOf k).toNat)
    case atStart => exact ⟨0, by omega, rfl, by rw [show ((foldC l (b0 - 224) 0 : Nat) : Int) = (b0 : Int) - 224 from by show (((b0 - 224) : Nat) : Int) = _; have := HR.out; omega], fun j h1 h2 => absurd h1 (by omega)⟩
    case round =>
      obtain ⟨m, hm, rfl, rfl, hct⟩ := hrel
      have HCT := hid hct
      clear hct
      by_cases hlt : m + 1 < 3
      · have hin : at' + (m + 1) < s.size := by omega
        obtain ⟨x, hx⟩ : ∃ x, s[at' + (m + 1)].toNat = x := ⟨_, rfl⟩
        have hx' : s[at' + m + 1].toNat = x := hx
        have hxl : (l.getD (m + 1) 0).toNat = x := by rw [hG.out (m + 1) hin]; exact hx
        have hxb : x < 256 := hx ▸ UInt8.toNat_lt _
        have HX := hid hxl
        have hfm : foldC l (b0 - 224) m < 100000000 := foldC_le hc0 m (by omega)
        clear hxl
        by_cases hcc : 128 ≤ x ∧ x ≤ 191
        · have gb : inB 128 (x : Int) 191 = true := inB_true (by omega)
          have HF := hid (show ((foldC l (b0 - 224) (m + 1) : Nat) : Int) = 64 * (foldC l (b0 - 224) m : Nat) + x - 128 by
            show ((64 * foldC l (b0 - 224) m + ((l.getD (m + 1) 0).toNat - 128) : Nat) : Int) = _
            rw [HX.out]; omega)
          have HCC := hid hcc
          clear hcc
          go_wp2_with (go_at_call 44; refine (between_any _ _ _ _).mono ?_; rintro e w1 ⟨rfl, rfl⟩)
          go_round
          case rel => exact ⟨m + 1, by omega, by go_num, by rw [HF.out], fun j h1 h2 => by
            by_cases hj : j = m + 1
            · subst hj; rw [HX.out]; exact HCC.out
            · exact HCT.out j h1 (by omega)⟩
          case measure => simp [intOf]; omega
        · have gb : inB 128 (x : Int) 191 = false := inB_false (by omega)
          have HZ := hid (next_short (l := l) (n := 3) (Or.inr (Or.inl ⟨rfl, by rw [H0.out]; exact HR.out.1, by rw [H0.out]; exact HR.out.2⟩)) (Or.inr ⟨m + 1, by omega, hlt, by rw [HX.out]; omega⟩))
          clear hcc
          go_wp2_with (go_at_call 44; refine (between_any _ _ _ _).mono ?_; rintro e w1 ⟨rfl, rfl⟩)
          go_ret2
          exact ⟨end_pair (by rw [HZ.out]; rfl) (by rw [HZ.out]; rfl), Below.refl _ _⟩
      · obtain rfl : m = 2 := by omega
        have HN := hid (HA.out HCT.out)
        rw [HCD.out]
        by_cases hp : isPt c
        · have gp : ptB (c : Int) = true := ptB_iff.2 hp
          have hp' := hp
          obtain ⟨p1, p2, _⟩ := hp'
          have HP := hid hp
          clear hp
          have hw : ∃ x, ((enc c).length : Int) = x := ⟨_, rfl⟩
          by_cases hl : (enc c).length = 3
          · have gl : (((enc c).length : Int) != 3) = false := by rw [hl]; rfl
            have HLL := hid hl
            clear hl
            go_wp2_with (first | (go_at_call 71; refine (specPoint _ _).mono ?_; rintro e w1 ⟨rfl, rfl⟩) | (go_at_call 147; refine (specBytes _ p1 p2 _).mono ?_; rintro e w1 ⟨rfl, rfl⟩))
            go_ret2
            exact ⟨end_pair (by rw [HN.out, HCD.out, if_pos ⟨HP.out, HLL.out⟩]) (by rw [HN.out, HCD.out, if_pos ⟨HP.out, HLL.out⟩]; rfl), ext_alloc _ _⟩
          · have gl : (((enc c).length : Int) != 3) = true := by rw [bne_iff_ne]; omega
            have HLL := hid hl
            clear hl
            go_wp2_with (first | (go_at_call 71; refine (specPoint _ _).mono ?_; rintro e w1 ⟨rfl, rfl⟩) | (go_at_call 147; refine (specBytes _ p1 p2 _).mono ?_; rintro e w1 ⟨rfl, rfl⟩))
            go_ret2
            exact ⟨end_pair (by rw [HN.out, HCD.out, if_neg (fun h => HLL.out h.2)]; rfl) (by rw [HN.out, HCD.out, if_neg (fun h => HLL.out h.2)]; rfl), ext_alloc _ _⟩
        · have gp : ptB (c : Int) = false := by rw [Bool.eq_false_iff]; exact fun h => hp (ptB_iff.1 h)
          have HP := hid hp
          clear hp
          go_wp2_with (first | (go_at_call 71; refine (specPoint _ _).mono ?_; rintro e w1 ⟨rfl, rfl⟩))
          go_ret2
          exact ⟨end_pair (by rw [HN.out, HCD.out, if_neg (fun h => HP.out h.1)]; rfl) (by rw [HN.out, HCD.out, if_neg (fun h => HP.out h.1)]; rfl), Below.refl _ _⟩
  · have hr : 240 ≤ b0 ∧ b0 ≤ 247 := by unfold inB at g4; simp only [decide_eq_true_eq] at g4; omega
    have HR := hid hr
    have hc0 : (b0 - 240) < 128 := by omega
    by_cases hfit : (s.size : Int) - at' < 4
    · have HZ := hid (next_short (l := l) (n := 4) (Or.inr (Or.inr ⟨rfl, by rw [H0.out]; exact HR.out.1, by rw [H0.out]; exact HR.out.2⟩)) (Or.inl (by rw [HL.out]; omega)))
      clear hr
      go_enter Tryz.func113, Tryz.ntmps113
      go_wp2_with (go_at_call 44; refine (between_any _ _ _ _).mono ?_; rintro e w1 ⟨rfl, rfl⟩)
      go_ret2
      exact ⟨end_pair (by rw [HZ.out]; rfl) (by rw [HZ.out]; rfl), Below.refl _ _⟩
    have HA := hid (fun hc => next_at (l := l) (n := 4) (c0 := (b0 - 240)) (by rw [HL.out]; omega) (Or.inr (Or.inr (Or.inr ⟨rfl, by rw [H0.out]; exact HR.out.1, by rw [H0.out]; exact HR.out.2, by rw [H0.out]⟩))) hc)
    have hf3 : foldC l (b0 - 240) 3 < 100000000 := foldC_le hc0 3 (by omega)
    obtain ⟨c, hcd⟩ : ∃ c, foldC l (b0 - 240) 3 = c := ⟨_, rfl⟩
    have HCD := hid hcd
    rw [hcd] at hf3
    clear hr hcd
    go_enter Tryz.func113, Tryz.ntmps113
    go_wp2_with (go_at_call 44; refine (between_any _ _ _ _).mono ?_; rintro e w1 ⟨rfl, rfl⟩)
    go_loop [8, 9] (fun c k => ∃ m : Nat, m + 1 ≤ 4 ∧ k = .int .i64 ((m + 1 : Nat) : Int) ∧ c = .int .i64 (foldC l (b0 - 240) m : Nat) ∧ contTo l m) (fun _ k => 5 - (intOf k).toNat)
    case atStart => exact ⟨0, by omega, rfl, by rw [show ((foldC l (b0 - 240) 0 : Nat) : Int) = (b0 : Int) - 240 from by show (((b0 - 240) : Nat) : Int) = _; have := HR.out; omega], fun j h1 h2 => absurd h1 (by omega)⟩
    case round =>
      obtain ⟨m, hm, rfl, rfl, hct⟩ := hrel
      have HCT := hid hct
      clear hct
      by_cases hlt : m + 1 < 4
      · have hin : at' + (m + 1) < s.size := by omega
        obtain ⟨x, hx⟩ : ∃ x, s[at' + (m + 1)].toNat = x := ⟨_, rfl⟩
        have hx' : s[at' + m + 1].toNat = x := hx
        have hxl : (l.getD (m + 1) 0).toNat = x := by rw [hG.out (m + 1) hin]; exact hx
        have hxb : x < 256 := hx ▸ UInt8.toNat_lt _
        have HX := hid hxl
        have hfm : foldC l (b0 - 240) m < 100000000 := foldC_le hc0 m (by omega)
        clear hxl
        by_cases hcc : 128 ≤ x ∧ x ≤ 191
        · have gb : inB 128 (x : Int) 191 = true := inB_true (by omega)
          have HF := hid (show ((foldC l (b0 - 240) (m + 1) : Nat) : Int) = 64 * (foldC l (b0 - 240) m : Nat) + x - 128 by
            show ((64 * foldC l (b0 - 240) m + ((l.getD (m + 1) 0).toNat - 128) : Nat) : Int) = _
            rw [HX.out]; omega)
          have HCC := hid hcc
          clear hcc
          go_wp2_with (go_at_call 44; refine (between_any _ _ _ _).mono ?_; rintro e w1 ⟨rfl, rfl⟩)
          go_round
          case rel => exact ⟨m + 1, by omega, by go_num, by rw [HF.out], fun j h1 h2 => by
            by_cases hj : j = m + 1
            · subst hj; rw [HX.out]; exact HCC.out
            · exact HCT.out j h1 (by omega)⟩
          case measure => simp [intOf]; omega
        · have gb : inB 128 (x : Int) 191 = false := inB_false (by omega)
          have HZ := hid (next_short (l := l) (n := 4) (Or.inr (Or.inr ⟨rfl, by rw [H0.out]; exact HR.out.1, by rw [H0.out]; exact HR.out.2⟩)) (Or.inr ⟨m + 1, by omega, hlt, by rw [HX.out]; omega⟩))
          clear hcc
          go_wp2_with (go_at_call 44; refine (between_any _ _ _ _).mono ?_; rintro e w1 ⟨rfl, rfl⟩)
          go_ret2
          exact ⟨end_pair (by rw [HZ.out]; rfl) (by rw [HZ.out]; rfl), Below.refl _ _⟩
      · obtain rfl : m = 3 := by omega
        have HN := hid (HA.out HCT.out)
        rw [HCD.out]
        by_cases hp : isPt c
        · have gp : ptB (c : Int) = true := ptB_iff.2 hp
          have hp' := hp
          obtain ⟨p1, p2, _⟩ := hp'
          have HP := hid hp
          clear hp
          have hw : ∃ x, ((enc c).length : Int) = x := ⟨_, rfl⟩
          by_cases hl : (enc c).length = 4
          · have gl : (((enc c).length : Int) != 4) = false := by rw [hl]; rfl
            have HLL := hid hl
            clear hl
            go_wp2_with (first | (go_at_call 71; refine (specPoint _ _).mono ?_; rintro e w1 ⟨rfl, rfl⟩) | (go_at_call 147; refine (specBytes _ p1 p2 _).mono ?_; rintro e w1 ⟨rfl, rfl⟩))
            go_ret2
            exact ⟨end_pair (by rw [HN.out, HCD.out, if_pos ⟨HP.out, HLL.out⟩]) (by rw [HN.out, HCD.out, if_pos ⟨HP.out, HLL.out⟩]; rfl), ext_alloc _ _⟩
          · have gl : (((enc c).length : Int) != 4) = true := by rw [bne_iff_ne]; omega
            have HLL := hid hl
            clear hl
            go_wp2_with (first | (go_at_call 71; refine (specPoint _ _).mono ?_; rintro e w1 ⟨rfl, rfl⟩) | (go_at_call 147; refine (specBytes _ p1 p2 _).mono ?_; rintro e w1 ⟨rfl, rfl⟩))
            go_ret2
            exact ⟨end_pair (by rw [HN.out, HCD.out, if_neg (fun h => HLL.out h.2)]; rfl) (by rw [HN.out, HCD.out, if_neg (fun h => HLL.out h.2)]; rfl), ext_alloc _ _⟩
        · have gp : ptB (c : Int) = false := by rw [Bool.eq_false_iff]; exact fun h => hp (ptB_iff.1 h)
          have HP := hid hp
          clear hp
          go_wp2_with (first | (go_at_call 71; refine (specPoint _ _).mono ?_; rintro e w1 ⟨rfl, rfl⟩))
          go_ret2
          exact ⟨end_pair (by rw [HN.out, HCD.out, if_neg (fun h => HP.out h.1)]; rfl) (by rw [HN.out, HCD.out, if_neg (fun h => HP.out h.1)]; rfl), Below.refl _ _⟩
  · have hz : next l = (0, 0) := next_lead (by rw [H0.out]; omega) (by
      rw [H0.out]
      unfold inB at g2 g3 g4
      simp only [decide_eq_false_iff_not] at g2 g3 g4
      omega)
    have HZ := hid hz
    clear hz
    go_enter Tryz.func113, Tryz.ntmps113
    go_wp2_with (go_at_call 44; refine (between_any _ _ _ _).mono ?_; rintro e w1 ⟨rfl, rfl⟩)
    go_ret2
    exact ⟨end_pair (by rw [HZ.out]; rfl) (by rw [HZ.out]; rfl), Below.refl _ _⟩

end Go.Proofs.YtomcoilmpkpoeaaGreatDoor

namespace Go.Proofs.YtomcoilmpkpoeaaGreatDoor
open Go.RowKit
set_option linter.unusedVariables false
set_option linter.unusedSimpArgs false

/-- the code points of a text, none where it is none -/
def runesN (l : List UInt8) : List Nat := (runes? l).getD []
def intVals (rs : List Nat) : List Value := rs.map fun (c : Nat) => Value.int .i64 (c : Int)
theorem intVals_length (rs : List Nat) : (intVals rs).length = rs.length := by simp [intVals]
theorem intVals_snoc (rs : List Nat) (c : Nat) : intVals (rs ++ [c]) = intVals rs ++ [.int .i64 (c : Int)] := by simp [intVals]
theorem runes_some {l : List UInt8} {rs : List Nat} (h : l.length ≤ 1000) (hr : runesAll l = some rs) : runesN l = rs ∧ textOk l = true := by
  unfold runesN textOk runes?
  rw [if_pos h, hr]
  exact ⟨rfl, rfl⟩
theorem runes_none {l : List UInt8} (hr : ¬ l.length ≤ 1000 ∨ runesAll l = none) : runesN l = [] ∧ textOk l = false := by
  unfold runesN textOk runes?
  by_cases h : l.length ≤ 1000
  · rw [if_pos h]
    rcases hr with hr | hr
    · exact absurd h hr
    · rw [hr]; exact ⟨rfl, rfl⟩
  · rw [if_neg h]; exact ⟨rfl, rfl⟩

theorem own_none {w : World} {base : Nat} (h : base ≤ w.heap.size) (e : TypeId) : (w.alloc (.cells #[] e)).ownsRow base e 1 (.slice (some ⟨w.heap.size, 0, none⟩) 0 0) 0 [] := World.ownsRow_lit w #[] 0 h (by decide) rfl
theorem info_int : (Tryz.prog.info? 3).map (fun i => (i.zero, i.size, i.bytes)) = some (some (.int .i64 0), 1, 8) := by kernel_rfl
set_option maxHeartbeats 2000000 in
theorem specRunes (s : ByteArray) (w : World) :
    Calls Tryz.prog 67 #[.string s] w fun e w' => ∃ u, e = .returned (.tuple #[u, .bool (textOk s.data.toList)]) ∧ w'.ownsRow w.heap.size 3 1 u (runesN s.data.toList).length (intVals (runesN s.data.toList)) ∧ Below w.heap.size w w' := by
  obtain ⟨l, hl⟩ : ∃ l, s.data.toList = l := ⟨_, rfl⟩
  have hsl : s.size = l.length := by rw [Lib.size_eq, hl]
  rw [hl]
  obtain ⟨i0, hi, hz0, hz1, hz2⟩ := info_parts info_int
  by_cases hbig : (1000 : Int) < s.size
  · obtain ⟨e1, e2⟩ := runes_none (l := l) (Or.inl (by omega))
    rw [e1, e2]
    clear hi hz0 hz1 hz2 e1 e2
    go_enter Tryz.func67, Tryz.ntmps67
    go_wp2
    go_ret2
    exact ⟨_, rfl, own_none (Nat.le_refl _) _, ext_alloc _ _⟩
  · have HL := hid hl
    have HSL := hid hsl
    clear hl hsl
    have hlen : l.length ≤ 1000 := by have := HSL.out; omega
    have hsz : s.size ≤ 1000 := by omega
    go_enter Tryz.func67, Tryz.ntmps67
    go_wp2
    go_loopw [4, 5] (fun out at' wr => ∃ (k : Nat) (rs : List Nat), k ≤ s.size ∧ at' = .int .i64 k ∧ Hid (runesAll l = (runesAll (l.drop k)).map (rs ++ ·)) ∧ wr.ownsRow w.heap.size 3 1 out rs.length (intVals rs) ∧ Below w.heap.size w wr ∧ rs.length ≤ k) (fun _ at' _ => s.size - (intOf at').toNat)
    case atStart => exact ⟨0, [], Nat.zero_le _, rfl, by show runesAll l = _; simp, own_none (Nat.le_refl _) _, ext_alloc _ _, Nat.le_refl _⟩
    case round =>
      obtain ⟨k, rs, hk, rfl, HR, hown, hb, hrk⟩ := hrel
      by_cases hlt : k < s.size
      · obtain ⟨c, hc⟩ : ∃ c, (next (l.drop k)).1 = c := ⟨_, rfl⟩
        obtain ⟨n, hn⟩ : ∃ n, (next (l.drop k)).2 = n := ⟨_, rfl⟩
        have hne : l.drop k ≠ [] := by
          intro h
          have := congrArg List.length h
          rw [List.length_drop] at this
          have := HSL.out
          simp at *
          omega
        have hnl : n ≤ s.size - k := by
          have := next_le (l.drop k)
          rw [hn, List.length_drop] at this
          have := HSL.out
          omega
        have HC := hid hc
        have HN := hid hn
        have HNE := hid hne
        clear hc hn hne
        go_wp2_with fail
        refine (specNext s k _ hlt (by omega)).mono ?_
        rintro e w1 ⟨rfl, hb1⟩
        rw [HL.out, HC.out, HN.out]
        have hown1 := own_later hown hb1
        have hB1 := ext_trans hb hb1
        by_cases hz : n = 0
        · subst hz
          obtain ⟨e1, e2⟩ := runes_none (l := l) (Or.inr (by rw [HR.out, runesAll_bad HNE.out HN.out]; rfl))
          have E1 := hid e1
          have E2 := hid e2
          clear e1 e2 hi hz0 hz1 hz2 hown hown1
          go_wp2
          go_ret2
          rw [E1.out, E2.out]
          exact ⟨_, rfl, own_none hB1.size _, ext_trans hB1 (ext_alloc _ _)⟩
        · have hz' : ((n : Int) == 0) = false := by rw [beq_eq_false_iff_ne]; omega
          have HR' := hid (show runesAll l = (runesAll (l.drop (k + n))).map ((rs ++ [c]) ++ ·) by
            rw [HR.out, runesAll_step HNE.out (by rw [HN.out]; exact hz), HC.out, HN.out, List.drop_drop]
            cases runesAll (List.drop (k + n) l) <;> simp)
          clear hown HR
          go_wp2_with ((at_builtin; refine wpList_append_own _ rfl _ _ 78 rfl w.heap.size 3 i0 (.int .i64 0) 1 8 Tryz.underlying78 hi hz0 hz1 hz2 rfl (by decide) _ _ _ rfl (hown1.alloc _) ⟨w1.heap.size, 0, none⟩ 1 1 [.int .i64 (c : Int)] rfl rfl ?c1 ?c2 ?c3 ?c4 ?c5 ?_))
          case c1 => exact cell_one_new _ _ _
          case c2 => intro u hu; simp at hu; subst hu; rfl
          case c3 => unfold maxLen; omega
          case c4 => omega
          case c5 => simp; exact Nat.le_trans hB1.size (by omega)
          intro v' w2 hown2 hgrow _
          have hlt' := (hown1.alloc (.cells #[.int .i64 (c : Int)] 3)).lt
          have hB2 : Below w.heap.size w w2 := (ext_trans hB1 (ext_alloc _ _)).grown hgrow (ext_trans hB1 (ext_alloc _ _)).size (fun q hq => (hlt' q hq).1)
          clear hi hz0 hz1 hz2 hgrow hown1 hlt'
          go_wp2
          go_roundw
          case rel => exact ⟨k + n, rs ++ [c], by omega, by go_num, HR'.out, by rw [intVals_snoc, List.length_append]; exact hown2, hB2, by rw [List.length_append]; simp; omega⟩
          case measure => simp [intOf]; omega
      · have : k = s.size := by omega
        subst this
        have hd : l.drop s.size = [] := List.drop_eq_nil_of_le (by rw [HSL.out]; exact Nat.le_refl _)
        obtain ⟨e1, e2⟩ := runes_some (l := l) (rs := rs) hlen (by rw [HR.out, hd, runesAll_nil]; simp)
        have E1 := hid e1
        have E2 := hid e2
        clear e1 e2 hd hi hz0 hz1 hz2
        go_wp2
        go_ret2
        rw [E1.out, E2.out]
        exact ⟨_, rfl, hown, hb⟩
end Go.Proofs.YtomcoilmpkpoeaaGreatDoor
