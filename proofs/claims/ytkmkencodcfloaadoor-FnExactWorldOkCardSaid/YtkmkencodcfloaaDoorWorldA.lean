/-
  What is proved here: spec.FileOk, impl.isFile, spec.l24Quote. The condition 'Tabs' says that the library's tables for UTF-8 lie in the world.
  What is proved here: which worlds are sound, in impl and in the reference. The condition 'Tabs' says that the library's tables for UTF-8 lie in the world.
  What is proved here: the walks of FnExactWorldOk. The condition 'Tabs' (where it stands) says that the library's tables for UTF-8 lie in the world.
-/
import Derived.Test.YtkmkencodcfloaaDoorLen
import Derived.Test.YtkmkencodcfloaaDoorConf
import Derived.Test.YtkmkencodcfloaaDoorJobA
import Derived.Laws.Slices
namespace Go.Proofs.YtkmkencodcfloaaDoor
open Go.RowKit
set_option linter.unusedVariables false
set_option linter.unusedSimpArgs false

def fileOk (s : ByteArray) : Bool := decide (s.size ≤ 4000) && (runesAll s.data.toList).isSome
theorem file_size {s : ByteArray} (h : fileOk s = true) : s.size ≤ 4000 := by
  unfold fileOk at h
  simp only [Bool.and_eq_true, decide_eq_true_eq] at h
  exact h.1
set_option maxHeartbeats 2000000 in
theorem specFileOk (s : ByteArray) (w : World) :
    Calls Tryd.prog 21 #[.string s] w fun e w' => e = .returned (.bool (fileOk s)) ∧ Below w.heap.size w w' := by
  obtain ⟨l, hl⟩ : ∃ l, s.data.toList = l := ⟨_, rfl⟩
  have hsl : s.size = l.length := by rw [Lib.size_eq, hl]
  by_cases hbig : (4000 : Int) < s.size
  · have HF := hid (show fileOk s = false by unfold fileOk; rw [decide_eq_false (by omega)]; rfl)
    clear hl hsl
    go_enter Tryd.func21, Tryd.ntmps21
    go_wp2
    go_ret
    rw [HF.out]
    exact ⟨rfl, Below.refl _ _⟩
  · have HF := hid (show fileOk s = (runesAll l).isSome by unfold fileOk; rw [decide_eq_true (by omega), hl]; rfl)
    have HL := hid hl
    have HSL := hid hsl
    clear hl hsl
    have hlen : l.length ≤ 4000 := by have := HSL.out; omega
    have hsz : s.size ≤ 4000 := by omega
    go_enter Tryd.func21, Tryd.ntmps21
    go_wp2
    go_loopw [3] (fun at' wr => ∃ k : Nat, k ≤ s.size ∧ at' = .int .i64 k ∧ Hid ((runesAll l).isSome = (runesAll (l.drop k)).isSome) ∧ Below w.heap.size w wr) (fun at' _ => s.size - (intOf at').toNat)
    case atStart => exact ⟨0, Nat.zero_le _, rfl, by show (runesAll l).isSome = _; simp, Below.refl _ _⟩
    case round =>
      obtain ⟨k, hk, rfl, HR, hb⟩ := hrel
      by_cases hlt : k < s.size
      · obtain ⟨c, hc⟩ : ∃ c, (next (l.drop k)).1 = c := ⟨_, rfl⟩
        obtain ⟨n, hn⟩ : ∃ n, (next (l.drop k)).2 = n := ⟨_, rfl⟩
        have hne : l.drop k ≠ [] := by
          intro h
          have := congrArg List.length h
          rw [List.length_drop] at this
          have := HSL.out
          simp at *
          omega
        have hnl : n ≤ s.size - k := by
          have := next_le (l.drop k)
          rw [hn, List.length_drop] at this
          have := HSL.out
          omega
        have HC := hid hc
        have HN := hid hn
        have HNE := hid hne
        clear hc hn hne
        go_wp2_with fail
        refine (specNext s k _ hlt (by omega)).mono ?_
        rintro e w1 ⟨rfl, hb1⟩
        rw [HL.out, HC.out, HN.out]
        have hB1 := ext_trans hb hb1
        by_cases hz : n = 0
        · subst hz
          have e1 : (runesAll l).isSome = false := by rw [HR.out, runesAll_bad HNE.out HN.out]; rfl
          have E1 := hid e1
          clear e1
          go_wp2
          go_ret
          rw [HF.out, E1.out]
          exact ⟨rfl, hB1⟩
        · have hz' : ((n : Int) == 0) = false := by rw [beq_eq_false_iff_ne]; omega
          have HR' := hid (show (runesAll l).isSome = (runesAll (l.drop (k + n))).isSome by
            rw [HR.out, runesAll_step HNE.out (by rw [HN.out]; exact hz), HC.out, HN.out, List.drop_drop]
            cases runesAll (List.drop (k + n) l) <;> simp)
          clear HR
          go_wp2
          go_roundw
          case rel => exact ⟨k + n, by omega, by go_num, HR'.out, hB1⟩
          case measure => simp [intOf]; omega
      · have : k = s.size := by omega
        subst this
        have hd : l.drop s.size = [] := List.drop_eq_nil_of_le (by rw [HSL.out]; exact Nat.le_refl _)
        have e1 : (runesAll l).isSome = true := by rw [HR.out, hd, runesAll_nil]; rfl
        have E1 := hid e1
        clear e1 hd
        go_wp2
        go_ret
        rw [HF.out, E1.out]
        exact ⟨rfl, hb⟩
set_option maxHeartbeats 2000000 in
theorem implIsFile (s : ByteArray) (w : World) (hT : Tabs w) :
    Calls Tryd.prog 38 #[.string s] w fun e w' => e = .returned (.bool (fileOk s)) ∧ Below w.heap.size w w' := by
  obtain ⟨l, hl⟩ : ∃ l, s.data.toList = l := ⟨_, rfl⟩
  have hsl : s.size = l.length := by rw [Lib.size_eq, hl]
  by_cases hbig : (4000 : Int) < s.size
  · have HF := hid (show fileOk s = false by unfold fileOk; rw [decide_eq_false (by omega)]; rfl)
    clear hl hsl
    go_enter Tryd.func38, Tryd.ntmps38
    go_wp2
    go_ret
    rw [HF.out]
    exact ⟨rfl, Below.refl _ _⟩
  have HF := hid (show fileOk s = (runesAll l).isSome by unfold fileOk; rw [decide_eq_true (by omega), hl]; rfl)
  have HL := hid hl
  clear hl
  have hsz : s.size ≤ 4000 := by omega
  clear hsl
  have HV := hid (valid_runes l)
  have CV := Any.utf8_ValidString Tryd.laysValid s w (by omega) hT
  rw [HL.out] at CV
  by_cases hv : Lib.validD l = true
  · have CI : ∀ w, Calls Tryd.prog 53 #[.string s, .int .u8 0] w fun e w' => e = .returned (.int .i64 (Lib.indexByte l 0)) ∧ w' = w := fun w => by
      have := Tryd.strings_IndexByte s 0 w
      rw [HL.out] at this
      exact this
    rw [hv] at CV
    by_cases h0 : (0 : UInt8) ∈ l
    · have e1 : (runesAll l).isSome = false := by
        cases hr : runesAll l with
        | none => rfl
        | some x => exact absurd h0 ((HV.out.2 (by rw [hr]; rfl)).2)
      have hix0 := index_ge_of_mem h0
      have hix : ¬ Lib.indexByte l 0 < 0 := by omega
      clear hix0
      have E1 := hid e1
      clear e1 h0 hv
      go_enter Tryd.func38, Tryd.ntmps38
      go_wp2_with (first | (go_at_call 52; refine CV.mono ?_; rintro e w1 ⟨rfl, hb1⟩) | (go_at_call 53; refine (CI _).mono ?_; rintro e w1 ⟨rfl, rfl⟩))
      go_ret
      rw [HF.out, E1.out]
      first | exact ⟨rfl, hb1⟩ | exact ⟨end_bool (decide_eq_false (by omega)), hb1⟩
    · have hix := index_of_not_mem h0
      have e1 : (runesAll l).isSome = true := HV.out.1 ⟨hv, h0⟩
      have E1 := hid e1
      clear hv h0 e1
      go_enter Tryd.func38, Tryd.ntmps38
      go_wp2_with (first | (go_at_call 52; refine CV.mono ?_; rintro e w1 ⟨rfl, hb1⟩) | (go_at_call 53; refine (CI _).mono ?_; rintro e w1 ⟨rfl, rfl⟩))
      go_ret
      rw [HF.out, E1.out]
      first | exact ⟨rfl, hb1⟩ | exact ⟨end_bool (decide_eq_true (by omega)), hb1⟩
  · have hv' : Lib.validD l = false := by cases h : Lib.validD l with | false => rfl | true => exact absurd h hv
    rw [hv'] at CV
    have e1 : (runesAll l).isSome = false := by
      cases hr : runesAll l with
      | none => rfl
      | some x => exact absurd (HV.out.2 (by rw [hr]; rfl)).1 hv
    have E1 := hid e1
    clear e1 hv hv'
    go_enter Tryd.func38, Tryd.ntmps38
    go_wp2_with (go_at_call 52; refine CV.mono ?_; rintro e w1 ⟨rfl, hb1⟩)
    go_ret
    rw [HF.out, E1.out]
    exact ⟨rfl, hb1⟩
end Go.Proofs.YtkmkencodcfloaaDoor

namespace Go.Proofs.YtkmkencodcfloaaDoor
open Go.RowKit
set_option linter.unusedVariables false
set_option linter.unusedSimpArgs false

noncomputable def fileFine (fs : List File) (k : Nat) (f : File) : Bool :=
  !decide (f.name = ⟨#[]⟩) && (okText f.name && (fileOk f.text && !((fs.take k).any fun g => decide (g.name = f.name))))
noncomputable def filesFine (fs : List File) : Bool := (List.range fs.length).all fun k => match fs[k]? with | some f => fileFine fs k f | none => true
noncomputable def worldOk (x : WorldT) : Bool := confOk x.inp && (confOk x.out && (decide (x.files.length ≤ 8) && (decide (x.args.length ≤ 8) && (filesFine x.files && x.args.all okText))))
theorem filesFine_bad {fs : List File} {k : Nat} (h : k < fs.length) (hf : fileFine fs k fs[k] = false) : filesFine fs = false := by
  unfold filesFine
  rw [List.all_eq_false]
  exact ⟨k, by simpa using h, by rw [List.getElem?_eq_getElem h]; simp [hf]⟩
theorem filesFine_good {fs : List File} (h : ∀ k (hk : k < fs.length), fileFine fs k fs[k] = true) : filesFine fs = true := by
  unfold filesFine
  rw [List.all_eq_true]
  intro k hk
  have hk' : k < fs.length := by simpa using hk
  rw [List.getElem?_eq_getElem hk']
  exact h k hk'
theorem worldOk_files {x : WorldT} (h : filesFine x.files = false) : worldOk x = false := by simp [worldOk, h]
theorem idx_first {α : Type} {p : α → Bool} {fs : List α} {k : Nat} (h : k < fs.length) (hp : p fs[k] = true) (hd : (fs.take k).any p = false) : idxP p fs = (k : Int) := by
  refine idxP_hit h hp (fun j hj hjk => ?_)
  rw [List.any_eq_false] at hd
  have hm : fs[j] ∈ fs.take k := by
    rw [List.mem_iff_getElem]
    exact ⟨j, by rw [List.length_take]; omega, by rw [List.getElem_take]⟩
  simpa using hd _ hm
theorem idx_dup {α : Type} {p : α → Bool} {fs : List α} {k : Nat} (h : k < fs.length) (hd : (fs.take k).any p = true) : idxP p fs ≠ (k : Int) := by
  intro hi
  obtain ⟨y, hy, hpy⟩ := List.any_eq_true.1 hd
  obtain ⟨j, hj, rfl⟩ := List.mem_iff_getElem.1 hy
  have hj' : j < k := by rw [List.length_take] at hj; omega
  rw [List.getElem_take] at hpy
  have key : ∀ (m : Nat) (hm : m < fs.length), m ≤ j → p fs[m] = true → (∀ i (hi : i < fs.length), i < m → p fs[i] = false) → False := fun m hm hmj hpm hl => by
    have := idxP_hit hm hpm hl
    omega
  have : ∀ m, m ≤ j → ∀ i (hi : i < fs.length), i < m → p fs[i] = false := by
    intro m
    induction m with
    | zero => intro _ i _ h0; exact absurd h0 (Nat.not_lt_zero _)
    | succ m ih =>
      intro hm i hi him
      by_cases e : i = m
      · subst e
        cases hp : p fs[i] with
        | false => rfl
        | true => exact (key i hi (by omega) hp (fun q hq hqi => ih (by omega) q hq hqi)).elim
      · exact ih (by omega) i hi (by omega)
  exact key j (by omega) (Nat.le_refl _) hpy (fun i hi hij => this j (Nat.le_refl _) i hi hij)
theorem args_not (xs : List ByteArray) : (!(xs.any fun s => !okText s)) = xs.all okText := by
  induction xs with
  | nil => rfl
  | cons a r ih => simp only [List.any_cons, List.all_cons, ← ih]; cases okText a <;> simp
theorem blk14c {w : World} {g : Nat} {x0 x1 x2 x3 x4 x5 x6 x7 x8 x9 x10 x11 x12 x13 : Value} {t : TypeId} (h : w.heap[g]? = some (.cells #[x0, x1, x2, x3, x4, x5, x6, x7, x8, x9, x10, x11, x12, x13] t (0, 0))) :
    w.cell? ⟨g, 0, none⟩ = some x0 ∧ w.cell? ⟨g, 1, none⟩ = some x1 ∧ w.cell? ⟨g, 2, none⟩ = some x2 ∧ w.cell? ⟨g, 3, none⟩ = some x3 ∧ w.cell? ⟨g, 4, none⟩ = some x4 ∧ w.cell? ⟨g, 5, none⟩ = some x5 ∧ w.cell? ⟨g, 6, none⟩ = some x6 ∧ w.cell? ⟨g, 7, none⟩ = some x7 ∧ w.cell? ⟨g, 8, none⟩ = some x8 ∧ w.cell? ⟨g, 9, none⟩ = some x9 ∧ w.cell? ⟨g, 10, none⟩ = some x10 ∧ w.cell? ⟨g, 11, none⟩ = some x11 ∧ w.cell? ⟨g, 12, none⟩ = some x12 ∧ w.cell? ⟨g, 13, none⟩ = some x13 := by
  have h' : w.heap[g]? = some (.cells ([x0, x1, x2, x3, x4, x5, x6, x7, x8, x9, x10, x11, x12, x13] : List Value).toArray t (0, 0)) := h
  exact ⟨cell_of_block h', cell_of_block h', cell_of_block h', cell_of_block h', cell_of_block h', cell_of_block h', cell_of_block h', cell_of_block h', cell_of_block h', cell_of_block h', cell_of_block h', cell_of_block h', cell_of_block h', cell_of_block h'⟩
theorem isWorldArg (s : ByteArray) (W : World) (hT : Tabs W) :
    Calls Tryd.prog 42 (#[.string s] ++ #[]) W fun e W' => e = .returned (.bool (!okText s)) ∧ Below W.heap.size W W' := by
  have C := hid (implTextOk s W hT)
  show Calls Tryd.prog 42 #[.string s] W _
  go_enter Tryd.func42, Tryd.ntmps42
  go_wp2_with fail
  refine C.out.mono ?_
  rintro e w1 ⟨rfl, hb1⟩
  go_wp2
  go_ret
  exact ⟨rfl, hb1⟩
set_option maxHeartbeats 16000000 in
set_option maxRecDepth 100000 in
theorem implIsWorld {cs : Array Value} {x : WorldT} (w : World) (h : Rd.rd (Old w) w cs.toList x) (hT : Tabs w) :
    Calls Tryd.prog 25 #[.agg cs] w fun e w' => e = .returned (.bool (worldOk x)) ∧ Below w.heap.size w w' := by
  obtain ⟨a12, c12, a13, c13, hcs, f0, f1, f2, f3, f4, f6, f7, f8, f9, f10, f12, f13⟩ := rdWorldT h
  obtain rfl := arr_of_list hcs
  have hl12 : x.files.length ≤ c12 ∧ c12 ≤ 9223372036854775807 := by obtain ⟨_, _, e, h1, h2, _⟩ := f12; cases e; exact ⟨h1, h2⟩
  have hl13 : x.args.length ≤ c13 ∧ c13 ≤ 9223372036854775807 := by obtain ⟨_, _, e, h1, h2, _⟩ := f13; cases e; exact ⟨h1, h2⟩
  clear hcs h
  have hW0 := heap_alloc_new w (.cells #[.int .i64 x.inp.tag, .string x.inp.fs, .string x.inp.rs, .string x.inp.ofs, .string x.inp.ors, .bool x.inp.head, .int .i64 x.out.tag, .string x.out.fs, .string x.out.rs, .string x.out.ofs, .string x.out.ors, .bool x.out.head, .slice a12 x.files.length c12, .slice a13 x.args.length c13] 37)
  have HBX := hid (fun (w' : World) (hb : Below (w.heap.size + 1) (w.alloc (.cells #[.int .i64 x.inp.tag, .string x.inp.fs, .string x.inp.rs, .string x.inp.ofs, .string x.inp.ors, .bool x.inp.head, .int .i64 x.out.tag, .string x.out.fs, .string x.out.rs, .string x.out.ofs, .string x.out.ors, .bool x.out.head, .slice a12 x.files.length c12, .slice a13 x.args.length c13] 37)) w') => blk14c ((hb.block w.heap.size (Nat.lt_succ_self _)).trans hW0))
  have HBW := hid (fun (w' : World) (hb : Below (w.heap.size + 1) (w.alloc (.cells #[.int .i64 x.inp.tag, .string x.inp.fs, .string x.inp.rs, .string x.inp.ofs, .string x.inp.ors, .bool x.inp.head, .int .i64 x.out.tag, .string x.out.fs, .string x.out.rs, .string x.out.ofs, .string x.out.ors, .bool x.out.head, .slice a12 x.files.length c12, .slice a13 x.args.length c13] 37)) w') => (ext_alloc w (.cells #[.int .i64 x.inp.tag, .string x.inp.fs, .string x.inp.rs, .string x.inp.ofs, .string x.inp.ors, .bool x.inp.head, .int .i64 x.out.tag, .string x.out.fs, .string x.out.rs, .string x.out.ofs, .string x.out.ors, .bool x.out.head, .slice a12 x.files.length c12, .slice a13 x.args.length c13] 37)).trans (hb.mono (Nat.le_succ _)))
  have HSZ := hid (fun (w' : World) (hb : Below (w.heap.size + 1) (w.alloc (.cells #[.int .i64 x.inp.tag, .string x.inp.fs, .string x.inp.rs, .string x.inp.ofs, .string x.inp.ors, .bool x.inp.head, .int .i64 x.out.tag, .string x.out.fs, .string x.out.rs, .string x.out.ofs, .string x.out.ors, .bool x.out.head, .slice a12 x.files.length c12, .slice a13 x.args.length c13] 37)) w') => (show w.heap.size + 1 ≤ w'.heap.size from by have := hb.size; simp at this; exact this))
  clear hW0
  have hb0 := Below.refl (w.heap.size + 1) (w.alloc (.cells #[.int .i64 x.inp.tag, .string x.inp.fs, .string x.inp.rs, .string x.inp.ofs, .string x.inp.ors, .bool x.inp.head, .int .i64 x.out.tag, .string x.out.fs, .string x.out.rs, .string x.out.ofs, .string x.out.ors, .bool x.out.head, .slice a12 x.files.length c12, .slice a13 x.args.length c13] 37))
  obtain ⟨z0, z1, z2, z3, z4, z5, z6, z7, z8, z9, z10, z11, z12, z13⟩ := HBX.out _ hb0
  go_enter Tryd.func25, Tryd.ntmps25
  go_wp2_with fail
  refine (implIsConf _ (by exact rdConf_mk (x := x.inp) f0 f1 f2 f3 f4) (tabs_below hT (HBW.out _ hb0))).mono ?_
  rintro e w1 ⟨rfl, hb⟩
  have b1 := hb0.trans (hb.mono (HSZ.out _ hb0))
  clear hb z0 z1 z2 z3 z4 z5 z6 z7 z8 z9 z10 z11 z12 z13
  obtain ⟨z0, z1, z2, z3, z4, z5, z6, z7, z8, z9, z10, z11, z12, z13⟩ := HBX.out _ b1
  obtain ⟨q1, hq1⟩ : ∃ b, confOk x.inp = b := ⟨_, rfl⟩
  rw [hq1]
  have HQ1 := hid hq1
  clear hq1
  cases q1 with
  | false =>
    go_wp2
    go_ret
    exact ⟨by simp [worldOk, HQ1.out], HBW.out _ b1⟩
  | true =>
    go_wp2_with fail
    refine (implIsConf _ (by exact rdConf_mk (x := x.out) f6 f7 f8 f9 f10) (tabs_below hT (HBW.out _ b1))).mono ?_
    rintro e w2 ⟨rfl, hb⟩
    have b2 := b1.trans (hb.mono (HSZ.out _ b1))
    clear hb z0 z1 z2 z3 z4 z5 z6 z7 z8 z9 z10 z11 z12 z13
    obtain ⟨z0, z1, z2, z3, z4, z5, z6, z7, z8, z9, z10, z11, z12, z13⟩ := HBX.out _ b2
    obtain ⟨q2, hq2⟩ : ∃ b, confOk x.out = b := ⟨_, rfl⟩
    rw [hq2]
    have HQ2 := hid hq2
    clear hq2
    cases q2 with
    | false =>
      go_wp2
      go_ret
      exact ⟨by simp [worldOk, HQ2.out], HBW.out _ b2⟩
    | true =>
      by_cases hn : (8 : Int) < x.files.length
      · go_wp2
        go_ret
        exact ⟨end_bool (show worldOk x = false by simp [worldOk, show ¬ x.files.length ≤ 8 by omega]).symm, HBW.out _ b2⟩
      by_cases hm : (8 : Int) < x.args.length
      · go_wp2
        go_ret
        exact ⟨end_bool (show worldOk x = false by simp [worldOk, show ¬ x.args.length ≤ 8 by omega]).symm, HBW.out _ b2⟩
      have HN := hid (show x.files.length ≤ 8 by omega)
      have HM := hid (show x.args.length ≤ 8 by omega)
      have hl12n : x.files.length ≤ 9223372036854775807 := by omega
      have hl13n : x.args.length ≤ 9223372036854775807 := by omega
      have hl12i : (x.files.length : Int) ≤ (c12 : Int) := by omega
      go_wp2
      have CN := hid (fun (nm : ByteArray) (fb : Nat) (g : File) (W : World) (h1 : fb < W.heap.size) (h2 : W.cell? ⟨fb, 0, none⟩ = some (.string nm)) => isWorldName nm fb g W h1 h2)
      have eg1 := enters_of Tryd.func40 (by kernel_rfl) rfl
      have EG1 := hid eg1
      have eg2 := enters_of Tryd.func42 (by kernel_rfl) rfl
      have EG2 := hid eg2
      clear eg1 eg2
      go_loopw [30] (fun i wr => ∃ k : Nat, k ≤ x.files.length ∧ i = .int .i64 (k : Int) ∧ Hid (∀ j (hj : j < x.files.length), j < k → fileFine x.files j x.files[j] = true) ∧ Below (w.heap.size + 1) (w.alloc (.cells #[.int .i64 x.inp.tag, .string x.inp.fs, .string x.inp.rs, .string x.inp.ofs, .string x.inp.ors, .bool x.inp.head, .int .i64 x.out.tag, .string x.out.fs, .string x.out.rs, .string x.out.ofs, .string x.out.ors, .bool x.out.head, .slice a12 x.files.length c12, .slice a13 x.args.length c13] 37)) wr) (fun i _ => x.files.length - (intOf i).toNat)
      case atStart => exact ⟨0, Nat.zero_le _, rfl, hid (fun j _ hj => absurd hj (Nat.not_lt_zero _)), b2⟩
      case round =>
        obtain ⟨k, hk, rfl, HA, hB⟩ := hrel
        clear z0 z1 z2 z3 z4 z5 z6 z7 z8 z9 z10 z11 z12 z13
        obtain ⟨z0, z1, z2, z3, z4, z5, z6, z7, z8, z9, z10, z11, z12, z13⟩ := HBX.out _ hB
        have hBw := HBW.out _ hB
        have hsr := HSZ.out _ hB
        by_cases hlt : k < x.files.length
        · have hF := f12
          obtain ⟨a, cap, hv, h1, h2, hF⟩ := hF
          obtain ⟨rfl, rfl⟩ : a12 = a ∧ c12 = cap := by simpa using hv
          obtain ⟨b, off, rfl, hBk, hrow⟩ := hF (by omega)
          obtain ⟨cs, hcell, hx⟩ := hrow k hlt
          obtain ⟨hcs, g0, g1⟩ := rdFile hx
          subst hcs
          have t0 : wr.cell? ⟨b, off + k * 2, none⟩ = some (.string x.files[k].name) := (hBw.cell (p := ⟨b, off + k * 2, none⟩) hBk).trans (hcell 0 (by decide))
          have t1 : wr.cell? ⟨b, off + k * 2 + 1, none⟩ = some (.string x.files[k].text) := (hBw.cell (p := ⟨b, off + k * 2 + 1, none⟩) hBk).trans (hcell 1 (by decide))
          have HFF := hid (show fileFine x.files k x.files[k] = fileFine x.files k ⟨x.files[k].name, x.files[k].text⟩ from rfl)
          obtain ⟨nm, hnm⟩ : ∃ z, x.files[k].name = z := ⟨_, rfl⟩
          obtain ⟨tx, htx⟩ : ∃ z, x.files[k].text = z := ⟨_, rfl⟩
          rw [hnm] at t0 HFF
          rw [htx] at t1 HFF
          have hki : (k : Int) < (x.files.length : Int) := by omega
          have hk0 : (0 : Int) ≤ (k : Int) := by omega
          have hkc : (k : Int) ≤ (c12 : Int) := by omega
          clear hrow hcell hx hnm htx hv hF h1 h2
          by_cases he : nm = ⟨#[]⟩
          · subst he
            have HBAD := hid (worldOk_files (filesFine_bad hlt (by rw [HFF.out]; simp [fileFine])))
            go_wp2
            go_ret
            exact ⟨end_bool HBAD.out.symm, ext_trans hBw (ext_alloc _ _)⟩
          have e1 : (nm.toList == []) = false := by have h9 := ba_ne he; rwa [Lib.toList_data ⟨#[]⟩] at h9
          have e2 : nm.toList.isEmpty = false := by cases hz : nm.toList with | nil => rw [hz] at e1; cases e1 | cons a r => rfl
          have e3 : ¬ nm.toList = [] := by intro hz; rw [hz] at e1; cases e1
          have HE := hid he
          clear he
          obtain ⟨q3, hq3⟩ : ∃ z, okText nm = z := ⟨_, rfl⟩
          have C3 := hid (fun (w : World) (h : Tabs w) => implTextOk nm w h)
          have HQ3 := hid hq3
          rw [hq3] at C3
          clear hq3
          obtain ⟨q4, hq4⟩ : ∃ z, fileOk tx = z := ⟨_, rfl⟩
          have C4 := hid (fun (w : World) (h : Tabs w) => implIsFile tx w h)
          have HQ4 := hid hq4
          rw [hq4] at C4
          clear hq4
          have HTB := hid (tabs_below hT hBw)
          go_wp2_with fail
          refine (C3.out _ (tabs_below HTB.out (ext_alloc _ _))).mono ?_
          rintro e w3 ⟨rfl, hb3⟩
          obtain ⟨hc3, hf3⟩ := bcell hb3
          have u0 : w3.cell? ⟨wr.heap.size, 0, none⟩ = some (.string nm) := (hc3 _ _ (by simp)).trans (by go_simp)
          have u1 : w3.cell? ⟨wr.heap.size, 1, none⟩ = some (.string tx) := (hc3 _ _ (by simp)).trans (by go_simp)
          have h3l : wr.heap.size < w3.heap.size := by have := hb3.size; (try simp at this); omega
          have hB3 := ext_trans (ext_alloc _ _) hb3
          clear hc3 hf3 hb3
          cases q3 with
          | false =>
            have HBAD := hid (worldOk_files (filesFine_bad hlt (by rw [HFF.out]; simp [fileFine, HQ3.out])))
            go_wp2
            go_ret
            exact ⟨end_bool HBAD.out.symm, ext_trans hBw hB3⟩
          | true =>
            go_wp2_with fail
            refine (C4.out _ (tabs_below HTB.out hB3)).mono ?_
            rintro e w4 ⟨rfl, hb4⟩
            have v0 := keeps_cells hb4 _ _ u0
            have v1 := keeps_cells hb4 _ _ u1
            have hB4 := ext_trans hB3 hb4
            have h4l : wr.heap.size < w4.heap.size := by have := hb4.size; omega
            clear u0 u1 hb4
            cases q4 with
            | false =>
              have HBAD := hid (worldOk_files (filesFine_bad hlt (by rw [HFF.out]; simp [fileFine, HQ4.out])))
              go_wp2
              go_ret
              exact ⟨end_bool HBAD.out.symm, ext_trans hBw hB4⟩
            | true =>
              have d12 : w4.cell? ⟨w.heap.size, 12, none⟩ = some (.slice (some ⟨b, off, none⟩) x.files.length c12) := keeps_cells hB4 _ _ z12
              go_wp2_with fail
              refine (anyFile (fun g => decide (g.name = nm)) 40 #[.pointer (some ⟨wr.heap.size, 0, none⟩)] EG1.out (xs := x.files.take k) _ (rd_take (Rd.later (ext_trans hBw hB4) f12) hk) (by rw [List.length_take]; omega) (fun g W hbW => isWorldName nm wr.heap.size g W (Nat.lt_of_lt_of_le h4l hbW.size) (keeps_cells hbW _ _ v0))).mono ?_
              rintro e w5 ⟨rfl, hb5⟩
              obtain ⟨q5, hq5⟩ : ∃ z, ((x.files.take k).any fun g => decide (g.name = nm)) = z := ⟨_, rfl⟩
              rw [hq5]
              have HQ5 := hid hq5
              clear hq5
              have hB5 := ext_trans hB4 hb5
              clear hb5
              cases q5 with
              | true =>
                have HBAD := hid (worldOk_files (filesFine_bad hlt (by rw [HFF.out]; simp only [fileFine, HQ5.out]; simp)))
                go_wp2
                go_ret
                exact ⟨end_bool HBAD.out.symm, ext_trans hBw hB5⟩
              | false =>
                have HGOOD := hid (show fileFine x.files k x.files[k] = true by rw [HFF.out]; simp only [fileFine, HQ3.out, HQ4.out, HQ5.out, decide_eq_false HE.out]; rfl)
                go_wp2
                go_roundw
                case rel =>
                  refine ⟨k + 1, by omega, by go_num, hid (fun j hj hjk => ?_), hB.trans (hB5.mono hsr)⟩
                  by_cases ej : j = k
                  · subst ej; exact HGOOD.out
                  · exact HA.out j hj (by omega)
                case measure => simp [intOf]; omega
        · have hki : ¬ (k : Int) < (x.files.length : Int) := by omega
          have HG := hid (filesFine_good (fs := x.files) (fun j hj => HA.out j hj (by omega)))
          go_wp2_with fail
          refine (anyText (fun s => !okText s) 42 #[] EG2.out (xs := x.args) _ (Rd.later hBw f13) hl13n (fun s W hbW => isWorldArg s W (tabs_below hT (ext_trans hBw hbW)))).mono ?_
          rintro e w6 ⟨rfl, hb6⟩
          obtain ⟨q6, hq6⟩ : ∃ z, (x.args.any fun s => !okText s) = z := ⟨_, rfl⟩
          rw [hq6]
          have HQ6 := hid (show x.args.all okText = !q6 by rw [← hq6, args_not])
          clear hq6
          go_wp2
          go_ret
          exact ⟨end_bool (by simp [worldOk, HQ1.out, HQ2.out, HN.out, HM.out, HG.out, HQ6.out]), ext_trans hBw hb6⟩
set_option maxHeartbeats 16000000 in
theorem implWorldOk {cs : Array Value} {x : WorldT} (w : World) (h : Rd.rd (Old w) w cs.toList x) (hT : Tabs w) :
    Calls Tryd.prog 12 #[.agg cs] w fun e w' => e = .returned (.bool (worldOk x)) ∧ Below w.heap.size w w' := by
  obtain ⟨a12, c12, a13, c13, hcs, _⟩ := rdWorldT h
  obtain rfl := arr_of_list hcs
  have CC := hid (implIsWorld (w.alloc (.cells #[.int .i64 x.inp.tag, .string x.inp.fs, .string x.inp.rs, .string x.inp.ofs, .string x.inp.ors, .bool x.inp.head, .int .i64 x.out.tag, .string x.out.fs, .string x.out.rs, .string x.out.ofs, .string x.out.ors, .bool x.out.head, .slice a12 x.files.length c12, .slice a13 x.args.length c13] 37)) (Rd.later (ext_alloc w _) h) (tabs_below hT (ext_alloc w _)))
  clear h hcs
  go_enter Tryd.func12, Tryd.ntmps12
  go_wp2_with fail
  refine CC.out.mono ?_
  rintro e w1 ⟨rfl, hb⟩
  go_wp2
  go_ret
  exact ⟨rfl, ext_trans (ext_alloc w _) hb⟩
set_option maxHeartbeats 16000000 in
set_option maxRecDepth 100000 in
theorem specWorldOk {cs : Array Value} {x : WorldT} (w : World) (h : Rd.rd (Old w) w cs.toList x) :
    Calls Tryd.prog 10 #[.agg cs] w fun e w' => e = .returned (.bool (worldOk x)) ∧ Below w.heap.size w w' := by
  obtain ⟨a12, c12, a13, c13, hcs, f0, f1, f2, f3, f4, f6, f7, f8, f9, f10, f12, f13⟩ := rdWorldT h
  obtain rfl := arr_of_list hcs
  have hl12 : x.files.length ≤ c12 ∧ c12 ≤ 9223372036854775807 := by obtain ⟨_, _, e, h1, h2, _⟩ := f12; cases e; exact ⟨h1, h2⟩
  have hl13 : x.args.length ≤ c13 ∧ c13 ≤ 9223372036854775807 := by obtain ⟨_, _, e, h1, h2, _⟩ := f13; cases e; exact ⟨h1, h2⟩
  clear hcs h
  have hW0 := heap_alloc_new w (.cells #[.int .i64 x.inp.tag, .string x.inp.fs, .string x.inp.rs, .string x.inp.ofs, .string x.inp.ors, .bool x.inp.head, .int .i64 x.out.tag, .string x.out.fs, .string x.out.rs, .string x.out.ofs, .string x.out.ors, .bool x.out.head, .slice a12 x.files.length c12, .slice a13 x.args.length c13] 37)
  have HBX := hid (fun (w' : World) (hb : Below (w.heap.size + 1) (w.alloc (.cells #[.int .i64 x.inp.tag, .string x.inp.fs, .string x.inp.rs, .string x.inp.ofs, .string x.inp.ors, .bool x.inp.head, .int .i64 x.out.tag, .string x.out.fs, .string x.out.rs, .string x.out.ofs, .string x.out.ors, .bool x.out.head, .slice a12 x.files.length c12, .slice a13 x.args.length c13] 37)) w') => blk14c ((hb.block w.heap.size (Nat.lt_succ_self _)).trans hW0))
  have HBW := hid (fun (w' : World) (hb : Below (w.heap.size + 1) (w.alloc (.cells #[.int .i64 x.inp.tag, .string x.inp.fs, .string x.inp.rs, .string x.inp.ofs, .string x.inp.ors, .bool x.inp.head, .int .i64 x.out.tag, .string x.out.fs, .string x.out.rs, .string x.out.ofs, .string x.out.ors, .bool x.out.head, .slice a12 x.files.length c12, .slice a13 x.args.length c13] 37)) w') => (ext_alloc w (.cells #[.int .i64 x.inp.tag, .string x.inp.fs, .string x.inp.rs, .string x.inp.ofs, .string x.inp.ors, .bool x.inp.head, .int .i64 x.out.tag, .string x.out.fs, .string x.out.rs, .string x.out.ofs, .string x.out.ors, .bool x.out.head, .slice a12 x.files.length c12, .slice a13 x.args.length c13] 37)).trans (hb.mono (Nat.le_succ _)))
  have HSZ := hid (fun (w' : World) (hb : Below (w.heap.size + 1) (w.alloc (.cells #[.int .i64 x.inp.tag, .string x.inp.fs, .string x.inp.rs, .string x.inp.ofs, .string x.inp.ors, .bool x.inp.head, .int .i64 x.out.tag, .string x.out.fs, .string x.out.rs, .string x.out.ofs, .string x.out.ors, .bool x.out.head, .slice a12 x.files.length c12, .slice a13 x.args.length c13] 37)) w') => (show w.heap.size + 1 ≤ w'.heap.size from by have := hb.size; simp at this; exact this))
  clear hW0
  have hb0 := Below.refl (w.heap.size + 1) (w.alloc (.cells #[.int .i64 x.inp.tag, .string x.inp.fs, .string x.inp.rs, .string x.inp.ofs, .string x.inp.ors, .bool x.inp.head, .int .i64 x.out.tag, .string x.out.fs, .string x.out.rs, .string x.out.ofs, .string x.out.ors, .bool x.out.head, .slice a12 x.files.length c12, .slice a13 x.args.length c13] 37))
  obtain ⟨z0, z1, z2, z3, z4, z5, z6, z7, z8, z9, z10, z11, z12, z13⟩ := HBX.out _ hb0
  go_enter Tryd.func10, Tryd.ntmps10
  go_wp2_with fail
  refine (specConfOk _ (by exact rdConf_mk (x := x.inp) f0 f1 f2 f3 f4)).mono ?_
  rintro e w1 ⟨rfl, hb⟩
  have b1 := hb0.trans (hb.mono (HSZ.out _ hb0))
  clear hb z0 z1 z2 z3 z4 z5 z6 z7 z8 z9 z10 z11 z12 z13
  obtain ⟨z0, z1, z2, z3, z4, z5, z6, z7, z8, z9, z10, z11, z12, z13⟩ := HBX.out _ b1
  obtain ⟨q1, hq1⟩ : ∃ b, confOk x.inp = b := ⟨_, rfl⟩
  rw [hq1]
  have HQ1 := hid hq1
  clear hq1
  cases q1 with
  | false =>
    go_wp2
    go_ret
    exact ⟨by simp [worldOk, HQ1.out], HBW.out _ b1⟩
  | true =>
    go_wp2_with fail
    refine (specConfOk _ (by exact rdConf_mk (x := x.out) f6 f7 f8 f9 f10)).mono ?_
    rintro e w2 ⟨rfl, hb⟩
    have b2 := b1.trans (hb.mono (HSZ.out _ b1))
    clear hb z0 z1 z2 z3 z4 z5 z6 z7 z8 z9 z10 z11 z12 z13
    obtain ⟨z0, z1, z2, z3, z4, z5, z6, z7, z8, z9, z10, z11, z12, z13⟩ := HBX.out _ b2
    obtain ⟨q2, hq2⟩ : ∃ b, confOk x.out = b := ⟨_, rfl⟩
    rw [hq2]
    have HQ2 := hid hq2
    clear hq2
    cases q2 with
    | false =>
      go_wp2
      go_ret
      exact ⟨by simp [worldOk, HQ2.out], HBW.out _ b2⟩
    | true =>
      by_cases hn : (8 : Int) < x.files.length
      · go_wp2
        go_ret
        exact ⟨end_bool (show worldOk x = false by simp [worldOk, show ¬ x.files.length ≤ 8 by omega]).symm, HBW.out _ b2⟩
      by_cases hm : (8 : Int) < x.args.length
      · go_wp2
        go_ret
        exact ⟨end_bool (show worldOk x = false by simp [worldOk, show ¬ x.args.length ≤ 8 by omega]).symm, HBW.out _ b2⟩
      have HN := hid (show x.files.length ≤ 8 by omega)
      have HM := hid (show x.args.length ≤ 8 by omega)
      have hl12n : x.files.length ≤ 9223372036854775807 := by omega
      have hl13n : x.args.length ≤ 9223372036854775807 := by omega
      have hl12i : (x.files.length : Int) ≤ (c12 : Int) := by omega
      go_wp2
      go_loopw [3] (fun i wr => ∃ k : Nat, k ≤ x.files.length ∧ i = .int .i64 (k : Int) ∧ Hid (∀ j (hj : j < x.files.length), j < k → fileFine x.files j x.files[j] = true) ∧ Below (w.heap.size + 1) (w.alloc (.cells #[.int .i64 x.inp.tag, .string x.inp.fs, .string x.inp.rs, .string x.inp.ofs, .string x.inp.ors, .bool x.inp.head, .int .i64 x.out.tag, .string x.out.fs, .string x.out.rs, .string x.out.ofs, .string x.out.ors, .bool x.out.head, .slice a12 x.files.length c12, .slice a13 x.args.length c13] 37)) wr) (fun i _ => x.files.length - (intOf i).toNat)
      case atStart => exact ⟨0, Nat.zero_le _, rfl, hid (fun j _ hj => absurd hj (Nat.not_lt_zero _)), b2⟩
      case round =>
        obtain ⟨k, hk, rfl, HA, hB⟩ := hrel
        clear z0 z1 z2 z3 z4 z5 z6 z7 z8 z9 z10 z11 z12 z13
        obtain ⟨z0, z1, z2, z3, z4, z5, z6, z7, z8, z9, z10, z11, z12, z13⟩ := HBX.out _ hB
        have hBw := HBW.out _ hB
        have hsr := HSZ.out _ hB
        by_cases hlt : k < x.files.length
        · have hF := f12
          obtain ⟨a, cap, hv, h1, h2, hF⟩ := hF
          obtain ⟨rfl, rfl⟩ : a12 = a ∧ c12 = cap := by simpa using hv
          obtain ⟨b, off, rfl, hBk, hrow⟩ := hF (by omega)
          obtain ⟨cs, hcell, hx⟩ := hrow k hlt
          obtain ⟨hcs, g0, g1⟩ := rdFile hx
          subst hcs
          have t0 : wr.cell? ⟨b, off + k * 2, none⟩ = some (.string x.files[k].name) := (hBw.cell (p := ⟨b, off + k * 2, none⟩) hBk).trans (hcell 0 (by decide))
          have t1 : wr.cell? ⟨b, off + k * 2 + 1, none⟩ = some (.string x.files[k].text) := (hBw.cell (p := ⟨b, off + k * 2 + 1, none⟩) hBk).trans (hcell 1 (by decide))
          have HFF := hid (show fileFine x.files k x.files[k] = fileFine x.files k ⟨x.files[k].name, x.files[k].text⟩ from rfl)
          have HNM := hid (show x.files[k].name = x.files[k].name from rfl)
          obtain ⟨nm, hnm⟩ : ∃ z, x.files[k].name = z := ⟨_, rfl⟩
          obtain ⟨tx, htx⟩ : ∃ z, x.files[k].text = z := ⟨_, rfl⟩
          rw [hnm] at t0 HFF
          rw [htx] at t1 HFF
          have HNM := hid hnm
          have hki : (k : Int) < (x.files.length : Int) := by omega
          have hk0 : (0 : Int) ≤ (k : Int) := by omega
          clear hrow hcell hx hnm htx hv hF h1 h2
          by_cases he : nm = ⟨#[]⟩
          · subst he
            have HBAD := hid (worldOk_files (filesFine_bad hlt (by rw [HFF.out]; simp [fileFine])))
            go_wp2_with fail
            refine wp_region_held_drew (S := fun w' => w'.cell? ⟨w.heap.size, 12, none⟩ = some (.slice (some ⟨b, off, none⟩) x.files.length c12) ∧ w'.cell? ⟨b, off + k * 2, none⟩ = some (.string ⟨#[]⟩) ∧ w'.cell? ⟨b, off + k * 2 + 1, none⟩ = some (.string tx)) (by kernel_rfl) ?_ (fun hHeld => ?_)
            · simp [*]
            refine wpAnyH_take (i := 0) (v := ?_) rfl (by kernel_rfl) (by kernel_rfl) (by kernel_rfl) (fun _ _ _ h => h) (Or.inl ⟨by rfl, ?_⟩) (by assumption) ?_
            rotate_left
            · (intro w' hSw; (try dsimp only at hSw); go_simp; try (with_reducible rfl))
            change wpAnyH _ _ _ _ _ _ _ (Act.put _ (some 34) _) _
            try simp only [Act.put, List.setIfInBounds_toArray, List.set_cons_zero, List.set_cons_succ]
            refine wpAnyH_take (i := 1) (v := ?_) rfl (by kernel_rfl) (by kernel_rfl) (by kernel_rfl) (fun _ _ _ h => h) (Or.inl ⟨by rfl, ?_⟩) (by assumption) ?_
            rotate_left
            · (intro w' hSw; (try dsimp only at hSw); go_simp; try (with_reducible rfl))
            change wpAnyH _ _ _ _ _ _ _ (Act.put _ (some 35) _) _
            try simp only [Act.put, List.setIfInBounds_toArray, List.set_cons_zero, List.set_cons_succ]
            refine wpAnyH_take (i := 2) (v := ?_) rfl (by kernel_rfl) (by kernel_rfl) (by kernel_rfl) (fun _ _ _ h => h) (Or.inl ⟨by rfl, ?_⟩) (by assumption) ?_
            rotate_left
            · (intro w' hSw; (try dsimp only at hSw); go_simp; try (with_reducible rfl))
            change wpAnyH _ _ _ _ _ _ _ (Act.put _ (some 36) _) _
            try simp only [Act.put, List.setIfInBounds_toArray, List.set_cons_zero, List.set_cons_succ]
            refine wpAnyH_take (i := 3) (v := ?_) rfl (by kernel_rfl) (by kernel_rfl) (by kernel_rfl) (fun _ _ _ h => h) (Or.inl ⟨by rfl, ?_⟩) (by assumption) ?_
            rotate_left
            · (intro w' hSw; (try dsimp only at hSw); go_simp; try (with_reducible rfl))
            change wpAnyH _ _ _ _ _ _ _ (Act.put _ (some 37) _) _
            try simp only [Act.put, List.setIfInBounds_toArray, List.set_cons_zero, List.set_cons_succ]
            refine wpAnyH_take (i := 4) (v := ?_) rfl (by kernel_rfl) (by kernel_rfl) (by kernel_rfl) (fun _ _ _ h => h) (Or.inl ⟨by rfl, ?_⟩) (by assumption) ?_
            rotate_left
            · (intro w' hSw; (try dsimp only at hSw); go_simp; try (with_reducible rfl))
            change wpAnyH _ _ _ _ _ _ _ (Act.put _ (some 38) _) _
            try simp only [Act.put, List.setIfInBounds_toArray, List.set_cons_zero, List.set_cons_succ]
            refine wpAnyH_take (i := 5) (v := ?_) rfl (by kernel_rfl) (by kernel_rfl) (by kernel_rfl) (fun _ _ _ h => h) (Or.inl ⟨by rfl, ?_⟩) (by assumption) ?_
            rotate_left
            · (intro w' hSw; (try dsimp only at hSw); go_simp; try (with_reducible rfl))
            change wpAnyH _ _ _ _ _ _ _ (Act.put _ (some 39) _) _
            try simp only [Act.put, List.setIfInBounds_toArray, List.set_cons_zero, List.set_cons_succ]
            refine wpAnyH_take (i := 6) (v := ?_) rfl (by kernel_rfl) (by kernel_rfl) (by kernel_rfl) (fun _ _ _ h => h) (Or.inl ⟨by rfl, ?_⟩) (by assumption) ?_
            rotate_left
            · (intro w' hSw; (try dsimp only at hSw); go_simp; try (with_reducible rfl))
            change wpAnyH _ _ _ _ _ _ _ (Act.put _ (some 40) _) _
            try simp only [Act.put, List.setIfInBounds_toArray, List.set_cons_zero, List.set_cons_succ]
            refine wpAnyH_take (i := 7) (v := ?_) rfl (by kernel_rfl) (by kernel_rfl) (by kernel_rfl) (fun _ _ _ h => h) (Or.inl ⟨by rfl, ?_⟩) (by assumption) ?_
            rotate_left
            · (intro w' hSw; (try dsimp only at hSw); go_simp; try (with_reducible rfl))
            change wpAnyH _ _ _ _ _ _ _ (Act.put _ (some 41) _) _
            try simp only [Act.put, List.setIfInBounds_toArray, List.set_cons_zero, List.set_cons_succ]
            refine wpAnyH_take (i := 8) (v := undef) rfl (by kernel_rfl) (by kernel_rfl) (by kernel_rfl) (fun _ _ _ h => h) (Or.inr ⟨by rfl, rfl⟩) (by assumption) ?_
            change wpAnyH _ _ _ _ _ _ _ (Act.put _ (some 42) _) _
            try simp only [Act.put, List.setIfInBounds_toArray, List.set_cons_zero, List.set_cons_succ]
            refine wpAnyH_take (i := 9) (v := undef) rfl (by kernel_rfl) (by kernel_rfl) (by kernel_rfl) (fun _ _ _ h => h) (Or.inr ⟨by rfl, rfl⟩) (by assumption) ?_
            change wpAnyH _ _ _ _ _ _ _ (Act.put _ (some 43) _) _
            try simp only [Act.put, List.setIfInBounds_toArray, List.set_cons_zero, List.set_cons_succ]
            refine wpAnyH_take (i := 10) (v := undef) rfl (by kernel_rfl) (by kernel_rfl) (by kernel_rfl) (fun _ _ _ h => h) (Or.inr ⟨by rfl, rfl⟩) (by assumption) ?_
            change wpAnyH _ _ _ _ _ _ _ (Act.put _ (some 44) _) _
            try simp only [Act.put, List.setIfInBounds_toArray, List.set_cons_zero, List.set_cons_succ]
            refine wpAnyH_take (i := 11) (v := undef) rfl (by kernel_rfl) (by kernel_rfl) (by kernel_rfl) (fun _ _ _ h => h) (Or.inr ⟨by rfl, rfl⟩) (by assumption) ?_
            change wpAnyH _ _ _ _ _ _ _ (Act.put _ (some 45) _) _
            try simp only [Act.put, List.setIfInBounds_toArray, List.set_cons_zero, List.set_cons_succ]
            refine wpAnyH_take (i := 12) (v := undef) rfl (by kernel_rfl) (by kernel_rfl) (by kernel_rfl) (fun _ _ _ h => h) (Or.inr ⟨by rfl, rfl⟩) (by assumption) ?_
            change wpAnyH _ _ _ _ _ _ _ (Act.put _ (some 46) _) _
            try simp only [Act.put, List.setIfInBounds_toArray, List.set_cons_zero, List.set_cons_succ]
            refine wpAnyH_take (i := 13) (v := undef) rfl (by kernel_rfl) (by kernel_rfl) (by kernel_rfl) (fun _ _ _ h => h) (Or.inr ⟨by rfl, rfl⟩) (by assumption) ?_
            change wpAnyH _ _ _ _ _ _ _ (Act.put _ (some 47) _) _
            try simp only [Act.put, List.setIfInBounds_toArray, List.set_cons_zero, List.set_cons_succ]
            refine wpAnyH_take (i := 14) (v := undef) rfl (by kernel_rfl) (by kernel_rfl) (by kernel_rfl) (fun _ _ _ h => h) (Or.inr ⟨by rfl, rfl⟩) (by assumption) ?_
            change wpAnyH _ _ _ _ _ _ _ (Act.put _ (some 48) _) _
            try simp only [Act.put, List.setIfInBounds_toArray, List.set_cons_zero, List.set_cons_succ]
            refine wpAnyH_take (i := 15) (v := undef) rfl (by kernel_rfl) (by kernel_rfl) (by kernel_rfl) (fun _ _ _ h => h) (Or.inr ⟨by rfl, rfl⟩) (by assumption) ?_
            change wpAnyH _ _ _ _ _ _ _ (Act.put _ (some 49) _) _
            try simp only [Act.put, List.setIfInBounds_toArray, List.set_cons_zero, List.set_cons_succ]
            refine wpAnyH_take (i := 16) (v := ?_) rfl (by kernel_rfl) (by kernel_rfl) (by kernel_rfl) (fun _ _ _ h => h) (Or.inl ⟨by rfl, ?_⟩) (by assumption) ?_
            rotate_left
            · (intro w' hSw; (try dsimp only at hSw); go_simp; try (with_reducible rfl))
            change wpAnyH _ _ _ _ _ _ _ (Act.put _ (some 50) _) _
            try simp only [Act.put, List.setIfInBounds_toArray, List.set_cons_zero, List.set_cons_succ]
            refine wpAnyH_take (i := 17) (v := ?_) rfl (by kernel_rfl) (by kernel_rfl) (by kernel_rfl) (fun _ _ _ h => h) (Or.inl ⟨by rfl, ?_⟩) (by assumption) ?_
            rotate_left
            · (intro w' hSw; (try dsimp only at hSw); go_simp; try (with_reducible rfl))
            change wpAnyH _ _ _ _ _ _ _ (Act.put _ (some 51) _) _
            try simp only [Act.put, List.setIfInBounds_toArray, List.set_cons_zero, List.set_cons_succ]
            refine wpAnyH_take (i := 18) (v := undef) rfl (by kernel_rfl) (by kernel_rfl) (by kernel_rfl) (fun _ _ _ h => h) (Or.inr ⟨by rfl, rfl⟩) (by assumption) ?_
            change wpAnyH _ _ _ _ _ _ _ (Act.put _ (some 52) _) _
            try simp only [Act.put, List.setIfInBounds_toArray, List.set_cons_zero, List.set_cons_succ]
            refine wpAnyH_take (i := 19) (v := undef) rfl (by kernel_rfl) (by kernel_rfl) (by kernel_rfl) (fun _ _ _ h => h) (Or.inr ⟨by rfl, rfl⟩) (by assumption) ?_
            change wpAnyH _ _ _ _ _ _ _ (Act.put _ (some 53) _) _
            try simp only [Act.put, List.setIfInBounds_toArray, List.set_cons_zero, List.set_cons_succ]
            refine wpAnyH_take (i := 20) (v := undef) rfl (by kernel_rfl) (by kernel_rfl) (by kernel_rfl) (fun _ _ _ h => h) (Or.inr ⟨by rfl, rfl⟩) (by assumption) ?_
            change wpAnyH _ _ _ _ _ _ _ (Act.put _ (some 54) _) _
            try simp only [Act.put, List.setIfInBounds_toArray, List.set_cons_zero, List.set_cons_succ]
            refine wpAnyH_take (i := 21) (v := undef) rfl (by kernel_rfl) (by kernel_rfl) (by kernel_rfl) (fun _ _ _ h => h) (Or.inr ⟨by rfl, rfl⟩) (by assumption) ?_
            change wpAnyH _ _ _ _ _ _ _ (Act.put _ (some 55) _) _
            try simp only [Act.put, List.setIfInBounds_toArray, List.set_cons_zero, List.set_cons_succ]
            refine wpAnyH_take (i := 22) (v := undef) rfl (by kernel_rfl) (by kernel_rfl) (by kernel_rfl) (fun _ _ _ h => h) (Or.inr ⟨by rfl, rfl⟩) (by assumption) ?_
            change wpAnyH _ _ _ _ _ _ _ (Act.put _ (some 56) _) _
            try simp only [Act.put, List.setIfInBounds_toArray, List.set_cons_zero, List.set_cons_succ]
            refine wpAnyH_take (i := 23) (v := undef) rfl (by kernel_rfl) (by kernel_rfl) (by kernel_rfl) (fun _ _ _ h => h) (Or.inr ⟨by rfl, rfl⟩) (by assumption) ?_
            change wpAnyH _ _ _ _ _ _ _ (Act.put _ (some 57) _) _
            try simp only [Act.put, List.setIfInBounds_toArray, List.set_cons_zero, List.set_cons_succ]
            refine wpAnyH_take (i := 24) (v := undef) rfl (by kernel_rfl) (by kernel_rfl) (by kernel_rfl) (fun _ _ _ h => h) (Or.inr ⟨by rfl, rfl⟩) (by assumption) ?_
            change wpAnyH _ _ _ _ _ _ _ (Act.put _ (some 58) _) _
            try simp only [Act.put, List.setIfInBounds_toArray, List.set_cons_zero, List.set_cons_succ]
            refine wpAnyH_take (i := 25) (v := undef) rfl (by kernel_rfl) (by kernel_rfl) (by kernel_rfl) (fun _ _ _ h => h) (Or.inr ⟨by rfl, rfl⟩) (by assumption) ?_
            change wpAnyH _ _ _ _ _ _ _ (Act.put _ (some 59) _) _
            try simp only [Act.put, List.setIfInBounds_toArray, List.set_cons_zero, List.set_cons_succ]
            refine wpAnyH_take (i := 26) (v := ?_) rfl (by kernel_rfl) (by kernel_rfl) (by kernel_rfl) (fun _ _ _ h => h) (Or.inl ⟨by rfl, ?_⟩) (by assumption) ?_
            rotate_left
            · (intro w' hSw; (try dsimp only at hSw); go_simp; try (with_reducible rfl))
            change wpAnyH _ _ _ _ _ _ _ (Act.put _ (some 60) _) _
            try simp only [Act.put, List.setIfInBounds_toArray, List.set_cons_zero, List.set_cons_succ]
            refine wpAnyH_take (i := 27) (v := ?_) rfl (by kernel_rfl) (by kernel_rfl) (by kernel_rfl) (fun _ _ _ h => h) (Or.inl ⟨by rfl, ?_⟩) (by assumption) ?_
            rotate_left
            · (intro w' hSw; (try dsimp only at hSw); go_simp; try (with_reducible rfl))
            change wpAnyH _ _ _ _ _ _ _ (Act.put _ (some 61) _) _
            try simp only [Act.put, List.setIfInBounds_toArray, List.set_cons_zero, List.set_cons_succ]
            refine wpAnyH_take (i := 28) (v := undef) rfl (by kernel_rfl) (by kernel_rfl) (by kernel_rfl) (fun _ _ _ h => h) (Or.inr ⟨by rfl, rfl⟩) (by assumption) ?_
            change wpAnyH _ _ _ _ _ _ _ (Act.put _ (some 62) _) _
            try simp only [Act.put, List.setIfInBounds_toArray, List.set_cons_zero, List.set_cons_succ]
            refine wpAnyH_take (i := 29) (v := undef) rfl (by kernel_rfl) (by kernel_rfl) (by kernel_rfl) (fun _ _ _ h => h) (Or.inr ⟨by rfl, rfl⟩) (by assumption) ?_
            change wpAnyH _ _ _ _ _ _ _ (Act.put _ (some 63) _) _
            try simp only [Act.put, List.setIfInBounds_toArray, List.set_cons_zero, List.set_cons_succ]
            refine wpAnyH_take (i := 30) (v := undef) rfl (by kernel_rfl) (by kernel_rfl) (by kernel_rfl) (fun _ _ _ h => h) (Or.inr ⟨by rfl, rfl⟩) (by assumption) ?_
            change wpAnyH _ _ _ _ _ _ _ (Act.put _ (some 64) _) _
            try simp only [Act.put, List.setIfInBounds_toArray, List.set_cons_zero, List.set_cons_succ]
            refine wpAnyH_take (i := 31) (v := undef) rfl (by kernel_rfl) (by kernel_rfl) (by kernel_rfl) (fun _ _ _ h => h) (Or.inr ⟨by rfl, rfl⟩) (by assumption) ?_
            change wpAnyH _ _ _ _ _ _ _ (Act.put _ (some 65) _) _
            try simp only [Act.put, List.setIfInBounds_toArray, List.set_cons_zero, List.set_cons_succ]
            refine wpAnyH_take (i := 32) (v := undef) rfl (by kernel_rfl) (by kernel_rfl) (by kernel_rfl) (fun _ _ _ h => h) (Or.inr ⟨by rfl, rfl⟩) (by assumption) ?_
            change wpAnyH _ _ _ _ _ _ _ (Act.put _ (some 66) _) _
            try simp only [Act.put, List.setIfInBounds_toArray, List.set_cons_zero, List.set_cons_succ]
            refine wpAnyH_take (i := 33) (v := undef) rfl (by kernel_rfl) (by kernel_rfl) (by kernel_rfl) (fun _ _ _ h => h) (Or.inr ⟨by rfl, rfl⟩) (by assumption) ?_
            change wpAnyH _ _ _ _ _ _ _ (Act.put _ (some 67) _) _
            try simp only [Act.put, List.setIfInBounds_toArray, List.set_cons_zero, List.set_cons_succ]
            refine wpAnyH_take (i := 34) (v := undef) rfl (by kernel_rfl) (by kernel_rfl) (by kernel_rfl) (fun _ _ _ h => h) (Or.inr ⟨by rfl, rfl⟩) (by assumption) ?_
            change wpAnyH _ _ _ _ _ _ _ (Act.put _ (some 68) _) _
            try simp only [Act.put, List.setIfInBounds_toArray, List.set_cons_zero, List.set_cons_succ]
            refine wpAnyH_take (i := 35) (v := undef) rfl (by kernel_rfl) (by kernel_rfl) (by kernel_rfl) (fun _ _ _ h => h) (Or.inr ⟨by rfl, rfl⟩) (by assumption) ?_
            change wpAnyH _ _ _ _ _ _ _ (Act.put _ (some 69) _) _
            try simp only [Act.put, List.setIfInBounds_toArray, List.set_cons_zero, List.set_cons_succ]
            refine wpAnyH_take (i := 37) (v := undef) rfl (by kernel_rfl) (by kernel_rfl) (by kernel_rfl) (fun _ _ _ h => h) (Or.inr ⟨by rfl, rfl⟩) (by assumption) ?_
            change wpAnyH _ _ _ _ _ _ _ (Act.put _ (some 71) _) _
            try simp only [Act.put, List.setIfInBounds_toArray, List.set_cons_zero, List.set_cons_succ]
            refine wpAnyH_take (i := 36) (v := undef) rfl (by kernel_rfl) (by kernel_rfl) (by kernel_rfl) (fun _ _ _ h => h) (Or.inr ⟨by rfl, rfl⟩) (by assumption) ?_
            change wpAnyH _ _ _ _ _ _ _ (Act.put _ (some 70) _) _
            try simp only [Act.put, List.setIfInBounds_toArray, List.set_cons_zero, List.set_cons_succ]
            refine wpAnyH_take (i := 38) (v := undef) rfl (by kernel_rfl) (by kernel_rfl) (by kernel_rfl) (fun _ _ _ h => h) (Or.inr ⟨by rfl, rfl⟩) (by assumption) ?_
            change wpAnyH _ _ _ _ _ _ _ (Act.put _ (some 72) _) _
            try simp only [Act.put, List.setIfInBounds_toArray, List.set_cons_zero, List.set_cons_succ]
            refine wpAnyH_take (i := 39) (v := ?_) rfl (by kernel_rfl) (by kernel_rfl) (by kernel_rfl) (fun _ _ _ h => h) (Or.inl ⟨by rfl, ?_⟩) (by assumption) ?_
            rotate_left
            · (intro w' hSw; (try dsimp only at hSw); go_simp; try (with_reducible rfl))
            change wpAnyH _ _ _ _ _ _ _ (Act.put _ (some 73) _) _
            try simp only [Act.put, List.setIfInBounds_toArray, List.set_cons_zero, List.set_cons_succ]
            refine wpAnyH_done (by kernel_rfl) ?_ _
            go_wp2
            go_ret
            exact ⟨end_bool HBAD.out.symm, ext_trans hBw (by repeat' (first | (with_reducible exact Below.refl _ _) | (with_reducible refine ext_trans ?_ hb5) | (with_reducible refine ext_trans ?_ hb4) | (with_reducible refine ext_trans ?_ hb3) | (with_reducible refine Below.drew ?_)))⟩
          have e1 : (nm.toList == []) = false := by have h9 := ba_ne he; rwa [Lib.toList_data ⟨#[]⟩] at h9
          have e2 : nm.toList.isEmpty = false := by cases hz : nm.toList with | nil => rw [hz] at e1; cases e1 | cons a r => rfl
          have e3 : ¬ nm.toList = [] := by intro hz; rw [hz] at e1; cases e1
          have HE := hid he
          clear he
          obtain ⟨q3, hq3⟩ : ∃ z, okText nm = z := ⟨_, rfl⟩
          have C3 := hid (fun (w : World) => specTextOk nm w)
          have HQ3 := hid hq3
          rw [hq3] at C3
          clear hq3
          cases q3 with
          | false =>
            have HBAD := hid (worldOk_files (filesFine_bad hlt (by rw [HFF.out]; simp [fileFine, HQ3.out])))
            go_wp2_with fail
            refine wp_region_held_drew (S := fun w' => w'.cell? ⟨w.heap.size, 12, none⟩ = some (.slice (some ⟨b, off, none⟩) x.files.length c12) ∧ w'.cell? ⟨b, off + k * 2, none⟩ = some (.string nm) ∧ w'.cell? ⟨b, off + k * 2 + 1, none⟩ = some (.string tx)) (by kernel_rfl) ?_ (fun hHeld => ?_)
            · simp [*]
            refine wpAnyH_take (i := 0) (v := ?_) rfl (by kernel_rfl) (by kernel_rfl) (by kernel_rfl) (fun _ _ _ h => h) (Or.inl ⟨by rfl, ?_⟩) (by assumption) ?_
            rotate_left
            · (intro w' hSw; (try dsimp only at hSw); go_simp; try (with_reducible rfl))
            change wpAnyH _ _ _ _ _ _ _ (Act.put _ (some 34) _) _
            try simp only [Act.put, List.setIfInBounds_toArray, List.set_cons_zero, List.set_cons_succ]
            refine wpAnyH_take (i := 1) (v := ?_) rfl (by kernel_rfl) (by kernel_rfl) (by kernel_rfl) (fun _ _ _ h => h) (Or.inl ⟨by rfl, ?_⟩) (by assumption) ?_
            rotate_left
            · (intro w' hSw; (try dsimp only at hSw); go_simp; try (with_reducible rfl))
            change wpAnyH _ _ _ _ _ _ _ (Act.put _ (some 35) _) _
            try simp only [Act.put, List.setIfInBounds_toArray, List.set_cons_zero, List.set_cons_succ]
            refine wpAnyH_take (i := 2) (v := ?_) rfl (by kernel_rfl) (by kernel_rfl) (by kernel_rfl) (fun _ _ _ h => h) (Or.inl ⟨by rfl, ?_⟩) (by assumption) ?_
            rotate_left
            · (intro w' hSw; (try dsimp only at hSw); go_simp; try (with_reducible rfl))
            change wpAnyH _ _ _ _ _ _ _ (Act.put _ (some 36) _) _
            try simp only [Act.put, List.setIfInBounds_toArray, List.set_cons_zero, List.set_cons_succ]
            refine wpAnyH_take (i := 3) (v := ?_) rfl (by kernel_rfl) (by kernel_rfl) (by kernel_rfl) (fun _ _ _ h => h) (Or.inl ⟨by rfl, ?_⟩) (by assumption) ?_
            rotate_left
            · (intro w' hSw; (try dsimp only at hSw); go_simp; try (with_reducible rfl))
            change wpAnyH _ _ _ _ _ _ _ (Act.put _ (some 37) _) _
            try simp only [Act.put, List.setIfInBounds_toArray, List.set_cons_zero, List.set_cons_succ]
            refine wpAnyH_take (i := 4) (v := ?_) rfl (by kernel_rfl) (by kernel_rfl) (by kernel_rfl) (fun _ _ _ h => h) (Or.inl ⟨by rfl, ?_⟩) (by assumption) ?_
            rotate_left
            · (intro w' hSw; (try dsimp only at hSw); go_simp; try (with_reducible rfl))
            change wpAnyH _ _ _ _ _ _ _ (Act.put _ (some 38) _) _
            try simp only [Act.put, List.setIfInBounds_toArray, List.set_cons_zero, List.set_cons_succ]
            refine wpAnyH_take (i := 5) (v := ?_) rfl (by kernel_rfl) (by kernel_rfl) (by kernel_rfl) (fun _ _ _ h => h) (Or.inl ⟨by rfl, ?_⟩) (by assumption) ?_
            rotate_left
            · (intro w' hSw; (try dsimp only at hSw); go_simp; try (with_reducible rfl))
            change wpAnyH _ _ _ _ _ _ _ (Act.put _ (some 39) _) _
            try simp only [Act.put, List.setIfInBounds_toArray, List.set_cons_zero, List.set_cons_succ]
            refine wpAnyH_take (i := 6) (v := ?_) rfl (by kernel_rfl) (by kernel_rfl) (by kernel_rfl) (fun _ _ _ h => h) (Or.inl ⟨by rfl, ?_⟩) (by assumption) ?_
            rotate_left
            · (intro w' hSw; (try dsimp only at hSw); go_simp; try (with_reducible rfl))
            change wpAnyH _ _ _ _ _ _ _ (Act.put _ (some 40) _) _
            try simp only [Act.put, List.setIfInBounds_toArray, List.set_cons_zero, List.set_cons_succ]
            refine wpAnyH_take (i := 7) (v := ?_) rfl (by kernel_rfl) (by kernel_rfl) (by kernel_rfl) (fun _ _ _ h => h) (Or.inl ⟨by rfl, ?_⟩) (by assumption) ?_
            rotate_left
            · (intro w' hSw; (try dsimp only at hSw); go_simp; try (with_reducible rfl))
            change wpAnyH _ _ _ _ _ _ _ (Act.put _ (some 41) _) _
            try simp only [Act.put, List.setIfInBounds_toArray, List.set_cons_zero, List.set_cons_succ]
            refine wpAnyH_take (i := 8) (v := ?_) rfl (by kernel_rfl) (by kernel_rfl) (by kernel_rfl) (fun _ _ _ h => h) (Or.inl ⟨by rfl, ?_⟩) (by assumption) ?_
            rotate_left
            · (intro w' hSw; (try dsimp only at hSw); go_simp; try (with_reducible rfl))
            change wpAnyH _ _ _ _ _ _ _ (Act.put _ (some 42) _) _
            try simp only [Act.put, List.setIfInBounds_toArray, List.set_cons_zero, List.set_cons_succ]
            refine wpAnyH_take (i := 9) (v := ?_) rfl (by kernel_rfl) (by kernel_rfl) (by kernel_rfl) (fun _ _ _ h => h) (Or.inl ⟨by rfl, ?_⟩) (by assumption) ?_
            rotate_left
            · (intro w' hSw; (try dsimp only at hSw); go_simp; try (with_reducible rfl))
            change wpAnyH _ _ _ _ _ _ _ (Act.put _ (some 43) _) _
            try simp only [Act.put, List.setIfInBounds_toArray, List.set_cons_zero, List.set_cons_succ]
            refine wpAnyH_take (i := 10) (v := ?_) rfl (by kernel_rfl) (by kernel_rfl) (by kernel_rfl) (fun _ _ _ h => h) (Or.inl ⟨by rfl, ?_⟩) (by assumption) ?_
            rotate_left
            · (intro w' hSw; (try dsimp only at hSw); go_simp; try (with_reducible rfl))
            change wpAnyH _ _ _ _ _ _ _ (Act.put _ (some 44) _) _
            try simp only [Act.put, List.setIfInBounds_toArray, List.set_cons_zero, List.set_cons_succ]
            refine wpAnyH_take (i := 11) (v := ?_) rfl (by kernel_rfl) (by kernel_rfl) (by kernel_rfl) (fun _ _ _ h => h) (Or.inl ⟨by rfl, ?_⟩) (by assumption) ?_
            rotate_left
            · (intro w' hSw; (try dsimp only at hSw); go_simp; try (with_reducible rfl))
            change wpAnyH _ _ _ _ _ _ _ (Act.put _ (some 45) _) _
            try simp only [Act.put, List.setIfInBounds_toArray, List.set_cons_zero, List.set_cons_succ]
            refine wpAnyH_take (i := 12) (v := ?_) rfl (by kernel_rfl) (by kernel_rfl) (by kernel_rfl) (fun _ _ _ h => h) (Or.inl ⟨by rfl, ?_⟩) (by assumption) ?_
            rotate_left
            · (intro w' hSw; (try dsimp only at hSw); go_simp; try (with_reducible rfl))
            change wpAnyH _ _ _ _ _ _ _ (Act.put _ (some 46) _) _
            try simp only [Act.put, List.setIfInBounds_toArray, List.set_cons_zero, List.set_cons_succ]
            refine wpAnyH_take (i := 13) (v := ?_) rfl (by kernel_rfl) (by kernel_rfl) (by kernel_rfl) (fun _ _ _ h => h) (Or.inl ⟨by rfl, ?_⟩) (by assumption) ?_
            rotate_left
            · (intro w' hSw; (try dsimp only at hSw); go_simp; try (with_reducible rfl))
            change wpAnyH _ _ _ _ _ _ _ (Act.put _ (some 47) _) _
            try simp only [Act.put, List.setIfInBounds_toArray, List.set_cons_zero, List.set_cons_succ]
            refine wpAnyH_ready (rs := [14]) (by kernel_rfl) (by simp) ?_
            refine AllReadyH.cons (i := 14) rfl (fun K hK => ?_) AllReadyH.nil
            simp only [List.getElem_toArray, List.getElem_cons_succ, List.getElem_cons_zero]
            rw [if_pos (by rfl)]
            go_simp
            (go_at_call 15; refine (C3.out _).mono ?_; rintro e w3 ⟨rfl, hb3⟩; have hk3 := keeps_cells hb3; go_wp2_with fail)
            have hOld := hHeld
            clear hHeld
            refine hK.out _ _ ?_ (fun hHeld => ?_)
            · (try dsimp only); simp [*]
            clear hK K hOld
            try simp only [Act.put, List.setIfInBounds_toArray, List.set_cons_zero, List.set_cons_succ]
            refine wpAnyH_take (i := 15) (v := ?_) rfl (by kernel_rfl) (by kernel_rfl) (by kernel_rfl) (fun _ _ _ h => h) (Or.inl ⟨by rfl, ?_⟩) (by assumption) ?_
            rotate_left
            · (intro w' hSw; (try dsimp only at hSw); go_simp; try (with_reducible rfl))
            change wpAnyH _ _ _ _ _ _ _ (Act.put _ (some 49) _) _
            try simp only [Act.put, List.setIfInBounds_toArray, List.set_cons_zero, List.set_cons_succ]
            refine wpAnyH_take (i := 16) (v := ?_) rfl (by kernel_rfl) (by kernel_rfl) (by kernel_rfl) (fun _ _ _ h => h) (Or.inl ⟨by rfl, ?_⟩) (by assumption) ?_
            rotate_left
            · (intro w' hSw; (try dsimp only at hSw); go_simp; try (with_reducible rfl))
            change wpAnyH _ _ _ _ _ _ _ (Act.put _ (some 50) _) _
            try simp only [Act.put, List.setIfInBounds_toArray, List.set_cons_zero, List.set_cons_succ]
            refine wpAnyH_take (i := 17) (v := ?_) rfl (by kernel_rfl) (by kernel_rfl) (by kernel_rfl) (fun _ _ _ h => h) (Or.inl ⟨by rfl, ?_⟩) (by assumption) ?_
            rotate_left
            · (intro w' hSw; (try dsimp only at hSw); go_simp; try (with_reducible rfl))
            change wpAnyH _ _ _ _ _ _ _ (Act.put _ (some 51) _) _
            try simp only [Act.put, List.setIfInBounds_toArray, List.set_cons_zero, List.set_cons_succ]
            refine wpAnyH_take (i := 18) (v := undef) rfl (by kernel_rfl) (by kernel_rfl) (by kernel_rfl) (fun _ _ _ h => h) (Or.inr ⟨by rfl, rfl⟩) (by assumption) ?_
            change wpAnyH _ _ _ _ _ _ _ (Act.put _ (some 52) _) _
            try simp only [Act.put, List.setIfInBounds_toArray, List.set_cons_zero, List.set_cons_succ]
            refine wpAnyH_take (i := 19) (v := undef) rfl (by kernel_rfl) (by kernel_rfl) (by kernel_rfl) (fun _ _ _ h => h) (Or.inr ⟨by rfl, rfl⟩) (by assumption) ?_
            change wpAnyH _ _ _ _ _ _ _ (Act.put _ (some 53) _) _
            try simp only [Act.put, List.setIfInBounds_toArray, List.set_cons_zero, List.set_cons_succ]
            refine wpAnyH_take (i := 20) (v := undef) rfl (by kernel_rfl) (by kernel_rfl) (by kernel_rfl) (fun _ _ _ h => h) (Or.inr ⟨by rfl, rfl⟩) (by assumption) ?_
            change wpAnyH _ _ _ _ _ _ _ (Act.put _ (some 54) _) _
            try simp only [Act.put, List.setIfInBounds_toArray, List.set_cons_zero, List.set_cons_succ]
            refine wpAnyH_take (i := 21) (v := undef) rfl (by kernel_rfl) (by kernel_rfl) (by kernel_rfl) (fun _ _ _ h => h) (Or.inr ⟨by rfl, rfl⟩) (by assumption) ?_
            change wpAnyH _ _ _ _ _ _ _ (Act.put _ (some 55) _) _
            try simp only [Act.put, List.setIfInBounds_toArray, List.set_cons_zero, List.set_cons_succ]
            refine wpAnyH_take (i := 22) (v := undef) rfl (by kernel_rfl) (by kernel_rfl) (by kernel_rfl) (fun _ _ _ h => h) (Or.inr ⟨by rfl, rfl⟩) (by assumption) ?_
            change wpAnyH _ _ _ _ _ _ _ (Act.put _ (some 56) _) _
            try simp only [Act.put, List.setIfInBounds_toArray, List.set_cons_zero, List.set_cons_succ]
            refine wpAnyH_take (i := 23) (v := undef) rfl (by kernel_rfl) (by kernel_rfl) (by kernel_rfl) (fun _ _ _ h => h) (Or.inr ⟨by rfl, rfl⟩) (by assumption) ?_
            change wpAnyH _ _ _ _ _ _ _ (Act.put _ (some 57) _) _
            try simp only [Act.put, List.setIfInBounds_toArray, List.set_cons_zero, List.set_cons_succ]
            refine wpAnyH_take (i := 24) (v := undef) rfl (by kernel_rfl) (by kernel_rfl) (by kernel_rfl) (fun _ _ _ h => h) (Or.inr ⟨by rfl, rfl⟩) (by assumption) ?_
            change wpAnyH _ _ _ _ _ _ _ (Act.put _ (some 58) _) _
            try simp only [Act.put, List.setIfInBounds_toArray, List.set_cons_zero, List.set_cons_succ]
            refine wpAnyH_take (i := 25) (v := undef) rfl (by kernel_rfl) (by kernel_rfl) (by kernel_rfl) (fun _ _ _ h => h) (Or.inr ⟨by rfl, rfl⟩) (by assumption) ?_
            change wpAnyH _ _ _ _ _ _ _ (Act.put _ (some 59) _) _
            try simp only [Act.put, List.setIfInBounds_toArray, List.set_cons_zero, List.set_cons_succ]
            refine wpAnyH_take (i := 26) (v := ?_) rfl (by kernel_rfl) (by kernel_rfl) (by kernel_rfl) (fun _ _ _ h => h) (Or.inl ⟨by rfl, ?_⟩) (by assumption) ?_
            rotate_left
            · (intro w' hSw; (try dsimp only at hSw); go_simp; try (with_reducible rfl))
            change wpAnyH _ _ _ _ _ _ _ (Act.put _ (some 60) _) _
            try simp only [Act.put, List.setIfInBounds_toArray, List.set_cons_zero, List.set_cons_succ]
            refine wpAnyH_take (i := 27) (v := ?_) rfl (by kernel_rfl) (by kernel_rfl) (by kernel_rfl) (fun _ _ _ h => h) (Or.inl ⟨by rfl, ?_⟩) (by assumption) ?_
            rotate_left
            · (intro w' hSw; (try dsimp only at hSw); go_simp; try (with_reducible rfl))
            change wpAnyH _ _ _ _ _ _ _ (Act.put _ (some 61) _) _
            try simp only [Act.put, List.setIfInBounds_toArray, List.set_cons_zero, List.set_cons_succ]
            refine wpAnyH_take (i := 28) (v := undef) rfl (by kernel_rfl) (by kernel_rfl) (by kernel_rfl) (fun _ _ _ h => h) (Or.inr ⟨by rfl, rfl⟩) (by assumption) ?_
            change wpAnyH _ _ _ _ _ _ _ (Act.put _ (some 62) _) _
            try simp only [Act.put, List.setIfInBounds_toArray, List.set_cons_zero, List.set_cons_succ]
            refine wpAnyH_take (i := 29) (v := undef) rfl (by kernel_rfl) (by kernel_rfl) (by kernel_rfl) (fun _ _ _ h => h) (Or.inr ⟨by rfl, rfl⟩) (by assumption) ?_
            change wpAnyH _ _ _ _ _ _ _ (Act.put _ (some 63) _) _
            try simp only [Act.put, List.setIfInBounds_toArray, List.set_cons_zero, List.set_cons_succ]
            refine wpAnyH_take (i := 30) (v := undef) rfl (by kernel_rfl) (by kernel_rfl) (by kernel_rfl) (fun _ _ _ h => h) (Or.inr ⟨by rfl, rfl⟩) (by assumption) ?_
            change wpAnyH _ _ _ _ _ _ _ (Act.put _ (some 64) _) _
            try simp only [Act.put, List.setIfInBounds_toArray, List.set_cons_zero, List.set_cons_succ]
            refine wpAnyH_take (i := 31) (v := undef) rfl (by kernel_rfl) (by kernel_rfl) (by kernel_rfl) (fun _ _ _ h => h) (Or.inr ⟨by rfl, rfl⟩) (by assumption) ?_
            change wpAnyH _ _ _ _ _ _ _ (Act.put _ (some 65) _) _
            try simp only [Act.put, List.setIfInBounds_toArray, List.set_cons_zero, List.set_cons_succ]
            refine wpAnyH_take (i := 32) (v := undef) rfl (by kernel_rfl) (by kernel_rfl) (by kernel_rfl) (fun _ _ _ h => h) (Or.inr ⟨by rfl, rfl⟩) (by assumption) ?_
            change wpAnyH _ _ _ _ _ _ _ (Act.put _ (some 66) _) _
            try simp only [Act.put, List.setIfInBounds_toArray, List.set_cons_zero, List.set_cons_succ]
            refine wpAnyH_take (i := 33) (v := undef) rfl (by kernel_rfl) (by kernel_rfl) (by kernel_rfl) (fun _ _ _ h => h) (Or.inr ⟨by rfl, rfl⟩) (by assumption) ?_
            change wpAnyH _ _ _ _ _ _ _ (Act.put _ (some 67) _) _
            try simp only [Act.put, List.setIfInBounds_toArray, List.set_cons_zero, List.set_cons_succ]
            refine wpAnyH_take (i := 34) (v := undef) rfl (by kernel_rfl) (by kernel_rfl) (by kernel_rfl) (fun _ _ _ h => h) (Or.inr ⟨by rfl, rfl⟩) (by assumption) ?_
            change wpAnyH _ _ _ _ _ _ _ (Act.put _ (some 68) _) _
            try simp only [Act.put, List.setIfInBounds_toArray, List.set_cons_zero, List.set_cons_succ]
            refine wpAnyH_take (i := 35) (v := undef) rfl (by kernel_rfl) (by kernel_rfl) (by kernel_rfl) (fun _ _ _ h => h) (Or.inr ⟨by rfl, rfl⟩) (by assumption) ?_
            change wpAnyH _ _ _ _ _ _ _ (Act.put _ (some 69) _) _
            try simp only [Act.put, List.setIfInBounds_toArray, List.set_cons_zero, List.set_cons_succ]
            refine wpAnyH_take (i := 37) (v := undef) rfl (by kernel_rfl) (by kernel_rfl) (by kernel_rfl) (fun _ _ _ h => h) (Or.inr ⟨by rfl, rfl⟩) (by assumption) ?_
            change wpAnyH _ _ _ _ _ _ _ (Act.put _ (some 71) _) _
            try simp only [Act.put, List.setIfInBounds_toArray, List.set_cons_zero, List.set_cons_succ]
            refine wpAnyH_take (i := 36) (v := undef) rfl (by kernel_rfl) (by kernel_rfl) (by kernel_rfl) (fun _ _ _ h => h) (Or.inr ⟨by rfl, rfl⟩) (by assumption) ?_
            change wpAnyH _ _ _ _ _ _ _ (Act.put _ (some 70) _) _
            try simp only [Act.put, List.setIfInBounds_toArray, List.set_cons_zero, List.set_cons_succ]
            refine wpAnyH_take (i := 38) (v := undef) rfl (by kernel_rfl) (by kernel_rfl) (by kernel_rfl) (fun _ _ _ h => h) (Or.inr ⟨by rfl, rfl⟩) (by assumption) ?_
            change wpAnyH _ _ _ _ _ _ _ (Act.put _ (some 72) _) _
            try simp only [Act.put, List.setIfInBounds_toArray, List.set_cons_zero, List.set_cons_succ]
            refine wpAnyH_take (i := 39) (v := ?_) rfl (by kernel_rfl) (by kernel_rfl) (by kernel_rfl) (fun _ _ _ h => h) (Or.inl ⟨by rfl, ?_⟩) (by assumption) ?_
            rotate_left
            · (intro w' hSw; (try dsimp only at hSw); go_simp; try (with_reducible rfl))
            change wpAnyH _ _ _ _ _ _ _ (Act.put _ (some 73) _) _
            try simp only [Act.put, List.setIfInBounds_toArray, List.set_cons_zero, List.set_cons_succ]
            refine wpAnyH_done (by kernel_rfl) ?_ _
            go_wp2
            go_ret
            exact ⟨end_bool HBAD.out.symm, ext_trans hBw (by repeat' (first | (with_reducible exact Below.refl _ _) | (with_reducible refine ext_trans ?_ hb5) | (with_reducible refine ext_trans ?_ hb4) | (with_reducible refine ext_trans ?_ hb3) | (with_reducible refine Below.drew ?_)))⟩
          | true =>
            obtain ⟨q4, hq4⟩ : ∃ z, fileOk tx = z := ⟨_, rfl⟩
            have C4 := hid (fun (w : World) => specFileOk tx w)
            have HQ4 := hid hq4
            rw [hq4] at C4
            clear hq4
            cases q4 with
            | false =>
              have HBAD := hid (worldOk_files (filesFine_bad hlt (by rw [HFF.out]; simp [fileFine, HQ4.out])))
              go_wp2_with fail
              refine wp_region_held_drew (S := fun w' => w'.cell? ⟨w.heap.size, 12, none⟩ = some (.slice (some ⟨b, off, none⟩) x.files.length c12) ∧ w'.cell? ⟨b, off + k * 2, none⟩ = some (.string nm) ∧ w'.cell? ⟨b, off + k * 2 + 1, none⟩ = some (.string tx)) (by kernel_rfl) ?_ (fun hHeld => ?_)
              · simp [*]
              refine wpAnyH_take (i := 0) (v := ?_) rfl (by kernel_rfl) (by kernel_rfl) (by kernel_rfl) (fun _ _ _ h => h) (Or.inl ⟨by rfl, ?_⟩) (by assumption) ?_
              rotate_left
              · (intro w' hSw; (try dsimp only at hSw); go_simp; try (with_reducible rfl))
              change wpAnyH _ _ _ _ _ _ _ (Act.put _ (some 34) _) _
              try simp only [Act.put, List.setIfInBounds_toArray, List.set_cons_zero, List.set_cons_succ]
              refine wpAnyH_take (i := 1) (v := ?_) rfl (by kernel_rfl) (by kernel_rfl) (by kernel_rfl) (fun _ _ _ h => h) (Or.inl ⟨by rfl, ?_⟩) (by assumption) ?_
              rotate_left
              · (intro w' hSw; (try dsimp only at hSw); go_simp; try (with_reducible rfl))
              change wpAnyH _ _ _ _ _ _ _ (Act.put _ (some 35) _) _
              try simp only [Act.put, List.setIfInBounds_toArray, List.set_cons_zero, List.set_cons_succ]
              refine wpAnyH_take (i := 2) (v := ?_) rfl (by kernel_rfl) (by kernel_rfl) (by kernel_rfl) (fun _ _ _ h => h) (Or.inl ⟨by rfl, ?_⟩) (by assumption) ?_
              rotate_left
              · (intro w' hSw; (try dsimp only at hSw); go_simp; try (with_reducible rfl))
              change wpAnyH _ _ _ _ _ _ _ (Act.put _ (some 36) _) _
              try simp only [Act.put, List.setIfInBounds_toArray, List.set_cons_zero, List.set_cons_succ]
              refine wpAnyH_take (i := 3) (v := ?_) rfl (by kernel_rfl) (by kernel_rfl) (by kernel_rfl) (fun _ _ _ h => h) (Or.inl ⟨by rfl, ?_⟩) (by assumption) ?_
              rotate_left
              · (intro w' hSw; (try dsimp only at hSw); go_simp; try (with_reducible rfl))
              change wpAnyH _ _ _ _ _ _ _ (Act.put _ (some 37) _) _
              try simp only [Act.put, List.setIfInBounds_toArray, List.set_cons_zero, List.set_cons_succ]
              refine wpAnyH_take (i := 4) (v := ?_) rfl (by kernel_rfl) (by kernel_rfl) (by kernel_rfl) (fun _ _ _ h => h) (Or.inl ⟨by rfl, ?_⟩) (by assumption) ?_
              rotate_left
              · (intro w' hSw; (try dsimp only at hSw); go_simp; try (with_reducible rfl))
              change wpAnyH _ _ _ _ _ _ _ (Act.put _ (some 38) _) _
              try simp only [Act.put, List.setIfInBounds_toArray, List.set_cons_zero, List.set_cons_succ]
              refine wpAnyH_take (i := 5) (v := ?_) rfl (by kernel_rfl) (by kernel_rfl) (by kernel_rfl) (fun _ _ _ h => h) (Or.inl ⟨by rfl, ?_⟩) (by assumption) ?_
              rotate_left
              · (intro w' hSw; (try dsimp only at hSw); go_simp; try (with_reducible rfl))
              change wpAnyH _ _ _ _ _ _ _ (Act.put _ (some 39) _) _
              try simp only [Act.put, List.setIfInBounds_toArray, List.set_cons_zero, List.set_cons_succ]
              refine wpAnyH_take (i := 6) (v := ?_) rfl (by kernel_rfl) (by kernel_rfl) (by kernel_rfl) (fun _ _ _ h => h) (Or.inl ⟨by rfl, ?_⟩) (by assumption) ?_
              rotate_left
              · (intro w' hSw; (try dsimp only at hSw); go_simp; try (with_reducible rfl))
              change wpAnyH _ _ _ _ _ _ _ (Act.put _ (some 40) _) _
              try simp only [Act.put, List.setIfInBounds_toArray, List.set_cons_zero, List.set_cons_succ]
              refine wpAnyH_take (i := 7) (v := ?_) rfl (by kernel_rfl) (by kernel_rfl) (by kernel_rfl) (fun _ _ _ h => h) (Or.inl ⟨by rfl, ?_⟩) (by assumption) ?_
              rotate_left
              · (intro w' hSw; (try dsimp only at hSw); go_simp; try (with_reducible rfl))
              change wpAnyH _ _ _ _ _ _ _ (Act.put _ (some 41) _) _
              try simp only [Act.put, List.setIfInBounds_toArray, List.set_cons_zero, List.set_cons_succ]
              refine wpAnyH_take (i := 8) (v := ?_) rfl (by kernel_rfl) (by kernel_rfl) (by kernel_rfl) (fun _ _ _ h => h) (Or.inl ⟨by rfl, ?_⟩) (by assumption) ?_
              rotate_left
              · (intro w' hSw; (try dsimp only at hSw); go_simp; try (with_reducible rfl))
              change wpAnyH _ _ _ _ _ _ _ (Act.put _ (some 42) _) _
              try simp only [Act.put, List.setIfInBounds_toArray, List.set_cons_zero, List.set_cons_succ]
              refine wpAnyH_take (i := 9) (v := ?_) rfl (by kernel_rfl) (by kernel_rfl) (by kernel_rfl) (fun _ _ _ h => h) (Or.inl ⟨by rfl, ?_⟩) (by assumption) ?_
              rotate_left
              · (intro w' hSw; (try dsimp only at hSw); go_simp; try (with_reducible rfl))
              change wpAnyH _ _ _ _ _ _ _ (Act.put _ (some 43) _) _
              try simp only [Act.put, List.setIfInBounds_toArray, List.set_cons_zero, List.set_cons_succ]
              refine wpAnyH_take (i := 10) (v := ?_) rfl (by kernel_rfl) (by kernel_rfl) (by kernel_rfl) (fun _ _ _ h => h) (Or.inl ⟨by rfl, ?_⟩) (by assumption) ?_
              rotate_left
              · (intro w' hSw; (try dsimp only at hSw); go_simp; try (with_reducible rfl))
              change wpAnyH _ _ _ _ _ _ _ (Act.put _ (some 44) _) _
              try simp only [Act.put, List.setIfInBounds_toArray, List.set_cons_zero, List.set_cons_succ]
              refine wpAnyH_take (i := 11) (v := ?_) rfl (by kernel_rfl) (by kernel_rfl) (by kernel_rfl) (fun _ _ _ h => h) (Or.inl ⟨by rfl, ?_⟩) (by assumption) ?_
              rotate_left
              · (intro w' hSw; (try dsimp only at hSw); go_simp; try (with_reducible rfl))
              change wpAnyH _ _ _ _ _ _ _ (Act.put _ (some 45) _) _
              try simp only [Act.put, List.setIfInBounds_toArray, List.set_cons_zero, List.set_cons_succ]
              refine wpAnyH_take (i := 12) (v := ?_) rfl (by kernel_rfl) (by kernel_rfl) (by kernel_rfl) (fun _ _ _ h => h) (Or.inl ⟨by rfl, ?_⟩) (by assumption) ?_
              rotate_left
              · (intro w' hSw; (try dsimp only at hSw); go_simp; try (with_reducible rfl))
              change wpAnyH _ _ _ _ _ _ _ (Act.put _ (some 46) _) _
              try simp only [Act.put, List.setIfInBounds_toArray, List.set_cons_zero, List.set_cons_succ]
              refine wpAnyH_take (i := 13) (v := ?_) rfl (by kernel_rfl) (by kernel_rfl) (by kernel_rfl) (fun _ _ _ h => h) (Or.inl ⟨by rfl, ?_⟩) (by assumption) ?_
              rotate_left
              · (intro w' hSw; (try dsimp only at hSw); go_simp; try (with_reducible rfl))
              change wpAnyH _ _ _ _ _ _ _ (Act.put _ (some 47) _) _
              try simp only [Act.put, List.setIfInBounds_toArray, List.set_cons_zero, List.set_cons_succ]
              refine wpAnyH_ready (rs := [14]) (by kernel_rfl) (by simp) ?_
              refine AllReadyH.cons (i := 14) rfl (fun K hK => ?_) AllReadyH.nil
              simp only [List.getElem_toArray, List.getElem_cons_succ, List.getElem_cons_zero]
              rw [if_pos (by rfl)]
              go_simp
              (go_at_call 15; refine (C3.out _).mono ?_; rintro e w3 ⟨rfl, hb3⟩; have hk3 := keeps_cells hb3; go_wp2_with fail)
              have hOld := hHeld
              clear hHeld
              refine hK.out _ _ ?_ (fun hHeld => ?_)
              · (try dsimp only); simp [*]
              clear hK K hOld
              try simp only [Act.put, List.setIfInBounds_toArray, List.set_cons_zero, List.set_cons_succ]
              refine wpAnyH_take (i := 15) (v := ?_) rfl (by kernel_rfl) (by kernel_rfl) (by kernel_rfl) (fun _ _ _ h => h) (Or.inl ⟨by rfl, ?_⟩) (by assumption) ?_
              rotate_left
              · (intro w' hSw; (try dsimp only at hSw); go_simp; try (with_reducible rfl))
              change wpAnyH _ _ _ _ _ _ _ (Act.put _ (some 49) _) _
              try simp only [Act.put, List.setIfInBounds_toArray, List.set_cons_zero, List.set_cons_succ]
              refine wpAnyH_take (i := 16) (v := ?_) rfl (by kernel_rfl) (by kernel_rfl) (by kernel_rfl) (fun _ _ _ h => h) (Or.inl ⟨by rfl, ?_⟩) (by assumption) ?_
              rotate_left
              · (intro w' hSw; (try dsimp only at hSw); go_simp; try (with_reducible rfl))
              change wpAnyH _ _ _ _ _ _ _ (Act.put _ (some 50) _) _
              try simp only [Act.put, List.setIfInBounds_toArray, List.set_cons_zero, List.set_cons_succ]
              refine wpAnyH_take (i := 17) (v := ?_) rfl (by kernel_rfl) (by kernel_rfl) (by kernel_rfl) (fun _ _ _ h => h) (Or.inl ⟨by rfl, ?_⟩) (by assumption) ?_
              rotate_left
              · (intro w' hSw; (try dsimp only at hSw); go_simp; try (with_reducible rfl))
              change wpAnyH _ _ _ _ _ _ _ (Act.put _ (some 51) _) _
              try simp only [Act.put, List.setIfInBounds_toArray, List.set_cons_zero, List.set_cons_succ]
              refine wpAnyH_take (i := 18) (v := ?_) rfl (by kernel_rfl) (by kernel_rfl) (by kernel_rfl) (fun _ _ _ h => h) (Or.inl ⟨by rfl, ?_⟩) (by assumption) ?_
              rotate_left
              · (intro w' hSw; (try dsimp only at hSw); go_simp; try (with_reducible rfl))
              change wpAnyH _ _ _ _ _ _ _ (Act.put _ (some 52) _) _
              try simp only [Act.put, List.setIfInBounds_toArray, List.set_cons_zero, List.set_cons_succ]
              refine wpAnyH_take (i := 19) (v := ?_) rfl (by kernel_rfl) (by kernel_rfl) (by kernel_rfl) (fun _ _ _ h => h) (Or.inl ⟨by rfl, ?_⟩) (by assumption) ?_
              rotate_left
              · (intro w' hSw; (try dsimp only at hSw); go_simp; try (with_reducible rfl))
              change wpAnyH _ _ _ _ _ _ _ (Act.put _ (some 53) _) _
              try simp only [Act.put, List.setIfInBounds_toArray, List.set_cons_zero, List.set_cons_succ]
              refine wpAnyH_take (i := 20) (v := ?_) rfl (by kernel_rfl) (by kernel_rfl) (by kernel_rfl) (fun _ _ _ h => h) (Or.inl ⟨by rfl, ?_⟩) (by assumption) ?_
              rotate_left
              · (intro w' hSw; (try dsimp only at hSw); go_simp; try (with_reducible rfl))
              change wpAnyH _ _ _ _ _ _ _ (Act.put _ (some 54) _) _
              try simp only [Act.put, List.setIfInBounds_toArray, List.set_cons_zero, List.set_cons_succ]
              refine wpAnyH_take (i := 21) (v := ?_) rfl (by kernel_rfl) (by kernel_rfl) (by kernel_rfl) (fun _ _ _ h => h) (Or.inl ⟨by rfl, ?_⟩) (by assumption) ?_
              rotate_left
              · (intro w' hSw; (try dsimp only at hSw); go_simp; try (with_reducible rfl))
              change wpAnyH _ _ _ _ _ _ _ (Act.put _ (some 55) _) _
              try simp only [Act.put, List.setIfInBounds_toArray, List.set_cons_zero, List.set_cons_succ]
              refine wpAnyH_take (i := 22) (v := ?_) rfl (by kernel_rfl) (by kernel_rfl) (by kernel_rfl) (fun _ _ _ h => h) (Or.inl ⟨by rfl, ?_⟩) (by assumption) ?_
              rotate_left
              · (intro w' hSw; (try dsimp only at hSw); go_simp; try (with_reducible rfl))
              change wpAnyH _ _ _ _ _ _ _ (Act.put _ (some 56) _) _
              try simp only [Act.put, List.setIfInBounds_toArray, List.set_cons_zero, List.set_cons_succ]
              refine wpAnyH_take (i := 23) (v := ?_) rfl (by kernel_rfl) (by kernel_rfl) (by kernel_rfl) (fun _ _ _ h => h) (Or.inl ⟨by rfl, ?_⟩) (by assumption) ?_
              rotate_left
              · (intro w' hSw; (try dsimp only at hSw); go_simp; try (with_reducible rfl))
              change wpAnyH _ _ _ _ _ _ _ (Act.put _ (some 57) _) _
              try simp only [Act.put, List.setIfInBounds_toArray, List.set_cons_zero, List.set_cons_succ]
              refine wpAnyH_ready (rs := [24]) (by kernel_rfl) (by simp) ?_
              refine AllReadyH.cons (i := 24) rfl (fun K hK => ?_) AllReadyH.nil
              simp only [List.getElem_toArray, List.getElem_cons_succ, List.getElem_cons_zero]
              rw [if_pos (by rfl)]
              go_simp
              (go_at_call 21; refine (C4.out _).mono ?_; rintro e w4 ⟨rfl, hb4⟩; have hk4 := keeps_cells hb4; go_wp2_with fail)
              have hOld := hHeld
              clear hHeld
              refine hK.out _ _ ?_ (fun hHeld => ?_)
              · (try dsimp only); simp [*]
              clear hK K hOld
              try simp only [Act.put, List.setIfInBounds_toArray, List.set_cons_zero, List.set_cons_succ]
              refine wpAnyH_take (i := 25) (v := ?_) rfl (by kernel_rfl) (by kernel_rfl) (by kernel_rfl) (fun _ _ _ h => h) (Or.inl ⟨by rfl, ?_⟩) (by assumption) ?_
              rotate_left
              · (intro w' hSw; (try dsimp only at hSw); go_simp; try (with_reducible rfl))
              change wpAnyH _ _ _ _ _ _ _ (Act.put _ (some 59) _) _
              try simp only [Act.put, List.setIfInBounds_toArray, List.set_cons_zero, List.set_cons_succ]
              refine wpAnyH_take (i := 26) (v := ?_) rfl (by kernel_rfl) (by kernel_rfl) (by kernel_rfl) (fun _ _ _ h => h) (Or.inl ⟨by rfl, ?_⟩) (by assumption) ?_
              rotate_left
              · (intro w' hSw; (try dsimp only at hSw); go_simp; try (with_reducible rfl))
              change wpAnyH _ _ _ _ _ _ _ (Act.put _ (some 60) _) _
              try simp only [Act.put, List.setIfInBounds_toArray, List.set_cons_zero, List.set_cons_succ]
              refine wpAnyH_take (i := 27) (v := ?_) rfl (by kernel_rfl) (by kernel_rfl) (by kernel_rfl) (fun _ _ _ h => h) (Or.inl ⟨by rfl, ?_⟩) (by assumption) ?_
              rotate_left
              · (intro w' hSw; (try dsimp only at hSw); go_simp; try (with_reducible rfl))
              change wpAnyH _ _ _ _ _ _ _ (Act.put _ (some 61) _) _
              try simp only [Act.put, List.setIfInBounds_toArray, List.set_cons_zero, List.set_cons_succ]
              refine wpAnyH_take (i := 28) (v := undef) rfl (by kernel_rfl) (by kernel_rfl) (by kernel_rfl) (fun _ _ _ h => h) (Or.inr ⟨by rfl, rfl⟩) (by assumption) ?_
              change wpAnyH _ _ _ _ _ _ _ (Act.put _ (some 62) _) _
              try simp only [Act.put, List.setIfInBounds_toArray, List.set_cons_zero, List.set_cons_succ]
              refine wpAnyH_take (i := 29) (v := undef) rfl (by kernel_rfl) (by kernel_rfl) (by kernel_rfl) (fun _ _ _ h => h) (Or.inr ⟨by rfl, rfl⟩) (by assumption) ?_
              change wpAnyH _ _ _ _ _ _ _ (Act.put _ (some 63) _) _
              try simp only [Act.put, List.setIfInBounds_toArray, List.set_cons_zero, List.set_cons_succ]
              refine wpAnyH_take (i := 30) (v := undef) rfl (by kernel_rfl) (by kernel_rfl) (by kernel_rfl) (fun _ _ _ h => h) (Or.inr ⟨by rfl, rfl⟩) (by assumption) ?_
              change wpAnyH _ _ _ _ _ _ _ (Act.put _ (some 64) _) _
              try simp only [Act.put, List.setIfInBounds_toArray, List.set_cons_zero, List.set_cons_succ]
              refine wpAnyH_take (i := 31) (v := undef) rfl (by kernel_rfl) (by kernel_rfl) (by kernel_rfl) (fun _ _ _ h => h) (Or.inr ⟨by rfl, rfl⟩) (by assumption) ?_
              change wpAnyH _ _ _ _ _ _ _ (Act.put _ (some 65) _) _
              try simp only [Act.put, List.setIfInBounds_toArray, List.set_cons_zero, List.set_cons_succ]
              refine wpAnyH_take (i := 32) (v := undef) rfl (by kernel_rfl) (by kernel_rfl) (by kernel_rfl) (fun _ _ _ h => h) (Or.inr ⟨by rfl, rfl⟩) (by assumption) ?_
              change wpAnyH _ _ _ _ _ _ _ (Act.put _ (some 66) _) _
              try simp only [Act.put, List.setIfInBounds_toArray, List.set_cons_zero, List.set_cons_succ]
              refine wpAnyH_take (i := 33) (v := undef) rfl (by kernel_rfl) (by kernel_rfl) (by kernel_rfl) (fun _ _ _ h => h) (Or.inr ⟨by rfl, rfl⟩) (by assumption) ?_
              change wpAnyH _ _ _ _ _ _ _ (Act.put _ (some 67) _) _
              try simp only [Act.put, List.setIfInBounds_toArray, List.set_cons_zero, List.set_cons_succ]
              refine wpAnyH_take (i := 34) (v := undef) rfl (by kernel_rfl) (by kernel_rfl) (by kernel_rfl) (fun _ _ _ h => h) (Or.inr ⟨by rfl, rfl⟩) (by assumption) ?_
              change wpAnyH _ _ _ _ _ _ _ (Act.put _ (some 68) _) _
              try simp only [Act.put, List.setIfInBounds_toArray, List.set_cons_zero, List.set_cons_succ]
              refine wpAnyH_take (i := 35) (v := undef) rfl (by kernel_rfl) (by kernel_rfl) (by kernel_rfl) (fun _ _ _ h => h) (Or.inr ⟨by rfl, rfl⟩) (by assumption) ?_
              change wpAnyH _ _ _ _ _ _ _ (Act.put _ (some 69) _) _
              try simp only [Act.put, List.setIfInBounds_toArray, List.set_cons_zero, List.set_cons_succ]
              refine wpAnyH_take (i := 37) (v := undef) rfl (by kernel_rfl) (by kernel_rfl) (by kernel_rfl) (fun _ _ _ h => h) (Or.inr ⟨by rfl, rfl⟩) (by assumption) ?_
              change wpAnyH _ _ _ _ _ _ _ (Act.put _ (some 71) _) _
              try simp only [Act.put, List.setIfInBounds_toArray, List.set_cons_zero, List.set_cons_succ]
              refine wpAnyH_take (i := 36) (v := undef) rfl (by kernel_rfl) (by kernel_rfl) (by kernel_rfl) (fun _ _ _ h => h) (Or.inr ⟨by rfl, rfl⟩) (by assumption) ?_
              change wpAnyH _ _ _ _ _ _ _ (Act.put _ (some 70) _) _
              try simp only [Act.put, List.setIfInBounds_toArray, List.set_cons_zero, List.set_cons_succ]
              refine wpAnyH_take (i := 38) (v := undef) rfl (by kernel_rfl) (by kernel_rfl) (by kernel_rfl) (fun _ _ _ h => h) (Or.inr ⟨by rfl, rfl⟩) (by assumption) ?_
              change wpAnyH _ _ _ _ _ _ _ (Act.put _ (some 72) _) _
              try simp only [Act.put, List.setIfInBounds_toArray, List.set_cons_zero, List.set_cons_succ]
              refine wpAnyH_take (i := 39) (v := ?_) rfl (by kernel_rfl) (by kernel_rfl) (by kernel_rfl) (fun _ _ _ h => h) (Or.inl ⟨by rfl, ?_⟩) (by assumption) ?_
              rotate_left
              · (intro w' hSw; (try dsimp only at hSw); go_simp; try (with_reducible rfl))
              change wpAnyH _ _ _ _ _ _ _ (Act.put _ (some 73) _) _
              try simp only [Act.put, List.setIfInBounds_toArray, List.set_cons_zero, List.set_cons_succ]
              refine wpAnyH_done (by kernel_rfl) ?_ _
              go_wp2
              go_ret
              exact ⟨end_bool HBAD.out.symm, ext_trans hBw (by repeat' (first | (with_reducible exact Below.refl _ _) | (with_reducible refine ext_trans ?_ hb5) | (with_reducible refine ext_trans ?_ hb4) | (with_reducible refine ext_trans ?_ hb3) | (with_reducible refine Below.drew ?_)))⟩
            | true =>
              have C5 := hid (fun (w : World) (h : Rd.rd (Old w) w [.slice (some ⟨b, off, none⟩) x.files.length c12] x.files) => specFirst nm w h hl12n)
              obtain ⟨q5, hq5⟩ : ∃ z, ((x.files.take k).any fun g => decide (g.name = nm)) = z := ⟨_, rfl⟩
              have HQ5 := hid hq5
              clear hq5
              cases q5 with
              | true =>
                have HBAD := hid (worldOk_files (filesFine_bad hlt (by rw [HFF.out]; simp only [fileFine, HQ5.out]; simp)))
                have hne := idx_dup hlt HQ5.out
                obtain ⟨z, hz⟩ : ∃ z, idxP (fun f : File => decide (f.name = nm)) x.files = z := ⟨_, rfl⟩
                rw [hz] at C5 hne
                have z1 : (z == (k : Int)) = false := by rw [beq_eq_false_iff_ne]; exact hne
                have z2 : (z != (k : Int)) = true := by rw [bne_iff_ne]; exact hne
                clear hz
                go_wp2_with fail
                refine wp_region_held_drew (S := fun w' => w'.cell? ⟨w.heap.size, 12, none⟩ = some (.slice (some ⟨b, off, none⟩) x.files.length c12) ∧ w'.cell? ⟨b, off + k * 2, none⟩ = some (.string nm) ∧ w'.cell? ⟨b, off + k * 2 + 1, none⟩ = some (.string tx)) (by kernel_rfl) ?_ (fun hHeld => ?_)
                · simp [*]
                refine wpAnyH_take (i := 0) (v := ?_) rfl (by kernel_rfl) (by kernel_rfl) (by kernel_rfl) (fun _ _ _ h => h) (Or.inl ⟨by rfl, ?_⟩) (by assumption) ?_
                rotate_left
                · (intro w' hSw; (try dsimp only at hSw); go_simp; try (with_reducible rfl))
                change wpAnyH _ _ _ _ _ _ _ (Act.put _ (some 34) _) _
                try simp only [Act.put, List.setIfInBounds_toArray, List.set_cons_zero, List.set_cons_succ]
                refine wpAnyH_take (i := 1) (v := ?_) rfl (by kernel_rfl) (by kernel_rfl) (by kernel_rfl) (fun _ _ _ h => h) (Or.inl ⟨by rfl, ?_⟩) (by assumption) ?_
                rotate_left
                · (intro w' hSw; (try dsimp only at hSw); go_simp; try (with_reducible rfl))
                change wpAnyH _ _ _ _ _ _ _ (Act.put _ (some 35) _) _
                try simp only [Act.put, List.setIfInBounds_toArray, List.set_cons_zero, List.set_cons_succ]
                refine wpAnyH_take (i := 2) (v := ?_) rfl (by kernel_rfl) (by kernel_rfl) (by kernel_rfl) (fun _ _ _ h => h) (Or.inl ⟨by rfl, ?_⟩) (by assumption) ?_
                rotate_left
                · (intro w' hSw; (try dsimp only at hSw); go_simp; try (with_reducible rfl))
                change wpAnyH _ _ _ _ _ _ _ (Act.put _ (some 36) _) _
                try simp only [Act.put, List.setIfInBounds_toArray, List.set_cons_zero, List.set_cons_succ]
                refine wpAnyH_take (i := 3) (v := ?_) rfl (by kernel_rfl) (by kernel_rfl) (by kernel_rfl) (fun _ _ _ h => h) (Or.inl ⟨by rfl, ?_⟩) (by assumption) ?_
                rotate_left
                · (intro w' hSw; (try dsimp only at hSw); go_simp; try (with_reducible rfl))
                change wpAnyH _ _ _ _ _ _ _ (Act.put _ (some 37) _) _
                try simp only [Act.put, List.setIfInBounds_toArray, List.set_cons_zero, List.set_cons_succ]
                refine wpAnyH_take (i := 4) (v := ?_) rfl (by kernel_rfl) (by kernel_rfl) (by kernel_rfl) (fun _ _ _ h => h) (Or.inl ⟨by rfl, ?_⟩) (by assumption) ?_
                rotate_left
                · (intro w' hSw; (try dsimp only at hSw); go_simp; try (with_reducible rfl))
                change wpAnyH _ _ _ _ _ _ _ (Act.put _ (some 38) _) _
                try simp only [Act.put, List.setIfInBounds_toArray, List.set_cons_zero, List.set_cons_succ]
                refine wpAnyH_take (i := 5) (v := ?_) rfl (by kernel_rfl) (by kernel_rfl) (by kernel_rfl) (fun _ _ _ h => h) (Or.inl ⟨by rfl, ?_⟩) (by assumption) ?_
                rotate_left
                · (intro w' hSw; (try dsimp only at hSw); go_simp; try (with_reducible rfl))
                change wpAnyH _ _ _ _ _ _ _ (Act.put _ (some 39) _) _
                try simp only [Act.put, List.setIfInBounds_toArray, List.set_cons_zero, List.set_cons_succ]
                refine wpAnyH_take (i := 6) (v := ?_) rfl (by kernel_rfl) (by kernel_rfl) (by kernel_rfl) (fun _ _ _ h => h) (Or.inl ⟨by rfl, ?_⟩) (by assumption) ?_
                rotate_left
                · (intro w' hSw; (try dsimp only at hSw); go_simp; try (with_reducible rfl))
                change wpAnyH _ _ _ _ _ _ _ (Act.put _ (some 40) _) _
                try simp only [Act.put, List.setIfInBounds_toArray, List.set_cons_zero, List.set_cons_succ]
                refine wpAnyH_take (i := 7) (v := ?_) rfl (by kernel_rfl) (by kernel_rfl) (by kernel_rfl) (fun _ _ _ h => h) (Or.inl ⟨by rfl, ?_⟩) (by assumption) ?_
                rotate_left
                · (intro w' hSw; (try dsimp only at hSw); go_simp; try (with_reducible rfl))
                change wpAnyH _ _ _ _ _ _ _ (Act.put _ (some 41) _) _
                try simp only [Act.put, List.setIfInBounds_toArray, List.set_cons_zero, List.set_cons_succ]
                refine wpAnyH_take (i := 8) (v := ?_) rfl (by kernel_rfl) (by kernel_rfl) (by kernel_rfl) (fun _ _ _ h => h) (Or.inl ⟨by rfl, ?_⟩) (by assumption) ?_
                rotate_left
                · (intro w' hSw; (try dsimp only at hSw); go_simp; try (with_reducible rfl))
                change wpAnyH _ _ _ _ _ _ _ (Act.put _ (some 42) _) _
                try simp only [Act.put, List.setIfInBounds_toArray, List.set_cons_zero, List.set_cons_succ]
                refine wpAnyH_take (i := 9) (v := ?_) rfl (by kernel_rfl) (by kernel_rfl) (by kernel_rfl) (fun _ _ _ h => h) (Or.inl ⟨by rfl, ?_⟩) (by assumption) ?_
                rotate_left
                · (intro w' hSw; (try dsimp only at hSw); go_simp; try (with_reducible rfl))
                change wpAnyH _ _ _ _ _ _ _ (Act.put _ (some 43) _) _
                try simp only [Act.put, List.setIfInBounds_toArray, List.set_cons_zero, List.set_cons_succ]
                refine wpAnyH_take (i := 10) (v := ?_) rfl (by kernel_rfl) (by kernel_rfl) (by kernel_rfl) (fun _ _ _ h => h) (Or.inl ⟨by rfl, ?_⟩) (by assumption) ?_
                rotate_left
                · (intro w' hSw; (try dsimp only at hSw); go_simp; try (with_reducible rfl))
                change wpAnyH _ _ _ _ _ _ _ (Act.put _ (some 44) _) _
                try simp only [Act.put, List.setIfInBounds_toArray, List.set_cons_zero, List.set_cons_succ]
                refine wpAnyH_take (i := 11) (v := ?_) rfl (by kernel_rfl) (by kernel_rfl) (by kernel_rfl) (fun _ _ _ h => h) (Or.inl ⟨by rfl, ?_⟩) (by assumption) ?_
                rotate_left
                · (intro w' hSw; (try dsimp only at hSw); go_simp; try (with_reducible rfl))
                change wpAnyH _ _ _ _ _ _ _ (Act.put _ (some 45) _) _
                try simp only [Act.put, List.setIfInBounds_toArray, List.set_cons_zero, List.set_cons_succ]
                refine wpAnyH_take (i := 12) (v := ?_) rfl (by kernel_rfl) (by kernel_rfl) (by kernel_rfl) (fun _ _ _ h => h) (Or.inl ⟨by rfl, ?_⟩) (by assumption) ?_
                rotate_left
                · (intro w' hSw; (try dsimp only at hSw); go_simp; try (with_reducible rfl))
                change wpAnyH _ _ _ _ _ _ _ (Act.put _ (some 46) _) _
                try simp only [Act.put, List.setIfInBounds_toArray, List.set_cons_zero, List.set_cons_succ]
                refine wpAnyH_take (i := 13) (v := ?_) rfl (by kernel_rfl) (by kernel_rfl) (by kernel_rfl) (fun _ _ _ h => h) (Or.inl ⟨by rfl, ?_⟩) (by assumption) ?_
                rotate_left
                · (intro w' hSw; (try dsimp only at hSw); go_simp; try (with_reducible rfl))
                change wpAnyH _ _ _ _ _ _ _ (Act.put _ (some 47) _) _
                try simp only [Act.put, List.setIfInBounds_toArray, List.set_cons_zero, List.set_cons_succ]
                refine wpAnyH_ready (rs := [14]) (by kernel_rfl) (by simp) ?_
                refine AllReadyH.cons (i := 14) rfl (fun K hK => ?_) AllReadyH.nil
                simp only [List.getElem_toArray, List.getElem_cons_succ, List.getElem_cons_zero]
                rw [if_pos (by rfl)]
                go_simp
                (go_at_call 15; refine (C3.out _).mono ?_; rintro e w3 ⟨rfl, hb3⟩; have hk3 := keeps_cells hb3; go_wp2_with fail)
                have hOld := hHeld
                clear hHeld
                refine hK.out _ _ ?_ (fun hHeld => ?_)
                · (try dsimp only); simp [*]
                clear hK K hOld
                try simp only [Act.put, List.setIfInBounds_toArray, List.set_cons_zero, List.set_cons_succ]
                refine wpAnyH_take (i := 15) (v := ?_) rfl (by kernel_rfl) (by kernel_rfl) (by kernel_rfl) (fun _ _ _ h => h) (Or.inl ⟨by rfl, ?_⟩) (by assumption) ?_
                rotate_left
                · (intro w' hSw; (try dsimp only at hSw); go_simp; try (with_reducible rfl))
                change wpAnyH _ _ _ _ _ _ _ (Act.put _ (some 49) _) _
                try simp only [Act.put, List.setIfInBounds_toArray, List.set_cons_zero, List.set_cons_succ]
                refine wpAnyH_take (i := 16) (v := ?_) rfl (by kernel_rfl) (by kernel_rfl) (by kernel_rfl) (fun _ _ _ h => h) (Or.inl ⟨by rfl, ?_⟩) (by assumption) ?_
                rotate_left
                · (intro w' hSw; (try dsimp only at hSw); go_simp; try (with_reducible rfl))
                change wpAnyH _ _ _ _ _ _ _ (Act.put _ (some 50) _) _
                try simp only [Act.put, List.setIfInBounds_toArray, List.set_cons_zero, List.set_cons_succ]
                refine wpAnyH_take (i := 17) (v := ?_) rfl (by kernel_rfl) (by kernel_rfl) (by kernel_rfl) (fun _ _ _ h => h) (Or.inl ⟨by rfl, ?_⟩) (by assumption) ?_
                rotate_left
                · (intro w' hSw; (try dsimp only at hSw); go_simp; try (with_reducible rfl))
                change wpAnyH _ _ _ _ _ _ _ (Act.put _ (some 51) _) _
                try simp only [Act.put, List.setIfInBounds_toArray, List.set_cons_zero, List.set_cons_succ]
                refine wpAnyH_take (i := 18) (v := ?_) rfl (by kernel_rfl) (by kernel_rfl) (by kernel_rfl) (fun _ _ _ h => h) (Or.inl ⟨by rfl, ?_⟩) (by assumption) ?_
                rotate_left
                · (intro w' hSw; (try dsimp only at hSw); go_simp; try (with_reducible rfl))
                change wpAnyH _ _ _ _ _ _ _ (Act.put _ (some 52) _) _
                try simp only [Act.put, List.setIfInBounds_toArray, List.set_cons_zero, List.set_cons_succ]
                refine wpAnyH_take (i := 19) (v := ?_) rfl (by kernel_rfl) (by kernel_rfl) (by kernel_rfl) (fun _ _ _ h => h) (Or.inl ⟨by rfl, ?_⟩) (by assumption) ?_
                rotate_left
                · (intro w' hSw; (try dsimp only at hSw); go_simp; try (with_reducible rfl))
                change wpAnyH _ _ _ _ _ _ _ (Act.put _ (some 53) _) _
                try simp only [Act.put, List.setIfInBounds_toArray, List.set_cons_zero, List.set_cons_succ]
                refine wpAnyH_take (i := 20) (v := ?_) rfl (by kernel_rfl) (by kernel_rfl) (by kernel_rfl) (fun _ _ _ h => h) (Or.inl ⟨by rfl, ?_⟩) (by assumption) ?_
                rotate_left
                · (intro w' hSw; (try dsimp only at hSw); go_simp; try (with_reducible rfl))
                change wpAnyH _ _ _ _ _ _ _ (Act.put _ (some 54) _) _
                try simp only [Act.put, List.setIfInBounds_toArray, List.set_cons_zero, List.set_cons_succ]
                refine wpAnyH_take (i := 21) (v := ?_) rfl (by kernel_rfl) (by kernel_rfl) (by kernel_rfl) (fun _ _ _ h => h) (Or.inl ⟨by rfl, ?_⟩) (by assumption) ?_
                rotate_left
                · (intro w' hSw; (try dsimp only at hSw); go_simp; try (with_reducible rfl))
                change wpAnyH _ _ _ _ _ _ _ (Act.put _ (some 55) _) _
                try simp only [Act.put, List.setIfInBounds_toArray, List.set_cons_zero, List.set_cons_succ]
                refine wpAnyH_take (i := 22) (v := ?_) rfl (by kernel_rfl) (by kernel_rfl) (by kernel_rfl) (fun _ _ _ h => h) (Or.inl ⟨by rfl, ?_⟩) (by assumption) ?_
                rotate_left
                · (intro w' hSw; (try dsimp only at hSw); go_simp; try (with_reducible rfl))
                change wpAnyH _ _ _ _ _ _ _ (Act.put _ (some 56) _) _
                try simp only [Act.put, List.setIfInBounds_toArray, List.set_cons_zero, List.set_cons_succ]
                refine wpAnyH_take (i := 23) (v := ?_) rfl (by kernel_rfl) (by kernel_rfl) (by kernel_rfl) (fun _ _ _ h => h) (Or.inl ⟨by rfl, ?_⟩) (by assumption) ?_
                rotate_left
                · (intro w' hSw; (try dsimp only at hSw); go_simp; try (with_reducible rfl))
                change wpAnyH _ _ _ _ _ _ _ (Act.put _ (some 57) _) _
                try simp only [Act.put, List.setIfInBounds_toArray, List.set_cons_zero, List.set_cons_succ]
                refine wpAnyH_ready (rs := [24]) (by kernel_rfl) (by simp) ?_
                refine AllReadyH.cons (i := 24) rfl (fun K hK => ?_) AllReadyH.nil
                simp only [List.getElem_toArray, List.getElem_cons_succ, List.getElem_cons_zero]
                rw [if_pos (by rfl)]
                go_simp
                (go_at_call 21; refine (C4.out _).mono ?_; rintro e w4 ⟨rfl, hb4⟩; have hk4 := keeps_cells hb4; go_wp2_with fail)
                have hOld := hHeld
                clear hHeld
                refine hK.out _ _ ?_ (fun hHeld => ?_)
                · (try dsimp only); simp [*]
                clear hK K hOld
                try simp only [Act.put, List.setIfInBounds_toArray, List.set_cons_zero, List.set_cons_succ]
                refine wpAnyH_take (i := 25) (v := ?_) rfl (by kernel_rfl) (by kernel_rfl) (by kernel_rfl) (fun _ _ _ h => h) (Or.inl ⟨by rfl, ?_⟩) (by assumption) ?_
                rotate_left
                · (intro w' hSw; (try dsimp only at hSw); go_simp; try (with_reducible rfl))
                change wpAnyH _ _ _ _ _ _ _ (Act.put _ (some 59) _) _
                try simp only [Act.put, List.setIfInBounds_toArray, List.set_cons_zero, List.set_cons_succ]
                refine wpAnyH_take (i := 26) (v := ?_) rfl (by kernel_rfl) (by kernel_rfl) (by kernel_rfl) (fun _ _ _ h => h) (Or.inl ⟨by rfl, ?_⟩) (by assumption) ?_
                rotate_left
                · (intro w' hSw; (try dsimp only at hSw); go_simp; try (with_reducible rfl))
                change wpAnyH _ _ _ _ _ _ _ (Act.put _ (some 60) _) _
                try simp only [Act.put, List.setIfInBounds_toArray, List.set_cons_zero, List.set_cons_succ]
                refine wpAnyH_take (i := 27) (v := ?_) rfl (by kernel_rfl) (by kernel_rfl) (by kernel_rfl) (fun _ _ _ h => h) (Or.inl ⟨by rfl, ?_⟩) (by assumption) ?_
                rotate_left
                · (intro w' hSw; (try dsimp only at hSw); go_simp; try (with_reducible rfl))
                change wpAnyH _ _ _ _ _ _ _ (Act.put _ (some 61) _) _
                try simp only [Act.put, List.setIfInBounds_toArray, List.set_cons_zero, List.set_cons_succ]
                refine wpAnyH_take (i := 28) (v := ?_) rfl (by kernel_rfl) (by kernel_rfl) (by kernel_rfl) (fun _ _ _ h => h) (Or.inl ⟨by rfl, ?_⟩) (by assumption) ?_
                rotate_left
                · (intro w' hSw; (try dsimp only at hSw); go_simp; try (with_reducible rfl))
                change wpAnyH _ _ _ _ _ _ _ (Act.put _ (some 62) _) _
                try simp only [Act.put, List.setIfInBounds_toArray, List.set_cons_zero, List.set_cons_succ]
                refine wpAnyH_take (i := 29) (v := ?_) rfl (by kernel_rfl) (by kernel_rfl) (by kernel_rfl) (fun _ _ _ h => h) (Or.inl ⟨by rfl, ?_⟩) (by assumption) ?_
                rotate_left
                · (intro w' hSw; (try dsimp only at hSw); go_simp; try (with_reducible rfl))
                change wpAnyH _ _ _ _ _ _ _ (Act.put _ (some 63) _) _
                try simp only [Act.put, List.setIfInBounds_toArray, List.set_cons_zero, List.set_cons_succ]
                refine wpAnyH_take (i := 30) (v := ?_) rfl (by kernel_rfl) (by kernel_rfl) (by kernel_rfl) (fun _ _ _ h => h) (Or.inl ⟨by rfl, ?_⟩) (by assumption) ?_
                rotate_left
                · (intro w' hSw; (try dsimp only at hSw); go_simp; try (with_reducible rfl))
                change wpAnyH _ _ _ _ _ _ _ (Act.put _ (some 64) _) _
                try simp only [Act.put, List.setIfInBounds_toArray, List.set_cons_zero, List.set_cons_succ]
                refine wpAnyH_take (i := 31) (v := ?_) rfl (by kernel_rfl) (by kernel_rfl) (by kernel_rfl) (fun _ _ _ h => h) (Or.inl ⟨by rfl, ?_⟩) (by assumption) ?_
                rotate_left
                · (intro w' hSw; (try dsimp only at hSw); go_simp; try (with_reducible rfl))
                change wpAnyH _ _ _ _ _ _ _ (Act.put _ (some 65) _) _
                try simp only [Act.put, List.setIfInBounds_toArray, List.set_cons_zero, List.set_cons_succ]
                refine wpAnyH_take (i := 32) (v := ?_) rfl (by kernel_rfl) (by kernel_rfl) (by kernel_rfl) (fun _ _ _ h => h) (Or.inl ⟨by rfl, ?_⟩) (by assumption) ?_
                rotate_left
                · (intro w' hSw; (try dsimp only at hSw); go_simp; try (with_reducible rfl))
                change wpAnyH _ _ _ _ _ _ _ (Act.put _ (some 66) _) _
                try simp only [Act.put, List.setIfInBounds_toArray, List.set_cons_zero, List.set_cons_succ]
                refine wpAnyH_take (i := 33) (v := ?_) rfl (by kernel_rfl) (by kernel_rfl) (by kernel_rfl) (fun _ _ _ h => h) (Or.inl ⟨by rfl, ?_⟩) (by assumption) ?_
                rotate_left
                · (intro w' hSw; (try dsimp only at hSw); go_simp; try (with_reducible rfl))
                change wpAnyH _ _ _ _ _ _ _ (Act.put _ (some 67) _) _
                try simp only [Act.put, List.setIfInBounds_toArray, List.set_cons_zero, List.set_cons_succ]
                refine wpAnyH_take (i := 34) (v := ?_) rfl (by kernel_rfl) (by kernel_rfl) (by kernel_rfl) (fun _ _ _ h => h) (Or.inl ⟨by rfl, ?_⟩) (by assumption) ?_
                rotate_left
                · (intro w' hSw; (try dsimp only at hSw); go_simp; try (with_reducible rfl))
                change wpAnyH _ _ _ _ _ _ _ (Act.put _ (some 68) _) _
                try simp only [Act.put, List.setIfInBounds_toArray, List.set_cons_zero, List.set_cons_succ]
                refine wpAnyH_take (i := 35) (v := ?_) rfl (by kernel_rfl) (by kernel_rfl) (by kernel_rfl) (fun _ _ _ h => h) (Or.inl ⟨by rfl, ?_⟩) (by assumption) ?_
                rotate_left
                · (intro w' hSw; (try dsimp only at hSw); go_simp; try (with_reducible rfl))
                change wpAnyH _ _ _ _ _ _ _ (Act.put _ (some 69) _) _
                try simp only [Act.put, List.setIfInBounds_toArray, List.set_cons_zero, List.set_cons_succ]
                refine wpAnyH_take (i := 37) (v := ?_) rfl (by kernel_rfl) (by kernel_rfl) (by kernel_rfl) (fun _ _ _ h => h) (Or.inl ⟨by rfl, ?_⟩) (by assumption) ?_
                rotate_left
                · (intro w' hSw; (try dsimp only at hSw); go_simp; try (with_reducible rfl))
                change wpAnyH _ _ _ _ _ _ _ (Act.put _ (some 71) _) _
                try simp only [Act.put, List.setIfInBounds_toArray, List.set_cons_zero, List.set_cons_succ]
                refine wpAnyH_ready (rs := [36]) (by kernel_rfl) (by simp) ?_
                refine AllReadyH.cons (i := 36) rfl (fun K hK => ?_) AllReadyH.nil
                simp only [List.getElem_toArray, List.getElem_cons_succ, List.getElem_cons_zero]
                rw [if_pos (by rfl)]
                go_simp
                (go_at_call 22; refine (C5.out _ (Rd.later (by repeat' (first | (with_reducible exact hBw) | (with_reducible refine ext_trans ?_ hb4) | (with_reducible refine ext_trans ?_ hb3) | (with_reducible refine Below.drew ?_))) f12)).mono ?_; rintro e w5 ⟨rfl, hb5⟩; have hk5 := keeps_cells hb5; go_wp2_with fail)
                have hOld := hHeld
                clear hHeld
                refine hK.out _ _ ?_ (fun hHeld => ?_)
                · (try dsimp only); simp [*]
                clear hK K hOld
                try simp only [Act.put, List.setIfInBounds_toArray, List.set_cons_zero, List.set_cons_succ]
                refine wpAnyH_take (i := 38) (v := ?_) rfl (by kernel_rfl) (by kernel_rfl) (by kernel_rfl) (fun _ _ _ h => h) (Or.inl ⟨by rfl, ?_⟩) (by assumption) ?_
                rotate_left
                · (intro w' hSw; (try dsimp only at hSw); go_simp; try (with_reducible rfl))
                change wpAnyH _ _ _ _ _ _ _ (Act.put _ (some 72) _) _
                try simp only [Act.put, List.setIfInBounds_toArray, List.set_cons_zero, List.set_cons_succ]
                refine wpAnyH_take (i := 39) (v := ?_) rfl (by kernel_rfl) (by kernel_rfl) (by kernel_rfl) (fun _ _ _ h => h) (Or.inl ⟨by rfl, ?_⟩) (by assumption) ?_
                rotate_left
                · (intro w' hSw; (try dsimp only at hSw); go_simp; try (with_reducible rfl))
                change wpAnyH _ _ _ _ _ _ _ (Act.put _ (some 73) _) _
                try simp only [Act.put, List.setIfInBounds_toArray, List.set_cons_zero, List.set_cons_succ]
                refine wpAnyH_done (by kernel_rfl) ?_ _
                go_wp2
                go_ret
                exact ⟨end_bool HBAD.out.symm, ext_trans hBw (by repeat' (first | (with_reducible exact Below.refl _ _) | (with_reducible refine ext_trans ?_ hb5) | (with_reducible refine ext_trans ?_ hb4) | (with_reducible refine ext_trans ?_ hb3) | (with_reducible refine Below.drew ?_)))⟩
              | false =>
                have HGOOD := hid (show fileFine x.files k x.files[k] = true by rw [HFF.out]; simp only [fileFine, HQ3.out, HQ4.out, HQ5.out, decide_eq_false HE.out]; rfl)
                have hz := idx_first hlt (p := fun f : File => decide (f.name = nm)) (decide_eq_true HNM.out) HQ5.out
                rw [hz] at C5
                clear hz
                go_wp2_with fail
                refine wp_region_held_drew (S := fun w' => w'.cell? ⟨w.heap.size, 12, none⟩ = some (.slice (some ⟨b, off, none⟩) x.files.length c12) ∧ w'.cell? ⟨b, off + k * 2, none⟩ = some (.string nm) ∧ w'.cell? ⟨b, off + k * 2 + 1, none⟩ = some (.string tx)) (by kernel_rfl) ?_ (fun hHeld => ?_)
                · simp [*]
                refine wpAnyH_take (i := 0) (v := ?_) rfl (by kernel_rfl) (by kernel_rfl) (by kernel_rfl) (fun _ _ _ h => h) (Or.inl ⟨by rfl, ?_⟩) (by assumption) ?_
                rotate_left
                · (intro w' hSw; (try dsimp only at hSw); go_simp; try (with_reducible rfl))
                change wpAnyH _ _ _ _ _ _ _ (Act.put _ (some 34) _) _
                try simp only [Act.put, List.setIfInBounds_toArray, List.set_cons_zero, List.set_cons_succ]
                refine wpAnyH_take (i := 1) (v := ?_) rfl (by kernel_rfl) (by kernel_rfl) (by kernel_rfl) (fun _ _ _ h => h) (Or.inl ⟨by rfl, ?_⟩) (by assumption) ?_
                rotate_left
                · (intro w' hSw; (try dsimp only at hSw); go_simp; try (with_reducible rfl))
                change wpAnyH _ _ _ _ _ _ _ (Act.put _ (some 35) _) _
                try simp only [Act.put, List.setIfInBounds_toArray, List.set_cons_zero, List.set_cons_succ]
                refine wpAnyH_take (i := 2) (v := ?_) rfl (by kernel_rfl) (by kernel_rfl) (by kernel_rfl) (fun _ _ _ h => h) (Or.inl ⟨by rfl, ?_⟩) (by assumption) ?_
                rotate_left
                · (intro w' hSw; (try dsimp only at hSw); go_simp; try (with_reducible rfl))
                change wpAnyH _ _ _ _ _ _ _ (Act.put _ (some 36) _) _
                try simp only [Act.put, List.setIfInBounds_toArray, List.set_cons_zero, List.set_cons_succ]
                refine wpAnyH_take (i := 3) (v := ?_) rfl (by kernel_rfl) (by kernel_rfl) (by kernel_rfl) (fun _ _ _ h => h) (Or.inl ⟨by rfl, ?_⟩) (by assumption) ?_
                rotate_left
                · (intro w' hSw; (try dsimp only at hSw); go_simp; try (with_reducible rfl))
                change wpAnyH _ _ _ _ _ _ _ (Act.put _ (some 37) _) _
                try simp only [Act.put, List.setIfInBounds_toArray, List.set_cons_zero, List.set_cons_succ]
                refine wpAnyH_take (i := 4) (v := ?_) rfl (by kernel_rfl) (by kernel_rfl) (by kernel_rfl) (fun _ _ _ h => h) (Or.inl ⟨by rfl, ?_⟩) (by assumption) ?_
                rotate_left
                · (intro w' hSw; (try dsimp only at hSw); go_simp; try (with_reducible rfl))
                change wpAnyH _ _ _ _ _ _ _ (Act.put _ (some 38) _) _
                try simp only [Act.put, List.setIfInBounds_toArray, List.set_cons_zero, List.set_cons_succ]
                refine wpAnyH_take (i := 5) (v := ?_) rfl (by kernel_rfl) (by kernel_rfl) (by kernel_rfl) (fun _ _ _ h => h) (Or.inl ⟨by rfl, ?_⟩) (by assumption) ?_
                rotate_left
                · (intro w' hSw; (try dsimp only at hSw); go_simp; try (with_reducible rfl))
                change wpAnyH _ _ _ _ _ _ _ (Act.put _ (some 39) _) _
                try simp only [Act.put, List.setIfInBounds_toArray, List.set_cons_zero, List.set_cons_succ]
                refine wpAnyH_take (i := 6) (v := ?_) rfl (by kernel_rfl) (by kernel_rfl) (by kernel_rfl) (fun _ _ _ h => h) (Or.inl ⟨by rfl, ?_⟩) (by assumption) ?_
                rotate_left
                · (intro w' hSw; (try dsimp only at hSw); go_simp; try (with_reducible rfl))
                change wpAnyH _ _ _ _ _ _ _ (Act.put _ (some 40) _) _
                try simp only [Act.put, List.setIfInBounds_toArray, List.set_cons_zero, List.set_cons_succ]
                refine wpAnyH_take (i := 7) (v := ?_) rfl (by kernel_rfl) (by kernel_rfl) (by kernel_rfl) (fun _ _ _ h => h) (Or.inl ⟨by rfl, ?_⟩) (by assumption) ?_
                rotate_left
                · (intro w' hSw; (try dsimp only at hSw); go_simp; try (with_reducible rfl))
                change wpAnyH _ _ _ _ _ _ _ (Act.put _ (some 41) _) _
                try simp only [Act.put, List.setIfInBounds_toArray, List.set_cons_zero, List.set_cons_succ]
                refine wpAnyH_take (i := 8) (v := ?_) rfl (by kernel_rfl) (by kernel_rfl) (by kernel_rfl) (fun _ _ _ h => h) (Or.inl ⟨by rfl, ?_⟩) (by assumption) ?_
                rotate_left
                · (intro w' hSw; (try dsimp only at hSw); go_simp; try (with_reducible rfl))
                change wpAnyH _ _ _ _ _ _ _ (Act.put _ (some 42) _) _
                try simp only [Act.put, List.setIfInBounds_toArray, List.set_cons_zero, List.set_cons_succ]
                refine wpAnyH_take (i := 9) (v := ?_) rfl (by kernel_rfl) (by kernel_rfl) (by kernel_rfl) (fun _ _ _ h => h) (Or.inl ⟨by rfl, ?_⟩) (by assumption) ?_
                rotate_left
                · (intro w' hSw; (try dsimp only at hSw); go_simp; try (with_reducible rfl))
                change wpAnyH _ _ _ _ _ _ _ (Act.put _ (some 43) _) _
                try simp only [Act.put, List.setIfInBounds_toArray, List.set_cons_zero, List.set_cons_succ]
                refine wpAnyH_take (i := 10) (v := ?_) rfl (by kernel_rfl) (by kernel_rfl) (by kernel_rfl) (fun _ _ _ h => h) (Or.inl ⟨by rfl, ?_⟩) (by assumption) ?_
                rotate_left
                · (intro w' hSw; (try dsimp only at hSw); go_simp; try (with_reducible rfl))
                change wpAnyH _ _ _ _ _ _ _ (Act.put _ (some 44) _) _
                try simp only [Act.put, List.setIfInBounds_toArray, List.set_cons_zero, List.set_cons_succ]
                refine wpAnyH_take (i := 11) (v := ?_) rfl (by kernel_rfl) (by kernel_rfl) (by kernel_rfl) (fun _ _ _ h => h) (Or.inl ⟨by rfl, ?_⟩) (by assumption) ?_
                rotate_left
                · (intro w' hSw; (try dsimp only at hSw); go_simp; try (with_reducible rfl))
                change wpAnyH _ _ _ _ _ _ _ (Act.put _ (some 45) _) _
                try simp only [Act.put, List.setIfInBounds_toArray, List.set_cons_zero, List.set_cons_succ]
                refine wpAnyH_take (i := 12) (v := ?_) rfl (by kernel_rfl) (by kernel_rfl) (by kernel_rfl) (fun _ _ _ h => h) (Or.inl ⟨by rfl, ?_⟩) (by assumption) ?_
                rotate_left
                · (intro w' hSw; (try dsimp only at hSw); go_simp; try (with_reducible rfl))
                change wpAnyH _ _ _ _ _ _ _ (Act.put _ (some 46) _) _
                try simp only [Act.put, List.setIfInBounds_toArray, List.set_cons_zero, List.set_cons_succ]
                refine wpAnyH_take (i := 13) (v := ?_) rfl (by kernel_rfl) (by kernel_rfl) (by kernel_rfl) (fun _ _ _ h => h) (Or.inl ⟨by rfl, ?_⟩) (by assumption) ?_
                rotate_left
                · (intro w' hSw; (try dsimp only at hSw); go_simp; try (with_reducible rfl))
                change wpAnyH _ _ _ _ _ _ _ (Act.put _ (some 47) _) _
                try simp only [Act.put, List.setIfInBounds_toArray, List.set_cons_zero, List.set_cons_succ]
                refine wpAnyH_ready (rs := [14]) (by kernel_rfl) (by simp) ?_
                refine AllReadyH.cons (i := 14) rfl (fun K hK => ?_) AllReadyH.nil
                simp only [List.getElem_toArray, List.getElem_cons_succ, List.getElem_cons_zero]
                rw [if_pos (by rfl)]
                go_simp
                (go_at_call 15; refine (C3.out _).mono ?_; rintro e w3 ⟨rfl, hb3⟩; have hk3 := keeps_cells hb3; go_wp2_with fail)
                have hOld := hHeld
                clear hHeld
                refine hK.out _ _ ?_ (fun hHeld => ?_)
                · (try dsimp only); simp [*]
                clear hK K hOld
                try simp only [Act.put, List.setIfInBounds_toArray, List.set_cons_zero, List.set_cons_succ]
                refine wpAnyH_take (i := 15) (v := ?_) rfl (by kernel_rfl) (by kernel_rfl) (by kernel_rfl) (fun _ _ _ h => h) (Or.inl ⟨by rfl, ?_⟩) (by assumption) ?_
                rotate_left
                · (intro w' hSw; (try dsimp only at hSw); go_simp; try (with_reducible rfl))
                change wpAnyH _ _ _ _ _ _ _ (Act.put _ (some 49) _) _
                try simp only [Act.put, List.setIfInBounds_toArray, List.set_cons_zero, List.set_cons_succ]
                refine wpAnyH_take (i := 16) (v := ?_) rfl (by kernel_rfl) (by kernel_rfl) (by kernel_rfl) (fun _ _ _ h => h) (Or.inl ⟨by rfl, ?_⟩) (by assumption) ?_
                rotate_left
                · (intro w' hSw; (try dsimp only at hSw); go_simp; try (with_reducible rfl))
                change wpAnyH _ _ _ _ _ _ _ (Act.put _ (some 50) _) _
                try simp only [Act.put, List.setIfInBounds_toArray, List.set_cons_zero, List.set_cons_succ]
                refine wpAnyH_take (i := 17) (v := ?_) rfl (by kernel_rfl) (by kernel_rfl) (by kernel_rfl) (fun _ _ _ h => h) (Or.inl ⟨by rfl, ?_⟩) (by assumption) ?_
                rotate_left
                · (intro w' hSw; (try dsimp only at hSw); go_simp; try (with_reducible rfl))
                change wpAnyH _ _ _ _ _ _ _ (Act.put _ (some 51) _) _
                try simp only [Act.put, List.setIfInBounds_toArray, List.set_cons_zero, List.set_cons_succ]
                refine wpAnyH_take (i := 18) (v := ?_) rfl (by kernel_rfl) (by kernel_rfl) (by kernel_rfl) (fun _ _ _ h => h) (Or.inl ⟨by rfl, ?_⟩) (by assumption) ?_
                rotate_left
                · (intro w' hSw; (try dsimp only at hSw); go_simp; try (with_reducible rfl))
                change wpAnyH _ _ _ _ _ _ _ (Act.put _ (some 52) _) _
                try simp only [Act.put, List.setIfInBounds_toArray, List.set_cons_zero, List.set_cons_succ]
                refine wpAnyH_take (i := 19) (v := ?_) rfl (by kernel_rfl) (by kernel_rfl) (by kernel_rfl) (fun _ _ _ h => h) (Or.inl ⟨by rfl, ?_⟩) (by assumption) ?_
                rotate_left
                · (intro w' hSw; (try dsimp only at hSw); go_simp; try (with_reducible rfl))
                change wpAnyH _ _ _ _ _ _ _ (Act.put _ (some 53) _) _
                try simp only [Act.put, List.setIfInBounds_toArray, List.set_cons_zero, List.set_cons_succ]
                refine wpAnyH_take (i := 20) (v := ?_) rfl (by kernel_rfl) (by kernel_rfl) (by kernel_rfl) (fun _ _ _ h => h) (Or.inl ⟨by rfl, ?_⟩) (by assumption) ?_
                rotate_left
                · (intro w' hSw; (try dsimp only at hSw); go_simp; try (with_reducible rfl))
                change wpAnyH _ _ _ _ _ _ _ (Act.put _ (some 54) _) _
                try simp only [Act.put, List.setIfInBounds_toArray, List.set_cons_zero, List.set_cons_succ]
                refine wpAnyH_take (i := 21) (v := ?_) rfl (by kernel_rfl) (by kernel_rfl) (by kernel_rfl) (fun _ _ _ h => h) (Or.inl ⟨by rfl, ?_⟩) (by assumption) ?_
                rotate_left
                · (intro w' hSw; (try dsimp only at hSw); go_simp; try (with_reducible rfl))
                change wpAnyH _ _ _ _ _ _ _ (Act.put _ (some 55) _) _
                try simp only [Act.put, List.setIfInBounds_toArray, List.set_cons_zero, List.set_cons_succ]
                refine wpAnyH_take (i := 22) (v := ?_) rfl (by kernel_rfl) (by kernel_rfl) (by kernel_rfl) (fun _ _ _ h => h) (Or.inl ⟨by rfl, ?_⟩) (by assumption) ?_
                rotate_left
                · (intro w' hSw; (try dsimp only at hSw); go_simp; try (with_reducible rfl))
                change wpAnyH _ _ _ _ _ _ _ (Act.put _ (some 56) _) _
                try simp only [Act.put, List.setIfInBounds_toArray, List.set_cons_zero, List.set_cons_succ]
                refine wpAnyH_take (i := 23) (v := ?_) rfl (by kernel_rfl) (by kernel_rfl) (by kernel_rfl) (fun _ _ _ h => h) (Or.inl ⟨by rfl, ?_⟩) (by assumption) ?_
                rotate_left
                · (intro w' hSw; (try dsimp only at hSw); go_simp; try (with_reducible rfl))
                change wpAnyH _ _ _ _ _ _ _ (Act.put _ (some 57) _) _
                try simp only [Act.put, List.setIfInBounds_toArray, List.set_cons_zero, List.set_cons_succ]
                refine wpAnyH_ready (rs := [24]) (by kernel_rfl) (by simp) ?_
                refine AllReadyH.cons (i := 24) rfl (fun K hK => ?_) AllReadyH.nil
                simp only [List.getElem_toArray, List.getElem_cons_succ, List.getElem_cons_zero]
                rw [if_pos (by rfl)]
                go_simp
                (go_at_call 21; refine (C4.out _).mono ?_; rintro e w4 ⟨rfl, hb4⟩; have hk4 := keeps_cells hb4; go_wp2_with fail)
                have hOld := hHeld
                clear hHeld
                refine hK.out _ _ ?_ (fun hHeld => ?_)
                · (try dsimp only); simp [*]
                clear hK K hOld
                try simp only [Act.put, List.setIfInBounds_toArray, List.set_cons_zero, List.set_cons_succ]
                refine wpAnyH_take (i := 25) (v := ?_) rfl (by kernel_rfl) (by kernel_rfl) (by kernel_rfl) (fun _ _ _ h => h) (Or.inl ⟨by rfl, ?_⟩) (by assumption) ?_
                rotate_left
                · (intro w' hSw; (try dsimp only at hSw); go_simp; try (with_reducible rfl))
                change wpAnyH _ _ _ _ _ _ _ (Act.put _ (some 59) _) _
                try simp only [Act.put, List.setIfInBounds_toArray, List.set_cons_zero, List.set_cons_succ]
                refine wpAnyH_take (i := 26) (v := ?_) rfl (by kernel_rfl) (by kernel_rfl) (by kernel_rfl) (fun _ _ _ h => h) (Or.inl ⟨by rfl, ?_⟩) (by assumption) ?_
                rotate_left
                · (intro w' hSw; (try dsimp only at hSw); go_simp; try (with_reducible rfl))
                change wpAnyH _ _ _ _ _ _ _ (Act.put _ (some 60) _) _
                try simp only [Act.put, List.setIfInBounds_toArray, List.set_cons_zero, List.set_cons_succ]
                refine wpAnyH_take (i := 27) (v := ?_) rfl (by kernel_rfl) (by kernel_rfl) (by kernel_rfl) (fun _ _ _ h => h) (Or.inl ⟨by rfl, ?_⟩) (by assumption) ?_
                rotate_left
                · (intro w' hSw; (try dsimp only at hSw); go_simp; try (with_reducible rfl))
                change wpAnyH _ _ _ _ _ _ _ (Act.put _ (some 61) _) _
                try simp only [Act.put, List.setIfInBounds_toArray, List.set_cons_zero, List.set_cons_succ]
                refine wpAnyH_take (i := 28) (v := ?_) rfl (by kernel_rfl) (by kernel_rfl) (by kernel_rfl) (fun _ _ _ h => h) (Or.inl ⟨by rfl, ?_⟩) (by assumption) ?_
                rotate_left
                · (intro w' hSw; (try dsimp only at hSw); go_simp; try (with_reducible rfl))
                change wpAnyH _ _ _ _ _ _ _ (Act.put _ (some 62) _) _
                try simp only [Act.put, List.setIfInBounds_toArray, List.set_cons_zero, List.set_cons_succ]
                refine wpAnyH_take (i := 29) (v := ?_) rfl (by kernel_rfl) (by kernel_rfl) (by kernel_rfl) (fun _ _ _ h => h) (Or.inl ⟨by rfl, ?_⟩) (by assumption) ?_
                rotate_left
                · (intro w' hSw; (try dsimp only at hSw); go_simp; try (with_reducible rfl))
                change wpAnyH _ _ _ _ _ _ _ (Act.put _ (some 63) _) _
                try simp only [Act.put, List.setIfInBounds_toArray, List.set_cons_zero, List.set_cons_succ]
                refine wpAnyH_take (i := 30) (v := ?_) rfl (by kernel_rfl) (by kernel_rfl) (by kernel_rfl) (fun _ _ _ h => h) (Or.inl ⟨by rfl, ?_⟩) (by assumption) ?_
                rotate_left
                · (intro w' hSw; (try dsimp only at hSw); go_simp; try (with_reducible rfl))
                change wpAnyH _ _ _ _ _ _ _ (Act.put _ (some 64) _) _
                try simp only [Act.put, List.setIfInBounds_toArray, List.set_cons_zero, List.set_cons_succ]
                refine wpAnyH_take (i := 31) (v := ?_) rfl (by kernel_rfl) (by kernel_rfl) (by kernel_rfl) (fun _ _ _ h => h) (Or.inl ⟨by rfl, ?_⟩) (by assumption) ?_
                rotate_left
                · (intro w' hSw; (try dsimp only at hSw); go_simp; try (with_reducible rfl))
                change wpAnyH _ _ _ _ _ _ _ (Act.put _ (some 65) _) _
                try simp only [Act.put, List.setIfInBounds_toArray, List.set_cons_zero, List.set_cons_succ]
                refine wpAnyH_take (i := 32) (v := ?_) rfl (by kernel_rfl) (by kernel_rfl) (by kernel_rfl) (fun _ _ _ h => h) (Or.inl ⟨by rfl, ?_⟩) (by assumption) ?_
                rotate_left
                · (intro w' hSw; (try dsimp only at hSw); go_simp; try (with_reducible rfl))
                change wpAnyH _ _ _ _ _ _ _ (Act.put _ (some 66) _) _
                try simp only [Act.put, List.setIfInBounds_toArray, List.set_cons_zero, List.set_cons_succ]
                refine wpAnyH_take (i := 33) (v := ?_) rfl (by kernel_rfl) (by kernel_rfl) (by kernel_rfl) (fun _ _ _ h => h) (Or.inl ⟨by rfl, ?_⟩) (by assumption) ?_
                rotate_left
                · (intro w' hSw; (try dsimp only at hSw); go_simp; try (with_reducible rfl))
                change wpAnyH _ _ _ _ _ _ _ (Act.put _ (some 67) _) _
                try simp only [Act.put, List.setIfInBounds_toArray, List.set_cons_zero, List.set_cons_succ]
                refine wpAnyH_take (i := 34) (v := ?_) rfl (by kernel_rfl) (by kernel_rfl) (by kernel_rfl) (fun _ _ _ h => h) (Or.inl ⟨by rfl, ?_⟩) (by assumption) ?_
                rotate_left
                · (intro w' hSw; (try dsimp only at hSw); go_simp; try (with_reducible rfl))
                change wpAnyH _ _ _ _ _ _ _ (Act.put _ (some 68) _) _
                try simp only [Act.put, List.setIfInBounds_toArray, List.set_cons_zero, List.set_cons_succ]
                refine wpAnyH_take (i := 35) (v := ?_) rfl (by kernel_rfl) (by kernel_rfl) (by kernel_rfl) (fun _ _ _ h => h) (Or.inl ⟨by rfl, ?_⟩) (by assumption) ?_
                rotate_left
                · (intro w' hSw; (try dsimp only at hSw); go_simp; try (with_reducible rfl))
                change wpAnyH _ _ _ _ _ _ _ (Act.put _ (some 69) _) _
                try simp only [Act.put, List.setIfInBounds_toArray, List.set_cons_zero, List.set_cons_succ]
                refine wpAnyH_take (i := 37) (v := ?_) rfl (by kernel_rfl) (by kernel_rfl) (by kernel_rfl) (fun _ _ _ h => h) (Or.inl ⟨by rfl, ?_⟩) (by assumption) ?_
                rotate_left
                · (intro w' hSw; (try dsimp only at hSw); go_simp; try (with_reducible rfl))
                change wpAnyH _ _ _ _ _ _ _ (Act.put _ (some 71) _) _
                try simp only [Act.put, List.setIfInBounds_toArray, List.set_cons_zero, List.set_cons_succ]
                refine wpAnyH_ready (rs := [36]) (by kernel_rfl) (by simp) ?_
                refine AllReadyH.cons (i := 36) rfl (fun K hK => ?_) AllReadyH.nil
                simp only [List.getElem_toArray, List.getElem_cons_succ, List.getElem_cons_zero]
                rw [if_pos (by rfl)]
                go_simp
                (go_at_call 22; refine (C5.out _ (Rd.later (by repeat' (first | (with_reducible exact hBw) | (with_reducible refine ext_trans ?_ hb4) | (with_reducible refine ext_trans ?_ hb3) | (with_reducible refine Below.drew ?_))) f12)).mono ?_; rintro e w5 ⟨rfl, hb5⟩; have hk5 := keeps_cells hb5; go_wp2_with fail)
                have hOld := hHeld
                clear hHeld
                refine hK.out _ _ ?_ (fun hHeld => ?_)
                · (try dsimp only); simp [*]
                clear hK K hOld
                try simp only [Act.put, List.setIfInBounds_toArray, List.set_cons_zero, List.set_cons_succ]
                refine wpAnyH_take (i := 38) (v := ?_) rfl (by kernel_rfl) (by kernel_rfl) (by kernel_rfl) (fun _ _ _ h => h) (Or.inl ⟨by rfl, ?_⟩) (by assumption) ?_
                rotate_left
                · (intro w' hSw; (try dsimp only at hSw); go_simp; try (with_reducible rfl))
                change wpAnyH _ _ _ _ _ _ _ (Act.put _ (some 72) _) _
                try simp only [Act.put, List.setIfInBounds_toArray, List.set_cons_zero, List.set_cons_succ]
                refine wpAnyH_take (i := 39) (v := ?_) rfl (by kernel_rfl) (by kernel_rfl) (by kernel_rfl) (fun _ _ _ h => h) (Or.inl ⟨by rfl, ?_⟩) (by assumption) ?_
                rotate_left
                · (intro w' hSw; (try dsimp only at hSw); go_simp; try (with_reducible rfl))
                change wpAnyH _ _ _ _ _ _ _ (Act.put _ (some 73) _) _
                try simp only [Act.put, List.setIfInBounds_toArray, List.set_cons_zero, List.set_cons_succ]
                refine wpAnyH_done (by kernel_rfl) ?_ _
                go_wp2
                go_roundw
                case rel =>
                  refine ⟨k + 1, by omega, by go_num, hid (fun j hj hjk => ?_), hB.trans (Below.mono (by repeat' (first | (with_reducible exact Below.refl _ _) | (with_reducible refine ext_trans ?_ hb5) | (with_reducible refine ext_trans ?_ hb4) | (with_reducible refine ext_trans ?_ hb3) | (with_reducible refine Below.drew ?_))) hsr)⟩
                  by_cases ej : j = k
                  · subst ej; exact HGOOD.out
                  · exact HA.out j hj (by omega)
                case measure => simp [intOf]; omega
        · have hki : ¬ (k : Int) < (x.files.length : Int) := by omega
          have HG := hid (filesFine_good (fs := x.files) (fun j hj => HA.out j hj (by omega)))
          go_wp2
          rename World => wr0
          go_loopw [4] (fun i wr => ∃ k : Nat, k ≤ x.args.length ∧ i = .int .i64 (k : Int) ∧ Hid (∀ j (hj : j < x.args.length), j < k → okText x.args[j] = true) ∧ Below (w.heap.size + 1) (w.alloc (.cells #[.int .i64 x.inp.tag, .string x.inp.fs, .string x.inp.rs, .string x.inp.ofs, .string x.inp.ors, .bool x.inp.head, .int .i64 x.out.tag, .string x.out.fs, .string x.out.rs, .string x.out.ofs, .string x.out.ors, .bool x.out.head, .slice a12 x.files.length c12, .slice a13 x.args.length c13] 37)) wr) (fun i _ => x.args.length - (intOf i).toNat)
          case atStart => exact ⟨0, Nat.zero_le _, rfl, hid (fun j _ hj => absurd hj (Nat.not_lt_zero _)), hB⟩
          case round =>
            obtain ⟨m, hm', rfl, HA2, hB2⟩ := hrel
            clear z0 z1 z2 z3 z4 z5 z6 z7 z8 z9 z10 z11 z12 z13 hBw hsr
            obtain ⟨z0, z1, z2, z3, z4, z5, z6, z7, z8, z9, z10, z11, z12, z13⟩ := HBX.out _ hB2
            have hBw := HBW.out _ hB2
            have hsr := HSZ.out _ hB2
            by_cases hlt2 : m < x.args.length
            · have hF := f13
              obtain ⟨a, cap, hv, h1, h2, hF⟩ := hF
              obtain ⟨rfl, rfl⟩ : a13 = a ∧ c13 = cap := by simpa using hv
              obtain ⟨b, off, rfl, hBk, hrow⟩ := hF (by omega)
              obtain ⟨cs, hcell, hx⟩ := hrow m hlt2
              obtain ⟨hcs, g0⟩ := hx
              subst hcs
              have t0 : wr.cell? ⟨b, off + m, none⟩ = some (.string x.args[m]) := (hBw.cell (p := ⟨b, off + m, none⟩) hBk).trans (by have h9 := hcell 0 (by decide); rw [show off + m * Rd.n ByteArray + 0 = off + m from by show off + m * 1 + 0 = _; omega] at h9; exact h9)
              obtain ⟨s, hs⟩ : ∃ z, x.args[m] = z := ⟨_, rfl⟩
              rw [hs] at t0
              have HS := hid hs
              have hki2 : (m : Int) < (x.args.length : Int) := by omega
              have hk02 : (0 : Int) ≤ (m : Int) := by omega
              obtain ⟨q7, hq7⟩ : ∃ z, okText s = z := ⟨_, rfl⟩
              have C7 := hid (fun (w : World) => specTextOk s w)
              have HQ7 := hid hq7
              rw [hq7] at C7
              clear hq7 hrow hcell hs hv hF h1 h2
              go_wp2_with fail
              refine (C7.out _).mono ?_
              rintro e w7 ⟨rfl, hb7⟩
              cases q7 with
              | false =>
                have HBAD := hid (show worldOk x = false by
                  have : x.args.all okText = false := by rw [List.all_eq_false]; exact ⟨x.args[m], List.getElem_mem _, by rw [HS.out, HQ7.out]; simp⟩
                  simp only [worldOk, this, Bool.and_false])
                go_wp2
                go_ret
                exact ⟨end_bool HBAD.out.symm, ext_trans hBw (by repeat' (first | (with_reducible exact Below.refl _ _) | (with_reducible refine ext_trans ?_ hb7) | (with_reducible refine Below.drew ?_)))⟩
              | true =>
                go_wp2
                go_roundw
                case rel =>
                  refine ⟨m + 1, by omega, by go_num, hid (fun j hj hjk => ?_), hB2.trans (Below.mono (by repeat' (first | (with_reducible exact Below.refl _ _) | (with_reducible refine ext_trans ?_ hb7) | (with_reducible refine Below.drew ?_))) hsr)⟩
                  by_cases ej : j = m
                  · subst ej; rw [HS.out]; exact HQ7.out
                  · exact HA2.out j hj (by omega)
                case measure => simp [intOf]; omega
            · have hki2 : ¬ (m : Int) < (x.args.length : Int) := by omega
              have HALL := hid (show x.args.all okText = true by
                rw [List.all_eq_true]
                intro s hs
                obtain ⟨j, hj, rfl⟩ := List.mem_iff_getElem.1 hs
                exact HA2.out j hj (by omega))
              go_wp2
              go_ret
              exact ⟨end_bool (by simp [worldOk, HQ1.out, HQ2.out, HN.out, HM.out, HG.out, HALL.out]), hBw⟩
end Go.Proofs.YtkmkencodcfloaaDoor

namespace Go.Proofs.YtkmkencodcfloaaDoor
open Go.RowKit
set_option linter.unusedVariables false
set_option linter.unusedSimpArgs false

set_option maxHeartbeats 4000000 in
theorem fnExactWorldOk_walk (W : World) (hT : Tabs W) {cs0 : Array Value} {x0 : WorldT} (h0 : Rd.rd (Old W) W cs0.toList x0) :
    Calls Tryd.prog 4 #[.agg cs0] W fun e w' => e = .returned (.bool true) ∧ Below W.heap.size W w' := by
  obtain ⟨p0a12, p0c12, p0a13, p0c13, hcs0, p0f0, p0f1, p0f2, p0f3, p0f4, p0f6, p0f7, p0f8, p0f9, p0f10, p0f12, p0f13⟩ := rdWorldT h0
  obtain rfl := arr_of_list hcs0
  clear hcs0
  by_cases hz0 : (Sz.sz x0 : Int) ≤ 1048576
  rotate_left
  · go_enter Tryd.func4, Tryd.ntmps4
    go_wp2_with fail
    refine (szWorldT_any _ _ (by exact Rd.later (by repeat' (first | (with_reducible exact Below.refl _ _) | (with_reducible refine ext_trans ?_ (ext_alloc _ _)) | (with_reducible refine Below.drew ?_) | (with_reducible refine Below.setCell ?_ ?_ _) | (simp; done) | (simp; omega) | omega)) h0) (by omega) (by omega)).mono ?_
    rintro e w0 ⟨rfl, hb0⟩
    rw [szOut_bad (by omega)]
    obtain ⟨hc0, hf0⟩ := bcell hb0
    have hl0_0 : W.heap.size < w0.heap.size := by have := hb0.size; (try simp at this); omega
    go_wp2
    go_ret
    exact ⟨rfl, (by repeat' (first | (with_reducible exact Below.refl _ _) | (with_reducible refine ext_trans ?_ hb0) | (with_reducible refine ext_trans ?_ (ext_alloc _ _)) | (with_reducible refine Below.drew ?_) | (with_reducible refine Below.setCell ?_ ?_ _) | (simp; done) | (simp; omega) | omega))⟩
  go_enter Tryd.func4, Tryd.ntmps4
  go_wp2_with fail
  refine (szWorldT_any _ _ (by exact Rd.later (by repeat' (first | (with_reducible exact Below.refl _ _) | (with_reducible refine ext_trans ?_ (ext_alloc _ _)) | (with_reducible refine Below.drew ?_) | (with_reducible refine Below.setCell ?_ ?_ _) | (simp; done) | (simp; omega) | omega)) h0) (by omega) (by omega)).mono ?_
  rintro e w0 ⟨rfl, hb0⟩
  rw [szOut_val (by omega)]
  obtain ⟨hc0, hf0⟩ := bcell hb0
  have hl0_0 : W.heap.size < w0.heap.size := by have := hb0.size; (try simp at this); omega
  have hzz0 : Sz.sz x0 ≤ 1048576 := by omega
  go_wp2_with fail
  refine (toWorldT_any _ (by exact Rd.later (by repeat' (first | (with_reducible exact Below.refl _ _) | (with_reducible refine ext_trans ?_ hb0) | (with_reducible refine ext_trans ?_ (ext_alloc _ _)) | (with_reducible refine Below.drew ?_) | (with_reducible refine Below.setCell ?_ ?_ _) | (simp; done) | (simp; omega) | omega)) h0) hzz0).mono ?_
  rintro e w1 ⟨q1, rfl, hr1, hb1⟩
  replace hr1 := Rd.old hr1
  obtain ⟨q1a12, q1c12, q1a13, q1c13, hcs1, q1f0, q1f1, q1f2, q1f3, q1f4, q1f6, q1f7, q1f8, q1f9, q1f10, q1f12, q1f13⟩ := rdWorldT hr1
  obtain rfl := arr_of_list hcs1
  clear hcs1 q1f0 q1f1 q1f2 q1f3 q1f4 q1f6 q1f7 q1f8 q1f9 q1f10 q1f12 q1f13
  obtain ⟨hc1, hf1⟩ := bcell hb1
  have hl1_0 : W.heap.size < w1.heap.size := by have := hb1.size; (try simp at this); omega
  go_wp2_with fail
  refine (specWorldOk  _ (by exact Rd.later (by repeat' (first | (with_reducible exact Below.refl _ _) | (with_reducible refine ext_trans ?_ hb1) | (with_reducible refine ext_trans ?_ hb0) | (with_reducible refine ext_trans ?_ (ext_alloc _ _)) | (with_reducible refine Below.drew ?_) | (with_reducible refine Below.setCell ?_ ?_ _) | (simp; done) | (simp; omega) | omega)) hr1) ).mono ?_
  rintro e w2 ⟨rfl, hb2⟩
  obtain ⟨hc2, hf2⟩ := bcell hb2
  have hl2_0 : W.heap.size < w2.heap.size := by have := hb2.size; (try simp at this); omega
  go_wp2_with fail
  refine (toWorldT_any _ (by exact Rd.later (by repeat' (first | (with_reducible exact Below.refl _ _) | (with_reducible refine ext_trans ?_ hb2) | (with_reducible refine ext_trans ?_ hb1) | (with_reducible refine ext_trans ?_ hb0) | (with_reducible refine ext_trans ?_ (ext_alloc _ _)) | (with_reducible refine Below.drew ?_) | (with_reducible refine Below.setCell ?_ ?_ _) | (simp; done) | (simp; omega) | omega)) h0) hzz0).mono ?_
  rintro e w3 ⟨q3, rfl, hr3, hb3⟩
  replace hr3 := Rd.old hr3
  obtain ⟨q3a12, q3c12, q3a13, q3c13, hcs3, q3f0, q3f1, q3f2, q3f3, q3f4, q3f6, q3f7, q3f8, q3f9, q3f10, q3f12, q3f13⟩ := rdWorldT hr3
  obtain rfl := arr_of_list hcs3
  clear hcs3 q3f0 q3f1 q3f2 q3f3 q3f4 q3f6 q3f7 q3f8 q3f9 q3f10 q3f12 q3f13
  obtain ⟨hc3, hf3⟩ := bcell hb3
  have hl3_0 : W.heap.size < w3.heap.size := by have := hb3.size; (try simp at this); omega
  go_wp2_with fail
  refine (implWorldOk  _ (by exact Rd.later (by repeat' (first | (with_reducible exact Below.refl _ _) | (with_reducible refine ext_trans ?_ hb3) | (with_reducible refine ext_trans ?_ hb2) | (with_reducible refine ext_trans ?_ hb1) | (with_reducible refine ext_trans ?_ hb0) | (with_reducible refine ext_trans ?_ (ext_alloc _ _)) | (with_reducible refine Below.drew ?_) | (with_reducible refine Below.setCell ?_ ?_ _) | (simp; done) | (simp; omega) | omega)) hr3) (tabs_below hT (by repeat' (first | (with_reducible exact Below.refl _ _) | (with_reducible refine ext_trans ?_ hb3) | (with_reducible refine ext_trans ?_ hb2) | (with_reducible refine ext_trans ?_ hb1) | (with_reducible refine ext_trans ?_ hb0) | (with_reducible refine ext_trans ?_ (ext_alloc _ _)) | (with_reducible refine Below.drew ?_) | (with_reducible refine Below.setCell ?_ ?_ _) | (simp; done) | (simp; omega) | omega)))).mono ?_
  rintro e w4 ⟨rfl, hb4⟩
  obtain ⟨hc4, hf4⟩ := bcell hb4
  have hl4_0 : W.heap.size < w4.heap.size := by have := hb4.size; (try simp at this); omega
  have hl4_1 : w3.heap.size < w4.heap.size := by have := hb4.size; (try simp at this); omega
  go_wp2_with fail
  have d_x0_0 : w4.cell? ⟨w3.heap.size, 0, none⟩ = some (.int .i64 x0.inp.tag) := keeps_cells ((by repeat' (first | (with_reducible exact Below.refl _ _) | (with_reducible refine ext_trans ?_ hb4) | (with_reducible refine ext_trans ?_ hb3) | (with_reducible refine ext_trans ?_ hb2) | (with_reducible refine ext_trans ?_ hb1) | (with_reducible refine ext_trans ?_ hb0) | (with_reducible refine ext_trans ?_ (ext_alloc _ _)) | (with_reducible refine Below.drew ?_) | (with_reducible refine Below.setCell ?_ ?_ _) | (simp; done) | (simp; omega) | omega)) : Below (w3.alloc (.cells #[.int .i64 x0.inp.tag, .string x0.inp.fs, .string x0.inp.rs, .string x0.inp.ofs, .string x0.inp.ors, .bool x0.inp.head, .int .i64 x0.out.tag, .string x0.out.fs, .string x0.out.rs, .string x0.out.ofs, .string x0.out.ors, .bool x0.out.head, .slice q3a12 x0.files.length q3c12, .slice q3a13 x0.args.length q3c13] 37)).heap.size (w3.alloc (.cells #[.int .i64 x0.inp.tag, .string x0.inp.fs, .string x0.inp.rs, .string x0.inp.ofs, .string x0.inp.ors, .bool x0.inp.head, .int .i64 x0.out.tag, .string x0.out.fs, .string x0.out.rs, .string x0.out.ofs, .string x0.out.ors, .bool x0.out.head, .slice q3a12 x0.files.length q3c12, .slice q3a13 x0.args.length q3c13] 37)) w4) _ _ (by simp)
  have d_x0_1 : w4.cell? ⟨w3.heap.size, 1, none⟩ = some (.string x0.inp.fs) := keeps_cells ((by repeat' (first | (with_reducible exact Below.refl _ _) | (with_reducible refine ext_trans ?_ hb4) | (with_reducible refine ext_trans ?_ hb3) | (with_reducible refine ext_trans ?_ hb2) | (with_reducible refine ext_trans ?_ hb1) | (with_reducible refine ext_trans ?_ hb0) | (with_reducible refine ext_trans ?_ (ext_alloc _ _)) | (with_reducible refine Below.drew ?_) | (with_reducible refine Below.setCell ?_ ?_ _) | (simp; done) | (simp; omega) | omega)) : Below (w3.alloc (.cells #[.int .i64 x0.inp.tag, .string x0.inp.fs, .string x0.inp.rs, .string x0.inp.ofs, .string x0.inp.ors, .bool x0.inp.head, .int .i64 x0.out.tag, .string x0.out.fs, .string x0.out.rs, .string x0.out.ofs, .string x0.out.ors, .bool x0.out.head, .slice q3a12 x0.files.length q3c12, .slice q3a13 x0.args.length q3c13] 37)).heap.size (w3.alloc (.cells #[.int .i64 x0.inp.tag, .string x0.inp.fs, .string x0.inp.rs, .string x0.inp.ofs, .string x0.inp.ors, .bool x0.inp.head, .int .i64 x0.out.tag, .string x0.out.fs, .string x0.out.rs, .string x0.out.ofs, .string x0.out.ors, .bool x0.out.head, .slice q3a12 x0.files.length q3c12, .slice q3a13 x0.args.length q3c13] 37)) w4) _ _ (by simp)
  have d_x0_2 : w4.cell? ⟨w3.heap.size, 2, none⟩ = some (.string x0.inp.rs) := keeps_cells ((by repeat' (first | (with_reducible exact Below.refl _ _) | (with_reducible refine ext_trans ?_ hb4) | (with_reducible refine ext_trans ?_ hb3) | (with_reducible refine ext_trans ?_ hb2) | (with_reducible refine ext_trans ?_ hb1) | (with_reducible refine ext_trans ?_ hb0) | (with_reducible refine ext_trans ?_ (ext_alloc _ _)) | (with_reducible refine Below.drew ?_) | (with_reducible refine Below.setCell ?_ ?_ _) | (simp; done) | (simp; omega) | omega)) : Below (w3.alloc (.cells #[.int .i64 x0.inp.tag, .string x0.inp.fs, .string x0.inp.rs, .string x0.inp.ofs, .string x0.inp.ors, .bool x0.inp.head, .int .i64 x0.out.tag, .string x0.out.fs, .string x0.out.rs, .string x0.out.ofs, .string x0.out.ors, .bool x0.out.head, .slice q3a12 x0.files.length q3c12, .slice q3a13 x0.args.length q3c13] 37)).heap.size (w3.alloc (.cells #[.int .i64 x0.inp.tag, .string x0.inp.fs, .string x0.inp.rs, .string x0.inp.ofs, .string x0.inp.ors, .bool x0.inp.head, .int .i64 x0.out.tag, .string x0.out.fs, .string x0.out.rs, .string x0.out.ofs, .string x0.out.ors, .bool x0.out.head, .slice q3a12 x0.files.length q3c12, .slice q3a13 x0.args.length q3c13] 37)) w4) _ _ (by simp)
  have d_x0_3 : w4.cell? ⟨w3.heap.size, 3, none⟩ = some (.string x0.inp.ofs) := keeps_cells ((by repeat' (first | (with_reducible exact Below.refl _ _) | (with_reducible refine ext_trans ?_ hb4) | (with_reducible refine ext_trans ?_ hb3) | (with_reducible refine ext_trans ?_ hb2) | (with_reducible refine ext_trans ?_ hb1) | (with_reducible refine ext_trans ?_ hb0) | (with_reducible refine ext_trans ?_ (ext_alloc _ _)) | (with_reducible refine Below.drew ?_) | (with_reducible refine Below.setCell ?_ ?_ _) | (simp; done) | (simp; omega) | omega)) : Below (w3.alloc (.cells #[.int .i64 x0.inp.tag, .string x0.inp.fs, .string x0.inp.rs, .string x0.inp.ofs, .string x0.inp.ors, .bool x0.inp.head, .int .i64 x0.out.tag, .string x0.out.fs, .string x0.out.rs, .string x0.out.ofs, .string x0.out.ors, .bool x0.out.head, .slice q3a12 x0.files.length q3c12, .slice q3a13 x0.args.length q3c13] 37)).heap.size (w3.alloc (.cells #[.int .i64 x0.inp.tag, .string x0.inp.fs, .string x0.inp.rs, .string x0.inp.ofs, .string x0.inp.ors, .bool x0.inp.head, .int .i64 x0.out.tag, .string x0.out.fs, .string x0.out.rs, .string x0.out.ofs, .string x0.out.ors, .bool x0.out.head, .slice q3a12 x0.files.length q3c12, .slice q3a13 x0.args.length q3c13] 37)) w4) _ _ (by simp)
  have d_x0_4 : w4.cell? ⟨w3.heap.size, 4, none⟩ = some (.string x0.inp.ors) := keeps_cells ((by repeat' (first | (with_reducible exact Below.refl _ _) | (with_reducible refine ext_trans ?_ hb4) | (with_reducible refine ext_trans ?_ hb3) | (with_reducible refine ext_trans ?_ hb2) | (with_reducible refine ext_trans ?_ hb1) | (with_reducible refine ext_trans ?_ hb0) | (with_reducible refine ext_trans ?_ (ext_alloc _ _)) | (with_reducible refine Below.drew ?_) | (with_reducible refine Below.setCell ?_ ?_ _) | (simp; done) | (simp; omega) | omega)) : Below (w3.alloc (.cells #[.int .i64 x0.inp.tag, .string x0.inp.fs, .string x0.inp.rs, .string x0.inp.ofs, .string x0.inp.ors, .bool x0.inp.head, .int .i64 x0.out.tag, .string x0.out.fs, .string x0.out.rs, .string x0.out.ofs, .string x0.out.ors, .bool x0.out.head, .slice q3a12 x0.files.length q3c12, .slice q3a13 x0.args.length q3c13] 37)).heap.size (w3.alloc (.cells #[.int .i64 x0.inp.tag, .string x0.inp.fs, .string x0.inp.rs, .string x0.inp.ofs, .string x0.inp.ors, .bool x0.inp.head, .int .i64 x0.out.tag, .string x0.out.fs, .string x0.out.rs, .string x0.out.ofs, .string x0.out.ors, .bool x0.out.head, .slice q3a12 x0.files.length q3c12, .slice q3a13 x0.args.length q3c13] 37)) w4) _ _ (by simp)
  have d_x0_5 : w4.cell? ⟨w3.heap.size, 5, none⟩ = some (.bool x0.inp.head) := keeps_cells ((by repeat' (first | (with_reducible exact Below.refl _ _) | (with_reducible refine ext_trans ?_ hb4) | (with_reducible refine ext_trans ?_ hb3) | (with_reducible refine ext_trans ?_ hb2) | (with_reducible refine ext_trans ?_ hb1) | (with_reducible refine ext_trans ?_ hb0) | (with_reducible refine ext_trans ?_ (ext_alloc _ _)) | (with_reducible refine Below.drew ?_) | (with_reducible refine Below.setCell ?_ ?_ _) | (simp; done) | (simp; omega) | omega)) : Below (w3.alloc (.cells #[.int .i64 x0.inp.tag, .string x0.inp.fs, .string x0.inp.rs, .string x0.inp.ofs, .string x0.inp.ors, .bool x0.inp.head, .int .i64 x0.out.tag, .string x0.out.fs, .string x0.out.rs, .string x0.out.ofs, .string x0.out.ors, .bool x0.out.head, .slice q3a12 x0.files.length q3c12, .slice q3a13 x0.args.length q3c13] 37)).heap.size (w3.alloc (.cells #[.int .i64 x0.inp.tag, .string x0.inp.fs, .string x0.inp.rs, .string x0.inp.ofs, .string x0.inp.ors, .bool x0.inp.head, .int .i64 x0.out.tag, .string x0.out.fs, .string x0.out.rs, .string x0.out.ofs, .string x0.out.ors, .bool x0.out.head, .slice q3a12 x0.files.length q3c12, .slice q3a13 x0.args.length q3c13] 37)) w4) _ _ (by simp)
  have d_x0_6 : w4.cell? ⟨w3.heap.size, 6, none⟩ = some (.int .i64 x0.out.tag) := keeps_cells ((by repeat' (first | (with_reducible exact Below.refl _ _) | (with_reducible refine ext_trans ?_ hb4) | (with_reducible refine ext_trans ?_ hb3) | (with_reducible refine ext_trans ?_ hb2) | (with_reducible refine ext_trans ?_ hb1) | (with_reducible refine ext_trans ?_ hb0) | (with_reducible refine ext_trans ?_ (ext_alloc _ _)) | (with_reducible refine Below.drew ?_) | (with_reducible refine Below.setCell ?_ ?_ _) | (simp; done) | (simp; omega) | omega)) : Below (w3.alloc (.cells #[.int .i64 x0.inp.tag, .string x0.inp.fs, .string x0.inp.rs, .string x0.inp.ofs, .string x0.inp.ors, .bool x0.inp.head, .int .i64 x0.out.tag, .string x0.out.fs, .string x0.out.rs, .string x0.out.ofs, .string x0.out.ors, .bool x0.out.head, .slice q3a12 x0.files.length q3c12, .slice q3a13 x0.args.length q3c13] 37)).heap.size (w3.alloc (.cells #[.int .i64 x0.inp.tag, .string x0.inp.fs, .string x0.inp.rs, .string x0.inp.ofs, .string x0.inp.ors, .bool x0.inp.head, .int .i64 x0.out.tag, .string x0.out.fs, .string x0.out.rs, .string x0.out.ofs, .string x0.out.ors, .bool x0.out.head, .slice q3a12 x0.files.length q3c12, .slice q3a13 x0.args.length q3c13] 37)) w4) _ _ (by simp)
  have d_x0_7 : w4.cell? ⟨w3.heap.size, 7, none⟩ = some (.string x0.out.fs) := keeps_cells ((by repeat' (first | (with_reducible exact Below.refl _ _) | (with_reducible refine ext_trans ?_ hb4) | (with_reducible refine ext_trans ?_ hb3) | (with_reducible refine ext_trans ?_ hb2) | (with_reducible refine ext_trans ?_ hb1) | (with_reducible refine ext_trans ?_ hb0) | (with_reducible refine ext_trans ?_ (ext_alloc _ _)) | (with_reducible refine Below.drew ?_) | (with_reducible refine Below.setCell ?_ ?_ _) | (simp; done) | (simp; omega) | omega)) : Below (w3.alloc (.cells #[.int .i64 x0.inp.tag, .string x0.inp.fs, .string x0.inp.rs, .string x0.inp.ofs, .string x0.inp.ors, .bool x0.inp.head, .int .i64 x0.out.tag, .string x0.out.fs, .string x0.out.rs, .string x0.out.ofs, .string x0.out.ors, .bool x0.out.head, .slice q3a12 x0.files.length q3c12, .slice q3a13 x0.args.length q3c13] 37)).heap.size (w3.alloc (.cells #[.int .i64 x0.inp.tag, .string x0.inp.fs, .string x0.inp.rs, .string x0.inp.ofs, .string x0.inp.ors, .bool x0.inp.head, .int .i64 x0.out.tag, .string x0.out.fs, .string x0.out.rs, .string x0.out.ofs, .string x0.out.ors, .bool x0.out.head, .slice q3a12 x0.files.length q3c12, .slice q3a13 x0.args.length q3c13] 37)) w4) _ _ (by simp)
  have d_x0_8 : w4.cell? ⟨w3.heap.size, 8, none⟩ = some (.string x0.out.rs) := keeps_cells ((by repeat' (first | (with_reducible exact Below.refl _ _) | (with_reducible refine ext_trans ?_ hb4) | (with_reducible refine ext_trans ?_ hb3) | (with_reducible refine ext_trans ?_ hb2) | (with_reducible refine ext_trans ?_ hb1) | (with_reducible refine ext_trans ?_ hb0) | (with_reducible refine ext_trans ?_ (ext_alloc _ _)) | (with_reducible refine Below.drew ?_) | (with_reducible refine Below.setCell ?_ ?_ _) | (simp; done) | (simp; omega) | omega)) : Below (w3.alloc (.cells #[.int .i64 x0.inp.tag, .string x0.inp.fs, .string x0.inp.rs, .string x0.inp.ofs, .string x0.inp.ors, .bool x0.inp.head, .int .i64 x0.out.tag, .string x0.out.fs, .string x0.out.rs, .string x0.out.ofs, .string x0.out.ors, .bool x0.out.head, .slice q3a12 x0.files.length q3c12, .slice q3a13 x0.args.length q3c13] 37)).heap.size (w3.alloc (.cells #[.int .i64 x0.inp.tag, .string x0.inp.fs, .string x0.inp.rs, .string x0.inp.ofs, .string x0.inp.ors, .bool x0.inp.head, .int .i64 x0.out.tag, .string x0.out.fs, .string x0.out.rs, .string x0.out.ofs, .string x0.out.ors, .bool x0.out.head, .slice q3a12 x0.files.length q3c12, .slice q3a13 x0.args.length q3c13] 37)) w4) _ _ (by simp)
  have d_x0_9 : w4.cell? ⟨w3.heap.size, 9, none⟩ = some (.string x0.out.ofs) := keeps_cells ((by repeat' (first | (with_reducible exact Below.refl _ _) | (with_reducible refine ext_trans ?_ hb4) | (with_reducible refine ext_trans ?_ hb3) | (with_reducible refine ext_trans ?_ hb2) | (with_reducible refine ext_trans ?_ hb1) | (with_reducible refine ext_trans ?_ hb0) | (with_reducible refine ext_trans ?_ (ext_alloc _ _)) | (with_reducible refine Below.drew ?_) | (with_reducible refine Below.setCell ?_ ?_ _) | (simp; done) | (simp; omega) | omega)) : Below (w3.alloc (.cells #[.int .i64 x0.inp.tag, .string x0.inp.fs, .string x0.inp.rs, .string x0.inp.ofs, .string x0.inp.ors, .bool x0.inp.head, .int .i64 x0.out.tag, .string x0.out.fs, .string x0.out.rs, .string x0.out.ofs, .string x0.out.ors, .bool x0.out.head, .slice q3a12 x0.files.length q3c12, .slice q3a13 x0.args.length q3c13] 37)).heap.size (w3.alloc (.cells #[.int .i64 x0.inp.tag, .string x0.inp.fs, .string x0.inp.rs, .string x0.inp.ofs, .string x0.inp.ors, .bool x0.inp.head, .int .i64 x0.out.tag, .string x0.out.fs, .string x0.out.rs, .string x0.out.ofs, .string x0.out.ors, .bool x0.out.head, .slice q3a12 x0.files.length q3c12, .slice q3a13 x0.args.length q3c13] 37)) w4) _ _ (by simp)
  have d_x0_10 : w4.cell? ⟨w3.heap.size, 10, none⟩ = some (.string x0.out.ors) := keeps_cells ((by repeat' (first | (with_reducible exact Below.refl _ _) | (with_reducible refine ext_trans ?_ hb4) | (with_reducible refine ext_trans ?_ hb3) | (with_reducible refine ext_trans ?_ hb2) | (with_reducible refine ext_trans ?_ hb1) | (with_reducible refine ext_trans ?_ hb0) | (with_reducible refine ext_trans ?_ (ext_alloc _ _)) | (with_reducible refine Below.drew ?_) | (with_reducible refine Below.setCell ?_ ?_ _) | (simp; done) | (simp; omega) | omega)) : Below (w3.alloc (.cells #[.int .i64 x0.inp.tag, .string x0.inp.fs, .string x0.inp.rs, .string x0.inp.ofs, .string x0.inp.ors, .bool x0.inp.head, .int .i64 x0.out.tag, .string x0.out.fs, .string x0.out.rs, .string x0.out.ofs, .string x0.out.ors, .bool x0.out.head, .slice q3a12 x0.files.length q3c12, .slice q3a13 x0.args.length q3c13] 37)).heap.size (w3.alloc (.cells #[.int .i64 x0.inp.tag, .string x0.inp.fs, .string x0.inp.rs, .string x0.inp.ofs, .string x0.inp.ors, .bool x0.inp.head, .int .i64 x0.out.tag, .string x0.out.fs, .string x0.out.rs, .string x0.out.ofs, .string x0.out.ors, .bool x0.out.head, .slice q3a12 x0.files.length q3c12, .slice q3a13 x0.args.length q3c13] 37)) w4) _ _ (by simp)
  have d_x0_11 : w4.cell? ⟨w3.heap.size, 11, none⟩ = some (.bool x0.out.head) := keeps_cells ((by repeat' (first | (with_reducible exact Below.refl _ _) | (with_reducible refine ext_trans ?_ hb4) | (with_reducible refine ext_trans ?_ hb3) | (with_reducible refine ext_trans ?_ hb2) | (with_reducible refine ext_trans ?_ hb1) | (with_reducible refine ext_trans ?_ hb0) | (with_reducible refine ext_trans ?_ (ext_alloc _ _)) | (with_reducible refine Below.drew ?_) | (with_reducible refine Below.setCell ?_ ?_ _) | (simp; done) | (simp; omega) | omega)) : Below (w3.alloc (.cells #[.int .i64 x0.inp.tag, .string x0.inp.fs, .string x0.inp.rs, .string x0.inp.ofs, .string x0.inp.ors, .bool x0.inp.head, .int .i64 x0.out.tag, .string x0.out.fs, .string x0.out.rs, .string x0.out.ofs, .string x0.out.ors, .bool x0.out.head, .slice q3a12 x0.files.length q3c12, .slice q3a13 x0.args.length q3c13] 37)).heap.size (w3.alloc (.cells #[.int .i64 x0.inp.tag, .string x0.inp.fs, .string x0.inp.rs, .string x0.inp.ofs, .string x0.inp.ors, .bool x0.inp.head, .int .i64 x0.out.tag, .string x0.out.fs, .string x0.out.rs, .string x0.out.ofs, .string x0.out.ors, .bool x0.out.head, .slice q3a12 x0.files.length q3c12, .slice q3a13 x0.args.length q3c13] 37)) w4) _ _ (by simp)
  have d_x0_12 : w4.cell? ⟨w3.heap.size, 12, none⟩ = some (.slice q3a12 x0.files.length q3c12) := keeps_cells ((by repeat' (first | (with_reducible exact Below.refl _ _) | (with_reducible refine ext_trans ?_ hb4) | (with_reducible refine ext_trans ?_ hb3) | (with_reducible refine ext_trans ?_ hb2) | (with_reducible refine ext_trans ?_ hb1) | (with_reducible refine ext_trans ?_ hb0) | (with_reducible refine ext_trans ?_ (ext_alloc _ _)) | (with_reducible refine Below.drew ?_) | (with_reducible refine Below.setCell ?_ ?_ _) | (simp; done) | (simp; omega) | omega)) : Below (w3.alloc (.cells #[.int .i64 x0.inp.tag, .string x0.inp.fs, .string x0.inp.rs, .string x0.inp.ofs, .string x0.inp.ors, .bool x0.inp.head, .int .i64 x0.out.tag, .string x0.out.fs, .string x0.out.rs, .string x0.out.ofs, .string x0.out.ors, .bool x0.out.head, .slice q3a12 x0.files.length q3c12, .slice q3a13 x0.args.length q3c13] 37)).heap.size (w3.alloc (.cells #[.int .i64 x0.inp.tag, .string x0.inp.fs, .string x0.inp.rs, .string x0.inp.ofs, .string x0.inp.ors, .bool x0.inp.head, .int .i64 x0.out.tag, .string x0.out.fs, .string x0.out.rs, .string x0.out.ofs, .string x0.out.ors, .bool x0.out.head, .slice q3a12 x0.files.length q3c12, .slice q3a13 x0.args.length q3c13] 37)) w4) _ _ (by simp)
  have d_x0_13 : w4.cell? ⟨w3.heap.size, 13, none⟩ = some (.slice q3a13 x0.args.length q3c13) := keeps_cells ((by repeat' (first | (with_reducible exact Below.refl _ _) | (with_reducible refine ext_trans ?_ hb4) | (with_reducible refine ext_trans ?_ hb3) | (with_reducible refine ext_trans ?_ hb2) | (with_reducible refine ext_trans ?_ hb1) | (with_reducible refine ext_trans ?_ hb0) | (with_reducible refine ext_trans ?_ (ext_alloc _ _)) | (with_reducible refine Below.drew ?_) | (with_reducible refine Below.setCell ?_ ?_ _) | (simp; done) | (simp; omega) | omega)) : Below (w3.alloc (.cells #[.int .i64 x0.inp.tag, .string x0.inp.fs, .string x0.inp.rs, .string x0.inp.ofs, .string x0.inp.ors, .bool x0.inp.head, .int .i64 x0.out.tag, .string x0.out.fs, .string x0.out.rs, .string x0.out.ofs, .string x0.out.ors, .bool x0.out.head, .slice q3a12 x0.files.length q3c12, .slice q3a13 x0.args.length q3c13] 37)).heap.size (w3.alloc (.cells #[.int .i64 x0.inp.tag, .string x0.inp.fs, .string x0.inp.rs, .string x0.inp.ofs, .string x0.inp.ors, .bool x0.inp.head, .int .i64 x0.out.tag, .string x0.out.fs, .string x0.out.rs, .string x0.out.ofs, .string x0.out.ors, .bool x0.out.head, .slice q3a12 x0.files.length q3c12, .slice q3a13 x0.args.length q3c13] 37)) w4) _ _ (by simp)
  have d_aW_0 : w4.cell? ⟨W.heap.size, 0, none⟩ = some (.int .i64 x0.inp.tag) := keeps_cells ((by repeat' (first | (with_reducible exact Below.refl _ _) | (with_reducible refine ext_trans ?_ hb4) | (with_reducible refine ext_trans ?_ hb3) | (with_reducible refine ext_trans ?_ hb2) | (with_reducible refine ext_trans ?_ hb1) | (with_reducible refine ext_trans ?_ hb0) | (with_reducible refine ext_trans ?_ (ext_alloc _ _)) | (with_reducible refine Below.drew ?_) | (with_reducible refine Below.setCell ?_ ?_ _) | (simp; done) | (simp; omega) | omega)) : Below (W.alloc (.cells #[.int .i64 x0.inp.tag, .string x0.inp.fs, .string x0.inp.rs, .string x0.inp.ofs, .string x0.inp.ors, .bool x0.inp.head, .int .i64 x0.out.tag, .string x0.out.fs, .string x0.out.rs, .string x0.out.ofs, .string x0.out.ors, .bool x0.out.head, .slice p0a12 x0.files.length p0c12, .slice p0a13 x0.args.length p0c13] 32)).heap.size (W.alloc (.cells #[.int .i64 x0.inp.tag, .string x0.inp.fs, .string x0.inp.rs, .string x0.inp.ofs, .string x0.inp.ors, .bool x0.inp.head, .int .i64 x0.out.tag, .string x0.out.fs, .string x0.out.rs, .string x0.out.ofs, .string x0.out.ors, .bool x0.out.head, .slice p0a12 x0.files.length p0c12, .slice p0a13 x0.args.length p0c13] 32)) w4) _ _ (by simp)
  have d_aW_1 : w4.cell? ⟨W.heap.size, 1, none⟩ = some (.string x0.inp.fs) := keeps_cells ((by repeat' (first | (with_reducible exact Below.refl _ _) | (with_reducible refine ext_trans ?_ hb4) | (with_reducible refine ext_trans ?_ hb3) | (with_reducible refine ext_trans ?_ hb2) | (with_reducible refine ext_trans ?_ hb1) | (with_reducible refine ext_trans ?_ hb0) | (with_reducible refine ext_trans ?_ (ext_alloc _ _)) | (with_reducible refine Below.drew ?_) | (with_reducible refine Below.setCell ?_ ?_ _) | (simp; done) | (simp; omega) | omega)) : Below (W.alloc (.cells #[.int .i64 x0.inp.tag, .string x0.inp.fs, .string x0.inp.rs, .string x0.inp.ofs, .string x0.inp.ors, .bool x0.inp.head, .int .i64 x0.out.tag, .string x0.out.fs, .string x0.out.rs, .string x0.out.ofs, .string x0.out.ors, .bool x0.out.head, .slice p0a12 x0.files.length p0c12, .slice p0a13 x0.args.length p0c13] 32)).heap.size (W.alloc (.cells #[.int .i64 x0.inp.tag, .string x0.inp.fs, .string x0.inp.rs, .string x0.inp.ofs, .string x0.inp.ors, .bool x0.inp.head, .int .i64 x0.out.tag, .string x0.out.fs, .string x0.out.rs, .string x0.out.ofs, .string x0.out.ors, .bool x0.out.head, .slice p0a12 x0.files.length p0c12, .slice p0a13 x0.args.length p0c13] 32)) w4) _ _ (by simp)
  have d_aW_2 : w4.cell? ⟨W.heap.size, 2, none⟩ = some (.string x0.inp.rs) := keeps_cells ((by repeat' (first | (with_reducible exact Below.refl _ _) | (with_reducible refine ext_trans ?_ hb4) | (with_reducible refine ext_trans ?_ hb3) | (with_reducible refine ext_trans ?_ hb2) | (with_reducible refine ext_trans ?_ hb1) | (with_reducible refine ext_trans ?_ hb0) | (with_reducible refine ext_trans ?_ (ext_alloc _ _)) | (with_reducible refine Below.drew ?_) | (with_reducible refine Below.setCell ?_ ?_ _) | (simp; done) | (simp; omega) | omega)) : Below (W.alloc (.cells #[.int .i64 x0.inp.tag, .string x0.inp.fs, .string x0.inp.rs, .string x0.inp.ofs, .string x0.inp.ors, .bool x0.inp.head, .int .i64 x0.out.tag, .string x0.out.fs, .string x0.out.rs, .string x0.out.ofs, .string x0.out.ors, .bool x0.out.head, .slice p0a12 x0.files.length p0c12, .slice p0a13 x0.args.length p0c13] 32)).heap.size (W.alloc (.cells #[.int .i64 x0.inp.tag, .string x0.inp.fs, .string x0.inp.rs, .string x0.inp.ofs, .string x0.inp.ors, .bool x0.inp.head, .int .i64 x0.out.tag, .string x0.out.fs, .string x0.out.rs, .string x0.out.ofs, .string x0.out.ors, .bool x0.out.head, .slice p0a12 x0.files.length p0c12, .slice p0a13 x0.args.length p0c13] 32)) w4) _ _ (by simp)
  have d_aW_3 : w4.cell? ⟨W.heap.size, 3, none⟩ = some (.string x0.inp.ofs) := keeps_cells ((by repeat' (first | (with_reducible exact Below.refl _ _) | (with_reducible refine ext_trans ?_ hb4) | (with_reducible refine ext_trans ?_ hb3) | (with_reducible refine ext_trans ?_ hb2) | (with_reducible refine ext_trans ?_ hb1) | (with_reducible refine ext_trans ?_ hb0) | (with_reducible refine ext_trans ?_ (ext_alloc _ _)) | (with_reducible refine Below.drew ?_) | (with_reducible refine Below.setCell ?_ ?_ _) | (simp; done) | (simp; omega) | omega)) : Below (W.alloc (.cells #[.int .i64 x0.inp.tag, .string x0.inp.fs, .string x0.inp.rs, .string x0.inp.ofs, .string x0.inp.ors, .bool x0.inp.head, .int .i64 x0.out.tag, .string x0.out.fs, .string x0.out.rs, .string x0.out.ofs, .string x0.out.ors, .bool x0.out.head, .slice p0a12 x0.files.length p0c12, .slice p0a13 x0.args.length p0c13] 32)).heap.size (W.alloc (.cells #[.int .i64 x0.inp.tag, .string x0.inp.fs, .string x0.inp.rs, .string x0.inp.ofs, .string x0.inp.ors, .bool x0.inp.head, .int .i64 x0.out.tag, .string x0.out.fs, .string x0.out.rs, .string x0.out.ofs, .string x0.out.ors, .bool x0.out.head, .slice p0a12 x0.files.length p0c12, .slice p0a13 x0.args.length p0c13] 32)) w4) _ _ (by simp)
  have d_aW_4 : w4.cell? ⟨W.heap.size, 4, none⟩ = some (.string x0.inp.ors) := keeps_cells ((by repeat' (first | (with_reducible exact Below.refl _ _) | (with_reducible refine ext_trans ?_ hb4) | (with_reducible refine ext_trans ?_ hb3) | (with_reducible refine ext_trans ?_ hb2) | (with_reducible refine ext_trans ?_ hb1) | (with_reducible refine ext_trans ?_ hb0) | (with_reducible refine ext_trans ?_ (ext_alloc _ _)) | (with_reducible refine Below.drew ?_) | (with_reducible refine Below.setCell ?_ ?_ _) | (simp; done) | (simp; omega) | omega)) : Below (W.alloc (.cells #[.int .i64 x0.inp.tag, .string x0.inp.fs, .string x0.inp.rs, .string x0.inp.ofs, .string x0.inp.ors, .bool x0.inp.head, .int .i64 x0.out.tag, .string x0.out.fs, .string x0.out.rs, .string x0.out.ofs, .string x0.out.ors, .bool x0.out.head, .slice p0a12 x0.files.length p0c12, .slice p0a13 x0.args.length p0c13] 32)).heap.size (W.alloc (.cells #[.int .i64 x0.inp.tag, .string x0.inp.fs, .string x0.inp.rs, .string x0.inp.ofs, .string x0.inp.ors, .bool x0.inp.head, .int .i64 x0.out.tag, .string x0.out.fs, .string x0.out.rs, .string x0.out.ofs, .string x0.out.ors, .bool x0.out.head, .slice p0a12 x0.files.length p0c12, .slice p0a13 x0.args.length p0c13] 32)) w4) _ _ (by simp)
  have d_aW_5 : w4.cell? ⟨W.heap.size, 5, none⟩ = some (.bool x0.inp.head) := keeps_cells ((by repeat' (first | (with_reducible exact Below.refl _ _) | (with_reducible refine ext_trans ?_ hb4) | (with_reducible refine ext_trans ?_ hb3) | (with_reducible refine ext_trans ?_ hb2) | (with_reducible refine ext_trans ?_ hb1) | (with_reducible refine ext_trans ?_ hb0) | (with_reducible refine ext_trans ?_ (ext_alloc _ _)) | (with_reducible refine Below.drew ?_) | (with_reducible refine Below.setCell ?_ ?_ _) | (simp; done) | (simp; omega) | omega)) : Below (W.alloc (.cells #[.int .i64 x0.inp.tag, .string x0.inp.fs, .string x0.inp.rs, .string x0.inp.ofs, .string x0.inp.ors, .bool x0.inp.head, .int .i64 x0.out.tag, .string x0.out.fs, .string x0.out.rs, .string x0.out.ofs, .string x0.out.ors, .bool x0.out.head, .slice p0a12 x0.files.length p0c12, .slice p0a13 x0.args.length p0c13] 32)).heap.size (W.alloc (.cells #[.int .i64 x0.inp.tag, .string x0.inp.fs, .string x0.inp.rs, .string x0.inp.ofs, .string x0.inp.ors, .bool x0.inp.head, .int .i64 x0.out.tag, .string x0.out.fs, .string x0.out.rs, .string x0.out.ofs, .string x0.out.ors, .bool x0.out.head, .slice p0a12 x0.files.length p0c12, .slice p0a13 x0.args.length p0c13] 32)) w4) _ _ (by simp)
  have d_aW_6 : w4.cell? ⟨W.heap.size, 6, none⟩ = some (.int .i64 x0.out.tag) := keeps_cells ((by repeat' (first | (with_reducible exact Below.refl _ _) | (with_reducible refine ext_trans ?_ hb4) | (with_reducible refine ext_trans ?_ hb3) | (with_reducible refine ext_trans ?_ hb2) | (with_reducible refine ext_trans ?_ hb1) | (with_reducible refine ext_trans ?_ hb0) | (with_reducible refine ext_trans ?_ (ext_alloc _ _)) | (with_reducible refine Below.drew ?_) | (with_reducible refine Below.setCell ?_ ?_ _) | (simp; done) | (simp; omega) | omega)) : Below (W.alloc (.cells #[.int .i64 x0.inp.tag, .string x0.inp.fs, .string x0.inp.rs, .string x0.inp.ofs, .string x0.inp.ors, .bool x0.inp.head, .int .i64 x0.out.tag, .string x0.out.fs, .string x0.out.rs, .string x0.out.ofs, .string x0.out.ors, .bool x0.out.head, .slice p0a12 x0.files.length p0c12, .slice p0a13 x0.args.length p0c13] 32)).heap.size (W.alloc (.cells #[.int .i64 x0.inp.tag, .string x0.inp.fs, .string x0.inp.rs, .string x0.inp.ofs, .string x0.inp.ors, .bool x0.inp.head, .int .i64 x0.out.tag, .string x0.out.fs, .string x0.out.rs, .string x0.out.ofs, .string x0.out.ors, .bool x0.out.head, .slice p0a12 x0.files.length p0c12, .slice p0a13 x0.args.length p0c13] 32)) w4) _ _ (by simp)
  have d_aW_7 : w4.cell? ⟨W.heap.size, 7, none⟩ = some (.string x0.out.fs) := keeps_cells ((by repeat' (first | (with_reducible exact Below.refl _ _) | (with_reducible refine ext_trans ?_ hb4) | (with_reducible refine ext_trans ?_ hb3) | (with_reducible refine ext_trans ?_ hb2) | (with_reducible refine ext_trans ?_ hb1) | (with_reducible refine ext_trans ?_ hb0) | (with_reducible refine ext_trans ?_ (ext_alloc _ _)) | (with_reducible refine Below.drew ?_) | (with_reducible refine Below.setCell ?_ ?_ _) | (simp; done) | (simp; omega) | omega)) : Below (W.alloc (.cells #[.int .i64 x0.inp.tag, .string x0.inp.fs, .string x0.inp.rs, .string x0.inp.ofs, .string x0.inp.ors, .bool x0.inp.head, .int .i64 x0.out.tag, .string x0.out.fs, .string x0.out.rs, .string x0.out.ofs, .string x0.out.ors, .bool x0.out.head, .slice p0a12 x0.files.length p0c12, .slice p0a13 x0.args.length p0c13] 32)).heap.size (W.alloc (.cells #[.int .i64 x0.inp.tag, .string x0.inp.fs, .string x0.inp.rs, .string x0.inp.ofs, .string x0.inp.ors, .bool x0.inp.head, .int .i64 x0.out.tag, .string x0.out.fs, .string x0.out.rs, .string x0.out.ofs, .string x0.out.ors, .bool x0.out.head, .slice p0a12 x0.files.length p0c12, .slice p0a13 x0.args.length p0c13] 32)) w4) _ _ (by simp)
  have d_aW_8 : w4.cell? ⟨W.heap.size, 8, none⟩ = some (.string x0.out.rs) := keeps_cells ((by repeat' (first | (with_reducible exact Below.refl _ _) | (with_reducible refine ext_trans ?_ hb4) | (with_reducible refine ext_trans ?_ hb3) | (with_reducible refine ext_trans ?_ hb2) | (with_reducible refine ext_trans ?_ hb1) | (with_reducible refine ext_trans ?_ hb0) | (with_reducible refine ext_trans ?_ (ext_alloc _ _)) | (with_reducible refine Below.drew ?_) | (with_reducible refine Below.setCell ?_ ?_ _) | (simp; done) | (simp; omega) | omega)) : Below (W.alloc (.cells #[.int .i64 x0.inp.tag, .string x0.inp.fs, .string x0.inp.rs, .string x0.inp.ofs, .string x0.inp.ors, .bool x0.inp.head, .int .i64 x0.out.tag, .string x0.out.fs, .string x0.out.rs, .string x0.out.ofs, .string x0.out.ors, .bool x0.out.head, .slice p0a12 x0.files.length p0c12, .slice p0a13 x0.args.length p0c13] 32)).heap.size (W.alloc (.cells #[.int .i64 x0.inp.tag, .string x0.inp.fs, .string x0.inp.rs, .string x0.inp.ofs, .string x0.inp.ors, .bool x0.inp.head, .int .i64 x0.out.tag, .string x0.out.fs, .string x0.out.rs, .string x0.out.ofs, .string x0.out.ors, .bool x0.out.head, .slice p0a12 x0.files.length p0c12, .slice p0a13 x0.args.length p0c13] 32)) w4) _ _ (by simp)
  have d_aW_9 : w4.cell? ⟨W.heap.size, 9, none⟩ = some (.string x0.out.ofs) := keeps_cells ((by repeat' (first | (with_reducible exact Below.refl _ _) | (with_reducible refine ext_trans ?_ hb4) | (with_reducible refine ext_trans ?_ hb3) | (with_reducible refine ext_trans ?_ hb2) | (with_reducible refine ext_trans ?_ hb1) | (with_reducible refine ext_trans ?_ hb0) | (with_reducible refine ext_trans ?_ (ext_alloc _ _)) | (with_reducible refine Below.drew ?_) | (with_reducible refine Below.setCell ?_ ?_ _) | (simp; done) | (simp; omega) | omega)) : Below (W.alloc (.cells #[.int .i64 x0.inp.tag, .string x0.inp.fs, .string x0.inp.rs, .string x0.inp.ofs, .string x0.inp.ors, .bool x0.inp.head, .int .i64 x0.out.tag, .string x0.out.fs, .string x0.out.rs, .string x0.out.ofs, .string x0.out.ors, .bool x0.out.head, .slice p0a12 x0.files.length p0c12, .slice p0a13 x0.args.length p0c13] 32)).heap.size (W.alloc (.cells #[.int .i64 x0.inp.tag, .string x0.inp.fs, .string x0.inp.rs, .string x0.inp.ofs, .string x0.inp.ors, .bool x0.inp.head, .int .i64 x0.out.tag, .string x0.out.fs, .string x0.out.rs, .string x0.out.ofs, .string x0.out.ors, .bool x0.out.head, .slice p0a12 x0.files.length p0c12, .slice p0a13 x0.args.length p0c13] 32)) w4) _ _ (by simp)
  have d_aW_10 : w4.cell? ⟨W.heap.size, 10, none⟩ = some (.string x0.out.ors) := keeps_cells ((by repeat' (first | (with_reducible exact Below.refl _ _) | (with_reducible refine ext_trans ?_ hb4) | (with_reducible refine ext_trans ?_ hb3) | (with_reducible refine ext_trans ?_ hb2) | (with_reducible refine ext_trans ?_ hb1) | (with_reducible refine ext_trans ?_ hb0) | (with_reducible refine ext_trans ?_ (ext_alloc _ _)) | (with_reducible refine Below.drew ?_) | (with_reducible refine Below.setCell ?_ ?_ _) | (simp; done) | (simp; omega) | omega)) : Below (W.alloc (.cells #[.int .i64 x0.inp.tag, .string x0.inp.fs, .string x0.inp.rs, .string x0.inp.ofs, .string x0.inp.ors, .bool x0.inp.head, .int .i64 x0.out.tag, .string x0.out.fs, .string x0.out.rs, .string x0.out.ofs, .string x0.out.ors, .bool x0.out.head, .slice p0a12 x0.files.length p0c12, .slice p0a13 x0.args.length p0c13] 32)).heap.size (W.alloc (.cells #[.int .i64 x0.inp.tag, .string x0.inp.fs, .string x0.inp.rs, .string x0.inp.ofs, .string x0.inp.ors, .bool x0.inp.head, .int .i64 x0.out.tag, .string x0.out.fs, .string x0.out.rs, .string x0.out.ofs, .string x0.out.ors, .bool x0.out.head, .slice p0a12 x0.files.length p0c12, .slice p0a13 x0.args.length p0c13] 32)) w4) _ _ (by simp)
  have d_aW_11 : w4.cell? ⟨W.heap.size, 11, none⟩ = some (.bool x0.out.head) := keeps_cells ((by repeat' (first | (with_reducible exact Below.refl _ _) | (with_reducible refine ext_trans ?_ hb4) | (with_reducible refine ext_trans ?_ hb3) | (with_reducible refine ext_trans ?_ hb2) | (with_reducible refine ext_trans ?_ hb1) | (with_reducible refine ext_trans ?_ hb0) | (with_reducible refine ext_trans ?_ (ext_alloc _ _)) | (with_reducible refine Below.drew ?_) | (with_reducible refine Below.setCell ?_ ?_ _) | (simp; done) | (simp; omega) | omega)) : Below (W.alloc (.cells #[.int .i64 x0.inp.tag, .string x0.inp.fs, .string x0.inp.rs, .string x0.inp.ofs, .string x0.inp.ors, .bool x0.inp.head, .int .i64 x0.out.tag, .string x0.out.fs, .string x0.out.rs, .string x0.out.ofs, .string x0.out.ors, .bool x0.out.head, .slice p0a12 x0.files.length p0c12, .slice p0a13 x0.args.length p0c13] 32)).heap.size (W.alloc (.cells #[.int .i64 x0.inp.tag, .string x0.inp.fs, .string x0.inp.rs, .string x0.inp.ofs, .string x0.inp.ors, .bool x0.inp.head, .int .i64 x0.out.tag, .string x0.out.fs, .string x0.out.rs, .string x0.out.ofs, .string x0.out.ors, .bool x0.out.head, .slice p0a12 x0.files.length p0c12, .slice p0a13 x0.args.length p0c13] 32)) w4) _ _ (by simp)
  have d_aW_12 : w4.cell? ⟨W.heap.size, 12, none⟩ = some (.slice p0a12 x0.files.length p0c12) := keeps_cells ((by repeat' (first | (with_reducible exact Below.refl _ _) | (with_reducible refine ext_trans ?_ hb4) | (with_reducible refine ext_trans ?_ hb3) | (with_reducible refine ext_trans ?_ hb2) | (with_reducible refine ext_trans ?_ hb1) | (with_reducible refine ext_trans ?_ hb0) | (with_reducible refine ext_trans ?_ (ext_alloc _ _)) | (with_reducible refine Below.drew ?_) | (with_reducible refine Below.setCell ?_ ?_ _) | (simp; done) | (simp; omega) | omega)) : Below (W.alloc (.cells #[.int .i64 x0.inp.tag, .string x0.inp.fs, .string x0.inp.rs, .string x0.inp.ofs, .string x0.inp.ors, .bool x0.inp.head, .int .i64 x0.out.tag, .string x0.out.fs, .string x0.out.rs, .string x0.out.ofs, .string x0.out.ors, .bool x0.out.head, .slice p0a12 x0.files.length p0c12, .slice p0a13 x0.args.length p0c13] 32)).heap.size (W.alloc (.cells #[.int .i64 x0.inp.tag, .string x0.inp.fs, .string x0.inp.rs, .string x0.inp.ofs, .string x0.inp.ors, .bool x0.inp.head, .int .i64 x0.out.tag, .string x0.out.fs, .string x0.out.rs, .string x0.out.ofs, .string x0.out.ors, .bool x0.out.head, .slice p0a12 x0.files.length p0c12, .slice p0a13 x0.args.length p0c13] 32)) w4) _ _ (by simp)
  have d_aW_13 : w4.cell? ⟨W.heap.size, 13, none⟩ = some (.slice p0a13 x0.args.length p0c13) := keeps_cells ((by repeat' (first | (with_reducible exact Below.refl _ _) | (with_reducible refine ext_trans ?_ hb4) | (with_reducible refine ext_trans ?_ hb3) | (with_reducible refine ext_trans ?_ hb2) | (with_reducible refine ext_trans ?_ hb1) | (with_reducible refine ext_trans ?_ hb0) | (with_reducible refine ext_trans ?_ (ext_alloc _ _)) | (with_reducible refine Below.drew ?_) | (with_reducible refine Below.setCell ?_ ?_ _) | (simp; done) | (simp; omega) | omega)) : Below (W.alloc (.cells #[.int .i64 x0.inp.tag, .string x0.inp.fs, .string x0.inp.rs, .string x0.inp.ofs, .string x0.inp.ors, .bool x0.inp.head, .int .i64 x0.out.tag, .string x0.out.fs, .string x0.out.rs, .string x0.out.ofs, .string x0.out.ors, .bool x0.out.head, .slice p0a12 x0.files.length p0c12, .slice p0a13 x0.args.length p0c13] 32)).heap.size (W.alloc (.cells #[.int .i64 x0.inp.tag, .string x0.inp.fs, .string x0.inp.rs, .string x0.inp.ofs, .string x0.inp.ors, .bool x0.inp.head, .int .i64 x0.out.tag, .string x0.out.fs, .string x0.out.rs, .string x0.out.ofs, .string x0.out.ors, .bool x0.out.head, .slice p0a12 x0.files.length p0c12, .slice p0a13 x0.args.length p0c13] 32)) w4) _ _ (by simp)
  go_region_held3 (fun w' => w'.cell? ⟨w3.heap.size, 0, none⟩ = some (.int .i64 x0.inp.tag) ∧ w'.cell? ⟨w3.heap.size, 1, none⟩ = some (.string x0.inp.fs) ∧ w'.cell? ⟨w3.heap.size, 2, none⟩ = some (.string x0.inp.rs) ∧ w'.cell? ⟨w3.heap.size, 3, none⟩ = some (.string x0.inp.ofs) ∧ w'.cell? ⟨w3.heap.size, 4, none⟩ = some (.string x0.inp.ors) ∧ w'.cell? ⟨w3.heap.size, 5, none⟩ = some (.bool x0.inp.head) ∧ w'.cell? ⟨w3.heap.size, 6, none⟩ = some (.int .i64 x0.out.tag) ∧ w'.cell? ⟨w3.heap.size, 7, none⟩ = some (.string x0.out.fs) ∧ w'.cell? ⟨w3.heap.size, 8, none⟩ = some (.string x0.out.rs) ∧ w'.cell? ⟨w3.heap.size, 9, none⟩ = some (.string x0.out.ofs) ∧ w'.cell? ⟨w3.heap.size, 10, none⟩ = some (.string x0.out.ors) ∧ w'.cell? ⟨w3.heap.size, 11, none⟩ = some (.bool x0.out.head) ∧ w'.cell? ⟨w3.heap.size, 12, none⟩ = some (.slice q3a12 x0.files.length q3c12) ∧ w'.cell? ⟨w3.heap.size, 13, none⟩ = some (.slice q3a13 x0.args.length q3c13) ∧ w'.cell? ⟨W.heap.size, 0, none⟩ = some (.int .i64 x0.inp.tag) ∧ w'.cell? ⟨W.heap.size, 1, none⟩ = some (.string x0.inp.fs) ∧ w'.cell? ⟨W.heap.size, 2, none⟩ = some (.string x0.inp.rs) ∧ w'.cell? ⟨W.heap.size, 3, none⟩ = some (.string x0.inp.ofs) ∧ w'.cell? ⟨W.heap.size, 4, none⟩ = some (.string x0.inp.ors) ∧ w'.cell? ⟨W.heap.size, 5, none⟩ = some (.bool x0.inp.head) ∧ w'.cell? ⟨W.heap.size, 6, none⟩ = some (.int .i64 x0.out.tag) ∧ w'.cell? ⟨W.heap.size, 7, none⟩ = some (.string x0.out.fs) ∧ w'.cell? ⟨W.heap.size, 8, none⟩ = some (.string x0.out.rs) ∧ w'.cell? ⟨W.heap.size, 9, none⟩ = some (.string x0.out.ofs) ∧ w'.cell? ⟨W.heap.size, 10, none⟩ = some (.string x0.out.ors) ∧ w'.cell? ⟨W.heap.size, 11, none⟩ = some (.bool x0.out.head) ∧ w'.cell? ⟨W.heap.size, 12, none⟩ = some (.slice p0a12 x0.files.length p0c12) ∧ w'.cell? ⟨W.heap.size, 13, none⟩ = some (.slice p0a13 x0.args.length p0c13)) (simp [*])
    (first | (go_at_call 11; refine (toWorldT_any _ (by exact Rd.later (by repeat' (first | (with_reducible exact Below.refl _ _) | (with_reducible refine ext_trans ?_ hb4) | (with_reducible refine ext_trans ?_ hb3) | (with_reducible refine ext_trans ?_ hb2) | (with_reducible refine ext_trans ?_ hb1) | (with_reducible refine ext_trans ?_ hb0) | (with_reducible refine ext_trans ?_ (ext_alloc _ _)) | (with_reducible refine Below.drew ?_) | (with_reducible refine Below.setCell ?_ ?_ _) | (simp; done) | (simp; omega) | omega)) h0) hzz0).mono ?_; rintro e w5 ⟨q5, rfl, hr5, hb5⟩; replace hr5 := Rd.old hr5; have hkc5 := keeps_cells hb5) | (go_at_call 13; refine (eqWorldT_same _ (by exact Rd.later (by repeat' (first | (with_reducible exact Below.refl _ _) | (with_reducible refine ext_trans ?_ hb5) | (with_reducible refine ext_trans ?_ hb4) | (with_reducible refine ext_trans ?_ hb3) | (with_reducible refine ext_trans ?_ hb2) | (with_reducible refine ext_trans ?_ hb1) | (with_reducible refine ext_trans ?_ hb0) | (with_reducible refine ext_trans ?_ (ext_alloc _ _)) | (with_reducible refine Below.drew ?_) | (with_reducible refine Below.setCell ?_ ?_ _) | (simp; done) | (simp; omega) | omega)) hr3) (by exact Rd.later (by repeat' (first | (with_reducible exact Below.refl _ _) | (with_reducible refine ext_trans ?_ hb5) | (with_reducible refine ext_trans ?_ hb4) | (with_reducible refine ext_trans ?_ hb3) | (with_reducible refine ext_trans ?_ hb2) | (with_reducible refine ext_trans ?_ hb1) | (with_reducible refine ext_trans ?_ hb0) | (with_reducible refine ext_trans ?_ (ext_alloc _ _)) | (with_reducible refine Below.drew ?_) | (with_reducible refine Below.setCell ?_ ?_ _) | (simp; done) | (simp; omega) | omega)) hr5)).mono ?_; rintro e w6 ⟨rfl, hb6⟩; have hkc6 := keeps_cells hb6))
  go_wp2
  go_ret
  exact ⟨rfl, (by repeat' (first | (with_reducible exact Below.refl _ _) | (with_reducible refine ext_trans ?_ hb6) | (with_reducible refine ext_trans ?_ hb5) | (with_reducible refine ext_trans ?_ hb4) | (with_reducible refine ext_trans ?_ hb3) | (with_reducible refine ext_trans ?_ hb2) | (with_reducible refine ext_trans ?_ hb1) | (with_reducible refine ext_trans ?_ hb0) | (with_reducible refine ext_trans ?_ (ext_alloc _ _)) | (with_reducible refine Below.drew ?_) | (with_reducible refine Below.setCell ?_ ?_ _) | (simp; done) | (simp; omega) | omega))⟩
end Go.Proofs.YtkmkencodcfloaaDoor
