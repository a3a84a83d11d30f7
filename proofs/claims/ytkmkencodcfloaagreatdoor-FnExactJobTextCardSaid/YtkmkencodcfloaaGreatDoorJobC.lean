/-
  What is proved here: the text of a job, and which jobs are sound, in impl and in the reference. The conditions 'Tabs' and 'TP' say that the library's tables lie in the world.
  What is proved here: which jobs are sound, and their texts, in impl and in the reference. The conditions 'Tabs' and 'TP' say that the library's tables lie in the world.
-/
import Derived.Test.YtkmkencodcfloaaGreatDoorJobB
import Derived.Laws.Concat
import Derived.Laws.Cover1
namespace Go.Proofs.YtkmkencodcfloaaGreatDoor
open Go.RowKit
set_option linter.unusedVariables false
set_option linter.unusedSimpArgs false

def qT (s : ByteArray) : ByteArray := mkB (quoteL s.data.toList)
theorem qT_size (s : ByteArray) : (qT s).size ≤ 2 * s.size + 2 := by
  have h1 := quoteH_len s.data.toList s.data.toList.length
  have h2 := Lib.size_eq s
  unfold qT
  rw [mkB_size]
  unfold quoteL
  rw [List.length_append]
  simp only [List.length_cons, List.length_nil]
  omega
theorem qT_ok {s : ByteArray} (h : okText s = true) : quoteT s = qT s := by unfold quoteT; rw [if_pos h]; rfl
theorem qT_file {s : ByteArray} (h : fileOk s = true) : fileQT s = qT s := by unfold fileQT; rw [if_pos h]; rfl
def headT (b : Bool) : ByteArray := if b then ⟨#[32, 49, 32]⟩ else ⟨#[32, 48, 32]⟩
def confT (c : Conf) : ByteArray := numB c.tag ++ headT c.head ++ qT c.fs ++ ⟨#[32]⟩ ++ qT c.rs ++ ⟨#[32]⟩ ++ qT c.ofs ++ ⟨#[32]⟩ ++ qT c.ors
structure ConfGood (c : Conf) : Prop where
  fs : okText c.fs = true
  rs : okText c.rs = true
  ofs : okText c.ofs = true
  ors : okText c.ors = true
theorem confGood {c : Conf} (h : confOk c = true) : ConfGood c := by
  unfold confOk at h
  simp only [Bool.and_eq_true] at h
  refine ⟨h.2.1, ?_, h.2.2.1, h.2.2.2.1⟩
  have hr := h.2.2.2.2.1
  cases hk : okText c.rs with
  | true => rfl
  | false =>
    rw [lenOf_no hk] at hr
    exact absurd hr (by decide)
theorem confT_size {c : Conf} (g : ConfGood c) (h : -9223372036854775808 ≤ c.tag ∧ c.tag ≤ 9223372036854775807) : (confT c).size ≤ 8035 := by
  have h0 := numB_size h
  have h1 := qT_size c.fs
  have h2 := qT_size c.rs
  have h3 := qT_size c.ofs
  have h4 := qT_size c.ors
  have g1 := ok_size g.fs
  have g2 := ok_size g.rs
  have g3 := ok_size g.ofs
  have g4 := ok_size g.ors
  have l1 : (⟨#[32]⟩ : ByteArray).size = 1 := rfl
  have l2 : (headT c.head).size = 3 := by cases c.head <;> rfl
  unfold confT
  simp only [ByteArray.size_append]
  omega
def fileL (f : File) : ByteArray := ⟨#[102, 105, 108, 101, 32]⟩ ++ qT f.name ++ ⟨#[32]⟩ ++ qT f.text ++ ⟨#[10]⟩
def argL (s : ByteArray) : ByteArray := ⟨#[97, 114, 103, 32]⟩ ++ qT s ++ ⟨#[10]⟩
def jobH (x : Job) : ByteArray := ⟨#[105, 110, 32]⟩ ++ confT x.world.inp ++ ⟨#[10, 111, 117, 116, 32]⟩ ++ confT x.world.out ++ ⟨#[10]⟩
def jobF (x : Job) (k : Nat) : List UInt8 := (jobH x).data.toList ++ (x.world.files.take k).flatMap fun f => (fileL f).data.toList
def jobG (x : Job) (m : Nat) : List UInt8 := jobF x x.world.files.length ++ (x.world.args.take m).flatMap fun s => (argL s).data.toList
def jobE (x : Job) : ByteArray := ⟨#[102, 117, 101, 108, 32]⟩ ++ numB x.fuel ++ ⟨#[10, 112, 114, 111, 103, 114, 97, 109, 32]⟩ ++ qT x.source ++ ⟨#[10]⟩
def jobT (x : Job) : ByteArray := mkB (jobG x x.world.args.length ++ (jobE x).data.toList)
theorem jobF_zero (x : Job) : jobF x 0 = (jobH x).data.toList := by unfold jobF; simp
theorem jobF_succ {x : Job} {k : Nat} (h : k < x.world.files.length) : jobF x (k + 1) = jobF x k ++ (fileL x.world.files[k]).data.toList := by
  unfold jobF
  rw [List.take_add_one, List.getElem?_eq_getElem h]
  show _ ++ (x.world.files.take k ++ [x.world.files[k]]).flatMap _ = _
  rw [List.flatMap_append, List.append_assoc]
  simp only [List.flatMap_cons, List.flatMap_nil, List.append_nil]
theorem jobG_zero (x : Job) : jobG x 0 = jobF x x.world.files.length := by unfold jobG; simp
theorem jobG_succ {x : Job} {k : Nat} (h : k < x.world.args.length) : jobG x (k + 1) = jobG x k ++ (argL x.world.args[k]).data.toList := by
  unfold jobG
  rw [List.take_add_one, List.getElem?_eq_getElem h]
  show _ ++ (x.world.args.take k ++ [x.world.args[k]]).flatMap _ = _
  rw [List.flatMap_append, List.append_assoc]
  simp only [List.flatMap_cons, List.flatMap_nil, List.append_nil]
noncomputable def jobOk (x : Job) : Bool := worldOk x.world && (fileOk x.source && (decide (x.source.size ≤ 3000) && (inB 0 x.fuel 2000 && decide ((jobT x).size ≤ 40000))))
noncomputable def jobOut (x : Job) : ByteArray := if jobOk x then jobT x else ⟨#[]⟩
structure JobGood (x : Job) : Prop where
  inp : ConfGood x.world.inp
  out : ConfGood x.world.out
  nf : x.world.files.length ≤ 8
  na : x.world.args.length ≤ 8
  name : ∀ k (h : k < x.world.files.length), okText x.world.files[k].name = true
  text : ∀ k (h : k < x.world.files.length), fileOk x.world.files[k].text = true
  arg : ∀ k (h : k < x.world.args.length), okText x.world.args[k] = true
  source : fileOk x.source = true
theorem jobGood {x : Job} (h : worldOk x.world = true) (hs : fileOk x.source = true) : JobGood x := by
  unfold worldOk at h
  simp only [Bool.and_eq_true, decide_eq_true_eq] at h
  obtain ⟨h1, h2, h3, h4, h5, h6⟩ := h
  have key : ∀ k (hk : k < x.world.files.length), fileFine x.world.files k x.world.files[k] = true := fun k hk => by
    cases hf : fileFine x.world.files k x.world.files[k] with
    | true => rfl
    | false => rw [filesFine_bad hk hf] at h5; cases h5
  refine ⟨confGood h1, confGood h2, h3, h4, fun k hk => ?_, fun k hk => ?_, fun k hk => ?_, hs⟩
  · have := key k hk
    unfold fileFine at this
    simp only [Bool.and_eq_true] at this
    exact this.2.1
  · have := key k hk
    unfold fileFine at this
    simp only [Bool.and_eq_true] at this
    exact this.2.2.1
  · exact List.all_eq_true.1 h6 _ (List.getElem_mem _)
theorem fileL_size {f : File} (h1 : okText f.name = true) (h2 : fileOk f.text = true) : (fileL f).size ≤ 10020 := by
  have a1 := qT_size f.name
  have a2 := qT_size f.text
  have b1 := ok_size h1
  have b2 := file_size h2
  have l1 : (⟨#[102, 105, 108, 101, 32]⟩ : ByteArray).size = 5 := rfl
  have l2 : (⟨#[32]⟩ : ByteArray).size = 1 := rfl
  have l3 : (⟨#[10]⟩ : ByteArray).size = 1 := rfl
  unfold fileL
  simp only [ByteArray.size_append]
  omega
theorem argL_size {s : ByteArray} (h : okText s = true) : (argL s).size ≤ 2010 := by
  have a1 := qT_size s
  have b1 := ok_size h
  have l1 : (⟨#[97, 114, 103, 32]⟩ : ByteArray).size = 4 := rfl
  have l3 : (⟨#[10]⟩ : ByteArray).size = 1 := rfl
  unfold argL
  simp only [ByteArray.size_append]
  omega
theorem jobH_size {x : Job} (g : JobGood x) (h0 : -9223372036854775808 ≤ x.world.inp.tag ∧ x.world.inp.tag ≤ 9223372036854775807) (h1 : -9223372036854775808 ≤ x.world.out.tag ∧ x.world.out.tag ≤ 9223372036854775807) : (jobH x).size ≤ 16100 := by
  have a1 := confT_size g.inp h0
  have a2 := confT_size g.out h1
  have l1 : (⟨#[105, 110, 32]⟩ : ByteArray).size = 3 := rfl
  have l2 : (⟨#[10, 111, 117, 116, 32]⟩ : ByteArray).size = 5 := rfl
  have l3 : (⟨#[10]⟩ : ByteArray).size = 1 := rfl
  unfold jobH
  simp only [ByteArray.size_append]
  omega
theorem jobF_len {x : Job} (g : JobGood x) (hh : (jobH x).size ≤ 16100) : ∀ k, k ≤ x.world.files.length → (jobF x k).length ≤ 16100 + k * 10020
  | 0, _ => by rw [jobF_zero, ← Lib.size_eq]; omega
  | k + 1, hk => by
    have ih := jobF_len g hh k (by omega)
    have hl := fileL_size (g.name k (by omega)) (g.text k (by omega))
    rw [Lib.size_eq] at hl
    rw [jobF_succ (by omega), List.length_append, Nat.add_mul]
    omega
theorem jobG_len {x : Job} (g : JobGood x) (hh : (jobH x).size ≤ 16100) : ∀ k, k ≤ x.world.args.length → (jobG x k).length ≤ 100000 + k * 2010
  | 0, _ => by
    have h := jobF_len g hh x.world.files.length (Nat.le_refl _)
    have hn := g.nf
    have : x.world.files.length * 10020 ≤ 8 * 10020 := Nat.mul_le_mul_right _ hn
    rw [jobG_zero]; omega
  | k + 1, hk => by
    have ih := jobG_len g hh k (by omega)
    have hl := argL_size (g.arg k (by omega))
    rw [Lib.size_eq] at hl
    rw [jobG_succ (by omega), List.length_append, Nat.add_mul]
    omega
theorem ext_cellJ {w : World} {o : Obj} {b j : Nat} {u : Value} (hb : b < w.heap.size) (h : w.cell? ⟨b, j, none⟩ = some u) : (w.alloc o).cell? ⟨b, j, none⟩ = some u := (World.cell?_alloc_lt _ _ _ hb).trans h
theorem dat_app (a b : ByteArray) : (a ++ b).data.toList = a.data.toList ++ b.data.toList := by rw [ByteArray.data_append, Array.toList_append]
theorem blk16c {w : World} {g : Nat} {x0 x1 x2 x3 x4 x5 x6 x7 x8 x9 x10 x11 x12 x13 x14 x15 : Value} {t : TypeId} (h : w.heap[g]? = some (.cells #[x0, x1, x2, x3, x4, x5, x6, x7, x8, x9, x10, x11, x12, x13, x14, x15] t (0, 0))) :
    w.cell? ⟨g, 0, none⟩ = some x0 ∧ w.cell? ⟨g, 1, none⟩ = some x1 ∧ w.cell? ⟨g, 2, none⟩ = some x2 ∧ w.cell? ⟨g, 3, none⟩ = some x3 ∧ w.cell? ⟨g, 4, none⟩ = some x4 ∧ w.cell? ⟨g, 5, none⟩ = some x5 ∧ w.cell? ⟨g, 6, none⟩ = some x6 ∧ w.cell? ⟨g, 7, none⟩ = some x7 ∧ w.cell? ⟨g, 8, none⟩ = some x8 ∧ w.cell? ⟨g, 9, none⟩ = some x9 ∧ w.cell? ⟨g, 10, none⟩ = some x10 ∧ w.cell? ⟨g, 11, none⟩ = some x11 ∧ w.cell? ⟨g, 12, none⟩ = some x12 ∧ w.cell? ⟨g, 13, none⟩ = some x13 ∧ w.cell? ⟨g, 14, none⟩ = some x14 ∧ w.cell? ⟨g, 15, none⟩ = some x15 := by
  have h' : w.heap[g]? = some (.cells ([x0, x1, x2, x3, x4, x5, x6, x7, x8, x9, x10, x11, x12, x13, x14, x15] : List Value).toArray t (0, 0)) := h
  exact ⟨cell_of_block h', cell_of_block h', cell_of_block h', cell_of_block h', cell_of_block h', cell_of_block h', cell_of_block h', cell_of_block h', cell_of_block h', cell_of_block h', cell_of_block h', cell_of_block h', cell_of_block h', cell_of_block h', cell_of_block h', cell_of_block h'⟩
set_option maxHeartbeats 8000000 in
set_option maxRecDepth 100000 in
theorem implConfText {cs : Array Value} {x : Conf} (w : World) (h : Rd.rd (Old w) w cs.toList x) (hg : ConfGood x) (hP : PT w) :
    Calls Tryz.prog 55 #[.agg cs] w fun e w' => e = .returned (.string (confT x)) ∧ Below w.heap.size w w' := by
  obtain ⟨hcs, b0, b1, b2, b3, b4⟩ := rdConf h
  obtain rfl := arr_of_list hcs
  clear hcs h
  obtain ⟨tag, fs, rs, ofs, ors, head⟩ := x
  dsimp only at b0 b1 b2 b3 b4 ⊢
  have g1 := ok_size hg.fs
  have g2 := ok_size hg.rs
  have g3 := ok_size hg.ofs
  have g4 := ok_size hg.ors
  dsimp only at g1 g2 g3 g4
  have C0 := hid (fun (w : World) (h : PT w) => implNumText tag w h b0)
  have C1 := hid (show ∀ w : World, Calls Tryz.prog 56 #[.string fs] w fun e w' => e = .returned (.string (qT fs)) ∧ Below w.heap.size w w' from fun w => implQuoted fs w (by omega))
  have C2 := hid (show ∀ w : World, Calls Tryz.prog 56 #[.string rs] w fun e w' => e = .returned (.string (qT rs)) ∧ Below w.heap.size w w' from fun w => implQuoted rs w (by omega))
  have C3 := hid (show ∀ w : World, Calls Tryz.prog 56 #[.string ofs] w fun e w' => e = .returned (.string (qT ofs)) ∧ Below w.heap.size w w' from fun w => implQuoted ofs w (by omega))
  have C4 := hid (show ∀ w : World, Calls Tryz.prog 56 #[.string ors] w fun e w' => e = .returned (.string (qT ors)) ∧ Below w.heap.size w w' from fun w => implQuoted ors w (by omega))
  have n0 := numB_size b0
  have s1 := qT_size fs
  have s2 := qT_size rs
  have s3 := qT_size ofs
  have s4 := qT_size ors
  have HE := hid (show confT ⟨tag, fs, rs, ofs, ors, head⟩ = numB tag ++ headT head ++ qT fs ++ ⟨#[32]⟩ ++ qT rs ++ ⟨#[32]⟩ ++ qT ofs ++ ⟨#[32]⟩ ++ qT ors from rfl)
  obtain ⟨N0, e0⟩ : ∃ z, numB tag = z := ⟨_, rfl⟩
  rw [e0] at C0 n0 HE
  obtain ⟨Q1, e1⟩ : ∃ z, qT fs = z := ⟨_, rfl⟩
  rw [e1] at C1 s1 HE
  obtain ⟨Q2, e2⟩ : ∃ z, qT rs = z := ⟨_, rfl⟩
  rw [e2] at C2 s2 HE
  obtain ⟨Q3, e3⟩ : ∃ z, qT ofs = z := ⟨_, rfl⟩
  rw [e3] at C3 s3 HE
  obtain ⟨Q4, e4⟩ : ∃ z, qT ors = z := ⟨_, rfl⟩
  rw [e4] at C4 s4 HE
  clear e0 e1 e2 e3 e4 hg b1 b2 b3 b4
  have q0 : ¬ 9223372036854775807 < N0.size + 1 := by omega
  have q1 : ¬ 9223372036854775807 < N0.size + 1 + 1 := by omega
  have q2 : ¬ 9223372036854775807 < N0.size + 1 + 1 + 1 := by omega
  have q3 : ¬ 9223372036854775807 < N0.size + 1 + 1 + 1 + Q1.size := by omega
  have q4 : ¬ 9223372036854775807 < N0.size + 1 + 1 + 1 + Q1.size + 1 := by omega
  have q5 : ¬ 9223372036854775807 < N0.size + 1 + 1 + 1 + Q1.size + 1 + Q2.size := by omega
  have q6 : ¬ 9223372036854775807 < N0.size + 1 + 1 + 1 + Q1.size + 1 + Q2.size + 1 := by omega
  have q7 : ¬ 9223372036854775807 < N0.size + 1 + 1 + 1 + Q1.size + 1 + Q2.size + 1 + Q3.size := by omega
  have q8 : ¬ 9223372036854775807 < N0.size + 1 + 1 + 1 + Q1.size + 1 + Q2.size + 1 + Q3.size + 1 := by omega
  have q9 : ¬ 9223372036854775807 < N0.size + 1 + 1 + 1 + Q1.size + 1 + Q2.size + 1 + Q3.size + 1 + Q4.size := by omega
  cases head
  case false =>
    have HX := hid (show N0 ++ ⟨#[32]⟩ ++ ⟨#[48]⟩ ++ ⟨#[32]⟩ ++ Q1 ++ ⟨#[32]⟩ ++ Q2 ++ ⟨#[32]⟩ ++ Q3 ++ ⟨#[32]⟩ ++ Q4 = confT ⟨tag, fs, rs, ofs, ors, false⟩ by rw [HE.out]; apply ba_list; simp only [dat_app, headT]; simp)
    go_enter Tryz.func55, Tryz.ntmps55
    go_wp2_with fail
    refine wp_region_held_drew (S := fun w' => w'.cell? ⟨w.heap.size, 0, none⟩ = some (.int .i64 tag) ∧ w'.cell? ⟨w.heap.size, 1, none⟩ = some (.string fs) ∧ w'.cell? ⟨w.heap.size, 2, none⟩ = some (.string rs) ∧ w'.cell? ⟨w.heap.size, 3, none⟩ = some (.string ofs) ∧ w'.cell? ⟨w.heap.size, 4, none⟩ = some (.string ors)) (by kernel_rfl) ?_ (fun hHeld => ?_)
    · simp [*]
    refine wpAnyH_take (i := 0) (v := ?_) rfl (by kernel_rfl) (by kernel_rfl) (by kernel_rfl) (fun _ _ _ h => h) (Or.inl ⟨by rfl, ?_⟩) (by assumption) ?_
    rotate_left
    · (intro w' hSw; (try dsimp only at hSw); go_simp; try (with_reducible rfl))
    change wpAnyH _ _ _ _ _ _ _ (Act.put _ (some 6) _) _
    try simp only [Act.put, List.setIfInBounds_toArray, List.set_cons_zero, List.set_cons_succ]
    refine wpAnyH_take (i := 1) (v := ?_) rfl (by kernel_rfl) (by kernel_rfl) (by kernel_rfl) (fun _ _ _ h => h) (Or.inl ⟨by rfl, ?_⟩) (by assumption) ?_
    rotate_left
    · (intro w' hSw; (try dsimp only at hSw); go_simp; try (with_reducible rfl))
    change wpAnyH _ _ _ _ _ _ _ (Act.put _ (some 7) _) _
    try simp only [Act.put, List.setIfInBounds_toArray, List.set_cons_zero, List.set_cons_succ]
    refine wpAnyH_take (i := 4) (v := ?_) rfl (by kernel_rfl) (by kernel_rfl) (by kernel_rfl) (fun _ _ _ h => h) (Or.inl ⟨by rfl, ?_⟩) (by assumption) ?_
    rotate_left
    · (intro w' hSw; (try dsimp only at hSw); go_simp; try (with_reducible rfl))
    change wpAnyH _ _ _ _ _ _ _ (Act.put _ (some 10) _) _
    try simp only [Act.put, List.setIfInBounds_toArray, List.set_cons_zero, List.set_cons_succ]
    refine wpAnyH_take (i := 7) (v := ?_) rfl (by kernel_rfl) (by kernel_rfl) (by kernel_rfl) (fun _ _ _ h => h) (Or.inl ⟨by rfl, ?_⟩) (by assumption) ?_
    rotate_left
    · (intro w' hSw; (try dsimp only at hSw); go_simp; try (with_reducible rfl))
    change wpAnyH _ _ _ _ _ _ _ (Act.put _ (some 13) _) _
    try simp only [Act.put, List.setIfInBounds_toArray, List.set_cons_zero, List.set_cons_succ]
    refine wpAnyH_take (i := 8) (v := ?_) rfl (by kernel_rfl) (by kernel_rfl) (by kernel_rfl) (fun _ _ _ h => h) (Or.inl ⟨by rfl, ?_⟩) (by assumption) ?_
    rotate_left
    · (intro w' hSw; (try dsimp only at hSw); go_simp; try (with_reducible rfl))
    change wpAnyH _ _ _ _ _ _ _ (Act.put _ (some 14) _) _
    try simp only [Act.put, List.setIfInBounds_toArray, List.set_cons_zero, List.set_cons_succ]
    refine wpAnyH_take (i := 12) (v := ?_) rfl (by kernel_rfl) (by kernel_rfl) (by kernel_rfl) (fun _ _ _ h => h) (Or.inl ⟨by rfl, ?_⟩) (by assumption) ?_
    rotate_left
    · (intro w' hSw; (try dsimp only at hSw); go_simp; try (with_reducible rfl))
    change wpAnyH _ _ _ _ _ _ _ (Act.put _ (some 18) _) _
    try simp only [Act.put, List.setIfInBounds_toArray, List.set_cons_zero, List.set_cons_succ]
    refine wpAnyH_take (i := 13) (v := ?_) rfl (by kernel_rfl) (by kernel_rfl) (by kernel_rfl) (fun _ _ _ h => h) (Or.inl ⟨by rfl, ?_⟩) (by assumption) ?_
    rotate_left
    · (intro w' hSw; (try dsimp only at hSw); go_simp; try (with_reducible rfl))
    change wpAnyH _ _ _ _ _ _ _ (Act.put _ (some 19) _) _
    try simp only [Act.put, List.setIfInBounds_toArray, List.set_cons_zero, List.set_cons_succ]
    refine wpAnyH_take (i := 17) (v := ?_) rfl (by kernel_rfl) (by kernel_rfl) (by kernel_rfl) (fun _ _ _ h => h) (Or.inl ⟨by rfl, ?_⟩) (by assumption) ?_
    rotate_left
    · (intro w' hSw; (try dsimp only at hSw); go_simp; try (with_reducible rfl))
    change wpAnyH _ _ _ _ _ _ _ (Act.put _ (some 23) _) _
    try simp only [Act.put, List.setIfInBounds_toArray, List.set_cons_zero, List.set_cons_succ]
    refine wpAnyH_take (i := 18) (v := ?_) rfl (by kernel_rfl) (by kernel_rfl) (by kernel_rfl) (fun _ _ _ h => h) (Or.inl ⟨by rfl, ?_⟩) (by assumption) ?_
    rotate_left
    · (intro w' hSw; (try dsimp only at hSw); go_simp; try (with_reducible rfl))
    change wpAnyH _ _ _ _ _ _ _ (Act.put _ (some 24) _) _
    try simp only [Act.put, List.setIfInBounds_toArray, List.set_cons_zero, List.set_cons_succ]
    refine wpAnyH_take (i := 22) (v := ?_) rfl (by kernel_rfl) (by kernel_rfl) (by kernel_rfl) (fun _ _ _ h => h) (Or.inl ⟨by rfl, ?_⟩) (by assumption) ?_
    rotate_left
    · (intro w' hSw; (try dsimp only at hSw); go_simp; try (with_reducible rfl))
    change wpAnyH _ _ _ _ _ _ _ (Act.put _ (some 28) _) _
    try simp only [Act.put, List.setIfInBounds_toArray, List.set_cons_zero, List.set_cons_succ]
    refine wpAnyH_take (i := 23) (v := ?_) rfl (by kernel_rfl) (by kernel_rfl) (by kernel_rfl) (fun _ _ _ h => h) (Or.inl ⟨by rfl, ?_⟩) (by assumption) ?_
    rotate_left
    · (intro w' hSw; (try dsimp only at hSw); go_simp; try (with_reducible rfl))
    change wpAnyH _ _ _ _ _ _ _ (Act.put _ (some 29) _) _
    try simp only [Act.put, List.setIfInBounds_toArray, List.set_cons_zero, List.set_cons_succ]
    refine wpAnyH_ready (rs := [2]) (by kernel_rfl) (by simp) ?_
    refine AllReadyH.cons (i := 2) rfl (fun K hK => ?_) AllReadyH.nil
    simp only [List.getElem_toArray, List.getElem_cons_succ, List.getElem_cons_zero]
    rw [if_pos (by rfl)]
    go_simp
    (go_at_call 57; refine (C0.out _ (pt_below hP (by repeat' (first | (with_reducible exact Below.refl _ _) | (with_reducible refine ext_trans ?_ (ext_alloc _ _)) | (with_reducible refine Below.drew ?_))))).mono ?_; rintro e w0 ⟨rfl, hb0⟩; have hk0 := keeps_cells hb0; go_wp2_with fail)
    have hOld := hHeld
    clear hHeld
    refine hK.out _ _ ?_ (fun hHeld => ?_)
    · (try dsimp only); simp [*]
    clear hK K hOld
    try simp only [Act.put, List.setIfInBounds_toArray, List.set_cons_zero, List.set_cons_succ]
    refine wpAnyH_take (i := 3) (v := ?_) rfl (by kernel_rfl) (by kernel_rfl) (by kernel_rfl) (fun _ _ _ h => h) (Or.inl ⟨by rfl, ?_⟩) (by assumption) ?_
    rotate_left
    · (intro w' hSw; (try dsimp only at hSw); go_simp; try (with_reducible rfl))
    change wpAnyH _ _ _ _ _ _ _ (Act.put _ (some 9) _) _
    try simp only [Act.put, List.setIfInBounds_toArray, List.set_cons_zero, List.set_cons_succ]
    refine wpAnyH_take (i := 5) (v := ?_) rfl (by kernel_rfl) (by kernel_rfl) (by kernel_rfl) (fun _ _ _ h => h) (Or.inl ⟨by rfl, ?_⟩) (by assumption) ?_
    rotate_left
    · (intro w' hSw; (try dsimp only at hSw); go_simp; try (with_reducible rfl))
    change wpAnyH _ _ _ _ _ _ _ (Act.put _ (some 11) _) _
    try simp only [Act.put, List.setIfInBounds_toArray, List.set_cons_zero, List.set_cons_succ]
    refine wpAnyH_take (i := 6) (v := ?_) rfl (by kernel_rfl) (by kernel_rfl) (by kernel_rfl) (fun _ _ _ h => h) (Or.inl ⟨by rfl, ?_⟩) (by assumption) ?_
    rotate_left
    · (intro w' hSw; (try dsimp only at hSw); go_simp; try (with_reducible rfl))
    change wpAnyH _ _ _ _ _ _ _ (Act.put _ (some 12) _) _
    try simp only [Act.put, List.setIfInBounds_toArray, List.set_cons_zero, List.set_cons_succ]
    refine wpAnyH_ready (rs := [9]) (by kernel_rfl) (by simp) ?_
    refine AllReadyH.cons (i := 9) rfl (fun K hK => ?_) AllReadyH.nil
    simp only [List.getElem_toArray, List.getElem_cons_succ, List.getElem_cons_zero]
    rw [if_pos (by rfl)]
    go_simp
    (go_at_call 56; refine (C1.out _).mono ?_; rintro e w1 ⟨rfl, hb1⟩; have hk1 := keeps_cells hb1; go_wp2_with fail)
    have hOld := hHeld
    clear hHeld
    refine hK.out _ _ ?_ (fun hHeld => ?_)
    · (try dsimp only); simp [*]
    clear hK K hOld
    try simp only [Act.put, List.setIfInBounds_toArray, List.set_cons_zero, List.set_cons_succ]
    refine wpAnyH_take (i := 10) (v := ?_) rfl (by kernel_rfl) (by kernel_rfl) (by kernel_rfl) (fun _ _ _ h => h) (Or.inl ⟨by rfl, ?_⟩) (by assumption) ?_
    rotate_left
    · (intro w' hSw; (try dsimp only at hSw); go_simp; try (with_reducible rfl))
    change wpAnyH _ _ _ _ _ _ _ (Act.put _ (some 16) _) _
    try simp only [Act.put, List.setIfInBounds_toArray, List.set_cons_zero, List.set_cons_succ]
    refine wpAnyH_take (i := 11) (v := ?_) rfl (by kernel_rfl) (by kernel_rfl) (by kernel_rfl) (fun _ _ _ h => h) (Or.inl ⟨by rfl, ?_⟩) (by assumption) ?_
    rotate_left
    · (intro w' hSw; (try dsimp only at hSw); go_simp; try (with_reducible rfl))
    change wpAnyH _ _ _ _ _ _ _ (Act.put _ (some 17) _) _
    try simp only [Act.put, List.setIfInBounds_toArray, List.set_cons_zero, List.set_cons_succ]
    refine wpAnyH_ready (rs := [14]) (by kernel_rfl) (by simp) ?_
    refine AllReadyH.cons (i := 14) rfl (fun K hK => ?_) AllReadyH.nil
    simp only [List.getElem_toArray, List.getElem_cons_succ, List.getElem_cons_zero]
    rw [if_pos (by rfl)]
    go_simp
    (go_at_call 56; refine (C2.out _).mono ?_; rintro e w2 ⟨rfl, hb2⟩; have hk2 := keeps_cells hb2; go_wp2_with fail)
    have hOld := hHeld
    clear hHeld
    refine hK.out _ _ ?_ (fun hHeld => ?_)
    · (try dsimp only); simp [*]
    clear hK K hOld
    try simp only [Act.put, List.setIfInBounds_toArray, List.set_cons_zero, List.set_cons_succ]
    refine wpAnyH_take (i := 15) (v := ?_) rfl (by kernel_rfl) (by kernel_rfl) (by kernel_rfl) (fun _ _ _ h => h) (Or.inl ⟨by rfl, ?_⟩) (by assumption) ?_
    rotate_left
    · (intro w' hSw; (try dsimp only at hSw); go_simp; try (with_reducible rfl))
    change wpAnyH _ _ _ _ _ _ _ (Act.put _ (some 21) _) _
    try simp only [Act.put, List.setIfInBounds_toArray, List.set_cons_zero, List.set_cons_succ]
    refine wpAnyH_take (i := 16) (v := ?_) rfl (by kernel_rfl) (by kernel_rfl) (by kernel_rfl) (fun _ _ _ h => h) (Or.inl ⟨by rfl, ?_⟩) (by assumption) ?_
    rotate_left
    · (intro w' hSw; (try dsimp only at hSw); go_simp; try (with_reducible rfl))
    change wpAnyH _ _ _ _ _ _ _ (Act.put _ (some 22) _) _
    try simp only [Act.put, List.setIfInBounds_toArray, List.set_cons_zero, List.set_cons_succ]
    refine wpAnyH_ready (rs := [19]) (by kernel_rfl) (by simp) ?_
    refine AllReadyH.cons (i := 19) rfl (fun K hK => ?_) AllReadyH.nil
    simp only [List.getElem_toArray, List.getElem_cons_succ, List.getElem_cons_zero]
    rw [if_pos (by rfl)]
    go_simp
    (go_at_call 56; refine (C3.out _).mono ?_; rintro e w3 ⟨rfl, hb3⟩; have hk3 := keeps_cells hb3; go_wp2_with fail)
    have hOld := hHeld
    clear hHeld
    refine hK.out _ _ ?_ (fun hHeld => ?_)
    · (try dsimp only); simp [*]
    clear hK K hOld
    try simp only [Act.put, List.setIfInBounds_toArray, List.set_cons_zero, List.set_cons_succ]
    refine wpAnyH_take (i := 20) (v := ?_) rfl (by kernel_rfl) (by kernel_rfl) (by kernel_rfl) (fun _ _ _ h => h) (Or.inl ⟨by rfl, ?_⟩) (by assumption) ?_
    rotate_left
    · (intro w' hSw; (try dsimp only at hSw); go_simp; try (with_reducible rfl))
    change wpAnyH _ _ _ _ _ _ _ (Act.put _ (some 26) _) _
    try simp only [Act.put, List.setIfInBounds_toArray, List.set_cons_zero, List.set_cons_succ]
    refine wpAnyH_take (i := 21) (v := ?_) rfl (by kernel_rfl) (by kernel_rfl) (by kernel_rfl) (fun _ _ _ h => h) (Or.inl ⟨by rfl, ?_⟩) (by assumption) ?_
    rotate_left
    · (intro w' hSw; (try dsimp only at hSw); go_simp; try (with_reducible rfl))
    change wpAnyH _ _ _ _ _ _ _ (Act.put _ (some 27) _) _
    try simp only [Act.put, List.setIfInBounds_toArray, List.set_cons_zero, List.set_cons_succ]
    refine wpAnyH_ready (rs := [24]) (by kernel_rfl) (by simp) ?_
    refine AllReadyH.cons (i := 24) rfl (fun K hK => ?_) AllReadyH.nil
    simp only [List.getElem_toArray, List.getElem_cons_succ, List.getElem_cons_zero]
    rw [if_pos (by rfl)]
    go_simp
    (go_at_call 56; refine (C4.out _).mono ?_; rintro e w4 ⟨rfl, hb4⟩; have hk4 := keeps_cells hb4; go_wp2_with fail)
    have hOld := hHeld
    clear hHeld
    refine hK.out _ _ ?_ (fun hHeld => ?_)
    · (try dsimp only); simp [*]
    clear hK K hOld
    try simp only [Act.put, List.setIfInBounds_toArray, List.set_cons_zero, List.set_cons_succ]
    refine wpAnyH_take (i := 25) (v := ?_) rfl (by kernel_rfl) (by kernel_rfl) (by kernel_rfl) (fun _ _ _ h => h) (Or.inl ⟨by rfl, ?_⟩) (by assumption) ?_
    rotate_left
    · (intro w' hSw; (try dsimp only at hSw); go_simp; try (with_reducible rfl))
    change wpAnyH _ _ _ _ _ _ _ (Act.put _ (some 31) _) _
    try simp only [Act.put, List.setIfInBounds_toArray, List.set_cons_zero, List.set_cons_succ]
    refine wpAnyH_take (i := 26) (v := ?_) rfl (by kernel_rfl) (by kernel_rfl) (by kernel_rfl) (fun _ _ _ h => h) (Or.inl ⟨by rfl, ?_⟩) (by assumption) ?_
    rotate_left
    · (intro w' hSw; (try dsimp only at hSw); go_simp; try (with_reducible rfl))
    change wpAnyH _ _ _ _ _ _ _ (Act.put _ (some 2) _) _
    try simp only [Act.put, List.setIfInBounds_toArray, List.set_cons_zero, List.set_cons_succ]
    refine wpAnyH_done (by kernel_rfl) ?_ _
    go_wp2
    go_ret
    exact ⟨end_string HX.out, by repeat' (first | (with_reducible exact Below.refl _ _) | (with_reducible refine ext_trans ?_ hb4) | (with_reducible refine ext_trans ?_ hb3) | (with_reducible refine ext_trans ?_ hb2) | (with_reducible refine ext_trans ?_ hb1) | (with_reducible refine ext_trans ?_ hb0) | (with_reducible refine ext_trans ?_ (ext_alloc _ _)) | (with_reducible refine Below.drew ?_))⟩
  case true =>
    have HX := hid (show N0 ++ ⟨#[32]⟩ ++ ⟨#[49]⟩ ++ ⟨#[32]⟩ ++ Q1 ++ ⟨#[32]⟩ ++ Q2 ++ ⟨#[32]⟩ ++ Q3 ++ ⟨#[32]⟩ ++ Q4 = confT ⟨tag, fs, rs, ofs, ors, true⟩ by rw [HE.out]; apply ba_list; simp only [dat_app, headT]; simp)
    go_enter Tryz.func55, Tryz.ntmps55
    go_wp2_with fail
    refine wp_region_held_drew (S := fun w' => w'.cell? ⟨w.heap.size, 0, none⟩ = some (.int .i64 tag) ∧ w'.cell? ⟨w.heap.size, 1, none⟩ = some (.string fs) ∧ w'.cell? ⟨w.heap.size, 2, none⟩ = some (.string rs) ∧ w'.cell? ⟨w.heap.size, 3, none⟩ = some (.string ofs) ∧ w'.cell? ⟨w.heap.size, 4, none⟩ = some (.string ors)) (by kernel_rfl) ?_ (fun hHeld => ?_)
    · simp [*]
    refine wpAnyH_take (i := 0) (v := ?_) rfl (by kernel_rfl) (by kernel_rfl) (by kernel_rfl) (fun _ _ _ h => h) (Or.inl ⟨by rfl, ?_⟩) (by assumption) ?_
    rotate_left
    · (intro w' hSw; (try dsimp only at hSw); go_simp; try (with_reducible rfl))
    change wpAnyH _ _ _ _ _ _ _ (Act.put _ (some 6) _) _
    try simp only [Act.put, List.setIfInBounds_toArray, List.set_cons_zero, List.set_cons_succ]
    refine wpAnyH_take (i := 1) (v := ?_) rfl (by kernel_rfl) (by kernel_rfl) (by kernel_rfl) (fun _ _ _ h => h) (Or.inl ⟨by rfl, ?_⟩) (by assumption) ?_
    rotate_left
    · (intro w' hSw; (try dsimp only at hSw); go_simp; try (with_reducible rfl))
    change wpAnyH _ _ _ _ _ _ _ (Act.put _ (some 7) _) _
    try simp only [Act.put, List.setIfInBounds_toArray, List.set_cons_zero, List.set_cons_succ]
    refine wpAnyH_take (i := 4) (v := ?_) rfl (by kernel_rfl) (by kernel_rfl) (by kernel_rfl) (fun _ _ _ h => h) (Or.inl ⟨by rfl, ?_⟩) (by assumption) ?_
    rotate_left
    · (intro w' hSw; (try dsimp only at hSw); go_simp; try (with_reducible rfl))
    change wpAnyH _ _ _ _ _ _ _ (Act.put _ (some 10) _) _
    try simp only [Act.put, List.setIfInBounds_toArray, List.set_cons_zero, List.set_cons_succ]
    refine wpAnyH_take (i := 7) (v := ?_) rfl (by kernel_rfl) (by kernel_rfl) (by kernel_rfl) (fun _ _ _ h => h) (Or.inl ⟨by rfl, ?_⟩) (by assumption) ?_
    rotate_left
    · (intro w' hSw; (try dsimp only at hSw); go_simp; try (with_reducible rfl))
    change wpAnyH _ _ _ _ _ _ _ (Act.put _ (some 13) _) _
    try simp only [Act.put, List.setIfInBounds_toArray, List.set_cons_zero, List.set_cons_succ]
    refine wpAnyH_take (i := 8) (v := ?_) rfl (by kernel_rfl) (by kernel_rfl) (by kernel_rfl) (fun _ _ _ h => h) (Or.inl ⟨by rfl, ?_⟩) (by assumption) ?_
    rotate_left
    · (intro w' hSw; (try dsimp only at hSw); go_simp; try (with_reducible rfl))
    change wpAnyH _ _ _ _ _ _ _ (Act.put _ (some 14) _) _
    try simp only [Act.put, List.setIfInBounds_toArray, List.set_cons_zero, List.set_cons_succ]
    refine wpAnyH_take (i := 12) (v := ?_) rfl (by kernel_rfl) (by kernel_rfl) (by kernel_rfl) (fun _ _ _ h => h) (Or.inl ⟨by rfl, ?_⟩) (by assumption) ?_
    rotate_left
    · (intro w' hSw; (try dsimp only at hSw); go_simp; try (with_reducible rfl))
    change wpAnyH _ _ _ _ _ _ _ (Act.put _ (some 18) _) _
    try simp only [Act.put, List.setIfInBounds_toArray, List.set_cons_zero, List.set_cons_succ]
    refine wpAnyH_take (i := 13) (v := ?_) rfl (by kernel_rfl) (by kernel_rfl) (by kernel_rfl) (fun _ _ _ h => h) (Or.inl ⟨by rfl, ?_⟩) (by assumption) ?_
    rotate_left
    · (intro w' hSw; (try dsimp only at hSw); go_simp; try (with_reducible rfl))
    change wpAnyH _ _ _ _ _ _ _ (Act.put _ (some 19) _) _
    try simp only [Act.put, List.setIfInBounds_toArray, List.set_cons_zero, List.set_cons_succ]
    refine wpAnyH_take (i := 17) (v := ?_) rfl (by kernel_rfl) (by kernel_rfl) (by kernel_rfl) (fun _ _ _ h => h) (Or.inl ⟨by rfl, ?_⟩) (by assumption) ?_
    rotate_left
    · (intro w' hSw; (try dsimp only at hSw); go_simp; try (with_reducible rfl))
    change wpAnyH _ _ _ _ _ _ _ (Act.put _ (some 23) _) _
    try simp only [Act.put, List.setIfInBounds_toArray, List.set_cons_zero, List.set_cons_succ]
    refine wpAnyH_take (i := 18) (v := ?_) rfl (by kernel_rfl) (by kernel_rfl) (by kernel_rfl) (fun _ _ _ h => h) (Or.inl ⟨by rfl, ?_⟩) (by assumption) ?_
    rotate_left
    · (intro w' hSw; (try dsimp only at hSw); go_simp; try (with_reducible rfl))
    change wpAnyH _ _ _ _ _ _ _ (Act.put _ (some 24) _) _
    try simp only [Act.put, List.setIfInBounds_toArray, List.set_cons_zero, List.set_cons_succ]
    refine wpAnyH_take (i := 22) (v := ?_) rfl (by kernel_rfl) (by kernel_rfl) (by kernel_rfl) (fun _ _ _ h => h) (Or.inl ⟨by rfl, ?_⟩) (by assumption) ?_
    rotate_left
    · (intro w' hSw; (try dsimp only at hSw); go_simp; try (with_reducible rfl))
    change wpAnyH _ _ _ _ _ _ _ (Act.put _ (some 28) _) _
    try simp only [Act.put, List.setIfInBounds_toArray, List.set_cons_zero, List.set_cons_succ]
    refine wpAnyH_take (i := 23) (v := ?_) rfl (by kernel_rfl) (by kernel_rfl) (by kernel_rfl) (fun _ _ _ h => h) (Or.inl ⟨by rfl, ?_⟩) (by assumption) ?_
    rotate_left
    · (intro w' hSw; (try dsimp only at hSw); go_simp; try (with_reducible rfl))
    change wpAnyH _ _ _ _ _ _ _ (Act.put _ (some 29) _) _
    try simp only [Act.put, List.setIfInBounds_toArray, List.set_cons_zero, List.set_cons_succ]
    refine wpAnyH_ready (rs := [2]) (by kernel_rfl) (by simp) ?_
    refine AllReadyH.cons (i := 2) rfl (fun K hK => ?_) AllReadyH.nil
    simp only [List.getElem_toArray, List.getElem_cons_succ, List.getElem_cons_zero]
    rw [if_pos (by rfl)]
    go_simp
    (go_at_call 57; refine (C0.out _ (pt_below hP (by repeat' (first | (with_reducible exact Below.refl _ _) | (with_reducible refine ext_trans ?_ (ext_alloc _ _)) | (with_reducible refine Below.drew ?_))))).mono ?_; rintro e w0 ⟨rfl, hb0⟩; have hk0 := keeps_cells hb0; go_wp2_with fail)
    have hOld := hHeld
    clear hHeld
    refine hK.out _ _ ?_ (fun hHeld => ?_)
    · (try dsimp only); simp [*]
    clear hK K hOld
    try simp only [Act.put, List.setIfInBounds_toArray, List.set_cons_zero, List.set_cons_succ]
    refine wpAnyH_take (i := 3) (v := ?_) rfl (by kernel_rfl) (by kernel_rfl) (by kernel_rfl) (fun _ _ _ h => h) (Or.inl ⟨by rfl, ?_⟩) (by assumption) ?_
    rotate_left
    · (intro w' hSw; (try dsimp only at hSw); go_simp; try (with_reducible rfl))
    change wpAnyH _ _ _ _ _ _ _ (Act.put _ (some 9) _) _
    try simp only [Act.put, List.setIfInBounds_toArray, List.set_cons_zero, List.set_cons_succ]
    refine wpAnyH_take (i := 5) (v := ?_) rfl (by kernel_rfl) (by kernel_rfl) (by kernel_rfl) (fun _ _ _ h => h) (Or.inl ⟨by rfl, ?_⟩) (by assumption) ?_
    rotate_left
    · (intro w' hSw; (try dsimp only at hSw); go_simp; try (with_reducible rfl))
    change wpAnyH _ _ _ _ _ _ _ (Act.put _ (some 11) _) _
    try simp only [Act.put, List.setIfInBounds_toArray, List.set_cons_zero, List.set_cons_succ]
    refine wpAnyH_take (i := 6) (v := ?_) rfl (by kernel_rfl) (by kernel_rfl) (by kernel_rfl) (fun _ _ _ h => h) (Or.inl ⟨by rfl, ?_⟩) (by assumption) ?_
    rotate_left
    · (intro w' hSw; (try dsimp only at hSw); go_simp; try (with_reducible rfl))
    change wpAnyH _ _ _ _ _ _ _ (Act.put _ (some 12) _) _
    try simp only [Act.put, List.setIfInBounds_toArray, List.set_cons_zero, List.set_cons_succ]
    refine wpAnyH_ready (rs := [9]) (by kernel_rfl) (by simp) ?_
    refine AllReadyH.cons (i := 9) rfl (fun K hK => ?_) AllReadyH.nil
    simp only [List.getElem_toArray, List.getElem_cons_succ, List.getElem_cons_zero]
    rw [if_pos (by rfl)]
    go_simp
    (go_at_call 56; refine (C1.out _).mono ?_; rintro e w1 ⟨rfl, hb1⟩; have hk1 := keeps_cells hb1; go_wp2_with fail)
    have hOld := hHeld
    clear hHeld
    refine hK.out _ _ ?_ (fun hHeld => ?_)
    · (try dsimp only); simp [*]
    clear hK K hOld
    try simp only [Act.put, List.setIfInBounds_toArray, List.set_cons_zero, List.set_cons_succ]
    refine wpAnyH_take (i := 10) (v := ?_) rfl (by kernel_rfl) (by kernel_rfl) (by kernel_rfl) (fun _ _ _ h => h) (Or.inl ⟨by rfl, ?_⟩) (by assumption) ?_
    rotate_left
    · (intro w' hSw; (try dsimp only at hSw); go_simp; try (with_reducible rfl))
    change wpAnyH _ _ _ _ _ _ _ (Act.put _ (some 16) _) _
    try simp only [Act.put, List.setIfInBounds_toArray, List.set_cons_zero, List.set_cons_succ]
    refine wpAnyH_take (i := 11) (v := ?_) rfl (by kernel_rfl) (by kernel_rfl) (by kernel_rfl) (fun _ _ _ h => h) (Or.inl ⟨by rfl, ?_⟩) (by assumption) ?_
    rotate_left
    · (intro w' hSw; (try dsimp only at hSw); go_simp; try (with_reducible rfl))
    change wpAnyH _ _ _ _ _ _ _ (Act.put _ (some 17) _) _
    try simp only [Act.put, List.setIfInBounds_toArray, List.set_cons_zero, List.set_cons_succ]
    refine wpAnyH_ready (rs := [14]) (by kernel_rfl) (by simp) ?_
    refine AllReadyH.cons (i := 14) rfl (fun K hK => ?_) AllReadyH.nil
    simp only [List.getElem_toArray, List.getElem_cons_succ, List.getElem_cons_zero]
    rw [if_pos (by rfl)]
    go_simp
    (go_at_call 56; refine (C2.out _).mono ?_; rintro e w2 ⟨rfl, hb2⟩; have hk2 := keeps_cells hb2; go_wp2_with fail)
    have hOld := hHeld
    clear hHeld
    refine hK.out _ _ ?_ (fun hHeld => ?_)
    · (try dsimp only); simp [*]
    clear hK K hOld
    try simp only [Act.put, List.setIfInBounds_toArray, List.set_cons_zero, List.set_cons_succ]
    refine wpAnyH_take (i := 15) (v := ?_) rfl (by kernel_rfl) (by kernel_rfl) (by kernel_rfl) (fun _ _ _ h => h) (Or.inl ⟨by rfl, ?_⟩) (by assumption) ?_
    rotate_left
    · (intro w' hSw; (try dsimp only at hSw); go_simp; try (with_reducible rfl))
    change wpAnyH _ _ _ _ _ _ _ (Act.put _ (some 21) _) _
    try simp only [Act.put, List.setIfInBounds_toArray, List.set_cons_zero, List.set_cons_succ]
    refine wpAnyH_take (i := 16) (v := ?_) rfl (by kernel_rfl) (by kernel_rfl) (by kernel_rfl) (fun _ _ _ h => h) (Or.inl ⟨by rfl, ?_⟩) (by assumption) ?_
    rotate_left
    · (intro w' hSw; (try dsimp only at hSw); go_simp; try (with_reducible rfl))
    change wpAnyH _ _ _ _ _ _ _ (Act.put _ (some 22) _) _
    try simp only [Act.put, List.setIfInBounds_toArray, List.set_cons_zero, List.set_cons_succ]
    refine wpAnyH_ready (rs := [19]) (by kernel_rfl) (by simp) ?_
    refine AllReadyH.cons (i := 19) rfl (fun K hK => ?_) AllReadyH.nil
    simp only [List.getElem_toArray, List.getElem_cons_succ, List.getElem_cons_zero]
    rw [if_pos (by rfl)]
    go_simp
    (go_at_call 56; refine (C3.out _).mono ?_; rintro e w3 ⟨rfl, hb3⟩; have hk3 := keeps_cells hb3; go_wp2_with fail)
    have hOld := hHeld
    clear hHeld
    refine hK.out _ _ ?_ (fun hHeld => ?_)
    · (try dsimp only); simp [*]
    clear hK K hOld
    try simp only [Act.put, List.setIfInBounds_toArray, List.set_cons_zero, List.set_cons_succ]
    refine wpAnyH_take (i := 20) (v := ?_) rfl (by kernel_rfl) (by kernel_rfl) (by kernel_rfl) (fun _ _ _ h => h) (Or.inl ⟨by rfl, ?_⟩) (by assumption) ?_
    rotate_left
    · (intro w' hSw; (try dsimp only at hSw); go_simp; try (with_reducible rfl))
    change wpAnyH _ _ _ _ _ _ _ (Act.put _ (some 26) _) _
    try simp only [Act.put, List.setIfInBounds_toArray, List.set_cons_zero, List.set_cons_succ]
    refine wpAnyH_take (i := 21) (v := ?_) rfl (by kernel_rfl) (by kernel_rfl) (by kernel_rfl) (fun _ _ _ h => h) (Or.inl ⟨by rfl, ?_⟩) (by assumption) ?_
    rotate_left
    · (intro w' hSw; (try dsimp only at hSw); go_simp; try (with_reducible rfl))
    change wpAnyH _ _ _ _ _ _ _ (Act.put _ (some 27) _) _
    try simp only [Act.put, List.setIfInBounds_toArray, List.set_cons_zero, List.set_cons_succ]
    refine wpAnyH_ready (rs := [24]) (by kernel_rfl) (by simp) ?_
    refine AllReadyH.cons (i := 24) rfl (fun K hK => ?_) AllReadyH.nil
    simp only [List.getElem_toArray, List.getElem_cons_succ, List.getElem_cons_zero]
    rw [if_pos (by rfl)]
    go_simp
    (go_at_call 56; refine (C4.out _).mono ?_; rintro e w4 ⟨rfl, hb4⟩; have hk4 := keeps_cells hb4; go_wp2_with fail)
    have hOld := hHeld
    clear hHeld
    refine hK.out _ _ ?_ (fun hHeld => ?_)
    · (try dsimp only); simp [*]
    clear hK K hOld
    try simp only [Act.put, List.setIfInBounds_toArray, List.set_cons_zero, List.set_cons_succ]
    refine wpAnyH_take (i := 25) (v := ?_) rfl (by kernel_rfl) (by kernel_rfl) (by kernel_rfl) (fun _ _ _ h => h) (Or.inl ⟨by rfl, ?_⟩) (by assumption) ?_
    rotate_left
    · (intro w' hSw; (try dsimp only at hSw); go_simp; try (with_reducible rfl))
    change wpAnyH _ _ _ _ _ _ _ (Act.put _ (some 31) _) _
    try simp only [Act.put, List.setIfInBounds_toArray, List.set_cons_zero, List.set_cons_succ]
    refine wpAnyH_take (i := 26) (v := ?_) rfl (by kernel_rfl) (by kernel_rfl) (by kernel_rfl) (fun _ _ _ h => h) (Or.inl ⟨by rfl, ?_⟩) (by assumption) ?_
    rotate_left
    · (intro w' hSw; (try dsimp only at hSw); go_simp; try (with_reducible rfl))
    change wpAnyH _ _ _ _ _ _ _ (Act.put _ (some 2) _) _
    try simp only [Act.put, List.setIfInBounds_toArray, List.set_cons_zero, List.set_cons_succ]
    refine wpAnyH_done (by kernel_rfl) ?_ _
    go_wp2
    go_ret
    exact ⟨end_string HX.out, by repeat' (first | (with_reducible exact Below.refl _ _) | (with_reducible refine ext_trans ?_ hb4) | (with_reducible refine ext_trans ?_ hb3) | (with_reducible refine ext_trans ?_ hb2) | (with_reducible refine ext_trans ?_ hb1) | (with_reducible refine ext_trans ?_ hb0) | (with_reducible refine ext_trans ?_ (ext_alloc _ _)) | (with_reducible refine Below.drew ?_))⟩
set_option maxHeartbeats 8000000 in
set_option maxRecDepth 100000 in
theorem specConfText {cs : Array Value} {x : Conf} (w : World) (h : Rd.rd (Old w) w cs.toList x) (hg : ConfGood x) :
    Calls Tryz.prog 42 #[.agg cs] w fun e w' => e = .returned (.string (confT x)) ∧ Below w.heap.size w w' := by
  obtain ⟨hcs, b0, b1, b2, b3, b4⟩ := rdConf h
  obtain rfl := arr_of_list hcs
  clear hcs h
  obtain ⟨tag, fs, rs, ofs, ors, head⟩ := x
  dsimp only at b0 b1 b2 b3 b4 ⊢
  have g1 := ok_size hg.fs
  have g2 := ok_size hg.rs
  have g3 := ok_size hg.ofs
  have g4 := ok_size hg.ors
  dsimp only at g1 g2 g3 g4
  have C0 := hid (fun (w : World) => specNumText tag w b0)
  have C1 := hid (show ∀ w : World, Calls Tryz.prog 43 #[.string fs] w fun e w' => e = .returned (.string (qT fs)) ∧ Below w.heap.size w w' from fun w => by have h := specQuote fs w; rw [qT_ok hg.fs] at h; exact h)
  have C2 := hid (show ∀ w : World, Calls Tryz.prog 43 #[.string rs] w fun e w' => e = .returned (.string (qT rs)) ∧ Below w.heap.size w w' from fun w => by have h := specQuote rs w; rw [qT_ok hg.rs] at h; exact h)
  have C3 := hid (show ∀ w : World, Calls Tryz.prog 43 #[.string ofs] w fun e w' => e = .returned (.string (qT ofs)) ∧ Below w.heap.size w w' from fun w => by have h := specQuote ofs w; rw [qT_ok hg.ofs] at h; exact h)
  have C4 := hid (show ∀ w : World, Calls Tryz.prog 43 #[.string ors] w fun e w' => e = .returned (.string (qT ors)) ∧ Below w.heap.size w w' from fun w => by have h := specQuote ors w; rw [qT_ok hg.ors] at h; exact h)
  have n0 := numB_size b0
  have s1 := qT_size fs
  have s2 := qT_size rs
  have s3 := qT_size ofs
  have s4 := qT_size ors
  have HE := hid (show confT ⟨tag, fs, rs, ofs, ors, head⟩ = numB tag ++ headT head ++ qT fs ++ ⟨#[32]⟩ ++ qT rs ++ ⟨#[32]⟩ ++ qT ofs ++ ⟨#[32]⟩ ++ qT ors from rfl)
  obtain ⟨N0, e0⟩ : ∃ z, numB tag = z := ⟨_, rfl⟩
  rw [e0] at C0 n0 HE
  obtain ⟨Q1, e1⟩ : ∃ z, qT fs = z := ⟨_, rfl⟩
  rw [e1] at C1 s1 HE
  obtain ⟨Q2, e2⟩ : ∃ z, qT rs = z := ⟨_, rfl⟩
  rw [e2] at C2 s2 HE
  obtain ⟨Q3, e3⟩ : ∃ z, qT ofs = z := ⟨_, rfl⟩
  rw [e3] at C3 s3 HE
  obtain ⟨Q4, e4⟩ : ∃ z, qT ors = z := ⟨_, rfl⟩
  rw [e4] at C4 s4 HE
  clear e0 e1 e2 e3 e4 hg b1 b2 b3 b4
  have q0 : ¬ 9223372036854775807 < N0.size + 3 := by omega
  have q1 : ¬ 9223372036854775807 < N0.size + 3 + Q1.size := by omega
  have q2 : ¬ 9223372036854775807 < N0.size + 3 + Q1.size + 1 := by omega
  have q3 : ¬ 9223372036854775807 < N0.size + 3 + Q1.size + 1 + Q2.size := by omega
  have q4 : ¬ 9223372036854775807 < N0.size + 3 + Q1.size + 1 + Q2.size + 1 := by omega
  have q5 : ¬ 9223372036854775807 < N0.size + 3 + Q1.size + 1 + Q2.size + 1 + Q3.size := by omega
  have q6 : ¬ 9223372036854775807 < N0.size + 3 + Q1.size + 1 + Q2.size + 1 + Q3.size + 1 := by omega
  have q7 : ¬ 9223372036854775807 < N0.size + 3 + Q1.size + 1 + Q2.size + 1 + Q3.size + 1 + Q4.size := by omega
  cases head
  case false =>
    have HX := hid (show N0 ++ ⟨#[32, 48, 32]⟩ ++ Q1 ++ ⟨#[32]⟩ ++ Q2 ++ ⟨#[32]⟩ ++ Q3 ++ ⟨#[32]⟩ ++ Q4 = confT ⟨tag, fs, rs, ofs, ors, false⟩ by rw [HE.out]; apply ba_list; simp only [dat_app, headT]; simp)
    go_enter Tryz.func42, Tryz.ntmps42
    go_wp2_with fail
    refine wp_region_held_drew (S := fun w' => w'.cell? ⟨w.heap.size, 0, none⟩ = some (.int .i64 tag) ∧ w'.cell? ⟨w.heap.size, 1, none⟩ = some (.string fs) ∧ w'.cell? ⟨w.heap.size, 2, none⟩ = some (.string rs) ∧ w'.cell? ⟨w.heap.size, 3, none⟩ = some (.string ofs) ∧ w'.cell? ⟨w.heap.size, 4, none⟩ = some (.string ors)) (by kernel_rfl) ?_ (fun hHeld => ?_)
    · simp [*]
    refine wpAnyH_take (i := 0) (v := ?_) rfl (by kernel_rfl) (by kernel_rfl) (by kernel_rfl) (fun _ _ _ h => h) (Or.inl ⟨by rfl, ?_⟩) (by assumption) ?_
    rotate_left
    · (intro w' hSw; (try dsimp only at hSw); go_simp; try (with_reducible rfl))
    change wpAnyH _ _ _ _ _ _ _ (Act.put _ (some 6) _) _
    try simp only [Act.put, List.setIfInBounds_toArray, List.set_cons_zero, List.set_cons_succ]
    refine wpAnyH_take (i := 1) (v := ?_) rfl (by kernel_rfl) (by kernel_rfl) (by kernel_rfl) (fun _ _ _ h => h) (Or.inl ⟨by rfl, ?_⟩) (by assumption) ?_
    rotate_left
    · (intro w' hSw; (try dsimp only at hSw); go_simp; try (with_reducible rfl))
    change wpAnyH _ _ _ _ _ _ _ (Act.put _ (some 7) _) _
    try simp only [Act.put, List.setIfInBounds_toArray, List.set_cons_zero, List.set_cons_succ]
    refine wpAnyH_take (i := 3) (v := ?_) rfl (by kernel_rfl) (by kernel_rfl) (by kernel_rfl) (fun _ _ _ h => h) (Or.inl ⟨by rfl, ?_⟩) (by assumption) ?_
    rotate_left
    · (intro w' hSw; (try dsimp only at hSw); go_simp; try (with_reducible rfl))
    change wpAnyH _ _ _ _ _ _ _ (Act.put _ (some 9) _) _
    try simp only [Act.put, List.setIfInBounds_toArray, List.set_cons_zero, List.set_cons_succ]
    refine wpAnyH_take (i := 5) (v := ?_) rfl (by kernel_rfl) (by kernel_rfl) (by kernel_rfl) (fun _ _ _ h => h) (Or.inl ⟨by rfl, ?_⟩) (by assumption) ?_
    rotate_left
    · (intro w' hSw; (try dsimp only at hSw); go_simp; try (with_reducible rfl))
    change wpAnyH _ _ _ _ _ _ _ (Act.put _ (some 11) _) _
    try simp only [Act.put, List.setIfInBounds_toArray, List.set_cons_zero, List.set_cons_succ]
    refine wpAnyH_take (i := 6) (v := ?_) rfl (by kernel_rfl) (by kernel_rfl) (by kernel_rfl) (fun _ _ _ h => h) (Or.inl ⟨by rfl, ?_⟩) (by assumption) ?_
    rotate_left
    · (intro w' hSw; (try dsimp only at hSw); go_simp; try (with_reducible rfl))
    change wpAnyH _ _ _ _ _ _ _ (Act.put _ (some 12) _) _
    try simp only [Act.put, List.setIfInBounds_toArray, List.set_cons_zero, List.set_cons_succ]
    refine wpAnyH_take (i := 10) (v := ?_) rfl (by kernel_rfl) (by kernel_rfl) (by kernel_rfl) (fun _ _ _ h => h) (Or.inl ⟨by rfl, ?_⟩) (by assumption) ?_
    rotate_left
    · (intro w' hSw; (try dsimp only at hSw); go_simp; try (with_reducible rfl))
    change wpAnyH _ _ _ _ _ _ _ (Act.put _ (some 16) _) _
    try simp only [Act.put, List.setIfInBounds_toArray, List.set_cons_zero, List.set_cons_succ]
    refine wpAnyH_take (i := 11) (v := ?_) rfl (by kernel_rfl) (by kernel_rfl) (by kernel_rfl) (fun _ _ _ h => h) (Or.inl ⟨by rfl, ?_⟩) (by assumption) ?_
    rotate_left
    · (intro w' hSw; (try dsimp only at hSw); go_simp; try (with_reducible rfl))
    change wpAnyH _ _ _ _ _ _ _ (Act.put _ (some 17) _) _
    try simp only [Act.put, List.setIfInBounds_toArray, List.set_cons_zero, List.set_cons_succ]
    refine wpAnyH_take (i := 15) (v := ?_) rfl (by kernel_rfl) (by kernel_rfl) (by kernel_rfl) (fun _ _ _ h => h) (Or.inl ⟨by rfl, ?_⟩) (by assumption) ?_
    rotate_left
    · (intro w' hSw; (try dsimp only at hSw); go_simp; try (with_reducible rfl))
    change wpAnyH _ _ _ _ _ _ _ (Act.put _ (some 21) _) _
    try simp only [Act.put, List.setIfInBounds_toArray, List.set_cons_zero, List.set_cons_succ]
    refine wpAnyH_take (i := 16) (v := ?_) rfl (by kernel_rfl) (by kernel_rfl) (by kernel_rfl) (fun _ _ _ h => h) (Or.inl ⟨by rfl, ?_⟩) (by assumption) ?_
    rotate_left
    · (intro w' hSw; (try dsimp only at hSw); go_simp; try (with_reducible rfl))
    change wpAnyH _ _ _ _ _ _ _ (Act.put _ (some 22) _) _
    try simp only [Act.put, List.setIfInBounds_toArray, List.set_cons_zero, List.set_cons_succ]
    refine wpAnyH_take (i := 20) (v := ?_) rfl (by kernel_rfl) (by kernel_rfl) (by kernel_rfl) (fun _ _ _ h => h) (Or.inl ⟨by rfl, ?_⟩) (by assumption) ?_
    rotate_left
    · (intro w' hSw; (try dsimp only at hSw); go_simp; try (with_reducible rfl))
    change wpAnyH _ _ _ _ _ _ _ (Act.put _ (some 26) _) _
    try simp only [Act.put, List.setIfInBounds_toArray, List.set_cons_zero, List.set_cons_succ]
    refine wpAnyH_take (i := 21) (v := ?_) rfl (by kernel_rfl) (by kernel_rfl) (by kernel_rfl) (fun _ _ _ h => h) (Or.inl ⟨by rfl, ?_⟩) (by assumption) ?_
    rotate_left
    · (intro w' hSw; (try dsimp only at hSw); go_simp; try (with_reducible rfl))
    change wpAnyH _ _ _ _ _ _ _ (Act.put _ (some 27) _) _
    try simp only [Act.put, List.setIfInBounds_toArray, List.set_cons_zero, List.set_cons_succ]
    refine wpAnyH_ready (rs := [2]) (by kernel_rfl) (by simp) ?_
    refine AllReadyH.cons (i := 2) rfl (fun K hK => ?_) AllReadyH.nil
    simp only [List.getElem_toArray, List.getElem_cons_succ, List.getElem_cons_zero]
    rw [if_pos (by rfl)]
    go_simp
    (go_at_call 45; refine (C0.out _).mono ?_; rintro e w0 ⟨rfl, hb0⟩; have hk0 := keeps_cells hb0; go_wp2_with fail)
    have hOld := hHeld
    clear hHeld
    refine hK.out _ _ ?_ (fun hHeld => ?_)
    · (try dsimp only); simp [*]
    clear hK K hOld
    try simp only [Act.put, List.setIfInBounds_toArray, List.set_cons_zero, List.set_cons_succ]
    refine wpAnyH_take (i := 4) (v := ?_) rfl (by kernel_rfl) (by kernel_rfl) (by kernel_rfl) (fun _ _ _ h => h) (Or.inl ⟨by rfl, ?_⟩) (by assumption) ?_
    rotate_left
    · (intro w' hSw; (try dsimp only at hSw); go_simp; try (with_reducible rfl))
    change wpAnyH _ _ _ _ _ _ _ (Act.put _ (some 10) _) _
    try simp only [Act.put, List.setIfInBounds_toArray, List.set_cons_zero, List.set_cons_succ]
    refine wpAnyH_ready (rs := [7]) (by kernel_rfl) (by simp) ?_
    refine AllReadyH.cons (i := 7) rfl (fun K hK => ?_) AllReadyH.nil
    simp only [List.getElem_toArray, List.getElem_cons_succ, List.getElem_cons_zero]
    rw [if_pos (by rfl)]
    go_simp
    (go_at_call 43; refine (C1.out _).mono ?_; rintro e w1 ⟨rfl, hb1⟩; have hk1 := keeps_cells hb1; go_wp2_with fail)
    have hOld := hHeld
    clear hHeld
    refine hK.out _ _ ?_ (fun hHeld => ?_)
    · (try dsimp only); simp [*]
    clear hK K hOld
    try simp only [Act.put, List.setIfInBounds_toArray, List.set_cons_zero, List.set_cons_succ]
    refine wpAnyH_take (i := 8) (v := ?_) rfl (by kernel_rfl) (by kernel_rfl) (by kernel_rfl) (fun _ _ _ h => h) (Or.inl ⟨by rfl, ?_⟩) (by assumption) ?_
    rotate_left
    · (intro w' hSw; (try dsimp only at hSw); go_simp; try (with_reducible rfl))
    change wpAnyH _ _ _ _ _ _ _ (Act.put _ (some 14) _) _
    try simp only [Act.put, List.setIfInBounds_toArray, List.set_cons_zero, List.set_cons_succ]
    refine wpAnyH_take (i := 9) (v := ?_) rfl (by kernel_rfl) (by kernel_rfl) (by kernel_rfl) (fun _ _ _ h => h) (Or.inl ⟨by rfl, ?_⟩) (by assumption) ?_
    rotate_left
    · (intro w' hSw; (try dsimp only at hSw); go_simp; try (with_reducible rfl))
    change wpAnyH _ _ _ _ _ _ _ (Act.put _ (some 15) _) _
    try simp only [Act.put, List.setIfInBounds_toArray, List.set_cons_zero, List.set_cons_succ]
    refine wpAnyH_ready (rs := [12]) (by kernel_rfl) (by simp) ?_
    refine AllReadyH.cons (i := 12) rfl (fun K hK => ?_) AllReadyH.nil
    simp only [List.getElem_toArray, List.getElem_cons_succ, List.getElem_cons_zero]
    rw [if_pos (by rfl)]
    go_simp
    (go_at_call 43; refine (C2.out _).mono ?_; rintro e w2 ⟨rfl, hb2⟩; have hk2 := keeps_cells hb2; go_wp2_with fail)
    have hOld := hHeld
    clear hHeld
    refine hK.out _ _ ?_ (fun hHeld => ?_)
    · (try dsimp only); simp [*]
    clear hK K hOld
    try simp only [Act.put, List.setIfInBounds_toArray, List.set_cons_zero, List.set_cons_succ]
    refine wpAnyH_take (i := 13) (v := ?_) rfl (by kernel_rfl) (by kernel_rfl) (by kernel_rfl) (fun _ _ _ h => h) (Or.inl ⟨by rfl, ?_⟩) (by assumption) ?_
    rotate_left
    · (intro w' hSw; (try dsimp only at hSw); go_simp; try (with_reducible rfl))
    change wpAnyH _ _ _ _ _ _ _ (Act.put _ (some 19) _) _
    try simp only [Act.put, List.setIfInBounds_toArray, List.set_cons_zero, List.set_cons_succ]
    refine wpAnyH_take (i := 14) (v := ?_) rfl (by kernel_rfl) (by kernel_rfl) (by kernel_rfl) (fun _ _ _ h => h) (Or.inl ⟨by rfl, ?_⟩) (by assumption) ?_
    rotate_left
    · (intro w' hSw; (try dsimp only at hSw); go_simp; try (with_reducible rfl))
    change wpAnyH _ _ _ _ _ _ _ (Act.put _ (some 20) _) _
    try simp only [Act.put, List.setIfInBounds_toArray, List.set_cons_zero, List.set_cons_succ]
    refine wpAnyH_ready (rs := [17]) (by kernel_rfl) (by simp) ?_
    refine AllReadyH.cons (i := 17) rfl (fun K hK => ?_) AllReadyH.nil
    simp only [List.getElem_toArray, List.getElem_cons_succ, List.getElem_cons_zero]
    rw [if_pos (by rfl)]
    go_simp
    (go_at_call 43; refine (C3.out _).mono ?_; rintro e w3 ⟨rfl, hb3⟩; have hk3 := keeps_cells hb3; go_wp2_with fail)
    have hOld := hHeld
    clear hHeld
    refine hK.out _ _ ?_ (fun hHeld => ?_)
    · (try dsimp only); simp [*]
    clear hK K hOld
    try simp only [Act.put, List.setIfInBounds_toArray, List.set_cons_zero, List.set_cons_succ]
    refine wpAnyH_take (i := 18) (v := ?_) rfl (by kernel_rfl) (by kernel_rfl) (by kernel_rfl) (fun _ _ _ h => h) (Or.inl ⟨by rfl, ?_⟩) (by assumption) ?_
    rotate_left
    · (intro w' hSw; (try dsimp only at hSw); go_simp; try (with_reducible rfl))
    change wpAnyH _ _ _ _ _ _ _ (Act.put _ (some 24) _) _
    try simp only [Act.put, List.setIfInBounds_toArray, List.set_cons_zero, List.set_cons_succ]
    refine wpAnyH_take (i := 19) (v := ?_) rfl (by kernel_rfl) (by kernel_rfl) (by kernel_rfl) (fun _ _ _ h => h) (Or.inl ⟨by rfl, ?_⟩) (by assumption) ?_
    rotate_left
    · (intro w' hSw; (try dsimp only at hSw); go_simp; try (with_reducible rfl))
    change wpAnyH _ _ _ _ _ _ _ (Act.put _ (some 25) _) _
    try simp only [Act.put, List.setIfInBounds_toArray, List.set_cons_zero, List.set_cons_succ]
    refine wpAnyH_ready (rs := [22]) (by kernel_rfl) (by simp) ?_
    refine AllReadyH.cons (i := 22) rfl (fun K hK => ?_) AllReadyH.nil
    simp only [List.getElem_toArray, List.getElem_cons_succ, List.getElem_cons_zero]
    rw [if_pos (by rfl)]
    go_simp
    (go_at_call 43; refine (C4.out _).mono ?_; rintro e w4 ⟨rfl, hb4⟩; have hk4 := keeps_cells hb4; go_wp2_with fail)
    have hOld := hHeld
    clear hHeld
    refine hK.out _ _ ?_ (fun hHeld => ?_)
    · (try dsimp only); simp [*]
    clear hK K hOld
    try simp only [Act.put, List.setIfInBounds_toArray, List.set_cons_zero, List.set_cons_succ]
    refine wpAnyH_take (i := 23) (v := ?_) rfl (by kernel_rfl) (by kernel_rfl) (by kernel_rfl) (fun _ _ _ h => h) (Or.inl ⟨by rfl, ?_⟩) (by assumption) ?_
    rotate_left
    · (intro w' hSw; (try dsimp only at hSw); go_simp; try (with_reducible rfl))
    change wpAnyH _ _ _ _ _ _ _ (Act.put _ (some 29) _) _
    try simp only [Act.put, List.setIfInBounds_toArray, List.set_cons_zero, List.set_cons_succ]
    refine wpAnyH_take (i := 24) (v := ?_) rfl (by kernel_rfl) (by kernel_rfl) (by kernel_rfl) (fun _ _ _ h => h) (Or.inl ⟨by rfl, ?_⟩) (by assumption) ?_
    rotate_left
    · (intro w' hSw; (try dsimp only at hSw); go_simp; try (with_reducible rfl))
    change wpAnyH _ _ _ _ _ _ _ (Act.put _ (some 2) _) _
    try simp only [Act.put, List.setIfInBounds_toArray, List.set_cons_zero, List.set_cons_succ]
    refine wpAnyH_done (by kernel_rfl) ?_ _
    go_wp2
    go_ret
    exact ⟨end_string HX.out, by repeat' (first | (with_reducible exact Below.refl _ _) | (with_reducible refine ext_trans ?_ hb4) | (with_reducible refine ext_trans ?_ hb3) | (with_reducible refine ext_trans ?_ hb2) | (with_reducible refine ext_trans ?_ hb1) | (with_reducible refine ext_trans ?_ hb0) | (with_reducible refine ext_trans ?_ (ext_alloc _ _)) | (with_reducible refine Below.drew ?_))⟩
  case true =>
    have HX := hid (show N0 ++ ⟨#[32, 49, 32]⟩ ++ Q1 ++ ⟨#[32]⟩ ++ Q2 ++ ⟨#[32]⟩ ++ Q3 ++ ⟨#[32]⟩ ++ Q4 = confT ⟨tag, fs, rs, ofs, ors, true⟩ by rw [HE.out]; apply ba_list; simp only [dat_app, headT]; simp)
    go_enter Tryz.func42, Tryz.ntmps42
    go_wp2_with fail
    refine wp_region_held_drew (S := fun w' => w'.cell? ⟨w.heap.size, 0, none⟩ = some (.int .i64 tag) ∧ w'.cell? ⟨w.heap.size, 1, none⟩ = some (.string fs) ∧ w'.cell? ⟨w.heap.size, 2, none⟩ = some (.string rs) ∧ w'.cell? ⟨w.heap.size, 3, none⟩ = some (.string ofs) ∧ w'.cell? ⟨w.heap.size, 4, none⟩ = some (.string ors)) (by kernel_rfl) ?_ (fun hHeld => ?_)
    · simp [*]
    refine wpAnyH_take (i := 0) (v := ?_) rfl (by kernel_rfl) (by kernel_rfl) (by kernel_rfl) (fun _ _ _ h => h) (Or.inl ⟨by rfl, ?_⟩) (by assumption) ?_
    rotate_left
    · (intro w' hSw; (try dsimp only at hSw); go_simp; try (with_reducible rfl))
    change wpAnyH _ _ _ _ _ _ _ (Act.put _ (some 6) _) _
    try simp only [Act.put, List.setIfInBounds_toArray, List.set_cons_zero, List.set_cons_succ]
    refine wpAnyH_take (i := 1) (v := ?_) rfl (by kernel_rfl) (by kernel_rfl) (by kernel_rfl) (fun _ _ _ h => h) (Or.inl ⟨by rfl, ?_⟩) (by assumption) ?_
    rotate_left
    · (intro w' hSw; (try dsimp only at hSw); go_simp; try (with_reducible rfl))
    change wpAnyH _ _ _ _ _ _ _ (Act.put _ (some 7) _) _
    try simp only [Act.put, List.setIfInBounds_toArray, List.set_cons_zero, List.set_cons_succ]
    refine wpAnyH_take (i := 3) (v := ?_) rfl (by kernel_rfl) (by kernel_rfl) (by kernel_rfl) (fun _ _ _ h => h) (Or.inl ⟨by rfl, ?_⟩) (by assumption) ?_
    rotate_left
    · (intro w' hSw; (try dsimp only at hSw); go_simp; try (with_reducible rfl))
    change wpAnyH _ _ _ _ _ _ _ (Act.put _ (some 9) _) _
    try simp only [Act.put, List.setIfInBounds_toArray, List.set_cons_zero, List.set_cons_succ]
    refine wpAnyH_take (i := 5) (v := ?_) rfl (by kernel_rfl) (by kernel_rfl) (by kernel_rfl) (fun _ _ _ h => h) (Or.inl ⟨by rfl, ?_⟩) (by assumption) ?_
    rotate_left
    · (intro w' hSw; (try dsimp only at hSw); go_simp; try (with_reducible rfl))
    change wpAnyH _ _ _ _ _ _ _ (Act.put _ (some 11) _) _
    try simp only [Act.put, List.setIfInBounds_toArray, List.set_cons_zero, List.set_cons_succ]
    refine wpAnyH_take (i := 6) (v := ?_) rfl (by kernel_rfl) (by kernel_rfl) (by kernel_rfl) (fun _ _ _ h => h) (Or.inl ⟨by rfl, ?_⟩) (by assumption) ?_
    rotate_left
    · (intro w' hSw; (try dsimp only at hSw); go_simp; try (with_reducible rfl))
    change wpAnyH _ _ _ _ _ _ _ (Act.put _ (some 12) _) _
    try simp only [Act.put, List.setIfInBounds_toArray, List.set_cons_zero, List.set_cons_succ]
    refine wpAnyH_take (i := 10) (v := ?_) rfl (by kernel_rfl) (by kernel_rfl) (by kernel_rfl) (fun _ _ _ h => h) (Or.inl ⟨by rfl, ?_⟩) (by assumption) ?_
    rotate_left
    · (intro w' hSw; (try dsimp only at hSw); go_simp; try (with_reducible rfl))
    change wpAnyH _ _ _ _ _ _ _ (Act.put _ (some 16) _) _
    try simp only [Act.put, List.setIfInBounds_toArray, List.set_cons_zero, List.set_cons_succ]
    refine wpAnyH_take (i := 11) (v := ?_) rfl (by kernel_rfl) (by kernel_rfl) (by kernel_rfl) (fun _ _ _ h => h) (Or.inl ⟨by rfl, ?_⟩) (by assumption) ?_
    rotate_left
    · (intro w' hSw; (try dsimp only at hSw); go_simp; try (with_reducible rfl))
    change wpAnyH _ _ _ _ _ _ _ (Act.put _ (some 17) _) _
    try simp only [Act.put, List.setIfInBounds_toArray, List.set_cons_zero, List.set_cons_succ]
    refine wpAnyH_take (i := 15) (v := ?_) rfl (by kernel_rfl) (by kernel_rfl) (by kernel_rfl) (fun _ _ _ h => h) (Or.inl ⟨by rfl, ?_⟩) (by assumption) ?_
    rotate_left
    · (intro w' hSw; (try dsimp only at hSw); go_simp; try (with_reducible rfl))
    change wpAnyH _ _ _ _ _ _ _ (Act.put _ (some 21) _) _
    try simp only [Act.put, List.setIfInBounds_toArray, List.set_cons_zero, List.set_cons_succ]
    refine wpAnyH_take (i := 16) (v := ?_) rfl (by kernel_rfl) (by kernel_rfl) (by kernel_rfl) (fun _ _ _ h => h) (Or.inl ⟨by rfl, ?_⟩) (by assumption) ?_
    rotate_left
    · (intro w' hSw; (try dsimp only at hSw); go_simp; try (with_reducible rfl))
    change wpAnyH _ _ _ _ _ _ _ (Act.put _ (some 22) _) _
    try simp only [Act.put, List.setIfInBounds_toArray, List.set_cons_zero, List.set_cons_succ]
    refine wpAnyH_take (i := 20) (v := ?_) rfl (by kernel_rfl) (by kernel_rfl) (by kernel_rfl) (fun _ _ _ h => h) (Or.inl ⟨by rfl, ?_⟩) (by assumption) ?_
    rotate_left
    · (intro w' hSw; (try dsimp only at hSw); go_simp; try (with_reducible rfl))
    change wpAnyH _ _ _ _ _ _ _ (Act.put _ (some 26) _) _
    try simp only [Act.put, List.setIfInBounds_toArray, List.set_cons_zero, List.set_cons_succ]
    refine wpAnyH_take (i := 21) (v := ?_) rfl (by kernel_rfl) (by kernel_rfl) (by kernel_rfl) (fun _ _ _ h => h) (Or.inl ⟨by rfl, ?_⟩) (by assumption) ?_
    rotate_left
    · (intro w' hSw; (try dsimp only at hSw); go_simp; try (with_reducible rfl))
    change wpAnyH _ _ _ _ _ _ _ (Act.put _ (some 27) _) _
    try simp only [Act.put, List.setIfInBounds_toArray, List.set_cons_zero, List.set_cons_succ]
    refine wpAnyH_ready (rs := [2]) (by kernel_rfl) (by simp) ?_
    refine AllReadyH.cons (i := 2) rfl (fun K hK => ?_) AllReadyH.nil
    simp only [List.getElem_toArray, List.getElem_cons_succ, List.getElem_cons_zero]
    rw [if_pos (by rfl)]
    go_simp
    (go_at_call 45; refine (C0.out _).mono ?_; rintro e w0 ⟨rfl, hb0⟩; have hk0 := keeps_cells hb0; go_wp2_with fail)
    have hOld := hHeld
    clear hHeld
    refine hK.out _ _ ?_ (fun hHeld => ?_)
    · (try dsimp only); simp [*]
    clear hK K hOld
    try simp only [Act.put, List.setIfInBounds_toArray, List.set_cons_zero, List.set_cons_succ]
    refine wpAnyH_take (i := 4) (v := ?_) rfl (by kernel_rfl) (by kernel_rfl) (by kernel_rfl) (fun _ _ _ h => h) (Or.inl ⟨by rfl, ?_⟩) (by assumption) ?_
    rotate_left
    · (intro w' hSw; (try dsimp only at hSw); go_simp; try (with_reducible rfl))
    change wpAnyH _ _ _ _ _ _ _ (Act.put _ (some 10) _) _
    try simp only [Act.put, List.setIfInBounds_toArray, List.set_cons_zero, List.set_cons_succ]
    refine wpAnyH_ready (rs := [7]) (by kernel_rfl) (by simp) ?_
    refine AllReadyH.cons (i := 7) rfl (fun K hK => ?_) AllReadyH.nil
    simp only [List.getElem_toArray, List.getElem_cons_succ, List.getElem_cons_zero]
    rw [if_pos (by rfl)]
    go_simp
    (go_at_call 43; refine (C1.out _).mono ?_; rintro e w1 ⟨rfl, hb1⟩; have hk1 := keeps_cells hb1; go_wp2_with fail)
    have hOld := hHeld
    clear hHeld
    refine hK.out _ _ ?_ (fun hHeld => ?_)
    · (try dsimp only); simp [*]
    clear hK K hOld
    try simp only [Act.put, List.setIfInBounds_toArray, List.set_cons_zero, List.set_cons_succ]
    refine wpAnyH_take (i := 8) (v := ?_) rfl (by kernel_rfl) (by kernel_rfl) (by kernel_rfl) (fun _ _ _ h => h) (Or.inl ⟨by rfl, ?_⟩) (by assumption) ?_
    rotate_left
    · (intro w' hSw; (try dsimp only at hSw); go_simp; try (with_reducible rfl))
    change wpAnyH _ _ _ _ _ _ _ (Act.put _ (some 14) _) _
    try simp only [Act.put, List.setIfInBounds_toArray, List.set_cons_zero, List.set_cons_succ]
    refine wpAnyH_take (i := 9) (v := ?_) rfl (by kernel_rfl) (by kernel_rfl) (by kernel_rfl) (fun _ _ _ h => h) (Or.inl ⟨by rfl, ?_⟩) (by assumption) ?_
    rotate_left
    · (intro w' hSw; (try dsimp only at hSw); go_simp; try (with_reducible rfl))
    change wpAnyH _ _ _ _ _ _ _ (Act.put _ (some 15) _) _
    try simp only [Act.put, List.setIfInBounds_toArray, List.set_cons_zero, List.set_cons_succ]
    refine wpAnyH_ready (rs := [12]) (by kernel_rfl) (by simp) ?_
    refine AllReadyH.cons (i := 12) rfl (fun K hK => ?_) AllReadyH.nil
    simp only [List.getElem_toArray, List.getElem_cons_succ, List.getElem_cons_zero]
    rw [if_pos (by rfl)]
    go_simp
    (go_at_call 43; refine (C2.out _).mono ?_; rintro e w2 ⟨rfl, hb2⟩; have hk2 := keeps_cells hb2; go_wp2_with fail)
    have hOld := hHeld
    clear hHeld
    refine hK.out _ _ ?_ (fun hHeld => ?_)
    · (try dsimp only); simp [*]
    clear hK K hOld
    try simp only [Act.put, List.setIfInBounds_toArray, List.set_cons_zero, List.set_cons_succ]
    refine wpAnyH_take (i := 13) (v := ?_) rfl (by kernel_rfl) (by kernel_rfl) (by kernel_rfl) (fun _ _ _ h => h) (Or.inl ⟨by rfl, ?_⟩) (by assumption) ?_
    rotate_left
    · (intro w' hSw; (try dsimp only at hSw); go_simp; try (with_reducible rfl))
    change wpAnyH _ _ _ _ _ _ _ (Act.put _ (some 19) _) _
    try simp only [Act.put, List.setIfInBounds_toArray, List.set_cons_zero, List.set_cons_succ]
    refine wpAnyH_take (i := 14) (v := ?_) rfl (by kernel_rfl) (by kernel_rfl) (by kernel_rfl) (fun _ _ _ h => h) (Or.inl ⟨by rfl, ?_⟩) (by assumption) ?_
    rotate_left
    · (intro w' hSw; (try dsimp only at hSw); go_simp; try (with_reducible rfl))
    change wpAnyH _ _ _ _ _ _ _ (Act.put _ (some 20) _) _
    try simp only [Act.put, List.setIfInBounds_toArray, List.set_cons_zero, List.set_cons_succ]
    refine wpAnyH_ready (rs := [17]) (by kernel_rfl) (by simp) ?_
    refine AllReadyH.cons (i := 17) rfl (fun K hK => ?_) AllReadyH.nil
    simp only [List.getElem_toArray, List.getElem_cons_succ, List.getElem_cons_zero]
    rw [if_pos (by rfl)]
    go_simp
    (go_at_call 43; refine (C3.out _).mono ?_; rintro e w3 ⟨rfl, hb3⟩; have hk3 := keeps_cells hb3; go_wp2_with fail)
    have hOld := hHeld
    clear hHeld
    refine hK.out _ _ ?_ (fun hHeld => ?_)
    · (try dsimp only); simp [*]
    clear hK K hOld
    try simp only [Act.put, List.setIfInBounds_toArray, List.set_cons_zero, List.set_cons_succ]
    refine wpAnyH_take (i := 18) (v := ?_) rfl (by kernel_rfl) (by kernel_rfl) (by kernel_rfl) (fun _ _ _ h => h) (Or.inl ⟨by rfl, ?_⟩) (by assumption) ?_
    rotate_left
    · (intro w' hSw; (try dsimp only at hSw); go_simp; try (with_reducible rfl))
    change wpAnyH _ _ _ _ _ _ _ (Act.put _ (some 24) _) _
    try simp only [Act.put, List.setIfInBounds_toArray, List.set_cons_zero, List.set_cons_succ]
    refine wpAnyH_take (i := 19) (v := ?_) rfl (by kernel_rfl) (by kernel_rfl) (by kernel_rfl) (fun _ _ _ h => h) (Or.inl ⟨by rfl, ?_⟩) (by assumption) ?_
    rotate_left
    · (intro w' hSw; (try dsimp only at hSw); go_simp; try (with_reducible rfl))
    change wpAnyH _ _ _ _ _ _ _ (Act.put _ (some 25) _) _
    try simp only [Act.put, List.setIfInBounds_toArray, List.set_cons_zero, List.set_cons_succ]
    refine wpAnyH_ready (rs := [22]) (by kernel_rfl) (by simp) ?_
    refine AllReadyH.cons (i := 22) rfl (fun K hK => ?_) AllReadyH.nil
    simp only [List.getElem_toArray, List.getElem_cons_succ, List.getElem_cons_zero]
    rw [if_pos (by rfl)]
    go_simp
    (go_at_call 43; refine (C4.out _).mono ?_; rintro e w4 ⟨rfl, hb4⟩; have hk4 := keeps_cells hb4; go_wp2_with fail)
    have hOld := hHeld
    clear hHeld
    refine hK.out _ _ ?_ (fun hHeld => ?_)
    · (try dsimp only); simp [*]
    clear hK K hOld
    try simp only [Act.put, List.setIfInBounds_toArray, List.set_cons_zero, List.set_cons_succ]
    refine wpAnyH_take (i := 23) (v := ?_) rfl (by kernel_rfl) (by kernel_rfl) (by kernel_rfl) (fun _ _ _ h => h) (Or.inl ⟨by rfl, ?_⟩) (by assumption) ?_
    rotate_left
    · (intro w' hSw; (try dsimp only at hSw); go_simp; try (with_reducible rfl))
    change wpAnyH _ _ _ _ _ _ _ (Act.put _ (some 29) _) _
    try simp only [Act.put, List.setIfInBounds_toArray, List.set_cons_zero, List.set_cons_succ]
    refine wpAnyH_take (i := 24) (v := ?_) rfl (by kernel_rfl) (by kernel_rfl) (by kernel_rfl) (fun _ _ _ h => h) (Or.inl ⟨by rfl, ?_⟩) (by assumption) ?_
    rotate_left
    · (intro w' hSw; (try dsimp only at hSw); go_simp; try (with_reducible rfl))
    change wpAnyH _ _ _ _ _ _ _ (Act.put _ (some 2) _) _
    try simp only [Act.put, List.setIfInBounds_toArray, List.set_cons_zero, List.set_cons_succ]
    refine wpAnyH_done (by kernel_rfl) ?_ _
    go_wp2
    go_ret
    exact ⟨end_string HX.out, by repeat' (first | (with_reducible exact Below.refl _ _) | (with_reducible refine ext_trans ?_ hb4) | (with_reducible refine ext_trans ?_ hb3) | (with_reducible refine ext_trans ?_ hb2) | (with_reducible refine ext_trans ?_ hb1) | (with_reducible refine ext_trans ?_ hb0) | (with_reducible refine ext_trans ?_ (ext_alloc _ _)) | (with_reducible refine Below.drew ?_))⟩
set_option maxHeartbeats 16000000 in
set_option maxRecDepth 100000 in
theorem implJobT {cs : Array Value} {x : Job} (w : World) (h : Rd.rd (Old w) w cs.toList x) (hg : JobGood x) (hP : PT w) :
    Calls Tryz.prog 26 #[.agg cs] w fun e w' => e = .returned (.string (jobT x)) ∧ Below w.heap.size w w' := by
  obtain ⟨a12, c12, a13, c13, hcs, f0, f1, f2, f3, f4, f6, f7, f8, f9, f10, f12, f13, f14, f15⟩ := rdJob h
  obtain rfl := arr_of_list hcs
  clear hcs h
  have hh := jobH_size hg f0 f6
  have HF := hid (jobF_len hg hh)
  have HG := hid (jobG_len hg hh)
  have hnf := hg.nf
  have hna := hg.na
  have HGD := hid hg
  have n9 := numB_size f15
  have s9 := qT_size x.source
  have s8 := file_size hg.source
  have a8 := confT_size hg.inp f0
  have a9 := confT_size hg.out f6
  have HHE := hid (show jobH x = ⟨#[105, 110, 32]⟩ ++ confT x.world.inp ++ ⟨#[10, 111, 117, 116, 32]⟩ ++ confT x.world.out ++ ⟨#[10]⟩ from rfl)
  have HJE := hid (show jobE x = ⟨#[102, 117, 101, 108, 32]⟩ ++ numB x.fuel ++ ⟨#[10, 112, 114, 111, 103, 114, 97, 109, 32]⟩ ++ qT x.source ++ ⟨#[10]⟩ from rfl)
  have hW0 := heap_alloc_new w (.cells #[.int .i64 x.world.inp.tag, .string x.world.inp.fs, .string x.world.inp.rs, .string x.world.inp.ofs, .string x.world.inp.ors, .bool x.world.inp.head, .int .i64 x.world.out.tag, .string x.world.out.fs, .string x.world.out.rs, .string x.world.out.ofs, .string x.world.out.ors, .bool x.world.out.head, .slice a12 x.world.files.length c12, .slice a13 x.world.args.length c13, .string x.source, .int .i64 x.fuel] 37)
  have HBX := hid (fun (w' : World) (hb : Below (w.heap.size + 1) (w.alloc (.cells #[.int .i64 x.world.inp.tag, .string x.world.inp.fs, .string x.world.inp.rs, .string x.world.inp.ofs, .string x.world.inp.ors, .bool x.world.inp.head, .int .i64 x.world.out.tag, .string x.world.out.fs, .string x.world.out.rs, .string x.world.out.ofs, .string x.world.out.ors, .bool x.world.out.head, .slice a12 x.world.files.length c12, .slice a13 x.world.args.length c13, .string x.source, .int .i64 x.fuel] 37)) w') => blk16c ((hb.block w.heap.size (Nat.lt_succ_self _)).trans hW0))
  have HBW := hid (fun (w' : World) (hb : Below (w.heap.size + 1) (w.alloc (.cells #[.int .i64 x.world.inp.tag, .string x.world.inp.fs, .string x.world.inp.rs, .string x.world.inp.ofs, .string x.world.inp.ors, .bool x.world.inp.head, .int .i64 x.world.out.tag, .string x.world.out.fs, .string x.world.out.rs, .string x.world.out.ofs, .string x.world.out.ors, .bool x.world.out.head, .slice a12 x.world.files.length c12, .slice a13 x.world.args.length c13, .string x.source, .int .i64 x.fuel] 37)) w') => (ext_alloc w (.cells #[.int .i64 x.world.inp.tag, .string x.world.inp.fs, .string x.world.inp.rs, .string x.world.inp.ofs, .string x.world.inp.ors, .bool x.world.inp.head, .int .i64 x.world.out.tag, .string x.world.out.fs, .string x.world.out.rs, .string x.world.out.ofs, .string x.world.out.ors, .bool x.world.out.head, .slice a12 x.world.files.length c12, .slice a13 x.world.args.length c13, .string x.source, .int .i64 x.fuel] 37)).trans (hb.mono (Nat.le_succ _)))
  have HSZ := hid (fun (w' : World) (hb : Below (w.heap.size + 1) (w.alloc (.cells #[.int .i64 x.world.inp.tag, .string x.world.inp.fs, .string x.world.inp.rs, .string x.world.inp.ofs, .string x.world.inp.ors, .bool x.world.inp.head, .int .i64 x.world.out.tag, .string x.world.out.fs, .string x.world.out.rs, .string x.world.out.ofs, .string x.world.out.ors, .bool x.world.out.head, .slice a12 x.world.files.length c12, .slice a13 x.world.args.length c13, .string x.source, .int .i64 x.fuel] 37)) w') => (show w.heap.size + 1 ≤ w'.heap.size from by have := hb.size; simp at this; exact this))
  clear hW0
  have hb0 := Below.refl (w.heap.size + 1) (w.alloc (.cells #[.int .i64 x.world.inp.tag, .string x.world.inp.fs, .string x.world.inp.rs, .string x.world.inp.ofs, .string x.world.inp.ors, .bool x.world.inp.head, .int .i64 x.world.out.tag, .string x.world.out.fs, .string x.world.out.rs, .string x.world.out.ofs, .string x.world.out.ors, .bool x.world.out.head, .slice a12 x.world.files.length c12, .slice a13 x.world.args.length c13, .string x.source, .int .i64 x.fuel] 37))
  obtain ⟨z0, z1, z2, z3, z4, z5, z6, z7, z8, z9, z10, z11, z12, z13, z14, z15⟩ := HBX.out _ hb0
  have CI := hid (fun (w : World) (h : PT w) => implConfText (x := x.world.inp) w (by exact rdConf_mk f0 f1 f2 f3 f4) hg.inp h)
  have CO := hid (fun (w : World) (h : PT w) => implConfText (x := x.world.out) w (by exact rdConf_mk f6 f7 f8 f9 f10) hg.out h)
  have CN := hid (fun (w : World) (h : PT w) => implNumText x.fuel w h f15)
  have CZ := hid (show ∀ w : World, Calls Tryz.prog 56 #[.string x.source] w fun e w' => e = .returned (.string (qT x.source)) ∧ Below w.heap.size w w' from fun w => implQuoted x.source w (by omega))
  obtain ⟨A0, e0⟩ : ∃ z, confT x.world.inp = z := ⟨_, rfl⟩
  rw [e0] at CI a8 HHE
  obtain ⟨A1, e1⟩ : ∃ z, confT x.world.out = z := ⟨_, rfl⟩
  rw [e1] at CO a9 HHE
  obtain ⟨N9, e9⟩ : ∃ z, numB x.fuel = z := ⟨_, rfl⟩
  rw [e9] at CN n9 HJE
  obtain ⟨Q9, e8⟩ : ∃ z, qT x.source = z := ⟨_, rfl⟩
  rw [e8] at CZ s9 HJE
  have HD0 := hid (show (⟨#[105, 110, 32]⟩ ++ A0 ++ ⟨#[10, 111, 117, 116, 32]⟩ ++ A1 ++ ⟨#[10]⟩ : ByteArray).data.toList = jobF x 0 by rw [jobF_zero, HHE.out])
  clear e0 e1 e9 e8 hg
  have p0 : ¬ 9223372036854775807 < 3 + A0.size := by omega
  have p1 : ¬ 9223372036854775807 < 3 + A0.size + 5 := by omega
  have p2 : ¬ 9223372036854775807 < 3 + A0.size + 5 + A1.size := by omega
  have p3 : ¬ 9223372036854775807 < 3 + A0.size + 5 + A1.size + 1 := by omega
  go_enter Tryz.func26, Tryz.ntmps26
  go_wp2_with fail
  refine wp_region_held_drew (S := fun w' => w'.cell? ⟨w.heap.size, 0, none⟩ = some (.int .i64 x.world.inp.tag) ∧ w'.cell? ⟨w.heap.size, 1, none⟩ = some (.string x.world.inp.fs) ∧ w'.cell? ⟨w.heap.size, 2, none⟩ = some (.string x.world.inp.rs) ∧ w'.cell? ⟨w.heap.size, 3, none⟩ = some (.string x.world.inp.ofs) ∧ w'.cell? ⟨w.heap.size, 4, none⟩ = some (.string x.world.inp.ors) ∧ w'.cell? ⟨w.heap.size, 5, none⟩ = some (.bool x.world.inp.head) ∧ w'.cell? ⟨w.heap.size, 6, none⟩ = some (.int .i64 x.world.out.tag) ∧ w'.cell? ⟨w.heap.size, 7, none⟩ = some (.string x.world.out.fs) ∧ w'.cell? ⟨w.heap.size, 8, none⟩ = some (.string x.world.out.rs) ∧ w'.cell? ⟨w.heap.size, 9, none⟩ = some (.string x.world.out.ofs) ∧ w'.cell? ⟨w.heap.size, 10, none⟩ = some (.string x.world.out.ors) ∧ w'.cell? ⟨w.heap.size, 11, none⟩ = some (.bool x.world.out.head)) (by kernel_rfl) ?_ (fun hHeld => ?_)
  · simp [*]
  refine wpAnyH_take (i := 0) (v := ?_) rfl (by kernel_rfl) (by kernel_rfl) (by kernel_rfl) (fun _ _ _ h => h) (Or.inl ⟨by rfl, ?_⟩) (by assumption) ?_
  rotate_left
  · (intro w' hSw; (try dsimp only at hSw); go_simp; try (with_reducible rfl))
  change wpAnyH _ _ _ _ _ _ _ (Act.put _ (some 8) _) _
  try simp only [Act.put, List.setIfInBounds_toArray, List.set_cons_zero, List.set_cons_succ]
  refine wpAnyH_take (i := 1) (v := ?_) rfl (by kernel_rfl) (by kernel_rfl) (by kernel_rfl) (fun _ _ _ h => h) (Or.inl ⟨by rfl, ?_⟩) (by assumption) ?_
  rotate_left
  · (intro w' hSw; (try dsimp only at hSw); go_simp; try (with_reducible rfl))
  change wpAnyH _ _ _ _ _ _ _ (Act.put _ (some 9) _) _
  try simp only [Act.put, List.setIfInBounds_toArray, List.set_cons_zero, List.set_cons_succ]
  refine wpAnyH_take (i := 2) (v := ?_) rfl (by kernel_rfl) (by kernel_rfl) (by kernel_rfl) (fun _ _ _ h => h) (Or.inl ⟨by rfl, ?_⟩) (by assumption) ?_
  rotate_left
  · (intro w' hSw; (try dsimp only at hSw); go_simp; try (with_reducible rfl))
  change wpAnyH _ _ _ _ _ _ _ (Act.put _ (some 10) _) _
  try simp only [Act.put, List.setIfInBounds_toArray, List.set_cons_zero, List.set_cons_succ]
  refine wpAnyH_take (i := 6) (v := ?_) rfl (by kernel_rfl) (by kernel_rfl) (by kernel_rfl) (fun _ _ _ h => h) (Or.inl ⟨by rfl, ?_⟩) (by assumption) ?_
  rotate_left
  · (intro w' hSw; (try dsimp only at hSw); go_simp; try (with_reducible rfl))
  change wpAnyH _ _ _ _ _ _ _ (Act.put _ (some 14) _) _
  try simp only [Act.put, List.setIfInBounds_toArray, List.set_cons_zero, List.set_cons_succ]
  refine wpAnyH_take (i := 7) (v := ?_) rfl (by kernel_rfl) (by kernel_rfl) (by kernel_rfl) (fun _ _ _ h => h) (Or.inl ⟨by rfl, ?_⟩) (by assumption) ?_
  rotate_left
  · (intro w' hSw; (try dsimp only at hSw); go_simp; try (with_reducible rfl))
  change wpAnyH _ _ _ _ _ _ _ (Act.put _ (some 15) _) _
  try simp only [Act.put, List.setIfInBounds_toArray, List.set_cons_zero, List.set_cons_succ]
  refine wpAnyH_take (i := 8) (v := ?_) rfl (by kernel_rfl) (by kernel_rfl) (by kernel_rfl) (fun _ _ _ h => h) (Or.inl ⟨by rfl, ?_⟩) (by assumption) ?_
  rotate_left
  · (intro w' hSw; (try dsimp only at hSw); go_simp; try (with_reducible rfl))
  change wpAnyH _ _ _ _ _ _ _ (Act.put _ (some 16) _) _
  try simp only [Act.put, List.setIfInBounds_toArray, List.set_cons_zero, List.set_cons_succ]
  refine wpAnyH_ready (rs := [3]) (by kernel_rfl) (by simp) ?_
  refine AllReadyH.cons (i := 3) rfl (fun K hK => ?_) AllReadyH.nil
  simp only [List.getElem_toArray, List.getElem_cons_succ, List.getElem_cons_zero]
  rw [if_pos (by rfl)]
  go_simp
  (go_at_call 55; refine (CI.out _ (pt_below hP (by repeat' (first | (with_reducible exact Below.refl _ _) | (with_reducible refine ext_trans ?_ (ext_alloc _ _)) | (with_reducible refine Below.drew ?_))))).mono ?_; rintro e w1 ⟨rfl, hb1⟩; have hk1 := keeps_cells hb1; go_wp2_with fail)
  have hOld := hHeld
  clear hHeld
  refine hK.out _ _ ?_ (fun hHeld => ?_)
  · (try dsimp only); simp [*]
  clear hK K hOld
  try simp only [Act.put, List.setIfInBounds_toArray, List.set_cons_zero, List.set_cons_succ]
  refine wpAnyH_take (i := 4) (v := ?_) rfl (by kernel_rfl) (by kernel_rfl) (by kernel_rfl) (fun _ _ _ h => h) (Or.inl ⟨by rfl, ?_⟩) (by assumption) ?_
  rotate_left
  · (intro w' hSw; (try dsimp only at hSw); go_simp; try (with_reducible rfl))
  change wpAnyH _ _ _ _ _ _ _ (Act.put _ (some 12) _) _
  try simp only [Act.put, List.setIfInBounds_toArray, List.set_cons_zero, List.set_cons_succ]
  refine wpAnyH_take (i := 5) (v := ?_) rfl (by kernel_rfl) (by kernel_rfl) (by kernel_rfl) (fun _ _ _ h => h) (Or.inl ⟨by rfl, ?_⟩) (by assumption) ?_
  rotate_left
  · (intro w' hSw; (try dsimp only at hSw); go_simp; try (with_reducible rfl))
  change wpAnyH _ _ _ _ _ _ _ (Act.put _ (some 13) _) _
  try simp only [Act.put, List.setIfInBounds_toArray, List.set_cons_zero, List.set_cons_succ]
  refine wpAnyH_ready (rs := [9]) (by kernel_rfl) (by simp) ?_
  refine AllReadyH.cons (i := 9) rfl (fun K hK => ?_) AllReadyH.nil
  simp only [List.getElem_toArray, List.getElem_cons_succ, List.getElem_cons_zero]
  rw [if_pos (by rfl)]
  go_simp
  (go_at_call 55; refine (CO.out _ (pt_below hP (by repeat' (first | (with_reducible exact Below.refl _ _) | (with_reducible refine ext_trans ?_ hb1) | (with_reducible refine ext_trans ?_ (ext_alloc _ _)) | (with_reducible refine Below.drew ?_))))).mono ?_; rintro e w2 ⟨rfl, hb2⟩; have hk2 := keeps_cells hb2; go_wp2_with fail)
  have hOld := hHeld
  clear hHeld
  refine hK.out _ _ ?_ (fun hHeld => ?_)
  · (try dsimp only); simp [*]
  clear hK K hOld
  try simp only [Act.put, List.setIfInBounds_toArray, List.set_cons_zero, List.set_cons_succ]
  refine wpAnyH_take (i := 10) (v := ?_) rfl (by kernel_rfl) (by kernel_rfl) (by kernel_rfl) (fun _ _ _ h => h) (Or.inl ⟨by rfl, ?_⟩) (by assumption) ?_
  rotate_left
  · (intro w' hSw; (try dsimp only at hSw); go_simp; try (with_reducible rfl))
  change wpAnyH _ _ _ _ _ _ _ (Act.put _ (some 18) _) _
  try simp only [Act.put, List.setIfInBounds_toArray, List.set_cons_zero, List.set_cons_succ]
  refine wpAnyH_take (i := 11) (v := ?_) rfl (by kernel_rfl) (by kernel_rfl) (by kernel_rfl) (fun _ _ _ h => h) (Or.inl ⟨by rfl, ?_⟩) (by assumption) ?_
  rotate_left
  · (intro w' hSw; (try dsimp only at hSw); go_simp; try (with_reducible rfl))
  change wpAnyH _ _ _ _ _ _ _ (Act.put _ (some 19) _) _
  try simp only [Act.put, List.setIfInBounds_toArray, List.set_cons_zero, List.set_cons_succ]
  refine wpAnyH_take (i := 12) (v := ?_) rfl (by kernel_rfl) (by kernel_rfl) (by kernel_rfl) (fun _ _ _ h => h) (Or.inl ⟨by rfl, ?_⟩) (by assumption) ?_
  rotate_left
  · (intro w' hSw; (try dsimp only at hSw); go_simp; try (with_reducible rfl))
  change wpAnyH _ _ _ _ _ _ _ (Act.put _ (some 3) _) _
  try simp only [Act.put, List.setIfInBounds_toArray, List.set_cons_zero, List.set_cons_succ]
  refine wpAnyH_done (by kernel_rfl) ?_ _
  have e0 : (w.alloc (.cells #[.int .i64 x.world.inp.tag, .string x.world.inp.fs, .string x.world.inp.rs, .string x.world.inp.ofs, .string x.world.inp.ors, .bool x.world.inp.head, .int .i64 x.world.out.tag, .string x.world.out.fs, .string x.world.out.rs, .string x.world.out.ofs, .string x.world.out.ors, .bool x.world.out.head, .slice a12 x.world.files.length c12, .slice a13 x.world.args.length c13, .string x.source, .int .i64 x.fuel] 37)).heap.size = w.heap.size + 1 := by simp
  have hB2 : Below (w.heap.size + 1) (w.alloc (.cells #[.int .i64 x.world.inp.tag, .string x.world.inp.fs, .string x.world.inp.rs, .string x.world.inp.ofs, .string x.world.inp.ors, .bool x.world.inp.head, .int .i64 x.world.out.tag, .string x.world.out.fs, .string x.world.out.rs, .string x.world.out.ofs, .string x.world.out.ors, .bool x.world.out.head, .slice a12 x.world.files.length c12, .slice a13 x.world.args.length c13, .string x.source, .int .i64 x.fuel] 37)) w2 := by rw [← e0]; repeat' (first | (with_reducible exact Below.refl _ _) | (with_reducible refine ext_trans ?_ hb2) | (with_reducible refine ext_trans ?_ hb1) | (with_reducible refine ext_trans ?_ (ext_alloc _ _)) | (with_reducible refine Below.drew ?_))
  clear hk1 hk2 hHeld z0 z1 z2 z3 z4 z5 z6 z7 z8 z9 z10 z11 z12 z13 z14 z15
  obtain ⟨z0, z1, z2, z3, z4, z5, z6, z7, z8, z9, z10, z11, z12, z13, z14, z15⟩ := HBX.out _ hB2
  obtain ⟨sb0, hsb0⟩ : ∃ z, (⟨#[105, 110, 32]⟩ ++ A0 ++ ⟨#[10, 111, 117, 116, 32]⟩ ++ A1 ++ ⟨#[10]⟩ : ByteArray) = z := ⟨_, rfl⟩
  rw [hsb0] at HD0
  have HSB0 := hid hsb0
  clear hsb0
  go_wp2
  rw [HSB0.out]
  go_loopw [3, 24] (fun sv i wr => ∃ (k : Nat) (sb : ByteArray), k ≤ x.world.files.length ∧ sv = .string sb ∧ i = .int .i64 (k : Int) ∧ Hid (sb.data.toList = jobF x k) ∧ Below (w.heap.size + 1) (w.alloc (.cells #[.int .i64 x.world.inp.tag, .string x.world.inp.fs, .string x.world.inp.rs, .string x.world.inp.ofs, .string x.world.inp.ors, .bool x.world.inp.head, .int .i64 x.world.out.tag, .string x.world.out.fs, .string x.world.out.rs, .string x.world.out.ofs, .string x.world.out.ors, .bool x.world.out.head, .slice a12 x.world.files.length c12, .slice a13 x.world.args.length c13, .string x.source, .int .i64 x.fuel] 37)) wr) (fun _ i _ => x.world.files.length - (intOf i).toNat)
  case atStart => exact ⟨0, sb0, Nat.zero_le _, rfl, rfl, HD0, hB2⟩
  case round =>
    obtain ⟨k, sb, hk, rfl, rfl, HSB, hB⟩ := hrel
    clear z0 z1 z2 z3 z4 z5 z6 z7 z8 z9 z10 z11 z12 z13 z14 z15
    obtain ⟨z0, z1, z2, z3, z4, z5, z6, z7, z8, z9, z10, z11, z12, z13, z14, z15⟩ := HBX.out _ hB
    have hBw := HBW.out _ hB
    have hsr := HSZ.out _ hB
    have hfl := HF.out k hk
    have hsb : sb.size ≤ 16100 + k * 10020 := by rw [Lib.size_eq, HSB.out]; exact hfl
    by_cases hlt : k < x.world.files.length
    · have hF := f12
      obtain ⟨a, cap, hv, h1, h2, hF⟩ := hF
      obtain ⟨rfl, rfl⟩ : a12 = a ∧ c12 = cap := by simpa using hv
      obtain ⟨b, off, rfl, hBk, hrow⟩ := hF (by omega)
      obtain ⟨cs, hcell, hx⟩ := hrow k hlt
      obtain ⟨hcs, g0, g1⟩ := rdFile hx
      subst hcs
      have t0 : wr.cell? ⟨b, off + k * 2, none⟩ = some (.string x.world.files[k].name) := (hBw.cell (p := ⟨b, off + k * 2, none⟩) hBk).trans (hcell 0 (by decide))
      have t1 : wr.cell? ⟨b, off + k * 2 + 1, none⟩ = some (.string x.world.files[k].text) := (hBw.cell (p := ⟨b, off + k * 2 + 1, none⟩) hBk).trans (hcell 1 (by decide))
      have HST := hid (jobF_succ hlt)
      have hn1 := HGD.out.name k hlt
      have hn2 := HGD.out.text k hlt
      obtain ⟨f, hfe⟩ : ∃ f, x.world.files[k] = f := ⟨_, rfl⟩
      rw [hfe] at HST t0 t1 hn1 hn2
      have s1 := qT_size f.name
      have s2 := qT_size f.text
      have r1 := ok_size hn1
      have r2 := file_size hn2
      have hLN0 : fileL f = ⟨#[102, 105, 108, 101, 32]⟩ ++ qT f.name ++ ⟨#[32]⟩ ++ qT f.text ++ ⟨#[10]⟩ := rfl
      have CQ := hid (show ∀ w : World, Calls Tryz.prog 56 #[.string f.name] w fun e w' => e = .returned (.string (qT f.name)) ∧ Below w.heap.size w w' from fun w => implQuoted f.name w (by omega))
      have CT := hid (show ∀ w : World, Calls Tryz.prog 56 #[.string f.text] w fun e w' => e = .returned (.string (qT f.text)) ∧ Below w.heap.size w w' from fun w => implQuoted f.text w (by omega))
      obtain ⟨Q1, e1⟩ : ∃ z, qT f.name = z := ⟨_, rfl⟩
      rw [e1] at CQ s1 hLN0
      obtain ⟨Q2, e2⟩ : ∃ z, qT f.text = z := ⟨_, rfl⟩
      rw [e2] at CT s2 hLN0
      obtain ⟨nm, e3⟩ : ∃ z, f.name = z := ⟨_, rfl⟩
      rw [e3] at CQ t0 r1 s1
      obtain ⟨tx, e4⟩ : ∃ z, f.text = z := ⟨_, rfl⟩
      rw [e4] at CT t1 r2 s2
      have HLN := hid hLN0
      have hki : (k : Int) < (x.world.files.length : Int) := by omega
      have hk0 : (0 : Int) ≤ (k : Int) := by omega
      have hkb : k * 10020 ≤ 80160 := by omega
      clear hfe hcell hrow hx hv hF h1 h2 hn1 hn2 e1 e2 e3 e4 hLN0
      have p0 : ¬ 9223372036854775807 < 5 + Q1.size := by omega
      have p1 : ¬ 9223372036854775807 < 5 + Q1.size + 1 := by omega
      have p2 : ¬ 9223372036854775807 < 5 + Q1.size + 1 + Q2.size := by omega
      have p3 : ¬ 9223372036854775807 < 5 + Q1.size + 1 + Q2.size + 1 := by omega
      have qb : ¬ 9223372036854775807 < sb.size + (5 + Q1.size + 1 + Q2.size + 1) := by omega
      have HSS := hid (show (sb ++ (⟨#[102, 105, 108, 101, 32]⟩ ++ Q1 ++ ⟨#[32]⟩ ++ Q2 ++ ⟨#[10]⟩)).data.toList = jobF x (k + 1) by rw [HST.out, HLN.out, dat_app, HSB.out])
      go_wp2_with fail
      refine wp_region_held_drew (S := fun w' => w'.cell? ⟨wr.heap.size, 0, none⟩ = some (.string nm) ∧ w'.cell? ⟨wr.heap.size, 1, none⟩ = some (.string tx)) (by kernel_rfl) ?_ (fun hHeld => ?_)
      · simp [*]
      refine wpAnyH_take (i := 0) (v := ?_) rfl (by kernel_rfl) (by kernel_rfl) (by kernel_rfl) (fun _ _ _ h => h) (Or.inl ⟨by rfl, ?_⟩) (by assumption) ?_
      rotate_left
      · (intro w' hSw; (try dsimp only at hSw); go_simp; try (with_reducible rfl))
      change wpAnyH _ _ _ _ _ _ _ (Act.put _ (some 28) _) _
      try simp only [Act.put, List.setIfInBounds_toArray, List.set_cons_zero, List.set_cons_succ]
      refine wpAnyH_take (i := 1) (v := ?_) rfl (by kernel_rfl) (by kernel_rfl) (by kernel_rfl) (fun _ _ _ h => h) (Or.inl ⟨by rfl, ?_⟩) (by assumption) ?_
      rotate_left
      · (intro w' hSw; (try dsimp only at hSw); go_simp; try (with_reducible rfl))
      change wpAnyH _ _ _ _ _ _ _ (Act.put _ (some 29) _) _
      try simp only [Act.put, List.setIfInBounds_toArray, List.set_cons_zero, List.set_cons_succ]
      refine wpAnyH_take (i := 2) (v := ?_) rfl (by kernel_rfl) (by kernel_rfl) (by kernel_rfl) (fun _ _ _ h => h) (Or.inl ⟨by rfl, ?_⟩) (by assumption) ?_
      rotate_left
      · (intro w' hSw; (try dsimp only at hSw); go_simp; try (with_reducible rfl))
      change wpAnyH _ _ _ _ _ _ _ (Act.put _ (some 30) _) _
      try simp only [Act.put, List.setIfInBounds_toArray, List.set_cons_zero, List.set_cons_succ]
      refine wpAnyH_take (i := 6) (v := ?_) rfl (by kernel_rfl) (by kernel_rfl) (by kernel_rfl) (fun _ _ _ h => h) (Or.inl ⟨by rfl, ?_⟩) (by assumption) ?_
      rotate_left
      · (intro w' hSw; (try dsimp only at hSw); go_simp; try (with_reducible rfl))
      change wpAnyH _ _ _ _ _ _ _ (Act.put _ (some 34) _) _
      try simp only [Act.put, List.setIfInBounds_toArray, List.set_cons_zero, List.set_cons_succ]
      refine wpAnyH_take (i := 7) (v := ?_) rfl (by kernel_rfl) (by kernel_rfl) (by kernel_rfl) (fun _ _ _ h => h) (Or.inl ⟨by rfl, ?_⟩) (by assumption) ?_
      rotate_left
      · (intro w' hSw; (try dsimp only at hSw); go_simp; try (with_reducible rfl))
      change wpAnyH _ _ _ _ _ _ _ (Act.put _ (some 35) _) _
      try simp only [Act.put, List.setIfInBounds_toArray, List.set_cons_zero, List.set_cons_succ]
      refine wpAnyH_ready (rs := [3]) (by kernel_rfl) (by simp) ?_
      refine AllReadyH.cons (i := 3) rfl (fun K hK => ?_) AllReadyH.nil
      simp only [List.getElem_toArray, List.getElem_cons_succ, List.getElem_cons_zero]
      rw [if_pos (by rfl)]
      go_simp
      (go_at_call 56; refine (CQ.out _).mono ?_; rintro e w5 ⟨rfl, hb5⟩; have hk5 := keeps_cells hb5; go_wp2_with fail)
      have hOld := hHeld
      clear hHeld
      refine hK.out _ _ ?_ (fun hHeld => ?_)
      · (try dsimp only); simp [*]
      clear hK K hOld
      try simp only [Act.put, List.setIfInBounds_toArray, List.set_cons_zero, List.set_cons_succ]
      refine wpAnyH_take (i := 4) (v := ?_) rfl (by kernel_rfl) (by kernel_rfl) (by kernel_rfl) (fun _ _ _ h => h) (Or.inl ⟨by rfl, ?_⟩) (by assumption) ?_
      rotate_left
      · (intro w' hSw; (try dsimp only at hSw); go_simp; try (with_reducible rfl))
      change wpAnyH _ _ _ _ _ _ _ (Act.put _ (some 32) _) _
      try simp only [Act.put, List.setIfInBounds_toArray, List.set_cons_zero, List.set_cons_succ]
      refine wpAnyH_take (i := 5) (v := ?_) rfl (by kernel_rfl) (by kernel_rfl) (by kernel_rfl) (fun _ _ _ h => h) (Or.inl ⟨by rfl, ?_⟩) (by assumption) ?_
      rotate_left
      · (intro w' hSw; (try dsimp only at hSw); go_simp; try (with_reducible rfl))
      change wpAnyH _ _ _ _ _ _ _ (Act.put _ (some 33) _) _
      try simp only [Act.put, List.setIfInBounds_toArray, List.set_cons_zero, List.set_cons_succ]
      refine wpAnyH_ready (rs := [8]) (by kernel_rfl) (by simp) ?_
      refine AllReadyH.cons (i := 8) rfl (fun K hK => ?_) AllReadyH.nil
      simp only [List.getElem_toArray, List.getElem_cons_succ, List.getElem_cons_zero]
      rw [if_pos (by rfl)]
      go_simp
      (go_at_call 56; refine (CT.out _).mono ?_; rintro e w6 ⟨rfl, hb6⟩; have hk6 := keeps_cells hb6; go_wp2_with fail)
      have hOld := hHeld
      clear hHeld
      refine hK.out _ _ ?_ (fun hHeld => ?_)
      · (try dsimp only); simp [*]
      clear hK K hOld
      try simp only [Act.put, List.setIfInBounds_toArray, List.set_cons_zero, List.set_cons_succ]
      refine wpAnyH_take (i := 9) (v := ?_) rfl (by kernel_rfl) (by kernel_rfl) (by kernel_rfl) (fun _ _ _ h => h) (Or.inl ⟨by rfl, ?_⟩) (by assumption) ?_
      rotate_left
      · (intro w' hSw; (try dsimp only at hSw); go_simp; try (with_reducible rfl))
      change wpAnyH _ _ _ _ _ _ _ (Act.put _ (some 37) _) _
      try simp only [Act.put, List.setIfInBounds_toArray, List.set_cons_zero, List.set_cons_succ]
      refine wpAnyH_take (i := 10) (v := ?_) rfl (by kernel_rfl) (by kernel_rfl) (by kernel_rfl) (fun _ _ _ h => h) (Or.inl ⟨by rfl, ?_⟩) (by assumption) ?_
      rotate_left
      · (intro w' hSw; (try dsimp only at hSw); go_simp; try (with_reducible rfl))
      change wpAnyH _ _ _ _ _ _ _ (Act.put _ (some 38) _) _
      try simp only [Act.put, List.setIfInBounds_toArray, List.set_cons_zero, List.set_cons_succ]
      refine wpAnyH_take (i := 11) (v := ?_) rfl (by kernel_rfl) (by kernel_rfl) (by kernel_rfl) (fun _ _ _ h => h) (Or.inl ⟨by rfl, ?_⟩) (by assumption) ?_
      rotate_left
      · (intro w' hSw; (try dsimp only at hSw); go_simp; try (with_reducible rfl))
      change wpAnyH _ _ _ _ _ _ _ (Act.put _ (some 39) _) _
      try simp only [Act.put, List.setIfInBounds_toArray, List.set_cons_zero, List.set_cons_succ]
      refine wpAnyH_take (i := 12) (v := ?_) rfl (by kernel_rfl) (by kernel_rfl) (by kernel_rfl) (fun _ _ _ h => h) (Or.inl ⟨by rfl, ?_⟩) (by assumption) ?_
      rotate_left
      · (intro w' hSw; (try dsimp only at hSw); go_simp; try (with_reducible rfl))
      change wpAnyH _ _ _ _ _ _ _ (Act.put _ (some 3) _) _
      try simp only [Act.put, List.setIfInBounds_toArray, List.set_cons_zero, List.set_cons_succ]
      refine wpAnyH_done (by kernel_rfl) ?_ _
      have hB6 : Below w.heap.size wr w6 := Below.mono (by repeat' (first | (with_reducible exact Below.refl _ _) | (with_reducible refine ext_trans ?_ hb6) | (with_reducible refine ext_trans ?_ hb5) | (with_reducible refine ext_trans ?_ (ext_alloc _ _)) | (with_reducible refine Below.drew ?_))) (by omega)
      clear hHeld hk5 hk6
      go_wp2
      go_roundw
      case rel => exact ⟨k + 1, _, by omega, rfl, by go_num, HSS, hB.trans (Below.mono (by repeat' (first | (with_reducible exact Below.refl _ _) | (with_reducible refine ext_trans ?_ hb6) | (with_reducible refine ext_trans ?_ hb5) | (with_reducible refine ext_trans ?_ (ext_alloc _ _)) | (with_reducible refine Below.drew ?_))) hsr)⟩
      case measure => simp [intOf]; omega
    · have hki : ¬ (k : Int) < (x.world.files.length : Int) := by omega
      have hke : k = x.world.files.length := by omega
      have HSG := hid (show sb.data.toList = jobG x 0 by rw [HSB.out, jobG_zero, hke])
      clear hke
      go_wp2
      go_loopw [3, 45] (fun sv i wq => ∃ (k : Nat) (sb : ByteArray), k ≤ x.world.args.length ∧ sv = .string sb ∧ i = .int .i64 (k : Int) ∧ Hid (sb.data.toList = jobG x k) ∧ Below (w.heap.size + 1) (w.alloc (.cells #[.int .i64 x.world.inp.tag, .string x.world.inp.fs, .string x.world.inp.rs, .string x.world.inp.ofs, .string x.world.inp.ors, .bool x.world.inp.head, .int .i64 x.world.out.tag, .string x.world.out.fs, .string x.world.out.rs, .string x.world.out.ofs, .string x.world.out.ors, .bool x.world.out.head, .slice a12 x.world.files.length c12, .slice a13 x.world.args.length c13, .string x.source, .int .i64 x.fuel] 37)) wq) (fun _ i _ => x.world.args.length - (intOf i).toNat)
      case atStart => exact ⟨0, sb, Nat.zero_le _, rfl, rfl, HSG, hB⟩
      case round =>
        clear z0 z1 z2 z3 z4 z5 z6 z7 z8 z9 z10 z11 z12 z13 z14 z15 hBw hsr hfl hsb HSB HSG hB hki
        obtain ⟨m, sc, hm, rfl, rfl, HSC, hB⟩ := hrel
        obtain ⟨z0, z1, z2, z3, z4, z5, z6, z7, z8, z9, z10, z11, z12, z13, z14, z15⟩ := HBX.out _ hB
        have hBw := HBW.out _ hB
        have hsr := HSZ.out _ hB
        have hfl := HG.out m hm
        have hmb : m * 2010 ≤ 16080 := by omega
        have hsc : sc.size ≤ 120000 := by rw [Lib.size_eq, HSC.out]; omega
        by_cases hlt : m < x.world.args.length
        · have hF := f13
          obtain ⟨a, cap, hv, h1, h2, hF⟩ := hF
          obtain ⟨rfl, rfl⟩ : a13 = a ∧ c13 = cap := by simpa using hv
          obtain ⟨b, off, rfl, hBk, hrow⟩ := hF (by omega)
          obtain ⟨cs, hcell, hx⟩ := hrow m hlt
          obtain ⟨hcs, g0⟩ := hx
          subst hcs
          have t0 : wr.cell? ⟨b, off + m, none⟩ = some (.string x.world.args[m]) := (hBw.cell (p := ⟨b, off + m, none⟩) hBk).trans (by have h9 := hcell 0 (by decide); rw [show off + m * Rd.n ByteArray + 0 = off + m from by show off + m * 1 + 0 = _; omega] at h9; exact h9)
          have HST := hid (jobG_succ hlt)
          have hn1 := HGD.out.arg m hlt
          obtain ⟨s, hs⟩ : ∃ z, x.world.args[m] = z := ⟨_, rfl⟩
          rw [hs] at t0 HST hn1
          have s1 := qT_size s
          have r1 := ok_size hn1
          have hLN0 : argL s = ⟨#[97, 114, 103, 32]⟩ ++ qT s ++ ⟨#[10]⟩ := rfl
          have CQ := hid (show ∀ w : World, Calls Tryz.prog 56 #[.string s] w fun e w' => e = .returned (.string (qT s)) ∧ Below w.heap.size w w' from fun w => implQuoted s w (by omega))
          obtain ⟨Q1, e1⟩ : ∃ z, qT s = z := ⟨_, rfl⟩
          rw [e1] at CQ s1 hLN0
          have HLN := hid hLN0
          have hki : (m : Int) < (x.world.args.length : Int) := by omega
          have hk0 : (0 : Int) ≤ (m : Int) := by omega
          clear hs hcell hrow hv hF h1 h2 hn1 e1 hLN0
          have p0 : ¬ 9223372036854775807 < 4 + Q1.size := by omega
          have p1 : ¬ 9223372036854775807 < 4 + Q1.size + 1 := by omega
          have qb : ¬ 9223372036854775807 < sc.size + (4 + Q1.size + 1) := by omega
          have HSS := hid (show (sc ++ (⟨#[97, 114, 103, 32]⟩ ++ Q1 ++ ⟨#[10]⟩)).data.toList = jobG x (m + 1) by rw [HST.out, HLN.out, dat_app, HSC.out])
          go_wp2_with fail
          refine (CQ.out _).mono ?_
          rintro e w7 ⟨rfl, hb7⟩
          go_wp2
          go_roundw
          case rel => exact ⟨m + 1, _, by omega, rfl, by go_num, HSS, hB.trans (Below.mono (by repeat' (first | (with_reducible exact Below.refl _ _) | (with_reducible refine ext_trans ?_ hb7) | (with_reducible refine ext_trans ?_ (ext_alloc _ _)) | (with_reducible refine Below.drew ?_))) hsr)⟩
          case measure => simp [intOf]; omega
        · have hki : ¬ (m : Int) < (x.world.args.length : Int) := by omega
          have hke : m = x.world.args.length := by omega
          have p0 : ¬ 9223372036854775807 < sc.size + 5 := by omega
          have p1 : ¬ 9223372036854775807 < sc.size + 5 + N9.size := by omega
          have p2 : ¬ 9223372036854775807 < sc.size + 5 + N9.size + 9 := by omega
          have p3 : ¬ 9223372036854775807 < sc.size + 5 + N9.size + 9 + Q9.size := by omega
          have p4 : ¬ 9223372036854775807 < sc.size + 5 + N9.size + 9 + Q9.size + 1 := by omega
          have HEND := hid (show sc ++ ⟨#[102, 117, 101, 108, 32]⟩ ++ N9 ++ ⟨#[10, 112, 114, 111, 103, 114, 97, 109, 32]⟩ ++ Q9 ++ ⟨#[10]⟩ = jobT x by apply ba_list; unfold jobT; rw [mkB_data, HJE.out, ← hke, ← HSC.out]; simp only [dat_app, List.append_assoc])
          clear hke
          go_wp2_with fail
          refine wp_region_held_drew (S := fun w' => w'.cell? ⟨w.heap.size, 14, none⟩ = some (.string x.source) ∧ w'.cell? ⟨w.heap.size, 15, none⟩ = some (.int .i64 x.fuel)) (by kernel_rfl) ?_ (fun hHeld => ?_)
          · simp [*]
          refine wpAnyH_take (i := 0) (v := ?_) rfl (by kernel_rfl) (by kernel_rfl) (by kernel_rfl) (fun _ _ _ h => h) (Or.inl ⟨by rfl, ?_⟩) (by assumption) ?_
          rotate_left
          · (intro w' hSw; (try dsimp only at hSw); go_simp; try (with_reducible rfl))
          change wpAnyH _ _ _ _ _ _ _ (Act.put _ (some 56) _) _
          try simp only [Act.put, List.setIfInBounds_toArray, List.set_cons_zero, List.set_cons_succ]
          refine wpAnyH_take (i := 1) (v := ?_) rfl (by kernel_rfl) (by kernel_rfl) (by kernel_rfl) (fun _ _ _ h => h) (Or.inl ⟨by rfl, ?_⟩) (by assumption) ?_
          rotate_left
          · (intro w' hSw; (try dsimp only at hSw); go_simp; try (with_reducible rfl))
          change wpAnyH _ _ _ _ _ _ _ (Act.put _ (some 57) _) _
          try simp only [Act.put, List.setIfInBounds_toArray, List.set_cons_zero, List.set_cons_succ]
          refine wpAnyH_take (i := 2) (v := ?_) rfl (by kernel_rfl) (by kernel_rfl) (by kernel_rfl) (fun _ _ _ h => h) (Or.inl ⟨by rfl, ?_⟩) (by assumption) ?_
          rotate_left
          · (intro w' hSw; (try dsimp only at hSw); go_simp; try (with_reducible rfl))
          change wpAnyH _ _ _ _ _ _ _ (Act.put _ (some 58) _) _
          try simp only [Act.put, List.setIfInBounds_toArray, List.set_cons_zero, List.set_cons_succ]
          refine wpAnyH_take (i := 3) (v := ?_) rfl (by kernel_rfl) (by kernel_rfl) (by kernel_rfl) (fun _ _ _ h => h) (Or.inl ⟨by rfl, ?_⟩) (by assumption) ?_
          rotate_left
          · (intro w' hSw; (try dsimp only at hSw); go_simp; try (with_reducible rfl))
          change wpAnyH _ _ _ _ _ _ _ (Act.put _ (some 59) _) _
          try simp only [Act.put, List.setIfInBounds_toArray, List.set_cons_zero, List.set_cons_succ]
          refine wpAnyH_take (i := 7) (v := ?_) rfl (by kernel_rfl) (by kernel_rfl) (by kernel_rfl) (fun _ _ _ h => h) (Or.inl ⟨by rfl, ?_⟩) (by assumption) ?_
          rotate_left
          · (intro w' hSw; (try dsimp only at hSw); go_simp; try (with_reducible rfl))
          change wpAnyH _ _ _ _ _ _ _ (Act.put _ (some 63) _) _
          try simp only [Act.put, List.setIfInBounds_toArray, List.set_cons_zero, List.set_cons_succ]
          refine wpAnyH_take (i := 8) (v := ?_) rfl (by kernel_rfl) (by kernel_rfl) (by kernel_rfl) (fun _ _ _ h => h) (Or.inl ⟨by rfl, ?_⟩) (by assumption) ?_
          rotate_left
          · (intro w' hSw; (try dsimp only at hSw); go_simp; try (with_reducible rfl))
          change wpAnyH _ _ _ _ _ _ _ (Act.put _ (some 64) _) _
          try simp only [Act.put, List.setIfInBounds_toArray, List.set_cons_zero, List.set_cons_succ]
          refine wpAnyH_ready (rs := [4]) (by kernel_rfl) (by simp) ?_
          refine AllReadyH.cons (i := 4) rfl (fun K hK => ?_) AllReadyH.nil
          simp only [List.getElem_toArray, List.getElem_cons_succ, List.getElem_cons_zero]
          rw [if_pos (by rfl)]
          go_simp
          (go_at_call 57; refine (CN.out _ (pt_below hP (by repeat' (first | (with_reducible exact hBw) | (with_reducible refine ext_trans ?_ (ext_alloc _ _)) | (with_reducible refine Below.drew ?_))))).mono ?_; rintro e w8 ⟨rfl, hb8⟩; have hk8 := keeps_cells hb8; go_wp2_with fail)
          have hOld := hHeld
          clear hHeld
          refine hK.out _ _ ?_ (fun hHeld => ?_)
          · (try dsimp only); simp [*]
          clear hK K hOld
          try simp only [Act.put, List.setIfInBounds_toArray, List.set_cons_zero, List.set_cons_succ]
          refine wpAnyH_take (i := 5) (v := ?_) rfl (by kernel_rfl) (by kernel_rfl) (by kernel_rfl) (fun _ _ _ h => h) (Or.inl ⟨by rfl, ?_⟩) (by assumption) ?_
          rotate_left
          · (intro w' hSw; (try dsimp only at hSw); go_simp; try (with_reducible rfl))
          change wpAnyH _ _ _ _ _ _ _ (Act.put _ (some 61) _) _
          try simp only [Act.put, List.setIfInBounds_toArray, List.set_cons_zero, List.set_cons_succ]
          refine wpAnyH_take (i := 6) (v := ?_) rfl (by kernel_rfl) (by kernel_rfl) (by kernel_rfl) (fun _ _ _ h => h) (Or.inl ⟨by rfl, ?_⟩) (by assumption) ?_
          rotate_left
          · (intro w' hSw; (try dsimp only at hSw); go_simp; try (with_reducible rfl))
          change wpAnyH _ _ _ _ _ _ _ (Act.put _ (some 62) _) _
          try simp only [Act.put, List.setIfInBounds_toArray, List.set_cons_zero, List.set_cons_succ]
          refine wpAnyH_ready (rs := [9]) (by kernel_rfl) (by simp) ?_
          refine AllReadyH.cons (i := 9) rfl (fun K hK => ?_) AllReadyH.nil
          simp only [List.getElem_toArray, List.getElem_cons_succ, List.getElem_cons_zero]
          rw [if_pos (by rfl)]
          go_simp
          (go_at_call 56; refine (CZ.out _).mono ?_; rintro e w9 ⟨rfl, hb9⟩; have hk9 := keeps_cells hb9; go_wp2_with fail)
          have hOld := hHeld
          clear hHeld
          refine hK.out _ _ ?_ (fun hHeld => ?_)
          · (try dsimp only); simp [*]
          clear hK K hOld
          try simp only [Act.put, List.setIfInBounds_toArray, List.set_cons_zero, List.set_cons_succ]
          refine wpAnyH_take (i := 10) (v := ?_) rfl (by kernel_rfl) (by kernel_rfl) (by kernel_rfl) (fun _ _ _ h => h) (Or.inl ⟨by rfl, ?_⟩) (by assumption) ?_
          rotate_left
          · (intro w' hSw; (try dsimp only at hSw); go_simp; try (with_reducible rfl))
          change wpAnyH _ _ _ _ _ _ _ (Act.put _ (some 66) _) _
          try simp only [Act.put, List.setIfInBounds_toArray, List.set_cons_zero, List.set_cons_succ]
          refine wpAnyH_take (i := 11) (v := ?_) rfl (by kernel_rfl) (by kernel_rfl) (by kernel_rfl) (fun _ _ _ h => h) (Or.inl ⟨by rfl, ?_⟩) (by assumption) ?_
          rotate_left
          · (intro w' hSw; (try dsimp only at hSw); go_simp; try (with_reducible rfl))
          change wpAnyH _ _ _ _ _ _ _ (Act.put _ (some 67) _) _
          try simp only [Act.put, List.setIfInBounds_toArray, List.set_cons_zero, List.set_cons_succ]
          refine wpAnyH_take (i := 12) (v := ?_) rfl (by kernel_rfl) (by kernel_rfl) (by kernel_rfl) (fun _ _ _ h => h) (Or.inl ⟨by rfl, ?_⟩) (by assumption) ?_
          rotate_left
          · (intro w' hSw; (try dsimp only at hSw); go_simp; try (with_reducible rfl))
          change wpAnyH _ _ _ _ _ _ _ (Act.put _ (some 2) _) _
          try simp only [Act.put, List.setIfInBounds_toArray, List.set_cons_zero, List.set_cons_succ]
          refine wpAnyH_done (by kernel_rfl) ?_ _
          go_wp2
          go_ret
          exact ⟨end_string HEND.out, ext_trans hBw (by repeat' (first | (with_reducible exact Below.refl _ _) | (with_reducible refine ext_trans ?_ hb9) | (with_reducible refine ext_trans ?_ hb8) | (with_reducible refine ext_trans ?_ (ext_alloc _ _)) | (with_reducible refine Below.drew ?_)))⟩
set_option maxHeartbeats 16000000 in
set_option maxRecDepth 100000 in
theorem specJobT {cs : Array Value} {x : Job} (w : World) (h : Rd.rd (Old w) w cs.toList x) (hg : JobGood x) :
    Calls Tryz.prog 22 #[.agg cs] w fun e w' => e = .returned (.string (jobT x)) ∧ Below w.heap.size w w' := by
  obtain ⟨a12, c12, a13, c13, hcs, f0, f1, f2, f3, f4, f6, f7, f8, f9, f10, f12, f13, f14, f15⟩ := rdJob h
  obtain rfl := arr_of_list hcs
  clear hcs h
  have hh := jobH_size hg f0 f6
  have HF := hid (jobF_len hg hh)
  have HG := hid (jobG_len hg hh)
  have hnf := hg.nf
  have hna := hg.na
  have HGD := hid hg
  have n9 := numB_size f15
  have s9 := qT_size x.source
  have s8 := file_size hg.source
  have a8 := confT_size hg.inp f0
  have a9 := confT_size hg.out f6
  have HHE := hid (show jobH x = ⟨#[105, 110, 32]⟩ ++ confT x.world.inp ++ ⟨#[10, 111, 117, 116, 32]⟩ ++ confT x.world.out ++ ⟨#[10]⟩ from rfl)
  have HJE := hid (show jobE x = ⟨#[102, 117, 101, 108, 32]⟩ ++ numB x.fuel ++ ⟨#[10, 112, 114, 111, 103, 114, 97, 109, 32]⟩ ++ qT x.source ++ ⟨#[10]⟩ from rfl)
  have hW0 := heap_alloc_new w (.cells #[.int .i64 x.world.inp.tag, .string x.world.inp.fs, .string x.world.inp.rs, .string x.world.inp.ofs, .string x.world.inp.ors, .bool x.world.inp.head, .int .i64 x.world.out.tag, .string x.world.out.fs, .string x.world.out.rs, .string x.world.out.ofs, .string x.world.out.ors, .bool x.world.out.head, .slice a12 x.world.files.length c12, .slice a13 x.world.args.length c13, .string x.source, .int .i64 x.fuel] 37)
  have HBX := hid (fun (w' : World) (hb : Below (w.heap.size + 1) (w.alloc (.cells #[.int .i64 x.world.inp.tag, .string x.world.inp.fs, .string x.world.inp.rs, .string x.world.inp.ofs, .string x.world.inp.ors, .bool x.world.inp.head, .int .i64 x.world.out.tag, .string x.world.out.fs, .string x.world.out.rs, .string x.world.out.ofs, .string x.world.out.ors, .bool x.world.out.head, .slice a12 x.world.files.length c12, .slice a13 x.world.args.length c13, .string x.source, .int .i64 x.fuel] 37)) w') => blk16c ((hb.block w.heap.size (Nat.lt_succ_self _)).trans hW0))
  have HBW := hid (fun (w' : World) (hb : Below (w.heap.size + 1) (w.alloc (.cells #[.int .i64 x.world.inp.tag, .string x.world.inp.fs, .string x.world.inp.rs, .string x.world.inp.ofs, .string x.world.inp.ors, .bool x.world.inp.head, .int .i64 x.world.out.tag, .string x.world.out.fs, .string x.world.out.rs, .string x.world.out.ofs, .string x.world.out.ors, .bool x.world.out.head, .slice a12 x.world.files.length c12, .slice a13 x.world.args.length c13, .string x.source, .int .i64 x.fuel] 37)) w') => (ext_alloc w (.cells #[.int .i64 x.world.inp.tag, .string x.world.inp.fs, .string x.world.inp.rs, .string x.world.inp.ofs, .string x.world.inp.ors, .bool x.world.inp.head, .int .i64 x.world.out.tag, .string x.world.out.fs, .string x.world.out.rs, .string x.world.out.ofs, .string x.world.out.ors, .bool x.world.out.head, .slice a12 x.world.files.length c12, .slice a13 x.world.args.length c13, .string x.source, .int .i64 x.fuel] 37)).trans (hb.mono (Nat.le_succ _)))
  have HSZ := hid (fun (w' : World) (hb : Below (w.heap.size + 1) (w.alloc (.cells #[.int .i64 x.world.inp.tag, .string x.world.inp.fs, .string x.world.inp.rs, .string x.world.inp.ofs, .string x.world.inp.ors, .bool x.world.inp.head, .int .i64 x.world.out.tag, .string x.world.out.fs, .string x.world.out.rs, .string x.world.out.ofs, .string x.world.out.ors, .bool x.world.out.head, .slice a12 x.world.files.length c12, .slice a13 x.world.args.length c13, .string x.source, .int .i64 x.fuel] 37)) w') => (show w.heap.size + 1 ≤ w'.heap.size from by have := hb.size; simp at this; exact this))
  clear hW0
  have hb0 := Below.refl (w.heap.size + 1) (w.alloc (.cells #[.int .i64 x.world.inp.tag, .string x.world.inp.fs, .string x.world.inp.rs, .string x.world.inp.ofs, .string x.world.inp.ors, .bool x.world.inp.head, .int .i64 x.world.out.tag, .string x.world.out.fs, .string x.world.out.rs, .string x.world.out.ofs, .string x.world.out.ors, .bool x.world.out.head, .slice a12 x.world.files.length c12, .slice a13 x.world.args.length c13, .string x.source, .int .i64 x.fuel] 37))
  obtain ⟨z0, z1, z2, z3, z4, z5, z6, z7, z8, z9, z10, z11, z12, z13, z14, z15⟩ := HBX.out _ hb0
  have CI := hid (fun (w : World) => specConfText (x := x.world.inp) w (by exact rdConf_mk f0 f1 f2 f3 f4) hg.inp)
  have CO := hid (fun (w : World) => specConfText (x := x.world.out) w (by exact rdConf_mk f6 f7 f8 f9 f10) hg.out)
  have CN := hid (fun (w : World) => specNumText x.fuel w f15)
  have CZ := hid (show ∀ w : World, Calls Tryz.prog 44 #[.string x.source] w fun e w' => e = .returned (.string (qT x.source)) ∧ Below w.heap.size w w' from fun w => by have h := specFileQuote x.source w; rw [qT_file hg.source] at h; exact h)
  obtain ⟨A0, e0⟩ : ∃ z, confT x.world.inp = z := ⟨_, rfl⟩
  rw [e0] at CI a8 HHE
  obtain ⟨A1, e1⟩ : ∃ z, confT x.world.out = z := ⟨_, rfl⟩
  rw [e1] at CO a9 HHE
  obtain ⟨N9, e9⟩ : ∃ z, numB x.fuel = z := ⟨_, rfl⟩
  rw [e9] at CN n9 HJE
  obtain ⟨Q9, e8⟩ : ∃ z, qT x.source = z := ⟨_, rfl⟩
  rw [e8] at CZ s9 HJE
  have HD0 := hid (show (⟨#[105, 110, 32]⟩ ++ A0 ++ ⟨#[10, 111, 117, 116, 32]⟩ ++ A1 ++ ⟨#[10]⟩ : ByteArray).data.toList = jobF x 0 by rw [jobF_zero, HHE.out])
  clear e0 e1 e9 e8 hg
  have p0 : ¬ 9223372036854775807 < 3 + A0.size := by omega
  have p1 : ¬ 9223372036854775807 < 3 + A0.size + 5 := by omega
  have p2 : ¬ 9223372036854775807 < 3 + A0.size + 5 + A1.size := by omega
  have p3 : ¬ 9223372036854775807 < 3 + A0.size + 5 + A1.size + 1 := by omega
  go_enter Tryz.func22, Tryz.ntmps22
  go_wp2_with fail
  refine wp_region_held_drew (S := fun w' => w'.cell? ⟨w.heap.size, 0, none⟩ = some (.int .i64 x.world.inp.tag) ∧ w'.cell? ⟨w.heap.size, 1, none⟩ = some (.string x.world.inp.fs) ∧ w'.cell? ⟨w.heap.size, 2, none⟩ = some (.string x.world.inp.rs) ∧ w'.cell? ⟨w.heap.size, 3, none⟩ = some (.string x.world.inp.ofs) ∧ w'.cell? ⟨w.heap.size, 4, none⟩ = some (.string x.world.inp.ors) ∧ w'.cell? ⟨w.heap.size, 5, none⟩ = some (.bool x.world.inp.head) ∧ w'.cell? ⟨w.heap.size, 6, none⟩ = some (.int .i64 x.world.out.tag) ∧ w'.cell? ⟨w.heap.size, 7, none⟩ = some (.string x.world.out.fs) ∧ w'.cell? ⟨w.heap.size, 8, none⟩ = some (.string x.world.out.rs) ∧ w'.cell? ⟨w.heap.size, 9, none⟩ = some (.string x.world.out.ofs) ∧ w'.cell? ⟨w.heap.size, 10, none⟩ = some (.string x.world.out.ors) ∧ w'.cell? ⟨w.heap.size, 11, none⟩ = some (.bool x.world.out.head)) (by kernel_rfl) ?_ (fun hHeld => ?_)
  · simp [*]
  refine wpAnyH_take (i := 0) (v := ?_) rfl (by kernel_rfl) (by kernel_rfl) (by kernel_rfl) (fun _ _ _ h => h) (Or.inl ⟨by rfl, ?_⟩) (by assumption) ?_
  rotate_left
  · (intro w' hSw; (try dsimp only at hSw); go_simp; try (with_reducible rfl))
  change wpAnyH _ _ _ _ _ _ _ (Act.put _ (some 6) _) _
  try simp only [Act.put, List.setIfInBounds_toArray, List.set_cons_zero, List.set_cons_succ]
  refine wpAnyH_take (i := 1) (v := ?_) rfl (by kernel_rfl) (by kernel_rfl) (by kernel_rfl) (fun _ _ _ h => h) (Or.inl ⟨by rfl, ?_⟩) (by assumption) ?_
  rotate_left
  · (intro w' hSw; (try dsimp only at hSw); go_simp; try (with_reducible rfl))
  change wpAnyH _ _ _ _ _ _ _ (Act.put _ (some 7) _) _
  try simp only [Act.put, List.setIfInBounds_toArray, List.set_cons_zero, List.set_cons_succ]
  refine wpAnyH_take (i := 2) (v := ?_) rfl (by kernel_rfl) (by kernel_rfl) (by kernel_rfl) (fun _ _ _ h => h) (Or.inl ⟨by rfl, ?_⟩) (by assumption) ?_
  rotate_left
  · (intro w' hSw; (try dsimp only at hSw); go_simp; try (with_reducible rfl))
  change wpAnyH _ _ _ _ _ _ _ (Act.put _ (some 8) _) _
  try simp only [Act.put, List.setIfInBounds_toArray, List.set_cons_zero, List.set_cons_succ]
  refine wpAnyH_take (i := 6) (v := ?_) rfl (by kernel_rfl) (by kernel_rfl) (by kernel_rfl) (fun _ _ _ h => h) (Or.inl ⟨by rfl, ?_⟩) (by assumption) ?_
  rotate_left
  · (intro w' hSw; (try dsimp only at hSw); go_simp; try (with_reducible rfl))
  change wpAnyH _ _ _ _ _ _ _ (Act.put _ (some 12) _) _
  try simp only [Act.put, List.setIfInBounds_toArray, List.set_cons_zero, List.set_cons_succ]
  refine wpAnyH_take (i := 7) (v := ?_) rfl (by kernel_rfl) (by kernel_rfl) (by kernel_rfl) (fun _ _ _ h => h) (Or.inl ⟨by rfl, ?_⟩) (by assumption) ?_
  rotate_left
  · (intro w' hSw; (try dsimp only at hSw); go_simp; try (with_reducible rfl))
  change wpAnyH _ _ _ _ _ _ _ (Act.put _ (some 13) _) _
  try simp only [Act.put, List.setIfInBounds_toArray, List.set_cons_zero, List.set_cons_succ]
  refine wpAnyH_take (i := 8) (v := ?_) rfl (by kernel_rfl) (by kernel_rfl) (by kernel_rfl) (fun _ _ _ h => h) (Or.inl ⟨by rfl, ?_⟩) (by assumption) ?_
  rotate_left
  · (intro w' hSw; (try dsimp only at hSw); go_simp; try (with_reducible rfl))
  change wpAnyH _ _ _ _ _ _ _ (Act.put _ (some 14) _) _
  try simp only [Act.put, List.setIfInBounds_toArray, List.set_cons_zero, List.set_cons_succ]
  refine wpAnyH_ready (rs := [3]) (by kernel_rfl) (by simp) ?_
  refine AllReadyH.cons (i := 3) rfl (fun K hK => ?_) AllReadyH.nil
  simp only [List.getElem_toArray, List.getElem_cons_succ, List.getElem_cons_zero]
  rw [if_pos (by rfl)]
  go_simp
  (go_at_call 42; refine (CI.out _).mono ?_; rintro e w1 ⟨rfl, hb1⟩; have hk1 := keeps_cells hb1; go_wp2_with fail)
  have hOld := hHeld
  clear hHeld
  refine hK.out _ _ ?_ (fun hHeld => ?_)
  · (try dsimp only); simp [*]
  clear hK K hOld
  try simp only [Act.put, List.setIfInBounds_toArray, List.set_cons_zero, List.set_cons_succ]
  refine wpAnyH_take (i := 4) (v := ?_) rfl (by kernel_rfl) (by kernel_rfl) (by kernel_rfl) (fun _ _ _ h => h) (Or.inl ⟨by rfl, ?_⟩) (by assumption) ?_
  rotate_left
  · (intro w' hSw; (try dsimp only at hSw); go_simp; try (with_reducible rfl))
  change wpAnyH _ _ _ _ _ _ _ (Act.put _ (some 10) _) _
  try simp only [Act.put, List.setIfInBounds_toArray, List.set_cons_zero, List.set_cons_succ]
  refine wpAnyH_take (i := 5) (v := ?_) rfl (by kernel_rfl) (by kernel_rfl) (by kernel_rfl) (fun _ _ _ h => h) (Or.inl ⟨by rfl, ?_⟩) (by assumption) ?_
  rotate_left
  · (intro w' hSw; (try dsimp only at hSw); go_simp; try (with_reducible rfl))
  change wpAnyH _ _ _ _ _ _ _ (Act.put _ (some 11) _) _
  try simp only [Act.put, List.setIfInBounds_toArray, List.set_cons_zero, List.set_cons_succ]
  refine wpAnyH_ready (rs := [9]) (by kernel_rfl) (by simp) ?_
  refine AllReadyH.cons (i := 9) rfl (fun K hK => ?_) AllReadyH.nil
  simp only [List.getElem_toArray, List.getElem_cons_succ, List.getElem_cons_zero]
  rw [if_pos (by rfl)]
  go_simp
  (go_at_call 42; refine (CO.out _).mono ?_; rintro e w2 ⟨rfl, hb2⟩; have hk2 := keeps_cells hb2; go_wp2_with fail)
  have hOld := hHeld
  clear hHeld
  refine hK.out _ _ ?_ (fun hHeld => ?_)
  · (try dsimp only); simp [*]
  clear hK K hOld
  try simp only [Act.put, List.setIfInBounds_toArray, List.set_cons_zero, List.set_cons_succ]
  refine wpAnyH_take (i := 10) (v := ?_) rfl (by kernel_rfl) (by kernel_rfl) (by kernel_rfl) (fun _ _ _ h => h) (Or.inl ⟨by rfl, ?_⟩) (by assumption) ?_
  rotate_left
  · (intro w' hSw; (try dsimp only at hSw); go_simp; try (with_reducible rfl))
  change wpAnyH _ _ _ _ _ _ _ (Act.put _ (some 16) _) _
  try simp only [Act.put, List.setIfInBounds_toArray, List.set_cons_zero, List.set_cons_succ]
  refine wpAnyH_take (i := 11) (v := ?_) rfl (by kernel_rfl) (by kernel_rfl) (by kernel_rfl) (fun _ _ _ h => h) (Or.inl ⟨by rfl, ?_⟩) (by assumption) ?_
  rotate_left
  · (intro w' hSw; (try dsimp only at hSw); go_simp; try (with_reducible rfl))
  change wpAnyH _ _ _ _ _ _ _ (Act.put _ (some 17) _) _
  try simp only [Act.put, List.setIfInBounds_toArray, List.set_cons_zero, List.set_cons_succ]
  refine wpAnyH_take (i := 12) (v := ?_) rfl (by kernel_rfl) (by kernel_rfl) (by kernel_rfl) (fun _ _ _ h => h) (Or.inl ⟨by rfl, ?_⟩) (by assumption) ?_
  rotate_left
  · (intro w' hSw; (try dsimp only at hSw); go_simp; try (with_reducible rfl))
  change wpAnyH _ _ _ _ _ _ _ (Act.put _ (some 3) _) _
  try simp only [Act.put, List.setIfInBounds_toArray, List.set_cons_zero, List.set_cons_succ]
  refine wpAnyH_done (by kernel_rfl) ?_ _
  have e0 : (w.alloc (.cells #[.int .i64 x.world.inp.tag, .string x.world.inp.fs, .string x.world.inp.rs, .string x.world.inp.ofs, .string x.world.inp.ors, .bool x.world.inp.head, .int .i64 x.world.out.tag, .string x.world.out.fs, .string x.world.out.rs, .string x.world.out.ofs, .string x.world.out.ors, .bool x.world.out.head, .slice a12 x.world.files.length c12, .slice a13 x.world.args.length c13, .string x.source, .int .i64 x.fuel] 37)).heap.size = w.heap.size + 1 := by simp
  have hB2 : Below (w.heap.size + 1) (w.alloc (.cells #[.int .i64 x.world.inp.tag, .string x.world.inp.fs, .string x.world.inp.rs, .string x.world.inp.ofs, .string x.world.inp.ors, .bool x.world.inp.head, .int .i64 x.world.out.tag, .string x.world.out.fs, .string x.world.out.rs, .string x.world.out.ofs, .string x.world.out.ors, .bool x.world.out.head, .slice a12 x.world.files.length c12, .slice a13 x.world.args.length c13, .string x.source, .int .i64 x.fuel] 37)) w2 := by rw [← e0]; repeat' (first | (with_reducible exact Below.refl _ _) | (with_reducible refine ext_trans ?_ hb2) | (with_reducible refine ext_trans ?_ hb1) | (with_reducible refine ext_trans ?_ (ext_alloc _ _)) | (with_reducible refine Below.drew ?_))
  clear hk1 hk2 hHeld z0 z1 z2 z3 z4 z5 z6 z7 z8 z9 z10 z11 z12 z13 z14 z15
  obtain ⟨z0, z1, z2, z3, z4, z5, z6, z7, z8, z9, z10, z11, z12, z13, z14, z15⟩ := HBX.out _ hB2
  obtain ⟨sb0, hsb0⟩ : ∃ z, (⟨#[105, 110, 32]⟩ ++ A0 ++ ⟨#[10, 111, 117, 116, 32]⟩ ++ A1 ++ ⟨#[10]⟩ : ByteArray) = z := ⟨_, rfl⟩
  rw [hsb0] at HD0
  have HSB0 := hid hsb0
  clear hsb0
  go_wp2
  rw [HSB0.out]
  go_loopw [3, 4] (fun sv i wr => ∃ (k : Nat) (sb : ByteArray), k ≤ x.world.files.length ∧ sv = .string sb ∧ i = .int .i64 (k : Int) ∧ Hid (sb.data.toList = jobF x k) ∧ Below (w.heap.size + 1) (w.alloc (.cells #[.int .i64 x.world.inp.tag, .string x.world.inp.fs, .string x.world.inp.rs, .string x.world.inp.ofs, .string x.world.inp.ors, .bool x.world.inp.head, .int .i64 x.world.out.tag, .string x.world.out.fs, .string x.world.out.rs, .string x.world.out.ofs, .string x.world.out.ors, .bool x.world.out.head, .slice a12 x.world.files.length c12, .slice a13 x.world.args.length c13, .string x.source, .int .i64 x.fuel] 37)) wr) (fun _ i _ => x.world.files.length - (intOf i).toNat)
  case atStart => exact ⟨0, sb0, Nat.zero_le _, rfl, rfl, HD0, hB2⟩
  case round =>
    obtain ⟨k, sb, hk, rfl, rfl, HSB, hB⟩ := hrel
    clear z0 z1 z2 z3 z4 z5 z6 z7 z8 z9 z10 z11 z12 z13 z14 z15
    obtain ⟨z0, z1, z2, z3, z4, z5, z6, z7, z8, z9, z10, z11, z12, z13, z14, z15⟩ := HBX.out _ hB
    have hBw := HBW.out _ hB
    have hsr := HSZ.out _ hB
    have hfl := HF.out k hk
    have hsb : sb.size ≤ 16100 + k * 10020 := by rw [Lib.size_eq, HSB.out]; exact hfl
    by_cases hlt : k < x.world.files.length
    · have hF := f12
      obtain ⟨a, cap, hv, h1, h2, hF⟩ := hF
      obtain ⟨rfl, rfl⟩ : a12 = a ∧ c12 = cap := by simpa using hv
      obtain ⟨b, off, rfl, hBk, hrow⟩ := hF (by omega)
      obtain ⟨cs, hcell, hx⟩ := hrow k hlt
      obtain ⟨hcs, g0, g1⟩ := rdFile hx
      subst hcs
      have t0 : wr.cell? ⟨b, off + k * 2, none⟩ = some (.string x.world.files[k].name) := (hBw.cell (p := ⟨b, off + k * 2, none⟩) hBk).trans (hcell 0 (by decide))
      have t1 : wr.cell? ⟨b, off + k * 2 + 1, none⟩ = some (.string x.world.files[k].text) := (hBw.cell (p := ⟨b, off + k * 2 + 1, none⟩) hBk).trans (hcell 1 (by decide))
      have HST := hid (jobF_succ hlt)
      have hn1 := HGD.out.name k hlt
      have hn2 := HGD.out.text k hlt
      obtain ⟨f, hfe⟩ : ∃ f, x.world.files[k] = f := ⟨_, rfl⟩
      rw [hfe] at HST t0 t1 hn1 hn2
      have s1 := qT_size f.name
      have s2 := qT_size f.text
      have r1 := ok_size hn1
      have r2 := file_size hn2
      have hLN0 : fileL f = ⟨#[102, 105, 108, 101, 32]⟩ ++ qT f.name ++ ⟨#[32]⟩ ++ qT f.text ++ ⟨#[10]⟩ := rfl
      have CQ := hid (show ∀ w : World, Calls Tryz.prog 43 #[.string f.name] w fun e w' => e = .returned (.string (qT f.name)) ∧ Below w.heap.size w w' from fun w => by have h := specQuote f.name w; rw [qT_ok hn1] at h; exact h)
      have CT := hid (show ∀ w : World, Calls Tryz.prog 44 #[.string f.text] w fun e w' => e = .returned (.string (qT f.text)) ∧ Below w.heap.size w w' from fun w => by have h := specFileQuote f.text w; rw [qT_file hn2] at h; exact h)
      obtain ⟨Q1, e1⟩ : ∃ z, qT f.name = z := ⟨_, rfl⟩
      rw [e1] at CQ s1 hLN0
      obtain ⟨Q2, e2⟩ : ∃ z, qT f.text = z := ⟨_, rfl⟩
      rw [e2] at CT s2 hLN0
      obtain ⟨nm, e3⟩ : ∃ z, f.name = z := ⟨_, rfl⟩
      rw [e3] at CQ t0 r1 s1
      obtain ⟨tx, e4⟩ : ∃ z, f.text = z := ⟨_, rfl⟩
      rw [e4] at CT t1 r2 s2
      have HLN := hid hLN0
      have hki : (k : Int) < (x.world.files.length : Int) := by omega
      have hk0 : (0 : Int) ≤ (k : Int) := by omega
      have hkb : k * 10020 ≤ 80160 := by omega
      clear hfe hcell hrow hx hv hF h1 h2 hn1 hn2 e1 e2 e3 e4 hLN0
      have p0 : ¬ 9223372036854775807 < sb.size + 5 := by omega
      have p1 : ¬ 9223372036854775807 < sb.size + 5 + Q1.size := by omega
      have p2 : ¬ 9223372036854775807 < sb.size + 5 + Q1.size + 1 := by omega
      have p3 : ¬ 9223372036854775807 < sb.size + 5 + Q1.size + 1 + Q2.size := by omega
      have p4 : ¬ 9223372036854775807 < sb.size + 5 + Q1.size + 1 + Q2.size + 1 := by omega
      have HSS := hid (show (sb ++ ⟨#[102, 105, 108, 101, 32]⟩ ++ Q1 ++ ⟨#[32]⟩ ++ Q2 ++ ⟨#[10]⟩).data.toList = jobF x (k + 1) by rw [HST.out, HLN.out]; simp only [dat_app, HSB.out, List.append_assoc])
      go_wp2_with fail
      refine wp_region_held_drew (S := fun w' => w'.cell? ⟨b, off + k * 2, none⟩ = some (.string nm) ∧ w'.cell? ⟨b, off + k * 2 + 1, none⟩ = some (.string tx) ∧ w'.cell? ⟨w.heap.size, 12, none⟩ = some (.slice (some ⟨b, off, none⟩) x.world.files.length c12)) (by kernel_rfl) ?_ (fun hHeld => ?_)
      · simp [*]
      refine wpAnyH_take (i := 0) (v := ?_) rfl (by kernel_rfl) (by kernel_rfl) (by kernel_rfl) (fun _ _ _ h => h) (Or.inl ⟨by rfl, ?_⟩) (by assumption) ?_
      rotate_left
      · (intro w' hSw; (try dsimp only at hSw); go_simp; try (with_reducible rfl))
      change wpAnyH _ _ _ _ _ _ _ (Act.put _ (some 26) _) _
      try simp only [Act.put, List.setIfInBounds_toArray, List.set_cons_zero, List.set_cons_succ]
      refine wpAnyH_take (i := 1) (v := ?_) rfl (by kernel_rfl) (by kernel_rfl) (by kernel_rfl) (fun _ _ _ h => h) (Or.inl ⟨by rfl, ?_⟩) (by assumption) ?_
      rotate_left
      · (intro w' hSw; (try dsimp only at hSw); go_simp; try (with_reducible rfl))
      change wpAnyH _ _ _ _ _ _ _ (Act.put _ (some 27) _) _
      try simp only [Act.put, List.setIfInBounds_toArray, List.set_cons_zero, List.set_cons_succ]
      refine wpAnyH_take (i := 2) (v := ?_) rfl (by kernel_rfl) (by kernel_rfl) (by kernel_rfl) (fun _ _ _ h => h) (Or.inl ⟨by rfl, ?_⟩) (by assumption) ?_
      rotate_left
      · (intro w' hSw; (try dsimp only at hSw); go_simp; try (with_reducible rfl))
      change wpAnyH _ _ _ _ _ _ _ (Act.put _ (some 28) _) _
      try simp only [Act.put, List.setIfInBounds_toArray, List.set_cons_zero, List.set_cons_succ]
      refine wpAnyH_take (i := 3) (v := ?_) rfl (by kernel_rfl) (by kernel_rfl) (by kernel_rfl) (fun _ _ _ h => h) (Or.inl ⟨by rfl, ?_⟩) (by assumption) ?_
      rotate_left
      · (intro w' hSw; (try dsimp only at hSw); go_simp; try (with_reducible rfl))
      change wpAnyH _ _ _ _ _ _ _ (Act.put _ (some 29) _) _
      try simp only [Act.put, List.setIfInBounds_toArray, List.set_cons_zero, List.set_cons_succ]
      refine wpAnyH_take (i := 4) (v := ?_) rfl (by kernel_rfl) (by kernel_rfl) (by kernel_rfl) (fun _ _ _ h => h) (Or.inl ⟨by rfl, ?_⟩) (by assumption) ?_
      rotate_left
      · (intro w' hSw; (try dsimp only at hSw); go_simp; try (with_reducible rfl))
      change wpAnyH _ _ _ _ _ _ _ (Act.put _ (some 30) _) _
      try simp only [Act.put, List.setIfInBounds_toArray, List.set_cons_zero, List.set_cons_succ]
      refine wpAnyH_take (i := 5) (v := ?_) rfl (by kernel_rfl) (by kernel_rfl) (by kernel_rfl) (fun _ _ _ h => h) (Or.inl ⟨by rfl, ?_⟩) (by assumption) ?_
      rotate_left
      · (intro w' hSw; (try dsimp only at hSw); go_simp; try (with_reducible rfl))
      change wpAnyH _ _ _ _ _ _ _ (Act.put _ (some 31) _) _
      try simp only [Act.put, List.setIfInBounds_toArray, List.set_cons_zero, List.set_cons_succ]
      refine wpAnyH_take (i := 6) (v := ?_) rfl (by kernel_rfl) (by kernel_rfl) (by kernel_rfl) (fun _ _ _ h => h) (Or.inl ⟨by rfl, ?_⟩) (by assumption) ?_
      rotate_left
      · (intro w' hSw; (try dsimp only at hSw); go_simp; try (with_reducible rfl))
      change wpAnyH _ _ _ _ _ _ _ (Act.put _ (some 32) _) _
      try simp only [Act.put, List.setIfInBounds_toArray, List.set_cons_zero, List.set_cons_succ]
      refine wpAnyH_take (i := 7) (v := ?_) rfl (by kernel_rfl) (by kernel_rfl) (by kernel_rfl) (fun _ _ _ h => h) (Or.inl ⟨by rfl, ?_⟩) (by assumption) ?_
      rotate_left
      · (intro w' hSw; (try dsimp only at hSw); go_simp; try (with_reducible rfl))
      change wpAnyH _ _ _ _ _ _ _ (Act.put _ (some 33) _) _
      try simp only [Act.put, List.setIfInBounds_toArray, List.set_cons_zero, List.set_cons_succ]
      refine wpAnyH_take (i := 8) (v := ?_) rfl (by kernel_rfl) (by kernel_rfl) (by kernel_rfl) (fun _ _ _ h => h) (Or.inl ⟨by rfl, ?_⟩) (by assumption) ?_
      rotate_left
      · (intro w' hSw; (try dsimp only at hSw); go_simp; try (with_reducible rfl))
      change wpAnyH _ _ _ _ _ _ _ (Act.put _ (some 34) _) _
      try simp only [Act.put, List.setIfInBounds_toArray, List.set_cons_zero, List.set_cons_succ]
      refine wpAnyH_take (i := 12) (v := ?_) rfl (by kernel_rfl) (by kernel_rfl) (by kernel_rfl) (fun _ _ _ h => h) (Or.inl ⟨by rfl, ?_⟩) (by assumption) ?_
      rotate_left
      · (intro w' hSw; (try dsimp only at hSw); go_simp; try (with_reducible rfl))
      change wpAnyH _ _ _ _ _ _ _ (Act.put _ (some 38) _) _
      try simp only [Act.put, List.setIfInBounds_toArray, List.set_cons_zero, List.set_cons_succ]
      refine wpAnyH_take (i := 13) (v := ?_) rfl (by kernel_rfl) (by kernel_rfl) (by kernel_rfl) (fun _ _ _ h => h) (Or.inl ⟨by rfl, ?_⟩) (by assumption) ?_
      rotate_left
      · (intro w' hSw; (try dsimp only at hSw); go_simp; try (with_reducible rfl))
      change wpAnyH _ _ _ _ _ _ _ (Act.put _ (some 39) _) _
      try simp only [Act.put, List.setIfInBounds_toArray, List.set_cons_zero, List.set_cons_succ]
      refine wpAnyH_take (i := 14) (v := ?_) rfl (by kernel_rfl) (by kernel_rfl) (by kernel_rfl) (fun _ _ _ h => h) (Or.inl ⟨by rfl, ?_⟩) (by assumption) ?_
      rotate_left
      · (intro w' hSw; (try dsimp only at hSw); go_simp; try (with_reducible rfl))
      change wpAnyH _ _ _ _ _ _ _ (Act.put _ (some 40) _) _
      try simp only [Act.put, List.setIfInBounds_toArray, List.set_cons_zero, List.set_cons_succ]
      refine wpAnyH_take (i := 15) (v := ?_) rfl (by kernel_rfl) (by kernel_rfl) (by kernel_rfl) (fun _ _ _ h => h) (Or.inl ⟨by rfl, ?_⟩) (by assumption) ?_
      rotate_left
      · (intro w' hSw; (try dsimp only at hSw); go_simp; try (with_reducible rfl))
      change wpAnyH _ _ _ _ _ _ _ (Act.put _ (some 41) _) _
      try simp only [Act.put, List.setIfInBounds_toArray, List.set_cons_zero, List.set_cons_succ]
      refine wpAnyH_take (i := 16) (v := ?_) rfl (by kernel_rfl) (by kernel_rfl) (by kernel_rfl) (fun _ _ _ h => h) (Or.inl ⟨by rfl, ?_⟩) (by assumption) ?_
      rotate_left
      · (intro w' hSw; (try dsimp only at hSw); go_simp; try (with_reducible rfl))
      change wpAnyH _ _ _ _ _ _ _ (Act.put _ (some 42) _) _
      try simp only [Act.put, List.setIfInBounds_toArray, List.set_cons_zero, List.set_cons_succ]
      refine wpAnyH_take (i := 17) (v := ?_) rfl (by kernel_rfl) (by kernel_rfl) (by kernel_rfl) (fun _ _ _ h => h) (Or.inl ⟨by rfl, ?_⟩) (by assumption) ?_
      rotate_left
      · (intro w' hSw; (try dsimp only at hSw); go_simp; try (with_reducible rfl))
      change wpAnyH _ _ _ _ _ _ _ (Act.put _ (some 43) _) _
      try simp only [Act.put, List.setIfInBounds_toArray, List.set_cons_zero, List.set_cons_succ]
      refine wpAnyH_take (i := 18) (v := ?_) rfl (by kernel_rfl) (by kernel_rfl) (by kernel_rfl) (fun _ _ _ h => h) (Or.inl ⟨by rfl, ?_⟩) (by assumption) ?_
      rotate_left
      · (intro w' hSw; (try dsimp only at hSw); go_simp; try (with_reducible rfl))
      change wpAnyH _ _ _ _ _ _ _ (Act.put _ (some 44) _) _
      try simp only [Act.put, List.setIfInBounds_toArray, List.set_cons_zero, List.set_cons_succ]
      refine wpAnyH_ready (rs := [9]) (by kernel_rfl) (by simp) ?_
      refine AllReadyH.cons (i := 9) rfl (fun K hK => ?_) AllReadyH.nil
      simp only [List.getElem_toArray, List.getElem_cons_succ, List.getElem_cons_zero]
      rw [if_pos (by rfl)]
      go_simp
      (go_at_call 43; refine (CQ.out _).mono ?_; rintro e w5 ⟨rfl, hb5⟩; have hk5 := keeps_cells hb5; go_wp2_with fail)
      have hOld := hHeld
      clear hHeld
      refine hK.out _ _ ?_ (fun hHeld => ?_)
      · (try dsimp only); simp [*]
      clear hK K hOld
      try simp only [Act.put, List.setIfInBounds_toArray, List.set_cons_zero, List.set_cons_succ]
      refine wpAnyH_take (i := 10) (v := ?_) rfl (by kernel_rfl) (by kernel_rfl) (by kernel_rfl) (fun _ _ _ h => h) (Or.inl ⟨by rfl, ?_⟩) (by assumption) ?_
      rotate_left
      · (intro w' hSw; (try dsimp only at hSw); go_simp; try (with_reducible rfl))
      change wpAnyH _ _ _ _ _ _ _ (Act.put _ (some 36) _) _
      try simp only [Act.put, List.setIfInBounds_toArray, List.set_cons_zero, List.set_cons_succ]
      refine wpAnyH_take (i := 11) (v := ?_) rfl (by kernel_rfl) (by kernel_rfl) (by kernel_rfl) (fun _ _ _ h => h) (Or.inl ⟨by rfl, ?_⟩) (by assumption) ?_
      rotate_left
      · (intro w' hSw; (try dsimp only at hSw); go_simp; try (with_reducible rfl))
      change wpAnyH _ _ _ _ _ _ _ (Act.put _ (some 37) _) _
      try simp only [Act.put, List.setIfInBounds_toArray, List.set_cons_zero, List.set_cons_succ]
      refine wpAnyH_ready (rs := [19]) (by kernel_rfl) (by simp) ?_
      refine AllReadyH.cons (i := 19) rfl (fun K hK => ?_) AllReadyH.nil
      simp only [List.getElem_toArray, List.getElem_cons_succ, List.getElem_cons_zero]
      rw [if_pos (by rfl)]
      go_simp
      (go_at_call 44; refine (CT.out _).mono ?_; rintro e w6 ⟨rfl, hb6⟩; have hk6 := keeps_cells hb6; go_wp2_with fail)
      have hOld := hHeld
      clear hHeld
      refine hK.out _ _ ?_ (fun hHeld => ?_)
      · (try dsimp only); simp [*]
      clear hK K hOld
      try simp only [Act.put, List.setIfInBounds_toArray, List.set_cons_zero, List.set_cons_succ]
      refine wpAnyH_take (i := 20) (v := ?_) rfl (by kernel_rfl) (by kernel_rfl) (by kernel_rfl) (fun _ _ _ h => h) (Or.inl ⟨by rfl, ?_⟩) (by assumption) ?_
      rotate_left
      · (intro w' hSw; (try dsimp only at hSw); go_simp; try (with_reducible rfl))
      change wpAnyH _ _ _ _ _ _ _ (Act.put _ (some 46) _) _
      try simp only [Act.put, List.setIfInBounds_toArray, List.set_cons_zero, List.set_cons_succ]
      refine wpAnyH_take (i := 21) (v := ?_) rfl (by kernel_rfl) (by kernel_rfl) (by kernel_rfl) (fun _ _ _ h => h) (Or.inl ⟨by rfl, ?_⟩) (by assumption) ?_
      rotate_left
      · (intro w' hSw; (try dsimp only at hSw); go_simp; try (with_reducible rfl))
      change wpAnyH _ _ _ _ _ _ _ (Act.put _ (some 47) _) _
      try simp only [Act.put, List.setIfInBounds_toArray, List.set_cons_zero, List.set_cons_succ]
      refine wpAnyH_take (i := 22) (v := ?_) rfl (by kernel_rfl) (by kernel_rfl) (by kernel_rfl) (fun _ _ _ h => h) (Or.inl ⟨by rfl, ?_⟩) (by assumption) ?_
      rotate_left
      · (intro w' hSw; (try dsimp only at hSw); go_simp; try (with_reducible rfl))
      change wpAnyH _ _ _ _ _ _ _ (Act.put _ (some 3) _) _
      try simp only [Act.put, List.setIfInBounds_toArray, List.set_cons_zero, List.set_cons_succ]
      refine wpAnyH_done (by kernel_rfl) ?_ _
      have hB6 : Below w.heap.size wr w6 := Below.mono (by repeat' (first | (with_reducible exact Below.refl _ _) | (with_reducible refine ext_trans ?_ hb6) | (with_reducible refine ext_trans ?_ hb5) | (with_reducible refine ext_trans ?_ (ext_alloc _ _)) | (with_reducible refine Below.drew ?_))) (by omega)
      clear hHeld hk5 hk6
      go_wp2
      go_roundw
      case rel => exact ⟨k + 1, _, by omega, rfl, by go_num, HSS, hB.trans (Below.mono (by repeat' (first | (with_reducible exact Below.refl _ _) | (with_reducible refine ext_trans ?_ hb6) | (with_reducible refine ext_trans ?_ hb5) | (with_reducible refine ext_trans ?_ (ext_alloc _ _)) | (with_reducible refine Below.drew ?_))) hsr)⟩
      case measure => simp [intOf]; omega
    · have hki : ¬ (k : Int) < (x.world.files.length : Int) := by omega
      have hke : k = x.world.files.length := by omega
      have HSG := hid (show sb.data.toList = jobG x 0 by rw [HSB.out, jobG_zero, hke])
      clear hke
      go_wp2
      go_loopw [3, 5] (fun sv i wq => ∃ (k : Nat) (sb : ByteArray), k ≤ x.world.args.length ∧ sv = .string sb ∧ i = .int .i64 (k : Int) ∧ Hid (sb.data.toList = jobG x k) ∧ Below (w.heap.size + 1) (w.alloc (.cells #[.int .i64 x.world.inp.tag, .string x.world.inp.fs, .string x.world.inp.rs, .string x.world.inp.ofs, .string x.world.inp.ors, .bool x.world.inp.head, .int .i64 x.world.out.tag, .string x.world.out.fs, .string x.world.out.rs, .string x.world.out.ofs, .string x.world.out.ors, .bool x.world.out.head, .slice a12 x.world.files.length c12, .slice a13 x.world.args.length c13, .string x.source, .int .i64 x.fuel] 37)) wq) (fun _ i _ => x.world.args.length - (intOf i).toNat)
      case atStart => exact ⟨0, sb, Nat.zero_le _, rfl, rfl, HSG, hB⟩
      case round =>
        clear z0 z1 z2 z3 z4 z5 z6 z7 z8 z9 z10 z11 z12 z13 z14 z15 hBw hsr hfl hsb HSB HSG hB hki
        obtain ⟨m, sc, hm, rfl, rfl, HSC, hB⟩ := hrel
        obtain ⟨z0, z1, z2, z3, z4, z5, z6, z7, z8, z9, z10, z11, z12, z13, z14, z15⟩ := HBX.out _ hB
        have hBw := HBW.out _ hB
        have hsr := HSZ.out _ hB
        have hfl := HG.out m hm
        have hmb : m * 2010 ≤ 16080 := by omega
        have hsc : sc.size ≤ 120000 := by rw [Lib.size_eq, HSC.out]; omega
        by_cases hlt : m < x.world.args.length
        · have hF := f13
          obtain ⟨a, cap, hv, h1, h2, hF⟩ := hF
          obtain ⟨rfl, rfl⟩ : a13 = a ∧ c13 = cap := by simpa using hv
          obtain ⟨b, off, rfl, hBk, hrow⟩ := hF (by omega)
          obtain ⟨cs, hcell, hx⟩ := hrow m hlt
          obtain ⟨hcs, g0⟩ := hx
          subst hcs
          have t0 : wr.cell? ⟨b, off + m, none⟩ = some (.string x.world.args[m]) := (hBw.cell (p := ⟨b, off + m, none⟩) hBk).trans (by have h9 := hcell 0 (by decide); rw [show off + m * Rd.n ByteArray + 0 = off + m from by show off + m * 1 + 0 = _; omega] at h9; exact h9)
          have HST := hid (jobG_succ hlt)
          have hn1 := HGD.out.arg m hlt
          obtain ⟨s, hs⟩ : ∃ z, x.world.args[m] = z := ⟨_, rfl⟩
          rw [hs] at t0 HST hn1
          have s1 := qT_size s
          have r1 := ok_size hn1
          have hLN0 : argL s = ⟨#[97, 114, 103, 32]⟩ ++ qT s ++ ⟨#[10]⟩ := rfl
          have CQ := hid (show ∀ w : World, Calls Tryz.prog 43 #[.string s] w fun e w' => e = .returned (.string (qT s)) ∧ Below w.heap.size w w' from fun w => by have h := specQuote s w; rw [qT_ok hn1] at h; exact h)
          obtain ⟨Q1, e1⟩ : ∃ z, qT s = z := ⟨_, rfl⟩
          rw [e1] at CQ s1 hLN0
          have HLN := hid hLN0
          have hki : (m : Int) < (x.world.args.length : Int) := by omega
          have hk0 : (0 : Int) ≤ (m : Int) := by omega
          clear hs hcell hrow hv hF h1 h2 hn1 e1 hLN0
          have p0 : ¬ 9223372036854775807 < sc.size + 4 := by omega
          have p1 : ¬ 9223372036854775807 < sc.size + 4 + Q1.size := by omega
          have p2 : ¬ 9223372036854775807 < sc.size + 4 + Q1.size + 1 := by omega
          have HSS := hid (show (sc ++ ⟨#[97, 114, 103, 32]⟩ ++ Q1 ++ ⟨#[10]⟩).data.toList = jobG x (m + 1) by rw [HST.out, HLN.out]; simp only [dat_app, HSC.out, List.append_assoc])
          go_wp2_with fail
          refine (CQ.out _).mono ?_
          rintro e w7 ⟨rfl, hb7⟩
          go_wp2
          go_roundw
          case rel => exact ⟨m + 1, _, by omega, rfl, by go_num, HSS, hB.trans (Below.mono (by repeat' (first | (with_reducible exact Below.refl _ _) | (with_reducible refine ext_trans ?_ hb7) | (with_reducible refine ext_trans ?_ (ext_alloc _ _)) | (with_reducible refine Below.drew ?_))) hsr)⟩
          case measure => simp [intOf]; omega
        · have hki : ¬ (m : Int) < (x.world.args.length : Int) := by omega
          have hke : m = x.world.args.length := by omega
          have p0 : ¬ 9223372036854775807 < sc.size + 5 := by omega
          have p1 : ¬ 9223372036854775807 < sc.size + 5 + N9.size := by omega
          have p2 : ¬ 9223372036854775807 < sc.size + 5 + N9.size + 9 := by omega
          have p3 : ¬ 9223372036854775807 < sc.size + 5 + N9.size + 9 + Q9.size := by omega
          have p4 : ¬ 9223372036854775807 < sc.size + 5 + N9.size + 9 + Q9.size + 1 := by omega
          have HEND := hid (show sc ++ ⟨#[102, 117, 101, 108, 32]⟩ ++ N9 ++ ⟨#[10, 112, 114, 111, 103, 114, 97, 109, 32]⟩ ++ Q9 ++ ⟨#[10]⟩ = jobT x by apply ba_list; unfold jobT; rw [mkB_data, HJE.out, ← hke, ← HSC.out]; simp only [dat_app, List.append_assoc])
          clear hke
          go_wp2_with fail
          refine wp_region_held_drew (S := fun w' => w'.cell? ⟨w.heap.size, 14, none⟩ = some (.string x.source) ∧ w'.cell? ⟨w.heap.size, 15, none⟩ = some (.int .i64 x.fuel)) (by kernel_rfl) ?_ (fun hHeld => ?_)
          · simp [*]
          refine wpAnyH_take (i := 0) (v := ?_) rfl (by kernel_rfl) (by kernel_rfl) (by kernel_rfl) (fun _ _ _ h => h) (Or.inl ⟨by rfl, ?_⟩) (by assumption) ?_
          rotate_left
          · (intro w' hSw; (try dsimp only at hSw); go_simp; try (with_reducible rfl))
          change wpAnyH _ _ _ _ _ _ _ (Act.put _ (some 67) _) _
          try simp only [Act.put, List.setIfInBounds_toArray, List.set_cons_zero, List.set_cons_succ]
          refine wpAnyH_take (i := 1) (v := ?_) rfl (by kernel_rfl) (by kernel_rfl) (by kernel_rfl) (fun _ _ _ h => h) (Or.inl ⟨by rfl, ?_⟩) (by assumption) ?_
          rotate_left
          · (intro w' hSw; (try dsimp only at hSw); go_simp; try (with_reducible rfl))
          change wpAnyH _ _ _ _ _ _ _ (Act.put _ (some 68) _) _
          try simp only [Act.put, List.setIfInBounds_toArray, List.set_cons_zero, List.set_cons_succ]
          refine wpAnyH_take (i := 2) (v := ?_) rfl (by kernel_rfl) (by kernel_rfl) (by kernel_rfl) (fun _ _ _ h => h) (Or.inl ⟨by rfl, ?_⟩) (by assumption) ?_
          rotate_left
          · (intro w' hSw; (try dsimp only at hSw); go_simp; try (with_reducible rfl))
          change wpAnyH _ _ _ _ _ _ _ (Act.put _ (some 69) _) _
          try simp only [Act.put, List.setIfInBounds_toArray, List.set_cons_zero, List.set_cons_succ]
          refine wpAnyH_take (i := 3) (v := ?_) rfl (by kernel_rfl) (by kernel_rfl) (by kernel_rfl) (fun _ _ _ h => h) (Or.inl ⟨by rfl, ?_⟩) (by assumption) ?_
          rotate_left
          · (intro w' hSw; (try dsimp only at hSw); go_simp; try (with_reducible rfl))
          change wpAnyH _ _ _ _ _ _ _ (Act.put _ (some 70) _) _
          try simp only [Act.put, List.setIfInBounds_toArray, List.set_cons_zero, List.set_cons_succ]
          refine wpAnyH_take (i := 7) (v := ?_) rfl (by kernel_rfl) (by kernel_rfl) (by kernel_rfl) (fun _ _ _ h => h) (Or.inl ⟨by rfl, ?_⟩) (by assumption) ?_
          rotate_left
          · (intro w' hSw; (try dsimp only at hSw); go_simp; try (with_reducible rfl))
          change wpAnyH _ _ _ _ _ _ _ (Act.put _ (some 74) _) _
          try simp only [Act.put, List.setIfInBounds_toArray, List.set_cons_zero, List.set_cons_succ]
          refine wpAnyH_take (i := 8) (v := ?_) rfl (by kernel_rfl) (by kernel_rfl) (by kernel_rfl) (fun _ _ _ h => h) (Or.inl ⟨by rfl, ?_⟩) (by assumption) ?_
          rotate_left
          · (intro w' hSw; (try dsimp only at hSw); go_simp; try (with_reducible rfl))
          change wpAnyH _ _ _ _ _ _ _ (Act.put _ (some 75) _) _
          try simp only [Act.put, List.setIfInBounds_toArray, List.set_cons_zero, List.set_cons_succ]
          refine wpAnyH_ready (rs := [4]) (by kernel_rfl) (by simp) ?_
          refine AllReadyH.cons (i := 4) rfl (fun K hK => ?_) AllReadyH.nil
          simp only [List.getElem_toArray, List.getElem_cons_succ, List.getElem_cons_zero]
          rw [if_pos (by rfl)]
          go_simp
          (go_at_call 45; refine (CN.out _).mono ?_; rintro e w8 ⟨rfl, hb8⟩; have hk8 := keeps_cells hb8; go_wp2_with fail)
          have hOld := hHeld
          clear hHeld
          refine hK.out _ _ ?_ (fun hHeld => ?_)
          · (try dsimp only); simp [*]
          clear hK K hOld
          try simp only [Act.put, List.setIfInBounds_toArray, List.set_cons_zero, List.set_cons_succ]
          refine wpAnyH_take (i := 5) (v := ?_) rfl (by kernel_rfl) (by kernel_rfl) (by kernel_rfl) (fun _ _ _ h => h) (Or.inl ⟨by rfl, ?_⟩) (by assumption) ?_
          rotate_left
          · (intro w' hSw; (try dsimp only at hSw); go_simp; try (with_reducible rfl))
          change wpAnyH _ _ _ _ _ _ _ (Act.put _ (some 72) _) _
          try simp only [Act.put, List.setIfInBounds_toArray, List.set_cons_zero, List.set_cons_succ]
          refine wpAnyH_take (i := 6) (v := ?_) rfl (by kernel_rfl) (by kernel_rfl) (by kernel_rfl) (fun _ _ _ h => h) (Or.inl ⟨by rfl, ?_⟩) (by assumption) ?_
          rotate_left
          · (intro w' hSw; (try dsimp only at hSw); go_simp; try (with_reducible rfl))
          change wpAnyH _ _ _ _ _ _ _ (Act.put _ (some 73) _) _
          try simp only [Act.put, List.setIfInBounds_toArray, List.set_cons_zero, List.set_cons_succ]
          refine wpAnyH_ready (rs := [9]) (by kernel_rfl) (by simp) ?_
          refine AllReadyH.cons (i := 9) rfl (fun K hK => ?_) AllReadyH.nil
          simp only [List.getElem_toArray, List.getElem_cons_succ, List.getElem_cons_zero]
          rw [if_pos (by rfl)]
          go_simp
          (go_at_call 44; refine (CZ.out _).mono ?_; rintro e w9 ⟨rfl, hb9⟩; have hk9 := keeps_cells hb9; go_wp2_with fail)
          have hOld := hHeld
          clear hHeld
          refine hK.out _ _ ?_ (fun hHeld => ?_)
          · (try dsimp only); simp [*]
          clear hK K hOld
          try simp only [Act.put, List.setIfInBounds_toArray, List.set_cons_zero, List.set_cons_succ]
          refine wpAnyH_take (i := 10) (v := ?_) rfl (by kernel_rfl) (by kernel_rfl) (by kernel_rfl) (fun _ _ _ h => h) (Or.inl ⟨by rfl, ?_⟩) (by assumption) ?_
          rotate_left
          · (intro w' hSw; (try dsimp only at hSw); go_simp; try (with_reducible rfl))
          change wpAnyH _ _ _ _ _ _ _ (Act.put _ (some 77) _) _
          try simp only [Act.put, List.setIfInBounds_toArray, List.set_cons_zero, List.set_cons_succ]
          refine wpAnyH_take (i := 11) (v := ?_) rfl (by kernel_rfl) (by kernel_rfl) (by kernel_rfl) (fun _ _ _ h => h) (Or.inl ⟨by rfl, ?_⟩) (by assumption) ?_
          rotate_left
          · (intro w' hSw; (try dsimp only at hSw); go_simp; try (with_reducible rfl))
          change wpAnyH _ _ _ _ _ _ _ (Act.put _ (some 78) _) _
          try simp only [Act.put, List.setIfInBounds_toArray, List.set_cons_zero, List.set_cons_succ]
          refine wpAnyH_take (i := 12) (v := ?_) rfl (by kernel_rfl) (by kernel_rfl) (by kernel_rfl) (fun _ _ _ h => h) (Or.inl ⟨by rfl, ?_⟩) (by assumption) ?_
          rotate_left
          · (intro w' hSw; (try dsimp only at hSw); go_simp; try (with_reducible rfl))
          change wpAnyH _ _ _ _ _ _ _ (Act.put _ (some 2) _) _
          try simp only [Act.put, List.setIfInBounds_toArray, List.set_cons_zero, List.set_cons_succ]
          refine wpAnyH_done (by kernel_rfl) ?_ _
          go_wp2
          go_ret
          exact ⟨end_string HEND.out, ext_trans hBw (by repeat' (first | (with_reducible exact Below.refl _ _) | (with_reducible refine ext_trans ?_ hb9) | (with_reducible refine ext_trans ?_ hb8) | (with_reducible refine ext_trans ?_ (ext_alloc _ _)) | (with_reducible refine Below.drew ?_)))⟩
end Go.Proofs.YtkmkencodcfloaaGreatDoor

namespace Go.Proofs.YtkmkencodcfloaaGreatDoor
open Go.RowKit
set_option linter.unusedVariables false
set_option linter.unusedSimpArgs false

theorem jobOk_good {x : Job} (h : jobOk x = true) : JobGood x := by
  unfold jobOk at h
  simp only [Bool.and_eq_true] at h
  exact jobGood h.1 h.2.1
set_option maxHeartbeats 16000000 in
set_option maxRecDepth 100000 in
theorem implIsJob {cs : Array Value} {x : Job} (w : World) (h : Rd.rd (Old w) w cs.toList x) (hT : TP w) :
    Calls Tryz.prog 24 #[.agg cs] w fun e w' => e = .returned (.bool (jobOk x)) ∧ Below w.heap.size w w' := by
  have h0 := h
  obtain ⟨a12, c12, a13, c13, hcs, f0, f1, f2, f3, f4, f6, f7, f8, f9, f10, f12, f13, f14, f15⟩ := rdJob h
  obtain rfl := arr_of_list hcs
  clear hcs h
  have hW0 := heap_alloc_new w (.cells #[.int .i64 x.world.inp.tag, .string x.world.inp.fs, .string x.world.inp.rs, .string x.world.inp.ofs, .string x.world.inp.ors, .bool x.world.inp.head, .int .i64 x.world.out.tag, .string x.world.out.fs, .string x.world.out.rs, .string x.world.out.ofs, .string x.world.out.ors, .bool x.world.out.head, .slice a12 x.world.files.length c12, .slice a13 x.world.args.length c13, .string x.source, .int .i64 x.fuel] 37)
  have HBX := hid (fun (w' : World) (hb : Below (w.heap.size + 1) (w.alloc (.cells #[.int .i64 x.world.inp.tag, .string x.world.inp.fs, .string x.world.inp.rs, .string x.world.inp.ofs, .string x.world.inp.ors, .bool x.world.inp.head, .int .i64 x.world.out.tag, .string x.world.out.fs, .string x.world.out.rs, .string x.world.out.ofs, .string x.world.out.ors, .bool x.world.out.head, .slice a12 x.world.files.length c12, .slice a13 x.world.args.length c13, .string x.source, .int .i64 x.fuel] 37)) w') => blk16c ((hb.block w.heap.size (Nat.lt_succ_self _)).trans hW0))
  have HBW := hid (fun (w' : World) (hb : Below (w.heap.size + 1) (w.alloc (.cells #[.int .i64 x.world.inp.tag, .string x.world.inp.fs, .string x.world.inp.rs, .string x.world.inp.ofs, .string x.world.inp.ors, .bool x.world.inp.head, .int .i64 x.world.out.tag, .string x.world.out.fs, .string x.world.out.rs, .string x.world.out.ofs, .string x.world.out.ors, .bool x.world.out.head, .slice a12 x.world.files.length c12, .slice a13 x.world.args.length c13, .string x.source, .int .i64 x.fuel] 37)) w') => (ext_alloc w (.cells #[.int .i64 x.world.inp.tag, .string x.world.inp.fs, .string x.world.inp.rs, .string x.world.inp.ofs, .string x.world.inp.ors, .bool x.world.inp.head, .int .i64 x.world.out.tag, .string x.world.out.fs, .string x.world.out.rs, .string x.world.out.ofs, .string x.world.out.ors, .bool x.world.out.head, .slice a12 x.world.files.length c12, .slice a13 x.world.args.length c13, .string x.source, .int .i64 x.fuel] 37)).trans (hb.mono (Nat.le_succ _)))
  have HSZ := hid (fun (w' : World) (hb : Below (w.heap.size + 1) (w.alloc (.cells #[.int .i64 x.world.inp.tag, .string x.world.inp.fs, .string x.world.inp.rs, .string x.world.inp.ofs, .string x.world.inp.ors, .bool x.world.inp.head, .int .i64 x.world.out.tag, .string x.world.out.fs, .string x.world.out.rs, .string x.world.out.ofs, .string x.world.out.ors, .bool x.world.out.head, .slice a12 x.world.files.length c12, .slice a13 x.world.args.length c13, .string x.source, .int .i64 x.fuel] 37)) w') => (show w.heap.size + 1 ≤ w'.heap.size from by have := hb.size; simp at this; exact this))
  clear hW0
  have hb0 := Below.refl (w.heap.size + 1) (w.alloc (.cells #[.int .i64 x.world.inp.tag, .string x.world.inp.fs, .string x.world.inp.rs, .string x.world.inp.ofs, .string x.world.inp.ors, .bool x.world.inp.head, .int .i64 x.world.out.tag, .string x.world.out.fs, .string x.world.out.rs, .string x.world.out.ofs, .string x.world.out.ors, .bool x.world.out.head, .slice a12 x.world.files.length c12, .slice a13 x.world.args.length c13, .string x.source, .int .i64 x.fuel] 37))
  obtain ⟨z0, z1, z2, z3, z4, z5, z6, z7, z8, z9, z10, z11, z12, z13, z14, z15⟩ := HBX.out _ hb0
  go_enter Tryz.func24, Tryz.ntmps24
  go_wp2_with fail
  refine (implIsWorld (x := x.world) _ (by exact rdWorldT_mk f0 f1 f2 f3 f4 f6 f7 f8 f9 f10 (Rd.later (HBW.out _ hb0) f12) (Rd.later (HBW.out _ hb0) f13)) (tabs_below hT.1 (HBW.out _ hb0))).mono ?_
  rintro e w1 ⟨rfl, hb⟩
  have b1 := hb0.trans (hb.mono (HSZ.out _ hb0))
  clear hb z0 z1 z2 z3 z4 z5 z6 z7 z8 z9 z10 z11 z12 z13 z14 z15
  obtain ⟨z0, z1, z2, z3, z4, z5, z6, z7, z8, z9, z10, z11, z12, z13, z14, z15⟩ := HBX.out _ b1
  obtain ⟨q1, hq1⟩ : ∃ b, worldOk x.world = b := ⟨_, rfl⟩
  rw [hq1]
  have Hq1 := hid hq1
  clear hq1
  cases q1 with
  | false =>
    go_wp2
    go_ret
    exact ⟨end_bool (show jobOk x = false by simp [jobOk, Hq1.out]).symm, HBW.out _ b1⟩
  | true =>
    go_wp2_with fail
    refine (implIsFile x.source _ (tabs_below hT.1 (HBW.out _ b1))).mono ?_
    rintro e w2 ⟨rfl, hb⟩
    have b2 := b1.trans (hb.mono (HSZ.out _ b1))
    clear hb z0 z1 z2 z3 z4 z5 z6 z7 z8 z9 z10 z11 z12 z13 z14 z15
    obtain ⟨z0, z1, z2, z3, z4, z5, z6, z7, z8, z9, z10, z11, z12, z13, z14, z15⟩ := HBX.out _ b2
    obtain ⟨q2, hq2⟩ : ∃ b, fileOk x.source = b := ⟨_, rfl⟩
    rw [hq2]
    have Hq2 := hid hq2
    clear hq2
    cases q2 with
    | false =>
      go_wp2
      go_ret
      exact ⟨end_bool (show jobOk x = false by simp [jobOk, Hq2.out]).symm, HBW.out _ b2⟩
    | true =>
      by_cases hs : (3000 : Int) < x.source.size
      · have hs2 : ¬ (x.source.size : Int) ≤ 3000 := by omega
        go_wp2
        go_ret
        exact ⟨end_bool (show jobOk x = false by simp [jobOk, show ¬ x.source.size ≤ 3000 by omega]).symm, HBW.out _ b2⟩
      have hs2 : (x.source.size : Int) ≤ 3000 := by omega
      go_wp2_with fail
      refine (within_any x.fuel 0 2000 _).mono ?_
      rintro e wz ⟨rfl, rfl⟩
      obtain ⟨q3, hq3⟩ : ∃ b, inB 0 x.fuel 2000 = b := ⟨_, rfl⟩
      rw [hq3]
      have Hq3 := hid hq3
      clear hq3
      cases q3 with
      | false =>
        go_wp2
        go_ret
        exact ⟨end_bool (show jobOk x = false by simp [jobOk, Hq3.out]).symm, HBW.out _ b2⟩
      | true =>
        go_wp2_with fail
        refine (implJobT (x := x) _ (by exact Rd.later (HBW.out _ b2) h0) (jobGood Hq1.out Hq2.out) (pt_below hT.2 (HBW.out _ b2))).mono ?_
        rintro e w4 ⟨rfl, hb⟩
        have b4 := b2.trans (hb.mono (HSZ.out _ b2))
        clear hb z0 z1 z2 z3 z4 z5 z6 z7 z8 z9 z10 z11 z12 z13 z14 z15
        obtain ⟨z0, z1, z2, z3, z4, z5, z6, z7, z8, z9, z10, z11, z12, z13, z14, z15⟩ := HBX.out _ b4
        obtain ⟨TX, hTX⟩ : ∃ b, jobT x = b := ⟨_, rfl⟩
        rw [hTX]
        have HTX := hid hTX
        clear hTX
        by_cases hz : (40000 : Int) < TX.size
        · have hz2 : ¬ (TX.size : Int) ≤ 40000 := by omega
          go_wp2
          go_ret
          exact ⟨end_bool ((decide_eq_false (by omega)).trans (show jobOk x = false by simp [jobOk, HTX.out, show ¬ TX.size ≤ 40000 by omega]).symm), HBW.out _ b4⟩
        · have hz2 : (TX.size : Int) ≤ 40000 := by omega
          go_wp2
          go_ret
          exact ⟨end_bool (show jobOk x = true by simp [jobOk, Hq1.out, Hq2.out, Hq3.out, HTX.out, show TX.size ≤ 40000 by omega, show x.source.size ≤ 3000 by omega]).symm, HBW.out _ b4⟩
set_option maxHeartbeats 16000000 in
set_option maxRecDepth 100000 in
theorem specJobOk {cs : Array Value} {x : Job} (w : World) (h : Rd.rd (Old w) w cs.toList x) :
    Calls Tryz.prog 7 #[.agg cs] w fun e w' => e = .returned (.bool (jobOk x)) ∧ Below w.heap.size w w' := by
  have h0 := h
  obtain ⟨a12, c12, a13, c13, hcs, f0, f1, f2, f3, f4, f6, f7, f8, f9, f10, f12, f13, f14, f15⟩ := rdJob h
  obtain rfl := arr_of_list hcs
  clear hcs h
  have hW0 := heap_alloc_new w (.cells #[.int .i64 x.world.inp.tag, .string x.world.inp.fs, .string x.world.inp.rs, .string x.world.inp.ofs, .string x.world.inp.ors, .bool x.world.inp.head, .int .i64 x.world.out.tag, .string x.world.out.fs, .string x.world.out.rs, .string x.world.out.ofs, .string x.world.out.ors, .bool x.world.out.head, .slice a12 x.world.files.length c12, .slice a13 x.world.args.length c13, .string x.source, .int .i64 x.fuel] 37)
  have HBX := hid (fun (w' : World) (hb : Below (w.heap.size + 1) (w.alloc (.cells #[.int .i64 x.world.inp.tag, .string x.world.inp.fs, .string x.world.inp.rs, .string x.world.inp.ofs, .string x.world.inp.ors, .bool x.world.inp.head, .int .i64 x.world.out.tag, .string x.world.out.fs, .string x.world.out.rs, .string x.world.out.ofs, .string x.world.out.ors, .bool x.world.out.head, .slice a12 x.world.files.length c12, .slice a13 x.world.args.length c13, .string x.source, .int .i64 x.fuel] 37)) w') => blk16c ((hb.block w.heap.size (Nat.lt_succ_self _)).trans hW0))
  have HBW := hid (fun (w' : World) (hb : Below (w.heap.size + 1) (w.alloc (.cells #[.int .i64 x.world.inp.tag, .string x.world.inp.fs, .string x.world.inp.rs, .string x.world.inp.ofs, .string x.world.inp.ors, .bool x.world.inp.head, .int .i64 x.world.out.tag, .string x.world.out.fs, .string x.world.out.rs, .string x.world.out.ofs, .string x.world.out.ors, .bool x.world.out.head, .slice a12 x.world.files.length c12, .slice a13 x.world.args.length c13, .string x.source, .int .i64 x.fuel] 37)) w') => (ext_alloc w (.cells #[.int .i64 x.world.inp.tag, .string x.world.inp.fs, .string x.world.inp.rs, .string x.world.inp.ofs, .string x.world.inp.ors, .bool x.world.inp.head, .int .i64 x.world.out.tag, .string x.world.out.fs, .string x.world.out.rs, .string x.world.out.ofs, .string x.world.out.ors, .bool x.world.out.head, .slice a12 x.world.files.length c12, .slice a13 x.world.args.length c13, .string x.source, .int .i64 x.fuel] 37)).trans (hb.mono (Nat.le_succ _)))
  have HSZ := hid (fun (w' : World) (hb : Below (w.heap.size + 1) (w.alloc (.cells #[.int .i64 x.world.inp.tag, .string x.world.inp.fs, .string x.world.inp.rs, .string x.world.inp.ofs, .string x.world.inp.ors, .bool x.world.inp.head, .int .i64 x.world.out.tag, .string x.world.out.fs, .string x.world.out.rs, .string x.world.out.ofs, .string x.world.out.ors, .bool x.world.out.head, .slice a12 x.world.files.length c12, .slice a13 x.world.args.length c13, .string x.source, .int .i64 x.fuel] 37)) w') => (show w.heap.size + 1 ≤ w'.heap.size from by have := hb.size; simp at this; exact this))
  clear hW0
  have hb0 := Below.refl (w.heap.size + 1) (w.alloc (.cells #[.int .i64 x.world.inp.tag, .string x.world.inp.fs, .string x.world.inp.rs, .string x.world.inp.ofs, .string x.world.inp.ors, .bool x.world.inp.head, .int .i64 x.world.out.tag, .string x.world.out.fs, .string x.world.out.rs, .string x.world.out.ofs, .string x.world.out.ors, .bool x.world.out.head, .slice a12 x.world.files.length c12, .slice a13 x.world.args.length c13, .string x.source, .int .i64 x.fuel] 37))
  obtain ⟨z0, z1, z2, z3, z4, z5, z6, z7, z8, z9, z10, z11, z12, z13, z14, z15⟩ := HBX.out _ hb0
  go_enter Tryz.func7, Tryz.ntmps7
  go_wp2_with fail
  refine (specWorldOk (x := x.world) _ (by exact rdWorldT_mk f0 f1 f2 f3 f4 f6 f7 f8 f9 f10 (Rd.later (HBW.out _ hb0) f12) (Rd.later (HBW.out _ hb0) f13))).mono ?_
  rintro e w1 ⟨rfl, hb⟩
  have b1 := hb0.trans (hb.mono (HSZ.out _ hb0))
  clear hb z0 z1 z2 z3 z4 z5 z6 z7 z8 z9 z10 z11 z12 z13 z14 z15
  obtain ⟨z0, z1, z2, z3, z4, z5, z6, z7, z8, z9, z10, z11, z12, z13, z14, z15⟩ := HBX.out _ b1
  obtain ⟨q1, hq1⟩ : ∃ b, worldOk x.world = b := ⟨_, rfl⟩
  rw [hq1]
  have Hq1 := hid hq1
  clear hq1
  cases q1 with
  | false =>
    go_wp2
    go_ret
    exact ⟨end_bool (show jobOk x = false by simp [jobOk, Hq1.out]).symm, HBW.out _ b1⟩
  | true =>
    by_cases hs : (3000 : Int) < x.source.size
    · have hs2 : ¬ (x.source.size : Int) ≤ 3000 := by omega
      go_wp2
      go_ret
      exact ⟨end_bool (show jobOk x = false by simp [jobOk, show ¬ x.source.size ≤ 3000 by omega]).symm, HBW.out _ b1⟩
    have hs2 : (x.source.size : Int) ≤ 3000 := by omega
    go_wp2_with fail
    refine (specFileOk x.source _).mono ?_
    rintro e w2 ⟨rfl, hb⟩
    have b2 := b1.trans (hb.mono (HSZ.out _ b1))
    clear hb z0 z1 z2 z3 z4 z5 z6 z7 z8 z9 z10 z11 z12 z13 z14 z15
    obtain ⟨z0, z1, z2, z3, z4, z5, z6, z7, z8, z9, z10, z11, z12, z13, z14, z15⟩ := HBX.out _ b2
    obtain ⟨q2, hq2⟩ : ∃ b, fileOk x.source = b := ⟨_, rfl⟩
    rw [hq2]
    have Hq2 := hid hq2
    clear hq2
    cases q2 with
    | false =>
      go_wp2
      go_ret
      exact ⟨end_bool (show jobOk x = false by simp [jobOk, Hq2.out]).symm, HBW.out _ b2⟩
    | true =>
      go_wp2_with fail
      refine (between_any x.fuel 0 2000 _).mono ?_
      rintro e wz ⟨rfl, rfl⟩
      obtain ⟨q3, hq3⟩ : ∃ b, inB 0 x.fuel 2000 = b := ⟨_, rfl⟩
      rw [hq3]
      have Hq3 := hid hq3
      clear hq3
      cases q3 with
      | false =>
        go_wp2
        go_ret
        exact ⟨end_bool (show jobOk x = false by simp [jobOk, Hq3.out]).symm, HBW.out _ b2⟩
      | true =>
        go_wp2_with fail
        refine (specJobT (x := x) _ (by exact Rd.later (HBW.out _ b2) h0) (jobGood Hq1.out Hq2.out)).mono ?_
        rintro e w4 ⟨rfl, hb⟩
        have b4 := b2.trans (hb.mono (HSZ.out _ b2))
        clear hb z0 z1 z2 z3 z4 z5 z6 z7 z8 z9 z10 z11 z12 z13 z14 z15
        obtain ⟨z0, z1, z2, z3, z4, z5, z6, z7, z8, z9, z10, z11, z12, z13, z14, z15⟩ := HBX.out _ b4
        obtain ⟨TX, hTX⟩ : ∃ b, jobT x = b := ⟨_, rfl⟩
        rw [hTX]
        have HTX := hid hTX
        clear hTX
        by_cases hz : (40000 : Int) < TX.size
        · have hz2 : ¬ (TX.size : Int) ≤ 40000 := by omega
          go_wp2
          go_ret
          exact ⟨end_bool ((decide_eq_false (by omega)).trans (show jobOk x = false by simp [jobOk, HTX.out, show ¬ TX.size ≤ 40000 by omega]).symm), HBW.out _ b4⟩
        · have hz2 : (TX.size : Int) ≤ 40000 := by omega
          go_wp2
          go_ret
          exact ⟨end_bool (show jobOk x = true by simp [jobOk, Hq1.out, Hq2.out, Hq3.out, HTX.out, show TX.size ≤ 40000 by omega, show x.source.size ≤ 3000 by omega]).symm, HBW.out _ b4⟩
set_option maxHeartbeats 16000000 in
set_option maxRecDepth 100000 in
theorem implJobOk {cs : Array Value} {x : Job} (w : World) (h : Rd.rd (Old w) w cs.toList x) (hT : TP w) :
    Calls Tryz.prog 9 #[.agg cs] w fun e w' => e = .returned (.bool (jobOk x)) ∧ Below w.heap.size w w' := by
  have h0 := h
  obtain ⟨a12, c12, a13, c13, hcs, f0, f1, f2, f3, f4, f6, f7, f8, f9, f10, f12, f13, f14, f15⟩ := rdJob h
  obtain rfl := arr_of_list hcs
  clear hcs h
  have hW0 := heap_alloc_new w (.cells #[.int .i64 x.world.inp.tag, .string x.world.inp.fs, .string x.world.inp.rs, .string x.world.inp.ofs, .string x.world.inp.ors, .bool x.world.inp.head, .int .i64 x.world.out.tag, .string x.world.out.fs, .string x.world.out.rs, .string x.world.out.ofs, .string x.world.out.ors, .bool x.world.out.head, .slice a12 x.world.files.length c12, .slice a13 x.world.args.length c13, .string x.source, .int .i64 x.fuel] 37)
  have HBX := hid (fun (w' : World) (hb : Below (w.heap.size + 1) (w.alloc (.cells #[.int .i64 x.world.inp.tag, .string x.world.inp.fs, .string x.world.inp.rs, .string x.world.inp.ofs, .string x.world.inp.ors, .bool x.world.inp.head, .int .i64 x.world.out.tag, .string x.world.out.fs, .string x.world.out.rs, .string x.world.out.ofs, .string x.world.out.ors, .bool x.world.out.head, .slice a12 x.world.files.length c12, .slice a13 x.world.args.length c13, .string x.source, .int .i64 x.fuel] 37)) w') => blk16c ((hb.block w.heap.size (Nat.lt_succ_self _)).trans hW0))
  have HBW := hid (fun (w' : World) (hb : Below (w.heap.size + 1) (w.alloc (.cells #[.int .i64 x.world.inp.tag, .string x.world.inp.fs, .string x.world.inp.rs, .string x.world.inp.ofs, .string x.world.inp.ors, .bool x.world.inp.head, .int .i64 x.world.out.tag, .string x.world.out.fs, .string x.world.out.rs, .string x.world.out.ofs, .string x.world.out.ors, .bool x.world.out.head, .slice a12 x.world.files.length c12, .slice a13 x.world.args.length c13, .string x.source, .int .i64 x.fuel] 37)) w') => (ext_alloc w (.cells #[.int .i64 x.world.inp.tag, .string x.world.inp.fs, .string x.world.inp.rs, .string x.world.inp.ofs, .string x.world.inp.ors, .bool x.world.inp.head, .int .i64 x.world.out.tag, .string x.world.out.fs, .string x.world.out.rs, .string x.world.out.ofs, .string x.world.out.ors, .bool x.world.out.head, .slice a12 x.world.files.length c12, .slice a13 x.world.args.length c13, .string x.source, .int .i64 x.fuel] 37)).trans (hb.mono (Nat.le_succ _)))
  have HSZ := hid (fun (w' : World) (hb : Below (w.heap.size + 1) (w.alloc (.cells #[.int .i64 x.world.inp.tag, .string x.world.inp.fs, .string x.world.inp.rs, .string x.world.inp.ofs, .string x.world.inp.ors, .bool x.world.inp.head, .int .i64 x.world.out.tag, .string x.world.out.fs, .string x.world.out.rs, .string x.world.out.ofs, .string x.world.out.ors, .bool x.world.out.head, .slice a12 x.world.files.length c12, .slice a13 x.world.args.length c13, .string x.source, .int .i64 x.fuel] 37)) w') => (show w.heap.size + 1 ≤ w'.heap.size from by have := hb.size; simp at this; exact this))
  clear hW0
  have hb0 := Below.refl (w.heap.size + 1) (w.alloc (.cells #[.int .i64 x.world.inp.tag, .string x.world.inp.fs, .string x.world.inp.rs, .string x.world.inp.ofs, .string x.world.inp.ors, .bool x.world.inp.head, .int .i64 x.world.out.tag, .string x.world.out.fs, .string x.world.out.rs, .string x.world.out.ofs, .string x.world.out.ors, .bool x.world.out.head, .slice a12 x.world.files.length c12, .slice a13 x.world.args.length c13, .string x.source, .int .i64 x.fuel] 37))
  obtain ⟨z0, z1, z2, z3, z4, z5, z6, z7, z8, z9, z10, z11, z12, z13, z14, z15⟩ := HBX.out _ hb0
  go_enter Tryz.func9, Tryz.ntmps9
  go_wp2_with fail
  refine (implIsJob (x := x) _ (by exact Rd.later (HBW.out _ hb0) h0) (tp_below hT (HBW.out _ hb0))).mono ?_
  rintro e w1 ⟨rfl, hb⟩
  have b1 := hb0.trans (hb.mono (HSZ.out _ hb0))
  clear hb z0 z1 z2 z3 z4 z5 z6 z7 z8 z9 z10 z11 z12 z13 z14 z15
  obtain ⟨z0, z1, z2, z3, z4, z5, z6, z7, z8, z9, z10, z11, z12, z13, z14, z15⟩ := HBX.out _ b1
  go_wp2
  go_ret
  exact ⟨rfl, HBW.out _ b1⟩
set_option maxHeartbeats 16000000 in
set_option maxRecDepth 100000 in
theorem implJobText {cs : Array Value} {x : Job} (w : World) (h : Rd.rd (Old w) w cs.toList x) (hT : TP w) :
    Calls Tryz.prog 12 #[.agg cs] w fun e w' => e = .returned (.string (jobOut x)) ∧ Below w.heap.size w w' := by
  have h0 := h
  obtain ⟨a12, c12, a13, c13, hcs, f0, f1, f2, f3, f4, f6, f7, f8, f9, f10, f12, f13, f14, f15⟩ := rdJob h
  obtain rfl := arr_of_list hcs
  clear hcs h
  have hW0 := heap_alloc_new w (.cells #[.int .i64 x.world.inp.tag, .string x.world.inp.fs, .string x.world.inp.rs, .string x.world.inp.ofs, .string x.world.inp.ors, .bool x.world.inp.head, .int .i64 x.world.out.tag, .string x.world.out.fs, .string x.world.out.rs, .string x.world.out.ofs, .string x.world.out.ors, .bool x.world.out.head, .slice a12 x.world.files.length c12, .slice a13 x.world.args.length c13, .string x.source, .int .i64 x.fuel] 37)
  have HBX := hid (fun (w' : World) (hb : Below (w.heap.size + 1) (w.alloc (.cells #[.int .i64 x.world.inp.tag, .string x.world.inp.fs, .string x.world.inp.rs, .string x.world.inp.ofs, .string x.world.inp.ors, .bool x.world.inp.head, .int .i64 x.world.out.tag, .string x.world.out.fs, .string x.world.out.rs, .string x.world.out.ofs, .string x.world.out.ors, .bool x.world.out.head, .slice a12 x.world.files.length c12, .slice a13 x.world.args.length c13, .string x.source, .int .i64 x.fuel] 37)) w') => blk16c ((hb.block w.heap.size (Nat.lt_succ_self _)).trans hW0))
  have HBW := hid (fun (w' : World) (hb : Below (w.heap.size + 1) (w.alloc (.cells #[.int .i64 x.world.inp.tag, .string x.world.inp.fs, .string x.world.inp.rs, .string x.world.inp.ofs, .string x.world.inp.ors, .bool x.world.inp.head, .int .i64 x.world.out.tag, .string x.world.out.fs, .string x.world.out.rs, .string x.world.out.ofs, .string x.world.out.ors, .bool x.world.out.head, .slice a12 x.world.files.length c12, .slice a13 x.world.args.length c13, .string x.source, .int .i64 x.fuel] 37)) w') => (ext_alloc w (.cells #[.int .i64 x.world.inp.tag, .string x.world.inp.fs, .string x.world.inp.rs, .string x.world.inp.ofs, .string x.world.inp.ors, .bool x.world.inp.head, .int .i64 x.world.out.tag, .string x.world.out.fs, .string x.world.out.rs, .string x.world.out.ofs, .string x.world.out.ors, .bool x.world.out.head, .slice a12 x.world.files.length c12, .slice a13 x.world.args.length c13, .string x.source, .int .i64 x.fuel] 37)).trans (hb.mono (Nat.le_succ _)))
  have HSZ := hid (fun (w' : World) (hb : Below (w.heap.size + 1) (w.alloc (.cells #[.int .i64 x.world.inp.tag, .string x.world.inp.fs, .string x.world.inp.rs, .string x.world.inp.ofs, .string x.world.inp.ors, .bool x.world.inp.head, .int .i64 x.world.out.tag, .string x.world.out.fs, .string x.world.out.rs, .string x.world.out.ofs, .string x.world.out.ors, .bool x.world.out.head, .slice a12 x.world.files.length c12, .slice a13 x.world.args.length c13, .string x.source, .int .i64 x.fuel] 37)) w') => (show w.heap.size + 1 ≤ w'.heap.size from by have := hb.size; simp at this; exact this))
  clear hW0
  have hb0 := Below.refl (w.heap.size + 1) (w.alloc (.cells #[.int .i64 x.world.inp.tag, .string x.world.inp.fs, .string x.world.inp.rs, .string x.world.inp.ofs, .string x.world.inp.ors, .bool x.world.inp.head, .int .i64 x.world.out.tag, .string x.world.out.fs, .string x.world.out.rs, .string x.world.out.ofs, .string x.world.out.ors, .bool x.world.out.head, .slice a12 x.world.files.length c12, .slice a13 x.world.args.length c13, .string x.source, .int .i64 x.fuel] 37))
  obtain ⟨z0, z1, z2, z3, z4, z5, z6, z7, z8, z9, z10, z11, z12, z13, z14, z15⟩ := HBX.out _ hb0
  go_enter Tryz.func12, Tryz.ntmps12
  go_wp2_with fail
  refine (implIsJob (x := x) _ (by exact Rd.later (HBW.out _ hb0) h0) (tp_below hT (HBW.out _ hb0))).mono ?_
  rintro e w1 ⟨rfl, hb⟩
  have b1 := hb0.trans (hb.mono (HSZ.out _ hb0))
  clear hb z0 z1 z2 z3 z4 z5 z6 z7 z8 z9 z10 z11 z12 z13 z14 z15
  obtain ⟨z0, z1, z2, z3, z4, z5, z6, z7, z8, z9, z10, z11, z12, z13, z14, z15⟩ := HBX.out _ b1
  obtain ⟨q1, hq1⟩ : ∃ b, jobOk x = b := ⟨_, rfl⟩
  rw [hq1]
  have Hq1 := hid hq1
  clear hq1
  cases q1 with
  | false =>
    go_wp2
    go_ret
    exact ⟨end_string (show jobOut x = ⟨#[]⟩ by unfold jobOut; rw [Hq1.out]; rfl).symm, HBW.out _ b1⟩
  | true =>
    go_wp2_with fail
    refine (implJobT (x := x) _ (by exact Rd.later (HBW.out _ b1) h0) (jobOk_good Hq1.out) (pt_below hT.2 (HBW.out _ b1))).mono ?_
    rintro e w2 ⟨rfl, hb⟩
    have b2 := b1.trans (hb.mono (HSZ.out _ b1))
    clear hb z0 z1 z2 z3 z4 z5 z6 z7 z8 z9 z10 z11 z12 z13 z14 z15
    obtain ⟨z0, z1, z2, z3, z4, z5, z6, z7, z8, z9, z10, z11, z12, z13, z14, z15⟩ := HBX.out _ b2
    go_wp2
    go_ret
    exact ⟨end_string (show jobOut x = jobT x by unfold jobOut; rw [Hq1.out]; rfl).symm, HBW.out _ b2⟩
set_option maxHeartbeats 16000000 in
set_option maxRecDepth 100000 in
theorem specJobText {cs : Array Value} {x : Job} (w : World) (h : Rd.rd (Old w) w cs.toList x) :
    Calls Tryz.prog 11 #[.agg cs] w fun e w' => e = .returned (.string (jobOut x)) ∧ Below w.heap.size w w' := by
  have h0 := h
  obtain ⟨a12, c12, a13, c13, hcs, f0, f1, f2, f3, f4, f6, f7, f8, f9, f10, f12, f13, f14, f15⟩ := rdJob h
  obtain rfl := arr_of_list hcs
  clear hcs h
  have hW0 := heap_alloc_new w (.cells #[.int .i64 x.world.inp.tag, .string x.world.inp.fs, .string x.world.inp.rs, .string x.world.inp.ofs, .string x.world.inp.ors, .bool x.world.inp.head, .int .i64 x.world.out.tag, .string x.world.out.fs, .string x.world.out.rs, .string x.world.out.ofs, .string x.world.out.ors, .bool x.world.out.head, .slice a12 x.world.files.length c12, .slice a13 x.world.args.length c13, .string x.source, .int .i64 x.fuel] 37)
  have HBX := hid (fun (w' : World) (hb : Below (w.heap.size + 1) (w.alloc (.cells #[.int .i64 x.world.inp.tag, .string x.world.inp.fs, .string x.world.inp.rs, .string x.world.inp.ofs, .string x.world.inp.ors, .bool x.world.inp.head, .int .i64 x.world.out.tag, .string x.world.out.fs, .string x.world.out.rs, .string x.world.out.ofs, .string x.world.out.ors, .bool x.world.out.head, .slice a12 x.world.files.length c12, .slice a13 x.world.args.length c13, .string x.source, .int .i64 x.fuel] 37)) w') => blk16c ((hb.block w.heap.size (Nat.lt_succ_self _)).trans hW0))
  have HBW := hid (fun (w' : World) (hb : Below (w.heap.size + 1) (w.alloc (.cells #[.int .i64 x.world.inp.tag, .string x.world.inp.fs, .string x.world.inp.rs, .string x.world.inp.ofs, .string x.world.inp.ors, .bool x.world.inp.head, .int .i64 x.world.out.tag, .string x.world.out.fs, .string x.world.out.rs, .string x.world.out.ofs, .string x.world.out.ors, .bool x.world.out.head, .slice a12 x.world.files.length c12, .slice a13 x.world.args.length c13, .string x.source, .int .i64 x.fuel] 37)) w') => (ext_alloc w (.cells #[.int .i64 x.world.inp.tag, .string x.world.inp.fs, .string x.world.inp.rs, .string x.world.inp.ofs, .string x.world.inp.ors, .bool x.world.inp.head, .int .i64 x.world.out.tag, .string x.world.out.fs, .string x.world.out.rs, .string x.world.out.ofs, .string x.world.out.ors, .bool x.world.out.head, .slice a12 x.world.files.length c12, .slice a13 x.world.args.length c13, .string x.source, .int .i64 x.fuel] 37)).trans (hb.mono (Nat.le_succ _)))
  have HSZ := hid (fun (w' : World) (hb : Below (w.heap.size + 1) (w.alloc (.cells #[.int .i64 x.world.inp.tag, .string x.world.inp.fs, .string x.world.inp.rs, .string x.world.inp.ofs, .string x.world.inp.ors, .bool x.world.inp.head, .int .i64 x.world.out.tag, .string x.world.out.fs, .string x.world.out.rs, .string x.world.out.ofs, .string x.world.out.ors, .bool x.world.out.head, .slice a12 x.world.files.length c12, .slice a13 x.world.args.length c13, .string x.source, .int .i64 x.fuel] 37)) w') => (show w.heap.size + 1 ≤ w'.heap.size from by have := hb.size; simp at this; exact this))
  clear hW0
  have hb0 := Below.refl (w.heap.size + 1) (w.alloc (.cells #[.int .i64 x.world.inp.tag, .string x.world.inp.fs, .string x.world.inp.rs, .string x.world.inp.ofs, .string x.world.inp.ors, .bool x.world.inp.head, .int .i64 x.world.out.tag, .string x.world.out.fs, .string x.world.out.rs, .string x.world.out.ofs, .string x.world.out.ors, .bool x.world.out.head, .slice a12 x.world.files.length c12, .slice a13 x.world.args.length c13, .string x.source, .int .i64 x.fuel] 37))
  obtain ⟨z0, z1, z2, z3, z4, z5, z6, z7, z8, z9, z10, z11, z12, z13, z14, z15⟩ := HBX.out _ hb0
  go_enter Tryz.func11, Tryz.ntmps11
  go_wp2_with fail
  refine (specJobOk (x := x) _ (by exact Rd.later (HBW.out _ hb0) h0)).mono ?_
  rintro e w1 ⟨rfl, hb⟩
  have b1 := hb0.trans (hb.mono (HSZ.out _ hb0))
  clear hb z0 z1 z2 z3 z4 z5 z6 z7 z8 z9 z10 z11 z12 z13 z14 z15
  obtain ⟨z0, z1, z2, z3, z4, z5, z6, z7, z8, z9, z10, z11, z12, z13, z14, z15⟩ := HBX.out _ b1
  obtain ⟨q1, hq1⟩ : ∃ b, jobOk x = b := ⟨_, rfl⟩
  rw [hq1]
  have Hq1 := hid hq1
  clear hq1
  cases q1 with
  | false =>
    go_wp2
    go_ret
    exact ⟨end_string (show jobOut x = ⟨#[]⟩ by unfold jobOut; rw [Hq1.out]; rfl).symm, HBW.out _ b1⟩
  | true =>
    go_wp2_with fail
    refine (specJobT (x := x) _ (by exact Rd.later (HBW.out _ b1) h0) (jobOk_good Hq1.out)).mono ?_
    rintro e w2 ⟨rfl, hb⟩
    have b2 := b1.trans (hb.mono (HSZ.out _ b1))
    clear hb z0 z1 z2 z3 z4 z5 z6 z7 z8 z9 z10 z11 z12 z13 z14 z15
    obtain ⟨z0, z1, z2, z3, z4, z5, z6, z7, z8, z9, z10, z11, z12, z13, z14, z15⟩ := HBX.out _ b2
    go_wp2
    go_ret
    exact ⟨end_string (show jobOut x = jobT x by unfold jobOut; rw [Hq1.out]; rfl).symm, HBW.out _ b2⟩
end Go.Proofs.YtkmkencodcfloaaGreatDoor
