/-
  What is proved here: the program's ArrDrop: what it returns, in fresh rows. No condition but the size.
-/
import Derived.Test.YtommldonooicjaaDoorFill
import Derived.Test.YtommldonooicjaaDoorMarkArr
import Derived.Deep.RegionHeld3
namespace Go.Proofs.YtommldonooicjaaDoor
open Go.RowKit
set_option linter.unusedVariables false
set_option linter.unusedSimpArgs false

def dropAt {α : Type} (l : List α) (k : Nat) : List α := l.take k ++ l.drop (k + 1)
theorem dropAt_len {α : Type} (l : List α) {k : Nat} (hk : k < l.length) : (dropAt l k).length = l.length - 1 := by
  unfold dropAt; rw [List.length_append, List.length_take, List.length_drop]; omega
theorem dropAt_mem {α : Type} {l : List α} {k : Nat} {x : α} (h : x ∈ dropAt l k) : x ∈ l := by
  unfold dropAt at h
  rcases List.mem_append.1 h with h | h
  · exact List.mem_of_mem_take h
  · exact List.mem_of_mem_drop h
def arrDrop (x : Arr) (s : ByteArray) : Arr := if arrAt x s < 0 then arrFill x else ⟨dropAt x.keys (arrAt x s).toNat, dropAt (fillK x.vals x.keys.length) (arrAt x s).toNat⟩
theorem strs_dropAt (xs : List ByteArray) (k : Nat) : (strCellsL xs).take (k * 1) ++ (strCellsL xs).drop ((k + 1) * 1) = strCellsL (dropAt xs k) := by
  simp [strCellsL, dropAt]
theorem vals_take (xs : List Val) (k : Nat) (hk : k ≤ xs.length) : (valsCells xs).take (k * 5) = valsCells (xs.take k) := by
  have e1 : valsCells xs = valsCells (xs.take k) ++ valsCells (xs.drop k) := by rw [← valsCells_append, List.take_append_drop]
  rw [e1, List.take_left' (by rw [valsCells_len, List.length_take, Nat.min_eq_left hk])]
theorem vals_dropAt (xs : List Val) (k : Nat) (hk : k < xs.length) : (valsCells xs).take (k * 5) ++ (valsCells xs).drop ((k + 1) * 5) = valsCells (dropAt xs k) := by
  rw [vals_take xs k (by omega), vals_drop xs (k + 1) (by omega), ← valsCells_append]
  rfl
theorem Off.own {g : Nat} {w w' : World} {B : Nat} {e : TypeId} {size : Nat} {v : Value} {n : Nat} {xs : List Value} (h : Off g w w') (ho : w.ownsRow B e size v n xs) (hv : v.ownBlock ≠ some g) : w'.ownsRow B e size v n xs :=
  ho.kept (row := some g) ⟨h.os, h.tape, h.output, h.size, fun k hk hne => h.block k hk (fun e => hne (by rw [e]))⟩ (by cases hq : v.ownBlock with | none => simp | some q => right; rw [hq] at hv; exact hv)
theorem Off.cells {g : Nat} {w w' : World} (h : Off g w w') : (∀ b o, b < w.heap.size → b ≠ g → w'.cell? ⟨b, o, none⟩ = w.cell? ⟨b, o, none⟩) ∧ (∀ b o, b < w.heap.size → b ≠ g → w'.frozen? ⟨b, o, none⟩ = w.frozen? ⟨b, o, none⟩) :=
  ⟨fun b o hb hg => World.cell?_of_block (h.block b hb hg), fun b o hb hg => World.frozen?_of_block (h.block b hb hg)⟩
theorem Off.bel {g B : Nat} {w0 w w' : World} (h : Off g w w') (hb : Below B w0 w) (hg : B ≤ g) (hB : B ≤ w0.heap.size) : Below B w0 w' :=
  ⟨h.os.trans hb.os, h.tape.trans hb.tape, h.output.trans hb.output, Nat.le_trans hb.size h.size, fun c hc => (h.block c (by have := hb.size; omega) (by omega)).trans (hb.block c hc)⟩
/-- an array of two rows of the call's own -/
theorem rdArr_own {w : World} {A B C : Nat} {e1 e2 : TypeId} {u v : Value} {x : Arr} (h1 : w.ownsRow B e1 1 u x.keys.length (strCellsL x.keys)) (h2 : w.ownsRow C e2 5 v x.vals.length (valsCells x.vals)) (hB : A ≤ B) (hC : A ≤ C) (hs : ∀ s ∈ x.keys, s.size ≤ 9223372036854775807) (hv : ∀ y ∈ x.vals, vOk y) : Rd.rd (New A w) w #[u, v].toList x := by
  obtain ⟨a0, c0, rfl⟩ := own_sl h1
  obtain ⟨a1, c1, rfl⟩ := own_sl h2
  exact rdArr_mk (Rd.mono (fun b hb => ⟨Nat.le_trans hB hb.1, hb.2⟩) (own_strsN h1 hs)) (Rd.mono (fun b hb => ⟨Nat.le_trans hC hb.1, hb.2⟩) (own_valsN h2 hv))
theorem owArr_own {w : World} {A B C : Nat} {e1 e2 : TypeId} {u v : Value} {x : Arr} (h1 : w.ownsRow B e1 1 u x.keys.length (strCellsL x.keys)) (h2 : w.ownsRow C e2 5 v x.vals.length (valsCells x.vals)) (hB : A ≤ B) (hC : A ≤ C) (hne : ∀ q, u.ownBlock = some q → v.ownBlock = some q → False) : OwArr (New A w) w x #[u, v] := by
  refine ⟨fun b => New A w b ∧ u.ownBlock = some b, fun b => New A w b ∧ v.ownBlock = some b, u, v, rfl, fun b h => h.1, fun b h => h.1, fun b h k => hne b h.2 k.2, ?_, ?_⟩
  · rcases h1.2 with ⟨rfl, hn⟩ | ⟨g, cap, cur, rfl, hb, hg, hnc, hcm, hcs, htake⟩
    · exact ⟨none, 0, by rw [hn], fun h => absurd h (by omega)⟩
    · exact ow_row hg ⟨⟨by omega, (Array.getElem?_eq_some_iff.1 hg).1⟩, rfl⟩ (by rw [hcs]; omega)
  · rcases h2.2 with ⟨rfl, hn⟩ | ⟨g, cap, cur, rfl, hb, hg, hnc, hcm, hcs, htake⟩
    · exact ⟨none, 0, by rw [hn], fun h => absurd h (by omega)⟩
    · exact ow_row hg ⟨⟨by omega, (Array.getElem?_eq_some_iff.1 hg).1⟩, rfl⟩ (by rw [hcs]; exact Nat.mul_le_mul_right _ hnc)

set_option maxHeartbeats 8000000 in
set_option maxRecDepth 100000 in
theorem implDrop {cs : Array Value} {x : Arr} (s : ByteArray) (w : World) (h : Rd.rd (Old w) w cs.toList x) (hn : x.keys.length ≤ 1048576) :
    Calls Tryd.prog 14 #[.agg cs, .string s] w fun e w' => ∃ cs' : Array Value, e = .returned (.agg cs') ∧ Rd.rd (New w.heap.size w') w' cs'.toList (arrDrop x s) ∧ OwArr (New w.heap.size w') w' (arrDrop x s) cs' ∧ Below w.heap.size w w' := by
  have H0 := hid h
  obtain ⟨a0, c0, a1, c1, hcs, f0, f1⟩ := rdArr h
  obtain rfl := arr_of_list hcs
  have HVK := hid (fillK_ok (vals_ok f1) x.keys.length)
  have HSK := hid (strs_ok f0)
  have F0 := hid f0
  have hle := arrAt_le x s
  have HAT := hid (show nameAt x.keys s - 1 = arrAt x s from rfl)
  clear hcs h f0 f1
  go_enter Tryd.func14, Tryd.ntmps14
  go_wp2_with fail
  refine (implFilled _ (by exact Rd.later (ext_trans (ext_alloc _ _) (ext_alloc _ _)) H0.out) hn).mono ?_
  rintro e w1 ⟨_, u, v, rfl, rfl, hb1, C, hC, hou, ⟨gv, rfl, hgv⟩, hov⟩
  simp at hC hb1 hov
  have hB1 : Below w.heap.size w w1 := ext_trans (ext_trans (ext_alloc _ _) (ext_alloc _ _)) (by simpa using hb1)
  have hbc := (⟨fun b o h => hb1.cell (p := ⟨b, o, none⟩) h, fun b o h => hb1.frozen (p := ⟨b, o, none⟩) h⟩ : (∀ b o, b < w.heap.size + 1 + 1 → w1.cell? ⟨b, o, none⟩ = _) ∧ (∀ b o, b < w.heap.size + 1 + 1 → w1.frozen? ⟨b, o, none⟩ = _))
  have hgv1 : w.heap.size + 1 + 1 ≤ gv ∧ gv < w1.heap.size := hov.lt gv rfl
  have s10 : w1.cell? ⟨w.heap.size, 0, none⟩ = some (.slice a0 x.keys.length c0) := (hbc.1 w.heap.size 0 (by omega)).trans (by simp)
  have s20 : w1.cell? ⟨w.heap.size + 1, 0, none⟩ = some (.slice none 0 0) := (hbc.1 (w.heap.size + 1) 0 (by omega)).trans (by simp)
  have s21 : w1.cell? ⟨w.heap.size + 1, 1, none⟩ = some (.slice none 0 0) := (hbc.1 (w.heap.size + 1) 1 (by omega)).trans (by simp)
  have z20 : w1.frozen? ⟨w.heap.size + 1, 0, none⟩ = false := (hbc.2 (w.heap.size + 1) 0 (by omega)).trans (by simp)
  have z21 : w1.frozen? ⟨w.heap.size + 1, 1, none⟩ = false := (hbc.2 (w.heap.size + 1) 1 (by omega)).trans (by simp)
  have hl1 : w.heap.size + 1 < w1.heap.size := by omega
  have hl1' : w.heap.size < w1.heap.size := by omega
  have HOU := hid hou
  have HOV := hid hov
  obtain ⟨au, cu, rfl⟩ := own_sl hou
  clear hou hov hbc hb1
  go_wp2_with fail
  refine (sIndexStr s _ (by exact Rd.later (ext_trans hB1 (ext_alloc _ _)) F0.out)).mono ?_
  rintro e w2 ⟨rfl, rfl⟩
  rw [HAT.out]
  by_cases hat : arrAt x s < 0
  · have HR := hid (show arrDrop x s = arrFill x by unfold arrDrop; rw [if_pos hat])
    go_wp2
    refine bodyPost_ret (v := .agg #[.slice au x.keys.length cu, .slice (some ⟨gv, 0, none⟩) x.keys.length x.keys.length]) (by simp [results, Tryd.results14, go_sem, s20, s21, z20, z21, hl1]) rfl ⟨_, rfl, ?_, ?_, ?_⟩
    · rw [HR.out]
      exact rdArr_own (x := arrFill x) (B := C) (C := w.heap.size + 1 + 1) (e1 := 9) (e2 := 31) (by repeat' (first | exact HOU.out | (refine ownsRow_setCell_below ?_ ?_ _) | (refine World.ownsRow.alloc ?_ _) | (show w.heap.size + 1 < _; omega) | omega)) (by show World.ownsRow _ _ _ _ _ (fillK x.vals x.keys.length).length _; rw [fillK_len]; exact (by repeat' (first | exact HOV.out | (refine ownsRow_setCell_below ?_ ?_ _) | (refine World.ownsRow.alloc ?_ _) | (show w.heap.size + 1 < _; omega) | omega))) (by omega) (by omega) HSK.out HVK.out
    · rw [HR.out]
      exact owArr_own (x := arrFill x) (B := C) (C := w.heap.size + 1 + 1) (e1 := 9) (e2 := 31) (by repeat' (first | exact HOU.out | (refine ownsRow_setCell_below ?_ ?_ _) | (refine World.ownsRow.alloc ?_ _) | (show w.heap.size + 1 < _; omega) | omega)) (by show World.ownsRow _ _ _ _ _ (fillK x.vals x.keys.length).length _; rw [fillK_len]; exact (by repeat' (first | exact HOV.out | (refine ownsRow_setCell_below ?_ ?_ _) | (refine World.ownsRow.alloc ?_ _) | (show w.heap.size + 1 < _; omega) | omega))) (by omega) (by omega) (fun q h1 h2 => by have := (HOU.out.lt q h1).1; simp [Value.ownBlock] at h2; omega)
    · repeat' (first | (with_reducible exact hB1) | (with_reducible refine Below.setCell ?_ ?_ _) | (with_reducible refine Below.alloc ?_ ?_ _) | (simp; done) | (simp; omega) | omega)
  · obtain ⟨k, hk⟩ := Int.eq_ofNat_of_zero_le (show 0 ≤ arrAt x s by omega)
    have hkn : k < x.keys.length := by omega
    have HR := hid (show arrDrop x s = ⟨dropAt x.keys k, dropAt (fillK x.vals x.keys.length) k⟩ by unfold arrDrop; rw [if_neg hat, hk]; rfl)
    rw [hk]
    have hkz : ¬ (k : Int) < 0 := by omega
    obtain ⟨gu, cu', hu, hgu1, hgu2⟩ := HOU.out.form (by omega)
    simp only [Value.slice.injEq, true_and] at hu
    obtain ⟨rfl, rfl⟩ := hu
    have HOU2 := hid (HOU.out.alloc (.cells #[.slice (some ⟨gu, 0, none⟩) x.keys.length cu, .slice (some ⟨gv, 0, none⟩) x.keys.length x.keys.length] 27))
    have HOV2 := hid (HOV.out.alloc (.cells #[.slice (some ⟨gu, 0, none⟩) x.keys.length cu, .slice (some ⟨gv, 0, none⟩) x.keys.length x.keys.length] 27))
    obtain ⟨w2, hw2⟩ : ∃ w2, w1.alloc (.cells #[.slice (some ⟨gu, 0, none⟩) x.keys.length cu, .slice (some ⟨gv, 0, none⟩) x.keys.length x.keys.length] 27) = w2 := ⟨_, rfl⟩
    have t20 : w2.cell? ⟨w.heap.size + 1, 0, none⟩ = some (.slice none 0 0) := by rw [← hw2]; exact ((ext_alloc _ _).cell (p := ⟨w.heap.size + 1, 0, none⟩) hl1).trans s20
    have t21 : w2.cell? ⟨w.heap.size + 1, 1, none⟩ = some (.slice none 0 0) := by rw [← hw2]; exact ((ext_alloc _ _).cell (p := ⟨w.heap.size + 1, 1, none⟩) hl1).trans s21
    have y20 : w2.frozen? ⟨w.heap.size + 1, 0, none⟩ = false := by rw [← hw2]; exact ((ext_alloc _ _).frozen (p := ⟨w.heap.size + 1, 0, none⟩) hl1).trans z20
    have y21 : w2.frozen? ⟨w.heap.size + 1, 1, none⟩ = false := by rw [← hw2]; exact ((ext_alloc _ _).frozen (p := ⟨w.heap.size + 1, 1, none⟩) hl1).trans z21
    have t30 : w2.cell? ⟨w1.heap.size, 0, none⟩ = some (.slice (some ⟨gu, 0, none⟩) x.keys.length cu) := by rw [← hw2]; simp
    have t31 : w2.cell? ⟨w1.heap.size, 1, none⟩ = some (.slice (some ⟨gv, 0, none⟩) x.keys.length x.keys.length) := by rw [← hw2]; simp
    have hs2 : w2.heap.size = w1.heap.size + 1 := by rw [← hw2]; simp
    have hB2 : Below w.heap.size w w2 := by rw [← hw2]; exact ext_trans hB1 (ext_alloc _ _)
    rw [hw2] at HOU2 HOV2 ⊢
    have hw1 : IntKind.i64.wrap ((k : Int) + 1) = ((k + 1 : Nat) : Int) := IntWalk.i64_in _ (by omega)
    clear hw2 s10 s20 s21 z20 z21 HOU HOV hat hle
    go_wp2_with fail
    go_region_held3 (fun w' => w'.cell? ⟨w1.heap.size, 0, none⟩ = some (.slice (some ⟨gu, 0, none⟩) x.keys.length cu) ∧ w'.cell? ⟨w1.heap.size, 1, none⟩ = some (.slice (some ⟨gv, 0, none⟩) x.keys.length x.keys.length)) (first | (simp [*]; done) | exact ⟨(World.cell?_setCell_other _ _ _ _ (by intro e; simp only [Addr.mk.injEq] at e; omega)).trans ((World.cell?_setCell_other _ _ _ _ (by intro e; simp only [Addr.mk.injEq] at e; omega)).trans o30), (World.cell?_setCell_other _ _ _ _ (by intro e; simp only [Addr.mk.injEq] at e; omega)).trans ((World.cell?_setCell_other _ _ _ _ (by intro e; simp only [Addr.mk.injEq] at e; omega)).trans o31)⟩)
      (first
        | (go_at_call 38; refine (delStrs C gu x.keys.length cu k (k + 1) (strCellsL x.keys) w2.drew HOU2.out.drew hkn rfl (by intro u hu; simp only [strCellsL, List.mem_map] at hu; obtain ⟨y, _, rfl⟩ := hu; rfl)).mono ?_; rintro e w3 ⟨rfl, hown3, ho3⟩; replace ho3 : Off gu w2 w3 := ⟨ho3.os, ho3.tape, ho3.output, ho3.size, ho3.block⟩; obtain ⟨hc3, hf3⟩ := ho3.cells; have p30 := (hc3 w1.heap.size 0 (by omega) (by omega)).trans t30; have p31 := (hc3 w1.heap.size 1 (by omega) (by omega)).trans t31)
        | (go_at_call 39; refine (delVals (w.heap.size + 1 + 1) gv x.keys.length x.keys.length k (k + 1) (valsCells (fillK x.vals x.keys.length)) _ (ho3.own HOV2.out (by simp only [Value.ownBlock, ne_eq, Option.some.injEq]; omega)) hkn rfl (one_valsCells _)).mono ?_; rintro e w4 ⟨rfl, hown4, ho4⟩; have hs3 := ho3.size; have hs4 := ho4.size; obtain ⟨hc4, hf4⟩ := ho4.cells; have o30 := (hc4 w1.heap.size 0 (by omega) (by omega)).trans p30; have o31 := (hc4 w1.heap.size 1 (by omega) (by omega)).trans p31; have q20 := (hc4 (w.heap.size + 1) 0 (by omega) (by omega)).trans ((hc3 (w.heap.size + 1) 0 (by omega) (by omega)).trans t20); have q21 := (hc4 (w.heap.size + 1) 1 (by omega) (by omega)).trans ((hc3 (w.heap.size + 1) 1 (by omega) (by omega)).trans t21); have x20 := (hf4 (w.heap.size + 1) 0 (by omega) (by omega)).trans ((hf3 (w.heap.size + 1) 0 (by omega) (by omega)).trans y20); have x21 := (hf4 (w.heap.size + 1) 1 (by omega) (by omega)).trans ((hf3 (w.heap.size + 1) 1 (by omega) (by omega)).trans y21); have HO3 := hid (ho4.own hown3 (by simp only [Value.ownBlock, ne_eq, Option.some.injEq]; omega)); have HO4 := hid hown4; have hB4 : Below w.heap.size w w4 := ho4.bel (ho3.bel hB2 (by omega) (Nat.le_refl _)) (by omega) (Nat.le_refl _)))
    go_wp2
    refine bodyPost_ret (v := .agg #[.slice (some ⟨gu, 0, none⟩) (x.keys.length - 1) cu, .slice (some ⟨gv, 0, none⟩) (x.keys.length - 1) x.keys.length]) (by simp [results, Tryd.results14, go_sem, q20, q21, x20, x21]) rfl ⟨_, rfl, ?_, ?_, ?_⟩
    · rw [HR.out]
      refine rdArr_own (x := ⟨dropAt x.keys k, dropAt (fillK x.vals x.keys.length) k⟩) (B := C) (C := w.heap.size + 1 + 1) (e1 := 9) (e2 := 31) ?_ ?_ (by omega) (by omega) (fun q hq => HSK.out q (dropAt_mem hq)) (fun q hq => HVK.out q (dropAt_mem hq))
      · rw [dropAt_len _ hkn, ← strs_dropAt]
        repeat' (first | exact HO3.out | (refine ownsRow_setCell_below ?_ ?_ _) | (show w.heap.size + 1 < _; omega))
      · rw [dropAt_len _ (by rw [fillK_len]; exact hkn), fillK_len, ← vals_dropAt _ _ (by rw [fillK_len]; exact hkn)]
        repeat' (first | exact HO4.out | (refine ownsRow_setCell_below ?_ ?_ _) | (show w.heap.size + 1 < _; omega))
    · rw [HR.out]
      refine owArr_own (x := ⟨dropAt x.keys k, dropAt (fillK x.vals x.keys.length) k⟩) (B := C) (C := w.heap.size + 1 + 1) (e1 := 9) (e2 := 31) ?_ ?_ (by omega) (by omega) (fun q h1 h2 => by simp [Value.ownBlock] at h1 h2; omega)
      · rw [dropAt_len _ hkn, ← strs_dropAt]
        repeat' (first | exact HO3.out | (refine ownsRow_setCell_below ?_ ?_ _) | (show w.heap.size + 1 < _; omega))
      · rw [dropAt_len _ (by rw [fillK_len]; exact hkn), fillK_len, ← vals_dropAt _ _ (by rw [fillK_len]; exact hkn)]
        repeat' (first | exact HO4.out | (refine ownsRow_setCell_below ?_ ?_ _) | (show w.heap.size + 1 < _; omega))
    · repeat' (first | (with_reducible exact hB4) | (with_reducible refine Below.setCell ?_ ?_ _) | (simp; done) | (simp; omega) | omega)
end Go.Proofs.YtommldonooicjaaDoor
