/-
  What is proved here: strings.Split, impl.paragraphs, impl.Lines. The condition 'Mx' says that the library's MaxLen holds an int; 'Tabs', that utf8's tables lie in the world.
-/
import Derived.Test.YtenfpfjpcpmhiaaDoorSplitLaw
import Derived.Test.YtenfpfjpcpmhiaaDoorFileOk
import Derived.Test.YtenfpfjpcpmhiaaDoorShelfB
import Derived.Test.YtenfpfjpcpmhiaaDoorArrOk
import Derived.Test.YtenfpfjpcpmhiaaDoorDrawLines
import Derived.Test.YtenfpfjpcpmhiaaDoorPutSt
namespace Go.Proofs.YtenfpfjpcpmhiaaDoor
open Go.RowKit
set_option linter.unusedVariables false
set_option linter.unusedSimpArgs false

def Mx (w : World) : Prop := ∃ m : Int, w.cell? ⟨2, 0, none⟩ = some (.int .i64 m)
theorem mx_below {w w' : World} (h : Mx w) (hb : Below w.heap.size w w') : Mx w' := by
  obtain ⟨m, hm⟩ := h
  exact ⟨m, keeps_cells hb _ _ hm⟩
theorem parts_size (sep : ByteArray) (h1 : 1 ≤ sep.size) : ∀ (n : Nat) (s : ByteArray), s.size ≤ n → (partsB s sep).length ≤ s.size + 1 ∧ ∀ p ∈ partsB s sep, p.size ≤ s.size := by
  intro n
  induction n with
  | zero =>
    intro s hs
    rcases Lib.indexB_cases s sep with h | ⟨i, h, hi⟩
    · rw [partsB_miss h]; exact ⟨by simp, fun p hp => by simp only [List.mem_singleton] at hp; rw [hp]; exact Nat.le_refl _⟩
    · omega
  | succ n ih =>
    intro s hs
    rcases Lib.indexB_cases s sep with h | ⟨i, h, hi⟩
    · rw [partsB_miss h]; exact ⟨by simp, fun p hp => by simp only [List.mem_singleton] at hp; rw [hp]; exact Nat.le_refl _⟩
    · have hsz : (s.extract (i + sep.size) s.size).size = s.size - (i + sep.size) := by rw [ByteArray.size_extract]; omega
      obtain ⟨h2, h3⟩ := ih _ (show (s.extract (i + sep.size) s.size).size ≤ n by omega)
      rw [partsB_hit h1 h]
      refine ⟨by rw [List.length_cons]; omega, fun p hp => ?_⟩
      rcases List.mem_cons.1 hp with h' | h'
      · rw [h', ByteArray.size_extract]; omega
      · have := h3 p h'; omega
theorem pstep_size (n : Nat) {o : List ByteArray} {b : Bool} {l : ByteArray} {m : Nat} (hl : l.size ≤ n) (ho : ∀ p ∈ o, p.size ≤ m) : ∀ p ∈ (pstep (o, b) l).1, p.size ≤ m + (n + 1) := by
  intro p hp
  unfold pstep at hp
  split at hp
  · exact Nat.le_trans (ho p hp) (by omega)
  · split at hp
    · rcases List.mem_append.1 hp with h | h
      · exact Nat.le_trans (ho p ((List.dropLast_sublist _).subset h)) (by omega)
      · simp only [List.mem_singleton] at h
        rw [h, ByteArray.size_append, ByteArray.size_append]
        have h1 : nlB.size = 1 := rfl
        cases hg : o.getLast? with
        | none => simp only [Option.getD_none]; have h0 : (⟨#[]⟩ : ByteArray).size = 0 := rfl; omega
        | some q => simp only [Option.getD_some]; have := ho q (List.mem_of_getLast? hg); omega
    · rcases List.mem_append.1 hp with h | h
      · exact Nat.le_trans (ho p h) (by omega)
      · simp only [List.mem_singleton] at h
        rw [h]; omega
theorem pFold_size (s : ByteArray) : ∀ k, ∀ p ∈ (pFold s k).1, p.size ≤ k * (s.size + 1) := by
  intro k
  induction k with
  | zero => intro p hp; simp [pFold] at hp
  | succ k ih =>
    by_cases hk : k < (lnsB s).length
    · rw [pFold_succ s k hk]
      have hl : ((lnsB s)[k]).size ≤ s.size := by
        have := (parts_size nlB (by decide) s.size s (Nat.le_refl _)).2
        rw [parts_lnsB] at this
        exact this _ (List.getElem_mem hk)
      have h := pstep_size s.size (o := (pFold s k).1) (b := (pFold s k).2) hl ih
      intro p hp
      have := h p hp
      rw [Nat.succ_mul]
      exact this
    · have : pFold s (k + 1) = pFold s k := by unfold pFold; rw [List.take_of_length_le (by omega), List.take_of_length_le (by omega)]
      rw [this]
      intro p hp
      exact Nat.le_trans (ih p hp) (Nat.mul_le_mul_right _ (by omega))
theorem own_str_last {xs : List ByteArray} (p q : ByteArray) : (strCellsL (xs ++ [p])).set xs.length (.string q) = strCellsL (xs ++ [q]) := by
  unfold strCellsL
  rw [List.map_append, List.map_append, List.set_append_right _ _ (by simp)]
  simp
theorem list_end {α : Type} {l : List α} (h : 0 < l.length) : ∃ a b, l = a ++ [b] := ⟨l.dropLast, l.getLast (by intro e; rw [e] at h; simp at h), (List.dropLast_concat_getLast _).symm⟩

theorem sSplit (s sep : ByteArray) (w : World) (hs : s.size ≤ 100000) (h1 : 1 ≤ sep.size) (hM : Mx w) :
    Calls Tryd.prog 56 #[.string s, .string sep] w fun e w' => ∃ n, e = .returned (.slice (some ⟨w.heap.size, 0, none⟩) n n) ∧ n = (partsB s sep).length ∧ w'.ownsRow w.heap.size 9 1 (.slice (some ⟨w.heap.size, 0, none⟩) n n) n (strCellsL (partsB s sep)) ∧ Below w.heap.size w w' := by
  obtain ⟨m, hm⟩ := hM
  have hl := partsB_len s sep h1
  have hp := (parts_size sep h1 s.size s (Nat.le_refl _)).1
  refine (Tryd.strings_Split s sep m w (by omega) hm h1).mono ?_
  rintro e w' ⟨rfl, rfl⟩
  refine ⟨_, rfl, hl.symm, ?_, ext_alloc _ _⟩
  have := World.ownsRow_lit (base := w.heap.size) (e := 9) (size := 1) w (strCellsL (partsB s sep)).toArray (Lib.countB s sep + 1) (Nat.le_refl _) (by unfold maxLen; omega) (by simp [strCellsL]; omega)
  rw [List.toList_toArray] at this
  exact this
set_option maxHeartbeats 4000000 in
set_option maxRecDepth 100000 in
theorem implParas (s : ByteArray) (w : World) (hs : s.size ≤ 4000) (hM : Mx w) :
    Calls Tryd.prog 55 #[.string s] w fun e w' => ∃ u, e = .returned u ∧ w'.ownsRow w.heap.size 9 1 u (parasOf s).length (strCellsL (parasOf s)) ∧ Below w.heap.size w w' := by
  obtain ⟨ii, hi, hz0, hz1, hz2⟩ := info_parts infoS
  obtain ⟨hpl, hps⟩ := parts_size nlB (by decide) s.size s (Nat.le_refl _)
  rw [parts_lnsB] at hpl hps
  go_enter Tryd.func55, Tryd.ntmps55
  go_wp2_with fail
  refine (sSplit s ⟨#[10]⟩ w (by omega) (by decide) hM).mono ?_
  rintro e w1 ⟨n, rfl, hn, hown, hb1⟩
  rw [show (⟨#[10]⟩ : ByteArray) = nlB from rfl, parts_lnsB] at hn hown
  have HOWN := hid hown
  have HN := hid hn
  have hl1 : w.heap.size < w1.heap.size := (hown.lt _ rfl).2
  have hn1 : n ≤ 4001 := by omega
  clear hown hn
  go_wp2
  go_loopw [3, 4, 10] (fun out op iv wr => ∃ (k : Nat) (u : Value) (o : List ByteArray) (b : Bool), u = out ∧ op = .bool b ∧ iv = .int .i64 (k : Int) ∧ k ≤ n ∧ Hid (pFold s k = (o, b)) ∧ Hid (wr.ownsRow w1.heap.size 9 1 u o.length (strCellsL o)) ∧ Below w1.heap.size w1 wr) (fun _ _ iv _ => n - (intOf iv).toNat)
  case atStart => exact ⟨0, .slice none 0 0, [], false, rfl, rfl, rfl, Nat.zero_le _, hid rfl, hid ⟨rfl, Or.inl ⟨rfl, rfl⟩⟩, Below.refl _ _⟩
  case round =>
    obtain ⟨k, u, o, b, rfl, rfl, rfl, hk, HF, HU, hb⟩ := hrel
    by_cases hlt : k < n
    · have hkl : (k : Int) < (n : Int) := by omega
      have hkk : k < (lnsB s).length := by rw [← HN.out]; exact hlt
      obtain ⟨line, hline⟩ : ∃ line, (lnsB s)[k] = line := ⟨_, rfl⟩
      have hlsz : line.size ≤ 4000 := by rw [← hline]; exact Nat.le_trans (hps _ (List.getElem_mem hkk)) hs
      have hcell : wr.cell? ⟨w.heap.size, k, none⟩ = some (.string line) := by
        refine (hb.cell (p := ⟨w.heap.size, k, none⟩) hl1).trans ?_
        rw [HOWN.out.cellAt k (by omega)]
        unfold strCellsL
        rw [List.getElem?_map, List.getElem?_eq_getElem hkk, hline]
        rfl
      have hS := pFold_succ s k hkk
      rw [hline, HF.out] at hS
      have hosz : ∀ p ∈ o, p.size ≤ 20000000 := by
        have h := pFold_size s k
        rw [HF.out] at h
        intro p hp
        refine Nat.le_trans (h p hp) ?_
        exact Nat.le_trans (Nat.mul_le_mul (show k ≤ 4001 by omega) (show s.size + 1 ≤ 4001 by omega)) (by decide)
      have hol := pFold_len s k
      rw [HF.out] at hol
      have hol1 : o.length ≤ k := hol.1
      have hol2 : b = true → 0 < o.length := hol.2
      clear hol
      by_cases he : line.size = 0
      · obtain rfl : line = ⟨#[]⟩ := by apply ba_ext; exact List.eq_nil_of_length_eq_zero he
        rw [pstep_empty o b he] at hS
        have HS := hid hS
        clear hi hz0 hz1 hz2 hS hline hol1 hol2
        go_wp2
        go_roundw
        case rel => exact ⟨k + 1, u, o, false, rfl, rfl, by go_num, by omega, HS, HU, hb⟩
        case measure => simp [intOf]; omega
      · have hne0 : (line.toList == (⟨#[]⟩ : ByteArray).toList) = false := ba_ne (fun e => he (by rw [e]; rfl))
        have hne : line.toList ≠ [] := by intro e; rw [e] at hne0; simp at hne0
        have hne1 : (line.toList == []) = false := by simpa using hne
        have hne2 : line.toList.isEmpty = false := by simpa using hne
        have HE := hid he
        cases b with
        | true =>
          obtain ⟨o', r, rfl⟩ := list_end (hol2 rfl)
          rw [pstep_open o' r he] at hS
          have HS := hid hS
          have hrs : r.size ≤ 20000000 := hosz r (by simp)
          have hx : (o' ++ [r]).length = o'.length + 1 := by simp
          have hol3 : o'.length + 1 ≤ 4001 := by omega
          have hu := HU.out
          rw [hx] at hu
          obtain ⟨g, cap, rfl, hg1, hg2⟩ := hu.form (by omega)
          have hg3 : g < wr.heap.size := (hu.lt g rfl).2
          have hc0 : wr.cell? ⟨g, o'.length, none⟩ = some (.string r) := by
            rw [hu.cellAt o'.length (by omega)]
            unfold strCellsL
            rw [List.map_append, List.getElem?_append_right (by simp)]
            simp
          have hz0' := hu.frozenAt o'.length
          have hw1 : IntKind.i64.wrap (((o'.length + 1 : Nat) : Int) - 1) = (o'.length : Int) := by rw [show ((o'.length + 1 : Nat) : Int) - 1 = (o'.length : Int) by omega]; exact IntWalk.i64_in _ (by omega)
          have hw2 : IntKind.i64.wrap ((o'.length : Int) + 1 - 1) = (o'.length : Int) := by rw [show (o'.length : Int) + 1 - 1 = (o'.length : Int) by omega]; exact IntWalk.i64_in _ (by omega)
          have hlt2 : (o'.length : Int) < (o'.length : Int) + 1 := by omega
          have hs1 : ¬ 9223372036854775807 < 1 + line.size := by omega
          have hs2 : ¬ 9223372036854775807 < r.size + (1 + line.size) := by omega
          have hst := (hu.stored o'.length (.string (r ++ (nlB ++ line)))).1
          rw [own_str_last] at hst
          have HST := hid hst
          have hsB := Below.setCell (p := ⟨g, o'.length, none⟩) hb (show w1.heap.size ≤ g by omega) (.string (r ++ (nlB ++ line)))
          clear hi hz0 hz1 hz2 hS hline hol1 hol2 hu hst hx hg1 hg2 HU
          go_wp2
          go_roundw
          case rel => exact ⟨k + 1, _, o' ++ [r ++ (nlB ++ line)], true, rfl, rfl, by go_num, by omega, HS, hid (by rw [List.length_append]; exact HST.out), hsB⟩
          case measure => simp [intOf]; omega
        | false =>
          rw [pstep_new o he] at hS
          have HS := hid hS
          have hlz : line.size ≤ 9223372036854775807 := by omega
          clear hS hline
          go_wp2_with ((at_builtin; refine wpList_append_lies _ rfl (.tmp 14) (.tmp 16) 22 rfl w1.heap.size 9 ii (.string ⟨#[]⟩) 1 16 Tryd.underlying22 hi hz0 hz1 hz2 rfl (by decide) u o.length (strCellsL o) rfl (HU.out.alloc _) ⟨wr.heap.size, 0, none⟩ 1 1 [.string line] rfl rfl (World.news_of_block (cs := #[.string line]) (t := 9) (fr := (0, 0)) (heap_alloc_new wr _)) (by intro u hu; simp at hu; subst hu; rfl) (by decide) (by unfold maxLen; omega) (by omega) (by have := hb.size; simp; omega) _ rfl ?_))
          intro g2 cap2 w3 hown3 hgrow3 hat3 hlt3
          have hb3 : Below w1.heap.size w1 w3 := grown_bel (Below.alloc hb hb.size _) (by have := hb.size; simp; omega) (HU.out.alloc _) hgrow3
          have HO3 := hid hown3
          clear hi hz0 hz1 hz2 hown3 hgrow3 hat3 hol1 hol2
          go_wp2
          go_roundw
          case rel => exact ⟨k + 1, _, o ++ [line], true, rfl, rfl, by go_num, by omega, HS, hid (by rw [List.length_append, strCells_append]; exact HO3.out), hb3⟩
          case measure => simp [intOf]; omega
    · obtain rfl : k = n := by omega
      have hF := HF.out
      rw [HN.out] at hF
      have hP := pFold_all s
      rw [hF] at hP
      have HP : Hid (o = parasOf s) := hid hP
      clear hi hz0 hz1 hz2 hF hP
      go_wp2
      go_ret
      refine ⟨u, rfl, ?_, ext_trans hb1 hb⟩
      rw [← HP.out]
      exact ⟨HU.out.1, HU.out.2.imp id fun ⟨g, cap, cur, e, hg, r⟩ => ⟨g, cap, cur, e, by omega, r⟩⟩
def linesOf (s rs : ByteArray) : List ByteArray := if fileOk s = true then (if lenOf rs = 0 then parasOf s else if lenOf rs = 1 then recsOf s rs else []) else []
theorem own_strs_rd {w : World} {B : Nat} {e : TypeId} {u : Value} {xs : List ByteArray} (h : w.ownsRow B e 1 u xs.length (strCellsL xs)) (hs : ∀ x ∈ xs, x.size ≤ 9223372036854775807) : ∃ a c, u = .slice a xs.length c ∧ Rd.rd (New B w) w [.slice a xs.length c] xs := by
  obtain ⟨a, c, rfl⟩ := own_sl h
  exact ⟨a, c, rfl, own_strsN h hs⟩
theorem rd_none {S : Nat → Prop} {w : World} : Rd.rd S w [.slice none (([] : List ByteArray).length) 0] ([] : List ByteArray) := by
  refine ⟨none, 0, rfl, by decide, by decide, fun h => absurd h (by simp)⟩
theorem paras_size {s : ByteArray} (hs : s.size ≤ 4000) : ∀ p ∈ parasOf s, p.size ≤ 9223372036854775807 := by
  intro p hp
  rw [← pFold_all] at hp
  have h := pFold_size s _ p hp
  have h2 := (parts_size nlB (by decide) s.size s (Nat.le_refl _)).1
  rw [parts_lnsB] at h2
  refine Nat.le_trans h (Nat.le_trans (Nat.mul_le_mul (show (lnsB s).length ≤ 4001 by omega) (show s.size + 1 ≤ 4001 by omega)) (by decide))
set_option maxHeartbeats 4000000 in
set_option maxRecDepth 100000 in
theorem implLines (s rs : ByteArray) (w : World) (hr : rsIn rs = true) (hT : Tabs w) (hM : Mx w) :
    Calls Tryd.prog 17 #[.string s, .string rs] w fun e w' => ∃ a c, e = .returned (.slice a (linesOf s rs).length c) ∧ Rd.rd (New w.heap.size w') w' [.slice a (linesOf s rs).length c] (linesOf s rs) ∧ Below w.heap.size w w' := by
  have hrl := rs_len hr
  go_enter Tryd.func17, Tryd.ntmps17
  go_wp2_with fail
  refine (implIsFile s w hT).mono ?_
  rintro e w1 ⟨rfl, hb1⟩
  have HL := hid (rfl : linesOf s rs = linesOf s rs)
  unfold linesOf at HL
  rcases hf : fileOk s with _ | _
  · have HE : Hid (linesOf s rs = []) := hid (by unfold linesOf; rw [hf]; rfl)
    clear hf HL
    go_wp2
    go_ret
    refine ⟨none, 0, by rw [HE.out]; rfl, ?_, hb1⟩
    rw [HE.out]
    exact rd_none
  · have hsz := file_size hf
    go_wp2_with fail
    refine (implLength rs w1 (tabs_below hT hb1)).mono ?_
    rintro e w2 ⟨rfl, hb2⟩
    have hM2 : Mx w2 := mx_below (mx_below hM hb1) hb2
    have hB2 : Below w.heap.size w w2 := ext_trans hb1 hb2
    have hw2 := hB2.size
    rcases hrl with ⟨h1, h2⟩ | h3
    · have HE : Hid (linesOf s rs = parasOf s) := hid (by unfold linesOf; rw [hf, h2]; rfl)
      rw [h2]
      clear hf HL h2
      go_wp2_with fail
      refine (implParas s w2 hsz hM2).mono ?_
      rintro e w3 ⟨u, rfl, hown, hb3⟩
      obtain ⟨a, c, rfl, hrd⟩ := own_strs_rd hown (paras_size hsz)
      clear hown
      go_wp2
      go_ret
      refine ⟨a, c, by rw [HE.out]; rfl, ?_, ext_trans hB2 hb3⟩
      rw [HE.out]
      exact Rd.mono (fun b hb => ⟨Nat.le_trans hw2 hb.1, hb.2⟩) hrd
    · have hl12 : lenOf rs = 1 ∨ lenOf rs = 2 := by rcases h3 with h | h <;> omega
      have hr1 : 1 ≤ rs.size := by omega
      rcases hl12 with h2 | h2
      · have HE : Hid (linesOf s rs = recsOf s rs) := hid (by unfold linesOf; rw [hf, h2]; rfl)
        rw [h2]
        clear hf HL h2 h3
        go_wp2_with fail
        refine (sSplit s rs w2 (by omega) hr1 hM2).mono ?_
        rintro e w3 ⟨n, rfl, hn, hown, hb3⟩
        have hps := parts_size rs hr1 s.size s (Nat.le_refl _)
        obtain ⟨hp1, hp2⟩ := hps
        have hne := partsB_ne s rs
        obtain ⟨P, hP⟩ : ∃ P, partsB s rs = P := ⟨_, rfl⟩
        have HR : Hid (recsOf s rs = if P.getLast?.getD ⟨#[]⟩ = ⟨#[]⟩ then P.dropLast else P) := hid (by unfold recsOf; rw [hP])
        rw [hP] at hn hown hp1 hp2 hne
        obtain ⟨P', last, rfl⟩ := list_end (List.length_pos_iff.2 hne)
        have hn' : n = P'.length + 1 := by rw [hn]; simp
        subst hn'
        have hrd := own_strsN (xs := P' ++ [last]) (by rw [← hn]; exact hown) (fun x hx => by have := hp2 x hx; omega)
        have hcell : w3.cell? ⟨w2.heap.size, P'.length, none⟩ = some (.string last) := by
          rw [hown.cellAt P'.length (by omega)]
          unfold strCellsL
          rw [List.map_append, List.getElem?_append_right (by simp)]
          simp
        have hPl : P'.length ≤ 4001 := by simp at hp1; omega
        have HRD := hid hrd
        have hwr : IntKind.i64.wrap ((P'.length : Int) + 1 - 1) = (P'.length : Int) := by rw [show (P'.length : Int) + 1 - 1 = (P'.length : Int) by omega]; exact IntWalk.i64_in _ (by omega)
        have hlt : (P'.length : Int) < (P'.length : Int) + 1 := by omega
        have hle : (P'.length : Int) ≤ (P'.length : Int) + 1 := by omega
        have hgl : (P' ++ [last]).getLast?.getD ⟨#[]⟩ = last := by simp
        have hl3 : w2.heap.size < w3.heap.size := (hown.lt _ rfl).2
        by_cases he : last = ⟨#[]⟩
        · have HR2 : Hid (recsOf s rs = P') := hid (by rw [HR.out, hgl, if_pos he]; simp)
          subst he
          clear hown hrd hp1 hp2 hne hn hP HR hgl
          go_wp2
          go_ret
          refine ⟨some ⟨w2.heap.size, 0, none⟩, P'.length + 1, by rw [HE.out, HR2.out]; rfl, ?_, ext_trans hB2 hb3⟩
          rw [HE.out, HR2.out]
          have h := rd_take (k := P'.length) HRD.out (by simp)
          rw [List.take_left' rfl] at h
          exact Rd.mono (fun b hb => ⟨Nat.le_trans hw2 hb.1, hb.2⟩) h
        · have HR2 : Hid (recsOf s rs = P' ++ [last]) := hid (by rw [HR.out, hgl, if_neg he])
          have hne0 : (last.toList == (⟨#[]⟩ : ByteArray).toList) = false := ba_ne he
          have hne3 : last.toList ≠ [] := by intro e; rw [e] at hne0; simp at hne0
          have hne1 : (last.toList == []) = false := by simpa using hne3
          have hne2 : last.toList.isEmpty = false := by simpa using hne3
          clear hown hrd hp1 hp2 hne hn hP HR hgl he
          go_wp2
          go_ret
          refine ⟨some ⟨w2.heap.size, 0, none⟩, P'.length + 1, by rw [HE.out, HR2.out, show (P' ++ [last]).length = P'.length + 1 by simp]; rfl, ?_, ext_trans hB2 hb3⟩
          rw [HE.out, HR2.out]
          have h : Rd.rd (New w2.heap.size w3) w3 [.slice (some ⟨w2.heap.size, 0, none⟩) (P' ++ [last]).length (P'.length + 1)] (P' ++ [last]) := by rw [show (P' ++ [last]).length = P'.length + 1 by simp]; exact HRD.out
          exact Rd.mono (fun b hb => ⟨Nat.le_trans hw2 hb.1, hb.2⟩) h
      · have HE : Hid (linesOf s rs = []) := hid (by unfold linesOf; rw [hf, h2]; rfl)
        rw [h2]
        clear hf HL h2 h3
        go_wp2
        go_ret
        refine ⟨none, 0, by rw [HE.out]; rfl, ?_, hB2⟩
        rw [HE.out]
        exact rd_none
end Go.Proofs.YtenfpfjpcpmhiaaDoor
