/-
  What is proved here: PrefixEnd and Prefix of both packages: the number that a text begins with. The conditions 'Tabs' and 'Mx' speak of the library's tables and of its MaxLen.
-/
import Derived.Test.YtomcoilmpkpoeaaGreatDoorVReadI
import Derived.Test.YtomcoilmpkpoeaaGreatDoorVB
namespace Go.Proofs.YtomcoilmpkpoeaaGreatDoor
open Go.RowKit
set_option linter.unusedVariables false
set_option linter.unusedSimpArgs false

structure NumP where
  sg : List UInt8
  A : List UInt8
  P : List UInt8
  B : List UInt8
  X : List UInt8
  x : Int
def NumP.fits (p : NumP) (l : List UInt8) : Prop :=
  l.take (scanL l) = p.sg ++ (p.A ++ (p.P ++ (p.B ++ p.X))) ∧ isNum p.sg p.A p.P p.B p.X ∧ isExp p.X p.x
theorem numP_ex {l : List UInt8} (h : ¬ scanL l = 0) : ∃ p : NumP, p.fits l := by
  obtain ⟨sg, A, P, B, X, x, h1, h2, h3, _⟩ := scan_parts h
  exact ⟨⟨sg, A, P, B, X, x⟩, h1, h2, h3⟩
open Classical in
noncomputable def numP (l : List UInt8) : NumP := if h : ∃ p : NumP, p.fits l then Classical.choose h else ⟨[], [], [], [], [], 0⟩
theorem numP_fits {l : List UInt8} (h : ¬ scanL l = 0) : (numP l).fits l := by
  unfold numP
  rw [dif_pos (numP_ex h)]
  exact Classical.choose_spec (numP_ex h)
noncomputable def numR (l : List UInt8) : Dec × Int := formD (decide ((numP l).sg = [45])) ((numP l).A ++ (numP l).B) ((numP l).x - ((numP l).B.length : Int))
/-- the text behind the blanks -/
def bodyL (s : ByteArray) : List UInt8 := s.data.toList.drop (startL s.data.toList)
def prefEnd (s : ByteArray) : Int := if okText s = false then -1 else if scanL (bodyL s) = 0 then 0 else ((startL s.data.toList + scanL (bodyL s) : Nat) : Int)
noncomputable def prefixR (s : ByteArray) : Dec × Int := if okText s = false then (dec0, 3) else if scanL (bodyL s) = 0 then (dec0, 0) else numR (bodyL s)
theorem body_len (s : ByteArray) : startL s.data.toList + scanL (bodyL s) ≤ s.size := by
  have h1 := startL_le s.data.toList
  have h2 := scanL_le (bodyL s)
  unfold bodyL at h2 ⊢
  rw [List.length_drop, ← Lib.size_eq] at h2
  rw [← Lib.size_eq] at h1
  omega
theorem blC (b : UInt8) : ([32, 9, 10, 13] : List UInt8).contains b = isBlk b := by
  unfold isBlk
  rw [Bool.eq_iff_iff, isBlkN_iff]
  simp only [List.contains_cons, List.contains_nil, Bool.or_false, Bool.or_eq_true, beq_iff_eq]
  constructor
  · rintro (rfl | rfl | rfl | rfl) <;> decide
  · rintro (h | h | h | h)
    · exact Or.inl (byte_eq h (by decide))
    · exact Or.inr (Or.inl (byte_eq h (by decide)))
    · exact Or.inr (Or.inr (Or.inl (byte_eq h (by decide))))
    · exact Or.inr (Or.inr (Or.inr (byte_eq h (by decide))))
theorem trim_bl (l : List UInt8) : Lib.trimLeftS l [32, 9, 10, 13] = l.drop (startL l) := by
  have : (fun b => ([32, 9, 10, 13] : List UInt8).contains b) = isBlk := funext blC
  unfold Lib.trimLeftS
  rw [this]
  unfold startL
  induction l with
  | nil => rfl
  | cons c r ih =>
    by_cases h : isBlk c = true
    · rw [List.dropWhile_cons_of_pos h, List.takeWhile_cons_of_pos h, List.length_cons, List.drop_succ_cons, ih]
    · rw [List.dropWhile_cons_of_neg h, List.takeWhile_cons_of_neg h]; rfl
/-- a number begins with no blank -/
theorem scan_head {c : UInt8} {r : List UInt8} (h : ¬ scanL (c :: r) = 0) : isBlk c = false := by
  have hb : isBlk c = false ∨ (isSg c = false ∧ isDig c = false ∧ ¬ c.toNat = 46) := by
    by_cases hb : isBlk c = true
    · right
      have := isBlkN_iff.1 hb
      exact ⟨isSg_no (by omega) (by omega), isDig_no (by omega), by omega⟩
    · left; simpa using hb
  rcases hb with hb | ⟨h1, h2, h3⟩
  · exact hb
  · exfalso
    apply h
    unfold scanL
    have e : hd1 isSg (c :: r) = 0 := by rw [hd1_cons, h1]; rfl
    rw [e, List.drop_zero, mant_no h2 (fun h' => h3 h'.1), if_pos rfl]
theorem start_take {l : List UInt8} {k : Nat} (h : ∀ c ∈ (l.drop (startL l)).head?, isBlk c = false) : startL (l.take (startL l + k)) = startL l := by
  induction l with
  | nil => simp [startL_nil]
  | cons c r ih =>
    by_cases hb : isBlk c = true
    · rw [startL_cons, if_pos hb, List.drop_succ_cons] at h
      rw [startL_cons, if_pos hb, show startL r + 1 + k = (startL r + k) + 1 by omega, List.take_succ_cons, startL_cons, if_pos hb, ih h]
    · rw [startL_cons, if_neg hb, Nat.zero_add]
      cases k with
      | zero => rfl
      | succ k => rw [List.take_succ_cons, startL_cons, if_neg hb]
theorem trim_taken {l : List UInt8} (h : ¬ scanL (l.drop (startL l)) = 0) : Lib.trimLeftS (l.take (startL l + scanL (l.drop (startL l)))) [32, 9, 10, 13] = (l.drop (startL l)).take (scanL (l.drop (startL l))) := by
  rw [trim_bl, start_take, List.drop_take]
  · congr 1; omega
  · intro c hc
    cases hd : l.drop (startL l) with
    | nil => rw [hd] at hc; cases hc
    | cons x r =>
      rw [hd] at hc h
      have : x = c := by simpa using hc
      rw [← this]
      exact scan_head h
set_option maxHeartbeats 2000000 in
theorem implPrefEnd (s : ByteArray) (w : World) (hT : Tabs w) :
    Calls Tryz.prog 93 #[.string s] w fun e w' => e = .returned (.int .i64 (prefEnd s)) ∧ Below w.heap.size w w' := by
  obtain ⟨ok, hok⟩ : ∃ b, okText s = b := ⟨_, rfl⟩
  have CT := hid (fun (w : World) (h : Tabs w) => implTextOk s w h)
  rw [hok] at CT
  have hbl := body_len s
  cases ok
  · have HR := hid (show prefEnd s = -1 by unfold prefEnd; rw [if_pos hok])
    clear hok
    go_enter Tryz.func93, Tryz.ntmps93
    go_wp2_with fail
    refine (CT.out _ hT).mono ?_
    rintro e w1 ⟨rfl, hb1⟩
    go_wp2
    go_ret
    rw [HR.out]
    exact ⟨rfl, hb1⟩
  · have hsz := ok_size hok
    obtain ⟨t, ht⟩ : ∃ t, mkB (bodyL s) = t := ⟨_, rfl⟩
    have htd : t.data.toList = bodyL s := by rw [← ht]; rfl
    have CS : Hid (∀ w, Calls Tryz.prog 94 #[.string s, .string ⟨#[32, 9, 10, 13]⟩] w fun e w' => e = .returned (.string t) ∧ Below w.heap.size w w') := hid (fun w => by
      have h := Any.strings_TrimLeft_laid Tryz.lays161 (by kernel_rfl) s ⟨#[32, 9, 10, 13]⟩ w (by decide) (ascii_of_all (by decide))
      rw [show (⟨#[32, 9, 10, 13]⟩ : ByteArray).data.toList = [32, 9, 10, 13] from rfl, trim_bl] at h
      rw [← ht]
      exact h)
    obtain ⟨a, ha⟩ : ∃ a, startL s.data.toList = a := ⟨_, rfl⟩
    have hpe : prefEnd s = if scanL (bodyL s) = 0 then 0 else ((a + scanL (bodyL s) : Nat) : Int) := by unfold prefEnd; rw [if_neg (by rw [hok]; decide), ha]
    rw [ha] at hbl
    have hts : t.size = s.size - a := by rw [Lib.size_eq, htd]; unfold bodyL; rw [List.length_drop, ha, ← Lib.size_eq]
    have CN := hid (fun (w : World) => implDecEnd t w (by omega))
    rw [htd] at CN
    obtain ⟨n, hn⟩ : ∃ n, scanL (bodyL s) = n := ⟨_, rfl⟩
    rw [hn] at hpe CN hbl
    have hsub : (s.size : Int) - (t.size : Int) = (a : Int) := by omega
    have HTS := hid hts
    clear hok ha hn ht htd hts
    by_cases hz : n = 0
    · have HR := hid (show prefEnd s = 0 by rw [hpe, if_pos hz])
      subst hz
      clear hpe
      go_enter Tryz.func93, Tryz.ntmps93
      go_wp2_with fail
      refine (CT.out _ hT).mono ?_
      rintro e w1 ⟨rfl, hb1⟩
      go_wp2_with fail
      refine (CS.out _).mono ?_
      rintro e w2 ⟨rfl, hb2⟩
      go_wp2_with fail
      refine (CN.out _).mono ?_
      rintro e w3 ⟨rfl, rfl⟩
      go_wp2
      go_ret
      rw [HR.out]
      exact ⟨rfl, ext_trans hb1 hb2⟩
    · have HR := hid (show prefEnd s = ((a + n : Nat) : Int) by rw [hpe, if_neg hz])
      have g1 : ((n : Int) == 0) = false := by rw [beq_eq_false_iff_ne]; omega
      clear hpe hz
      go_enter Tryz.func93, Tryz.ntmps93
      go_wp2_with fail
      refine (CT.out _ hT).mono ?_
      rintro e w1 ⟨rfl, hb1⟩
      go_wp2_with fail
      refine (CS.out _).mono ?_
      rintro e w2 ⟨rfl, hb2⟩
      go_wp2_with fail
      refine (CN.out _).mono ?_
      rintro e w3 ⟨rfl, rfl⟩
      go_wp2
      go_ret
      rw [HR.out]
      exact ⟨by first | rfl | (congr 2; omega), ext_trans hb1 hb2⟩
theorem num_text {s : ByteArray} (hok : okText s = true) (h : ¬ scanL (bodyL s) = 0) :
    (s.extract (startL s.data.toList) (startL s.data.toList + scanL (bodyL s))).data.toList = (numP (bodyL s)).sg ++ ((numP (bodyL s)).A ++ ((numP (bodyL s)).P ++ ((numP (bodyL s)).B ++ (numP (bodyL s)).X))) := by
  rw [extL, Nat.add_sub_cancel_left, ← (numP_fits h).1]
  rfl
set_option maxHeartbeats 4000000 in
theorem implPrefix (s : ByteArray) (w : World) (hT : Tabs w) (hM : Mx w) :
    Calls Tryz.prog 51 #[.string s] w fun e w' => e = .returned (formV (prefixR s)) ∧ Below w.heap.size w w' := by
  have CE := hid (fun (w : World) (h : Tabs w) => implPrefEnd s w h)
  by_cases hok : okText s = true
  rotate_left
  · have hok : okText s = false := by simpa using hok
    have HR := hid (show prefixR s = (dec0, 3) by unfold prefixR; rw [if_pos hok])
    rw [show prefEnd s = -1 by unfold prefEnd; rw [if_pos hok]] at CE
    clear hok
    go_enter Tryz.func51, Tryz.ntmps51
    go_wp2_with fail
    refine (CE.out _ (tabs_below hT (ext_alloc _ _))).mono ?_
    rintro e wN ⟨rfl, hb1⟩
    have hBN : Below (w.heap.size + 1) (w.alloc (.cells #[.bool false, .string ⟨#[]⟩, .int .i64 0] 36)) wN := by have e0 : (w.alloc (.cells #[.bool false, .string ⟨#[]⟩, .int .i64 0] 36)).heap.size = w.heap.size + 1 := (by simp); rw [← e0]; exact hb1
    obtain ⟨hcN, hfN⟩ := bcell hBN
    have hlN : w.heap.size < wN.heap.size := by have := hBN.size; (try simp at this); omega
    have t0 := (hcN w.heap.size 0 (by omega))
    have t1 := (hcN w.heap.size 1 (by omega))
    have t2 := (hcN w.heap.size 2 (by omega))
    have r0 := (hfN w.heap.size 0 (by omega))
    have r1 := (hfN w.heap.size 1 (by omega))
    have r2 := (hfN w.heap.size 2 (by omega))
    clear hcN hfN
    simp at t0 t1 t2 r0 r1 r2
    go_wp2
    refine bodyPost_ret (v := .tuple #[.agg #[.bool false, .string ⟨#[]⟩, .int .i64 0], .int .i64 3]) (by simp [results, Tryz.results51, go_sem, hlN, formV, t0, t1, t2, r0, r1, r2]) rfl ⟨by rw [HR.out]; rfl, ?_⟩
    have hBB : Below w.heap.size w wN := (ext_alloc _ _).trans (hBN.mono (by omega))
    repeat' (first | (with_reducible exact hBB) | (with_reducible refine Below.setCell ?_ ?_ _) | (simp; done) | (simp; omega) | omega)
  have hbl := body_len s
  have hsz := ok_size hok
  by_cases hz : scanL (bodyL s) = 0
  · have HR := hid (show prefixR s = (dec0, 0) by unfold prefixR; rw [if_neg (by rw [hok]; decide), if_pos hz])
    rw [show prefEnd s = 0 by unfold prefEnd; rw [if_neg (by rw [hok]; decide), if_pos hz]] at CE
    clear hok hz
    go_enter Tryz.func51, Tryz.ntmps51
    go_wp2_with fail
    refine (CE.out _ (tabs_below hT (ext_alloc _ _))).mono ?_
    rintro e wN ⟨rfl, hb1⟩
    have hBN : Below (w.heap.size + 1) (w.alloc (.cells #[.bool false, .string ⟨#[]⟩, .int .i64 0] 36)) wN := by have e0 : (w.alloc (.cells #[.bool false, .string ⟨#[]⟩, .int .i64 0] 36)).heap.size = w.heap.size + 1 := (by simp); rw [← e0]; exact hb1
    obtain ⟨hcN, hfN⟩ := bcell hBN
    have hlN : w.heap.size < wN.heap.size := by have := hBN.size; (try simp at this); omega
    have t0 := (hcN w.heap.size 0 (by omega))
    have t1 := (hcN w.heap.size 1 (by omega))
    have t2 := (hcN w.heap.size 2 (by omega))
    have r0 := (hfN w.heap.size 0 (by omega))
    have r1 := (hfN w.heap.size 1 (by omega))
    have r2 := (hfN w.heap.size 2 (by omega))
    clear hcN hfN
    simp at t0 t1 t2 r0 r1 r2
    go_wp2
    refine bodyPost_ret (v := .tuple #[.agg #[.bool false, .string ⟨#[]⟩, .int .i64 0], .int .i64 0]) (by simp [results, Tryz.results51, go_sem, hlN, formV, t0, t1, t2, r0, r1, r2]) rfl ⟨by rw [HR.out]; rfl, ?_⟩
    have hBB : Below w.heap.size w wN := (ext_alloc _ _).trans (hBN.mono (by omega))
    repeat' (first | (with_reducible exact hBB) | (with_reducible refine Below.setCell ?_ ?_ _) | (simp; done) | (simp; omega) | omega)
  obtain ⟨R, hR⟩ : ∃ r, prefixR s = r := ⟨_, rfl⟩
  have hRn : numR (bodyL s) = R := by rw [← hR]; unfold prefixR; rw [if_neg (by rw [hok]; decide), if_neg hz]
  have hfit := numP_fits hz
  have hpe : prefEnd s = ((startL s.data.toList + scanL (bodyL s) : Nat) : Int) := by unfold prefEnd; rw [if_neg (by rw [hok]; decide), if_neg hz]
  rw [hpe] at CE
  obtain ⟨t, ht⟩ : ∃ t, mkB ((bodyL s).take (scanL (bodyL s))) = t := ⟨_, rfl⟩
  have htd : t.data.toList = (bodyL s).take (scanL (bodyL s)) := by rw [← ht]; rfl
  have hts : t.size ≤ 1000 := by
    have h2 := scanL_le (bodyL s)
    rw [Lib.size_eq, htd, List.length_take]
    omega
  have CS : Hid (∀ w, Calls Tryz.prog 94 #[.string (s.extract 0 (startL s.data.toList + scanL (bodyL s))), .string ⟨#[32, 9, 10, 13]⟩] w fun e w' => e = .returned (.string t) ∧ Below w.heap.size w w') := hid (fun w => by
    have h := Any.strings_TrimLeft_laid Tryz.lays161 (by kernel_rfl) (s.extract 0 (startL s.data.toList + scanL (bodyL s))) ⟨#[32, 9, 10, 13]⟩ w (by decide) (ascii_of_all (by decide))
    rw [show (⟨#[32, 9, 10, 13]⟩ : ByteArray).data.toList = [32, 9, 10, 13] from rfl, extL, List.drop_zero, Nat.sub_zero, show bodyL s = s.data.toList.drop (startL s.data.toList) from rfl, trim_taken hz] at h
    rw [← ht]
    exact h)
  have CRd := hid (fun (w : World) (hm : Mx w) => show Calls Tryz.prog 61 #[.string t] w fun e w' => e = .returned (.tuple #[.agg #[.bool R.1.neg, .string R.1.dig, .int .i64 R.1.exp], .int .i64 R.2]) ∧ Below w.heap.size w w' by
    have h := implRead t w hm (by rw [htd]; exact hfit.1) hfit.2.1 hfit.2.2 hts
    rw [show formD _ _ _ = R from hRn] at h
    exact h)
  obtain ⟨m, hm⟩ : ∃ m, startL s.data.toList + scanL (bodyL s) = m := ⟨_, rfl⟩
  rw [hm] at CE CS hbl
  have hm0 : ¬ m = 0 := by omega
  have g1 : ¬ (m : Int) < 0 := by omega
  have g2 : ((m : Int) == 0) = false := by rw [beq_eq_false_iff_ne]; omega
  have hle : (m : Int) ≤ (s.size : Int) := by omega
  have HR := hid hR
  clear hR hRn hfit hpe ht htd hts hm hz hok hm0
  go_enter Tryz.func51, Tryz.ntmps51
  go_wp2_with fail
  refine (CE.out _ (tabs_below hT (ext_alloc _ _))).mono ?_
  rintro e w1 ⟨rfl, hb1⟩
  go_wp2_with fail
  refine (CS.out _).mono ?_
  rintro e w2 ⟨rfl, hb2⟩
  go_wp2_with fail
  refine (CRd.out _ (mx_below hM (ext_trans (ext_trans (ext_alloc _ _) hb1) hb2))).mono ?_
  rintro e wN ⟨rfl, hb3⟩
  have hBN : Below (w.heap.size + 1) (w.alloc (.cells #[.bool false, .string ⟨#[]⟩, .int .i64 0] 36)) wN := by have e0 : (w.alloc (.cells #[.bool false, .string ⟨#[]⟩, .int .i64 0] 36)).heap.size = w.heap.size + 1 := (by simp); rw [← e0]; exact ext_trans (ext_trans hb1 hb2) hb3
  obtain ⟨hcN, hfN⟩ := bcell hBN
  have hlN : w.heap.size < wN.heap.size := by have := hBN.size; (try simp at this); omega
  have t0 := (hcN w.heap.size 0 (by omega))
  have t1 := (hcN w.heap.size 1 (by omega))
  have t2 := (hcN w.heap.size 2 (by omega))
  have r0 := (hfN w.heap.size 0 (by omega))
  have r1 := (hfN w.heap.size 1 (by omega))
  have r2 := (hfN w.heap.size 2 (by omega))
  clear hcN hfN
  simp at t0 t1 t2 r0 r1 r2
  go_wp2
  refine bodyPost_ret (v := formV R) (by simp [results, Tryz.results51, go_sem, hlN, formV, t0, t1, t2, r0, r1, r2]) rfl ⟨by rw [HR.out], ?_⟩
  have hBB : Below w.heap.size w wN := (ext_alloc _ _).trans (hBN.mono (by omega))
  repeat' (first | (with_reducible exact hBB) | (with_reducible refine Below.setCell ?_ ?_ _) | (simp; done) | (simp; omega) | omega)
end Go.Proofs.YtomcoilmpkpoeaaGreatDoor
