/-
  What is proved here: impl.decRead reads the text of a number. The condition 'Mx' says that the library's MaxLen holds an int.
-/
import Derived.Test.YtomcoilmpkpoeaaGreatDoorVRead
import Derived.Test.YtomcoilmpkpoeaaGreatDoorVShelfB
import Derived.Shelf.Strings.SlTrimAscii
import Derived.Lib.AtoiErrMem
namespace Go.Proofs.YtomcoilmpkpoeaaGreatDoor
open Go.RowKit
set_option linter.unusedVariables false
set_option linter.unusedSimpArgs false

def Mx (w : World) : Prop := ∃ m : Int, w.cell? ⟨0, 0, none⟩ = some (.int .i64 m)
theorem mx_below {w w' : World} (h : Mx w) (hb : Below w.heap.size w w') : Mx w' := by
  obtain ⟨m, hm⟩ := h
  exact ⟨m, keeps_cells hb _ _ hm⟩
theorem exC (b : UInt8) : ([101, 69] : List UInt8).contains b = isEx b := by
  rw [Bool.eq_iff_iff, isEx_iff]
  simp only [List.contains_cons, List.contains_nil, Bool.or_false, Bool.or_eq_true, beq_iff_eq]
  constructor
  · rintro (rfl | rfl) <;> decide
  · rintro (h | h)
    · exact Or.inl (byte_eq h (by decide))
    · exact Or.inr (byte_eq h (by decide))
theorem sgC (b : UInt8) : ([43, 45] : List UInt8).contains b = isSg b := by
  rw [Bool.eq_iff_iff, isSg_iff]
  simp only [List.contains_cons, List.contains_nil, Bool.or_false, Bool.or_eq_true, beq_iff_eq]
  constructor
  · rintro (rfl | rfl) <;> decide
  · rintro (h | h)
    · exact Or.inl (byte_eq h (by decide))
    · exact Or.inr (byte_eq h (by decide))
theorem indexAny_skip : ∀ (l X : List UInt8), (∀ b ∈ l, isEx b = false) → Lib.indexAny (l ++ X) [101, 69] = if Lib.indexAny X [101, 69] = -1 then -1 else (l.length : Int) + Lib.indexAny X [101, 69]
  | [], X, _ => by
    rw [List.nil_append]
    split
    · assumption
    · simp
  | b :: l, X, h => by
    have ih := indexAny_skip l X (fun c hc => h c (by simp [hc]))
    have hge := Lib.indexAny_ge [101, 69] X
    rw [List.cons_append, Lib.indexAny, exC, h b (by simp), ih]
    by_cases hx : Lib.indexAny X [101, 69] = -1
    · rw [if_pos hx, if_pos hx]; rfl
    · have hne : ¬ (l.length : Int) + Lib.indexAny X [101, 69] = -1 := by omega
      rw [if_neg hx, if_neg hx, if_neg (by decide), if_neg (by simpa using hne), List.length_cons]
      omega
theorem indexByte_skip {c : UInt8} : ∀ (l X : List UInt8), (∀ b ∈ l, ¬ b = c) → Lib.indexByte (l ++ X) c = if Lib.indexByte X c = -1 then -1 else (l.length : Int) + Lib.indexByte X c
  | [], X, _ => by
    rw [List.nil_append]
    split
    · assumption
    · simp
  | b :: l, X, h => by
    have ih := indexByte_skip l X (fun d hd => h d (by simp [hd]))
    have hge := Lib.indexByte_ge X c
    rw [List.cons_append, Lib.indexByte, beq_eq_false_iff_ne.2 (h b (by simp)), ih]
    by_cases hx : Lib.indexByte X c = -1
    · rw [if_pos hx, if_pos hx]; rfl
    · have hne : ¬ (l.length : Int) + Lib.indexByte X c = -1 := by omega
      rw [if_neg hx, if_neg hx, if_neg (by decide), if_neg (by simpa using hne), List.length_cons]
      omega
theorem cut_num {A P B : List UInt8} (hA : digits A) (hP : P = [] ∧ B = [] ∨ P = [46]) : (Lib.cut (A ++ (P ++ B)) [46]).1 = A ∧ (Lib.cut (A ++ (P ++ B)) [46]).2.1 = B := by
  have hne : ∀ b ∈ A, ¬ b = 46 := by
    intro b hb h
    have := hA b hb
    rw [h] at this
    exact absurd this.1 (by decide)
  unfold Lib.cut
  rw [Lib.index_one, indexByte_skip A (P ++ B) hne]
  rcases hP with ⟨rfl, rfl⟩ | rfl
  · have e : Lib.indexByte ([] ++ [] : List UInt8) 46 = -1 := rfl
    rw [e, if_pos rfl, if_neg (by decide)]
    simp
  · have e : Lib.indexByte ([46] ++ B : List UInt8) 46 = 0 := rfl
    rw [e, show (if (0 : Int) = -1 then (-1 : Int) else (A.length : Int) + 0) = (A.length : Int) by rw [if_neg (by decide)]; omega, if_pos (by omega), Int.toNat_natCast]
    constructor
    · simp
    · rw [show A ++ ([46] ++ B) = (A ++ [46]) ++ B by simp]
      exact List.drop_left' (by simp)
theorem decFrom_digits : ∀ (C : List UInt8) (n : Nat), digits C → Lib.decFrom n C = some (valD n C)
  | [], n, _ => rfl
  | c :: C, n, h => by
    have hc := h c (by simp)
    rw [Lib.decFrom, show Lib.digitVal c = some (c.toNat - 48) by unfold Lib.digitVal; rw [if_pos hc]]
    simp only
    rw [decFrom_digits C _ (fun d hd => h d (by simp [hd])), valD_cons, Nat.mul_comm]
theorem atoi_digits {C : List UInt8} (hC : digits C) (h0 : C ≠ []) : Lib.atoi C = some ((valD 0 C : Nat) : Int) := by
  cases C with
  | nil => exact absurd rfl h0
  | cons c r =>
    have hc := hC c (by simp)
    have h1 : (c == 45) = false := by
      rw [beq_eq_false_iff_ne]; intro h; rw [h] at hc; exact absurd hc.1 (by decide)
    have h2 : (c == 43) = false := by
      rw [beq_eq_false_iff_ne]; intro h; rw [h] at hc; exact absurd hc.1 (by decide)
    unfold Lib.atoi
    simp only [h1, h2, Bool.false_eq_true, if_false]
    unfold Lib.decNat
    rw [show (c :: r).isEmpty = false from rfl, if_neg (by decide), decFrom_digits _ _ hC]
    rfl
theorem trimSg {sg r : List UInt8} (hs : sg = [] ∨ sg = [43] ∨ sg = [45]) (hr : ∀ c ∈ r.head?, isSg c = false) : Lib.trimLeftS (sg ++ r) [43, 45] = r := by
  have key : Lib.trimLeftS r [43, 45] = r := by
    unfold Lib.trimLeftS
    cases r with
    | nil => rfl
    | cons c r' => rw [List.dropWhile_cons_of_neg (by rw [sgC, hr c (by simp)]; decide)]
  rcases hs with rfl | rfl | rfl
  · exact key
  · exact key
  · exact key
/-- all the bytes of a number are ASCII -/
theorem num_ascii {sg A P B X : List UInt8} {x : Int} (hn : isNum sg A P B X) (hX : isExp X x) : ∀ b ∈ A ++ (P ++ (B ++ X)), b.toNat < 128 := by
  obtain ⟨_, hA, hB, hP, _⟩ := hn
  intro b hb
  simp only [List.mem_append] at hb
  rcases hb with hb | hb | hb | hb
  · have := hA b hb; omega
  · rcases hP with ⟨rfl, _⟩ | rfl
    · cases hb
    · rw [List.mem_singleton.1 hb]; decide
  · have := hB b hb; omega
  · rcases hX with ⟨rfl, _⟩ | ⟨e, sg2, C, rfl, he, hs2, hC, _, _⟩
    · cases hb
    · rcases List.mem_cons.1 hb with rfl | hb
      · have := isEx_iff.1 he; omega
      · rcases List.mem_append.1 hb with hb | hb
        · rcases hs2 with rfl | rfl | rfl
          · cases hb
          · rw [List.mem_singleton.1 hb]; decide
          · rw [List.mem_singleton.1 hb]; decide
        · have := hC b hb; omega
set_option maxHeartbeats 8000000 in
set_option maxRecDepth 100000 in
theorem implRead {sg A P B X : List UInt8} {x : Int} (s : ByteArray) (w : World) (hM : Mx w) (hs : s.data.toList = sg ++ (A ++ (P ++ (B ++ X)))) (hn : isNum sg A P B X) (hX : isExp X x) (hsz : s.size ≤ 1000) :
    Calls Tryz.prog 61 #[.string s] w fun e w' => e = .returned (formV (formD (decide (sg = [45])) (A ++ B) (x - (B.length : Int)))) ∧ Below w.heap.size w w' := by
  obtain ⟨hpos, hhd⟩ := num_head hs hn
  obtain ⟨hsg, hA, hB, hP, hne⟩ := id hn
  have hdg : digits (A ++ B) := digits_append hA hB
  have hlen : s.size = sg.length + (A.length + (P.length + (B.length + X.length))) := by
    rw [Lib.size_eq, hs]
    simp only [List.length_append]
  -- the text behind the sign
  obtain ⟨t, ht⟩ : ∃ t, mkB (A ++ (P ++ (B ++ X))) = t := ⟨_, rfl⟩
  have htd : t.data.toList = A ++ (P ++ (B ++ X)) := by rw [← ht]; rfl
  have htl : t.size = A.length + (P.length + (B.length + X.length)) := by rw [Lib.size_eq, htd]; simp only [List.length_append]
  have C1 : Hid (∀ w, Calls Tryz.prog 94 #[.string s, .string ⟨#[43, 45]⟩] w fun e w' => e = .returned (.string t) ∧ Below w.heap.size w w') := hid (fun w => by
    have h := Any.strings_TrimLeft_laid Tryz.lays161 (by kernel_rfl) s ⟨#[43, 45]⟩ w (by decide) (ascii_of_all (by decide))
    rw [show (⟨#[43, 45]⟩ : ByteArray).data.toList = [43, 45] from rfl, hs, trimSg hsg (by
      intro c hc
      cases A with
      | cons a A' =>
        have : a = c := by simpa using hc
        have h2 := hA a (by simp)
        rw [← this]
        exact isSg_no (by omega) (by omega)
      | nil =>
        rcases hP with ⟨rfl, rfl⟩ | rfl
        · exact absurd rfl hne
        · have : (46 : UInt8) = c := by simpa using hc
          rw [← this]; decide)] at h
    rw [← ht]
    exact h)
  have hasc : ∀ (j : Nat) b, t.data.toList[j]? = some b → b.toNat < 128 := by
    intro j b hb
    rw [htd] at hb
    exact num_ascii hn hX b (List.mem_of_getElem? hb)
  have hnx : ∀ b ∈ A ++ (P ++ B), isEx b = false := by
    intro b hb
    simp only [List.mem_append] at hb
    rcases hb with hb | hb | hb
    · exact (dig_not (hA b hb)).1
    · rcases hP with ⟨rfl, _⟩ | rfl
      · cases hb
      · rw [List.mem_singleton.1 hb]; decide
    · exact (dig_not (hB b hb)).1
  have hia := indexAny_skip (A ++ (P ++ B)) X hnx
  have hab : A ++ (P ++ (B ++ X)) = (A ++ (P ++ B)) ++ X := by simp
  obtain ⟨K, hK⟩ : ∃ k, (A ++ (P ++ B)).length = k := ⟨_, rfl⟩
  have hKl : K = A.length + (P.length + B.length) := by rw [← hK]; simp only [List.length_append]
  rw [hK] at hia
  have C2 := hid (fun (w : World) => Tryz.strings_IndexAny_laid t ⟨#[101, 69]⟩ w (by omega) (by decide) hasc (ascii_of_all (by decide)))
  rw [show (⟨#[101, 69]⟩ : ByteArray).data.toList = [101, 69] from rfl, htd, hab, hia] at C2
  -- what is cut at the period
  obtain ⟨u, hu⟩ : ∃ u, mkB (A ++ (P ++ B)) = u := ⟨_, rfl⟩
  have hud : u.data.toList = A ++ (P ++ B) := by rw [← hu]; rfl
  have hus : u.size = K := by rw [Lib.size_eq, hud, hK]
  have hcut := cut_num hA hP
  have C3 : Hid (∀ w, Mx w → Calls Tryz.prog 106 #[.string u, .string ⟨#[46]⟩] w fun e w' => (∃ b, e = .returned (.tuple #[.string (mkB A), .string (mkB B), .bool b])) ∧ Below w.heap.size w w') := hid (fun w hm => by
    obtain ⟨m, hm⟩ := hm
    refine (Tryz.strings_Cut u ⟨#[46]⟩ m w (by omega) hm).mono ?_
    rintro e w' ⟨rfl, n, rfl⟩
    refine ⟨⟨(Lib.cut u.data.toList [46]).2.2, ?_⟩, by first | exact below_drewN _ n | exact below_drewN (Below.refl _ _) n⟩
    rw [show (⟨#[46]⟩ : ByteArray).data.toList = [46] from rfl, hud, hcut.1, hcut.2]
    rfl)
  have hABd : (mkB A ++ mkB B).data.toList = A ++ B := by rw [mkB_append]; rfl
  have hsA : (mkB A).size = A.length := mkB_size A
  have hsB : (mkB B).size = B.length := mkB_size B
  have hsAB : ¬ 9223372036854775807 < A.length + B.length := by omega
  obtain ⟨R, hR⟩ : ∃ r, formD (decide (sg = [45])) (A ++ B) (x - (B.length : Int)) = r := ⟨_, rfl⟩
  have CN := hid (fun (e : Int) (w : World) (he : -20000 ≤ e ∧ e ≤ 20000) (hx : e = x - (B.length : Int)) => show Calls Tryz.prog 107 #[.bool (decide (sg = [45])), .string (mkB A ++ mkB B), .int .i64 e] w fun e' w' => e' = .returned (.tuple #[.agg #[.bool R.1.neg, .string R.1.dig, .int .i64 R.1.exp], .int .i64 R.2]) ∧ Below w.heap.size w w' by
    have h := implNormal (decide (sg = [45])) (mkB A ++ mkB B) e w (by rw [hABd]; exact hdg) (by rw [ByteArray.size_append, hsA, hsB]; omega) he
    rw [hABd, hx, hR] at h
    rw [hx]
    exact h)
  obtain ⟨ng, hng⟩ : ∃ b, decide (sg = [45]) = b := ⟨_, rfl⟩
  rw [hng] at CN
  rw [hR]
  have hgn : (((s[0]'hpos).toNat : Int) == 45) = ng := by
    rw [← hng]
    rcases hhd with ⟨h1, h2⟩ | ⟨h, h1, h2⟩
    · rw [h1]
      rw [atB_get hpos rfl] at h2
      have : ¬ (s[0]'hpos).toNat = 45 := fun h' => by rw [isSg_iff.2 (Or.inr h')] at h2; cases h2
      rw [show decide (([] : List UInt8) = [45]) = false from rfl, beq_eq_false_iff_ne]
      omega
    · rw [h1]
      by_cases h45 : (s[0]'hpos).toNat = 45
      · rw [show s[0] = 45 from byte_eq h45 (by decide)]; rfl
      · have : ¬ s[0] = 45 := fun h' => h45 (by rw [h']; rfl)
        rw [show decide ([s[0]] = [45]) = false by rw [decide_eq_false_iff_not]; intro h'; injection h' with h'' _; exact this h'', beq_eq_false_iff_ne]
        omega
  have hi0 : (0 : Int) < (s.size : Int) := by omega
  have HX := hid hX
  have HTD := hid htd
  have HU := hid hu
  clear hR hng hhd hn hX hs hsg hdg hne hasc hnx hia hab hcut hud hu htd ht hABd
  obtain ⟨at0, hat⟩ : ∃ a, (if Lib.indexAny X [101, 69] = -1 then -1 else (K : Int) + Lib.indexAny X [101, 69]) = a := ⟨_, rfl⟩
  rw [hat] at C2
  have e0 : (w.alloc (.cells #[.bool false, .string ⟨#[]⟩, .int .i64 0] 36)).heap.size = w.heap.size + 1 := by simp
  rcases HX.out with ⟨hX0, hx0⟩ | ⟨ec, s2, C, hX1, hec, hs2, hC, hCne, hx1⟩
  · obtain rfl : at0 = -1 := by rw [← hat, hX0]; rfl
    have HTU := hid (show t = u by rw [← HU.out, ← mkB_of t, HTD.out, hX0, List.append_nil])
    rw [← HTU.out] at C3
    have hwx : IntKind.i64.wrap (-(B.length : Int)) = -(B.length : Int) := IntWalk.i64_in _ (by omega)
    have CNX := hid (fun (w : World) => CN.out (-(B.length : Int)) w (by omega) (by omega))
    have h1lt : ¬ (0 : Int) ≤ -1 := by decide
    clear hX0 hx0 hat HX CN htl hKl hus hlen
    go_enter Tryz.func61, Tryz.ntmps61
    go_wp2_with fail
    refine (C1.out _).mono ?_
    rintro e w1 ⟨rfl, hb1⟩
    go_wp2_with fail
    refine (C2.out _).mono ?_
    rintro e w2 ⟨rfl, hb2⟩
    go_wp2_with fail
    refine (C3.out _ (mx_below hM (ext_trans (ext_trans (ext_alloc _ _) hb1) hb2))).mono ?_
    rintro e w3 ⟨⟨bb, rfl⟩, hb3⟩
    go_wp2_with fail
    refine (CNX.out _).mono ?_
    rintro e wN ⟨rfl, hb4⟩
    have hBN : Below (w.heap.size + 1) (w.alloc (.cells #[.bool false, .string ⟨#[]⟩, .int .i64 0] 36)) wN := by rw [← e0]; exact ext_trans (ext_trans (ext_trans hb1 hb2) hb3) hb4
    obtain ⟨hcN, hfN⟩ := bcell hBN
    have hlN : w.heap.size < wN.heap.size := by have := hBN.size; (try simp at this); omega
    have t0 := (hcN w.heap.size 0 (by omega))
    have t1 := (hcN w.heap.size 1 (by omega))
    have t2 := (hcN w.heap.size 2 (by omega))
    have r0 := (hfN w.heap.size 0 (by omega))
    have r1 := (hfN w.heap.size 1 (by omega))
    have r2 := (hfN w.heap.size 2 (by omega))
    clear hcN hfN
    simp at t0 t1 t2 r0 r1 r2
    go_wp2
    refine bodyPost_ret (v := formV R) (by simp [results, Tryz.results61, go_sem, hlN, formV, t0, t1, t2, r0, r1, r2]) rfl ⟨rfl, ?_⟩
    have hBB : Below w.heap.size w wN := (ext_alloc _ _).trans (hBN.mono (by omega))
    repeat' (first | (with_reducible exact hBB) | (with_reducible refine Below.setCell ?_ ?_ _) | (simp; done) | (simp; omega) | omega)
  · have hXl : X.length = 1 + (s2.length + C.length) := by rw [hX1]; simp only [List.length_cons, List.length_append]; omega
    obtain rfl : at0 = (K : Int) := by
      rw [← hat, hX1, Lib.indexAny, exC, hec]
      simp
    have hkt : K < t.size := by omega
    have hKb : K ≤ 1000 ∧ t.size ≤ 1000 := by omega
    -- the exponent's text
    obtain ⟨v, hv⟩ : ∃ v, mkB (s2 ++ C) = v := ⟨_, rfl⟩
    have hvd : v.data.toList = s2 ++ C := by rw [← hv]; rfl
    have hve : t.extract (K + 1) t.size = v := by
      apply ba_list
      rw [extL, hvd, List.take_of_length_le (by rw [List.length_drop, ← Lib.size_eq]; exact Nat.le_refl _), HTD.out, hX1]
      rw [show A ++ (P ++ (B ++ ec :: (s2 ++ C))) = (A ++ (P ++ B) ++ [ec]) ++ (s2 ++ C) by simp]
      exact List.drop_left' (by simp only [List.length_append, List.length_cons, List.length_nil]; omega)
    have hue : t.extract 0 K = u := by
      apply ba_list
      rw [extL, ← HU.out, mkB_data, HTD.out, List.drop_zero, Nat.sub_zero]
      rw [show A ++ (P ++ (B ++ X)) = (A ++ (P ++ B)) ++ X by simp]
      exact List.take_left' (by simp only [List.length_append]; omega)
    have hvl : v.size = s2.length + C.length := by rw [Lib.size_eq, hvd, List.length_append]
    have hCl : 0 < C.length := List.length_pos_iff.2 hCne
    have hv0 : 0 < v.size := by omega
    have C4 : Hid (∀ w, Calls Tryz.prog 94 #[.string v, .string ⟨#[43, 45]⟩] w fun e w' => e = .returned (.string (mkB C)) ∧ Below w.heap.size w w') := hid (fun w => by
      have h := Any.strings_TrimLeft_laid Tryz.lays161 (by kernel_rfl) v ⟨#[43, 45]⟩ w (by decide) (ascii_of_all (by decide))
      rw [show (⟨#[43, 45]⟩ : ByteArray).data.toList = [43, 45] from rfl, hvd, trimSg hs2 (by
        intro c hc
        cases C with
        | cons a A' =>
          have : a = c := by simpa using hc
          have h2 := hC a (by simp)
          rw [← this]
          exact isSg_no (by omega) (by omega)
        | nil => exact absurd rfl hCne)] at h
      exact h)
    have hNd : (trimB (mkB C)).data.toList = trimL C := by unfold trimB; rw [mkB_data, mkB_data]
    have CT := hid (fun (w : World) => implTrim (mkB C) w)
    obtain ⟨N, hN⟩ : ∃ n, trimB (mkB C) = n := ⟨_, rfl⟩
    rw [hN] at CT hNd
    have hNl : N.size = (trimL C).length := by rw [Lib.size_eq, hNd]
    have hNn : trimL C ≠ [] := by have := (trimL_len C).2; intro h; rw [h] at this; exact absurd this (by decide)
    have C5 : Hid (N.size ≤ 4 → ∀ w, Calls Tryz.prog 105 #[.string N] w fun e w' => e = .returned (.tuple #[.int .i64 ((valD 0 C : Nat) : Int), .nilIface]) ∧ Below w.heap.size w w') := hid (fun h4 w => by
      refine (Tryz.strconv_Atoi N ((valD 0 C : Nat) : Int) (by omega) (by rw [hNd, atoi_digits (digits_trim hC) hNn, valD_trim]) w).mono ?_
      rintro e w' ⟨rfl, tt, rfl⟩
      exact ⟨rfl, Lib.bytesWorld_below _ _ _⟩)
    obtain ⟨y, hy⟩ : ∃ y, min 9999 (valD 0 C) = y := ⟨_, rfl⟩
    have hy9 : y ≤ 9999 := by omega
    have HY1 := hid (show N.size ≤ 4 → valD 0 C = y by intro h; rw [← hy]; have := valD_short hC (by omega); omega)
    have HY2 := hid (show ¬ N.size ≤ 4 → y = 9999 by intro h; rw [← hy]; have := valD_long hC (by omega); omega)
    have hxy : x = if s2 = [45] then -(y : Int) else (y : Int) := by
      have h : x = if s2 = [45] then -((min 9999 (valD 0 C) : Nat) : Int) else ((min 9999 (valD 0 C) : Nat) : Int) := hx1
      rw [hy] at h
      exact h
    have HXY := hid hxy
    have hvg : (((v[0]'hv0).toNat : Int) == 45) = decide (s2 = [45]) := by
      have h0 := head_list v hv0
      rw [hvd] at h0
      rcases hs2 with rfl | rfl | rfl
      · cases C with
        | nil => exact absurd rfl hCne
        | cons c C' =>
          have : c = v[0] := by simpa using h0
          have h2 := hC c (by simp)
          rw [← this, show decide (([] : List UInt8) = [45]) = false from rfl, beq_eq_false_iff_ne]
          omega
      · have : (43 : UInt8) = v[0] := by simpa using h0
        rw [← this]; rfl
      · have : (45 : UInt8) = v[0] := by simpa using h0
        rw [← this]; rfl
    obtain ⟨mn, hmn⟩ : ∃ b, decide (s2 = [45]) = b := ⟨_, rfl⟩
    have HMN := hid hmn
    rw [hmn] at hvg
    have hK0 : (0 : Int) ≤ (K : Int) := by omega
    have hi1 : (K : Int) + 1 ≤ (t.size : Int) := by omega
    have hi2 : (K : Int) ≤ (t.size : Int) := by omega
    have hi3 : (0 : Int) < (v.size : Int) := by omega
    have HVE := hid hve
    have HUE := hid hue
    have hxb : -9999 ≤ x ∧ x ≤ 9999 := by rw [hxy]; split <;> omega
    have hwx : IntKind.i64.wrap (x - (B.length : Int)) = x - (B.length : Int) := IntWalk.i64_in _ (by omega)
    have CNX := hid (fun (w : World) => CN.out (x - (B.length : Int)) w (by omega) rfl)
    clear hX1 hx1 hec hs2 hC hCne hat HX hv hvd hve hue hNd hN hNn hy hxy hmn CN hXl htl hKl hus hvl hNl hlen
    go_enter Tryz.func61, Tryz.ntmps61
    go_wp2_with fail
    refine (C1.out _).mono ?_
    rintro e w1 ⟨rfl, hb1⟩
    go_wp2_with fail
    refine (C2.out _).mono ?_
    rintro e w2 ⟨rfl, hb2⟩
    have hB2 : Below (w.heap.size + 1) (w.alloc (.cells #[.bool false, .string ⟨#[]⟩, .int .i64 0] 36)) w2 := by rw [← e0]; exact ext_trans hb1 hb2
    clear hb1 hb2 C1 C2
    go_upto_if 20 with fail
    go_cut [0, 5] from 12 (fun v0 v5 wr => v0 = .string u ∧ v5 = .int .i64 x ∧ Below (w.heap.size + 1) (w.alloc (.cells #[.bool false, .string ⟨#[]⟩, .int .i64 0] 36)) wr)
    case first =>
      go_wp2_with fail
      rw [HVE.out]
      refine (C4.out _).mono ?_
      rintro e w3 ⟨rfl, hb3⟩
      go_wp2_with fail
      refine (CT.out _).mono ?_
      rintro e w4 ⟨rfl, rfl⟩
      have hB3 : Below (w.heap.size + 1) (w.alloc (.cells #[.bool false, .string ⟨#[]⟩, .int .i64 0] 36)) w3 := hB2.trans (hb3.mono (by have := hB2.size; (try simp at this); omega))
      go_upto_if 30 with fail
      go_cut [5] from 12 (fun v5 wr => v5 = .int .i64 (y : Int) ∧ Below (w.heap.size + 1) (w.alloc (.cells #[.bool false, .string ⟨#[]⟩, .int .i64 0] 36)) wr)
      case first =>
        by_cases h4 : N.size ≤ 4
        · have g1 : (N.size : Int) ≤ 4 := by omega
          have HYE := hid (HY1.out h4)
          have C6 := hid (C5.out h4)
          clear h4
          go_wp2_with fail
          refine (C6.out _).mono ?_
          rintro e w5 ⟨rfl, hb5⟩
          have hB5 : Below (w.heap.size + 1) (w.alloc (.cells #[.bool false, .string ⟨#[]⟩, .int .i64 0] 36)) w5 := hB3.trans (hb5.mono (by have := hB3.size; (try simp at this); omega))
          go_wp2
          go_meet
          case rel => exact ⟨by rw [HYE.out], hB5⟩
        · have g1 : ¬ (N.size : Int) ≤ 4 := by omega
          have HYE := hid (HY2.out h4)
          clear h4
          go_wp2
          go_meet
          case rel => exact ⟨by rw [HYE.out]; rfl, hB3⟩
      case rest =>
      obtain ⟨rfl, hB6⟩ := hcut
      cases mn
      · have HXE := hid (show x = (y : Int) by rw [HXY.out, if_neg (of_decide_eq_false HMN.out)])
        go_wp2
        go_meet
        case rel => exact ⟨by rw [HUE.out], by rw [HXE.out], hB6⟩
      · have HXE := hid (show x = -(y : Int) by rw [HXY.out, if_pos (of_decide_eq_true HMN.out)])
        have hwy : IntKind.i64.wrap (-(y : Int)) = -(y : Int) := IntWalk.i64_in _ (by omega)
        go_wp2
        go_meet
        case rel => exact ⟨by rw [HUE.out], by rw [HXE.out], hB6⟩
    case rest =>
    obtain ⟨rfl, rfl, hB7⟩ := hcut
    go_wp2_with fail
    refine (C3.out _ (mx_below hM ((ext_alloc _ _).trans (hB7.mono (by omega))))).mono ?_
    rintro e w3 ⟨⟨bb, rfl⟩, hb3⟩
    go_wp2_with fail
    refine (CNX.out _).mono ?_
    rintro e wN ⟨rfl, hb4⟩
    have hBN : Below (w.heap.size + 1) (w.alloc (.cells #[.bool false, .string ⟨#[]⟩, .int .i64 0] 36)) wN := hB7.trans ((ext_trans hb3 hb4).mono (by have := hB7.size; (try simp at this); omega))
    obtain ⟨hcN, hfN⟩ := bcell hBN
    have hlN : w.heap.size < wN.heap.size := by have := hBN.size; (try simp at this); omega
    have t0 := (hcN w.heap.size 0 (by omega))
    have t1 := (hcN w.heap.size 1 (by omega))
    have t2 := (hcN w.heap.size 2 (by omega))
    have r0 := (hfN w.heap.size 0 (by omega))
    have r1 := (hfN w.heap.size 1 (by omega))
    have r2 := (hfN w.heap.size 2 (by omega))
    clear hcN hfN
    simp at t0 t1 t2 r0 r1 r2
    go_wp2
    refine bodyPost_ret (v := formV R) (by simp [results, Tryz.results61, go_sem, hlN, formV, t0, t1, t2, r0, r1, r2]) rfl ⟨rfl, ?_⟩
    have hBB : Below w.heap.size w wN := (ext_alloc _ _).trans (hBN.mono (by omega))
    repeat' (first | (with_reducible exact hBB) | (with_reducible refine Below.setCell ?_ ?_ _) | (simp; done) | (simp; omega) | omega)
end Go.Proofs.YtomcoilmpkpoeaaGreatDoor
