/-
  What is proved here: plain laws on JSON: the text of a value that was read is no longer than what it was read from, and is read again. No program in sight; no condition.
-/
import Derived.Test.YtlfkfofeenakhaaDoorJsL8
import Derived.Test.YtlfkfofeenakhaaDoorJsI1
namespace Go.Proofs.YtlfkfofeenakhaaDoor
open Go.RowKit
set_option linter.unusedVariables false
set_option linter.unusedSimpArgs false

theorem dgE_all (L : List UInt8) : ∀ (n q i : Nat), dgE L q - q = n → q ≤ i → i < dgE L q → dgB (gB L i) = true := by
  intro n
  induction n with
  | zero => intro q i hn h1 h2; omega
  | succ n ih =>
    intro q i hn h1 h2
    cases hb : dgB (gB L q) with
    | false => rw [dgE_no.2 hb] at hn; omega
    | true =>
      have hlt : q < L.length := gB_lt (fun e => by rw [e] at hb; revert hb; decide)
      have hs : dgE L q = dgE L (q + 1) := runE_step hlt hb
      by_cases e : i = q
      · rw [e]; exact hb
      · exact ih (q + 1) i (by omega) (by omega) (by omega)
theorem dgB_low {c : Nat} (h : dgB c = true) : 1 ≤ c ∧ c < 128 := by unfold dgB at h; rw [decide_eq_true_iff] at h; omega
/-- the bytes of a number are low -/
theorem num_low {L : List UInt8} {p j : Nat} (hn : numJ L p = (true, j)) : ∀ i, p ≤ i → i < j → 1 ≤ gB L i ∧ gB L i < 128 := by
  obtain ⟨a, c, h1, h2, h3⟩ := numJ_parts hn
  have l1 := intP_le h1
  have l2 := frP_le h2
  have l3 := exP_le h3
  have hdg : ∀ q i, q ≤ i → i < dgE L q → 1 ≤ gB L i ∧ gB L i < 128 := fun q i x y => dgB_low (dgE_all L _ q i rfl x y)
  intro i hi hj
  by_cases c1 : i < sgP L p
  · have : gB L p = 45 := by
      unfold sgP at c1
      split at c1
      · assumption
      · omega
    have e : i = p := by unfold sgP at c1; rw [if_pos this] at c1; omega
    rw [e]; omega
  by_cases c2 : i < a
  · unfold intP at h1
    split at h1
    · rename_i h48
      injection h1 with _ h1
      have e : i = sgP L p := by omega
      rw [e]; omega
    · split at h1
      · injection h1 with h1 _; cases h1
      · injection h1 with _ h1
        exact hdg (sgP L p) i (by omega) (by omega)
  by_cases c3 : i < c
  · unfold frP at h2
    split at h2
    · rename_i h46
      split at h2
      · injection h2 with h2 _; cases h2
      · injection h2 with _ h2
        by_cases e : i = a
        · rw [e]; omega
        · exact hdg (a + 1) i (by omega) (by omega)
    · injection h2 with _ h2; omega
  · unfold exP at h3
    split at h3
    · rename_i he
      split at h3
      · injection h3 with h3 _; cases h3
      · injection h3 with _ h3
        by_cases e : i = c
        · rw [e]; omega
        · by_cases e2 : i < sg2 L (c + 1)
          · have : gB L (c + 1) = 43 ∨ gB L (c + 1) = 45 := by
              unfold sg2 at e2
              split at e2
              · assumption
              · omega
            have e3 : i = c + 1 := by unfold sg2 at e2; rw [if_pos this] at e2; omega
            rw [e3]; omega
          · exact hdg (sg2 L (c + 1)) i (by omega) (by omega)
    · injection h3 with _ h3; omega
theorem okL_lows : ∀ {l : List UInt8}, (∀ c ∈ l, 1 ≤ c.toNat ∧ c.toNat < 128) → okL l
  | [], _ => okL_nil
  | c :: l, h => okL_app (a := [c]) (okL_one (h c (by simp))) (okL_lows fun x hx => h x (by simp [hx]))
theorem num_span {L : List UInt8} {p j : Nat} (hn : numJ L p = (true, j)) : okL ((L.drop p).take (j - p)) := by
  have hf := numJ_fw (L := L) (p := p) (by rw [hn])
  rw [hn] at hf
  refine okL_lows fun c hc => ?_
  obtain ⟨i, hi, rfl⟩ := List.getElem_of_mem hc
  rw [List.length_take, List.length_drop] at hi
  have := num_low hn (p + i) (by omega) (by omega)
  rw [gB_at (by omega)] at this
  simpa [List.getElem_take, List.getElem_drop] using this
theorem escT_ok : ∀ c : Fin 128, c.val ≠ 0 → ∀ x ∈ escT (UInt8.ofNat c.val), 1 ≤ x.toNat ∧ x.toNat < 128 := by decide
theorem okL_flat : ∀ (n : Nat) (o : List UInt8), o.length ≤ n → okL o → okL (o.flatMap escT)
  | _, [], _, _ => okL_nil
  | 0, c :: r, hn, _ => by simp at hn
  | n + 1, c :: r, hn, h => by
    by_cases hc : c.toNat < 128
    · obtain ⟨h1, h2⟩ := okL_low h hc
      rw [List.flatMap_cons]
      refine okL_app (okL_lows fun x hx => ?_) (okL_flat n r (by simpa using hn) h1)
      refine escT_ok ⟨c.toNat, hc⟩ (by show c.toNat ≠ 0; omega) x ?_
      rw [show UInt8.ofNat (⟨c.toNat, hc⟩ : Fin 128).val = c from UInt8.ofNat_toNat]
      exact hx
    · obtain ⟨x, r', hp, hx, he, hr⟩ := okL_split h hc
      rw [he, List.flatMap_append, flat_raw (enc_highC hx hp)]
      have h3 := enc_pos x
      have h4 : (c :: r).length = (enc x ++ r').length := by rw [he]
      rw [List.length_append] at h4
      exact okL_app (okL_enc hp) (okL_flat n r' (by omega) hr)
theorem okL_quo {o : List UInt8} (h : okL o) : okL (quoT o) := okL_app (a := [34]) (okL_one (by decide)) (okL_app (okL_flat o.length o (Nat.le_refl _) h) (okL_one (by decide)))
theorem endV_nil : endV (gB ([] : List UInt8) 0) := Or.inl (gB_end (Nat.le_refl _))
/-- a number's text is a number -/
theorem num_numB {L : List UInt8} {p j : Nat} (hL : L.length ≤ 1000) (hn : numJ L p = (true, j)) : numB (mkB ((L.drop p).take (j - p))) = true := by
  have hf := numJ_fw (L := L) (p := p) (by rw [hn])
  rw [hn] at hf
  dsimp only at hf
  have hl : ((L.drop p).take (j - p)).length = j - p := by rw [List.length_take, List.length_drop]; omega
  have hs := numJ_shift (Sh.of (L := L) (L2 := (L.drop p).take (j - p)) (p := p) (j := j) (p2 := 0) (rest := []) (by omega) hf.2 (by simp) endV_nil hf.1) hn
  unfold numB okText
  rw [mkB_data, mkB_size, okL_textOk (num_span hn) (by omega), hs, hl, Nat.zero_add]
  simp
/-! ### Texts of nodes -/
def joinC : List (List UInt8) → List UInt8
  | [] => []
  | [a] => a
  | a :: b :: r => a ++ 44 :: joinC (b :: r)
def kidT (ts : List (List UInt8)) (k : Int) : List UInt8 := ts.getD k.toNat []
def partsT (ob : Bool) (keys : List ByteArray) (kids : List Int) (ts : List (List UInt8)) : List (List UInt8) :=
  if ob = true then (keys.zip kids).map fun x => quoT x.1.data.toList ++ 58 :: kidT ts x.2 else kids.map (kidT ts)
open Classical in
noncomputable def nodeT (n : JNode) (ts : List (List UInt8)) : Option (List UInt8) :=
  if n.kind = 1 then some [110, 117, 108, 108]
  else if n.kind = 2 then some [116, 114, 117, 101]
  else if n.kind = 3 then some [102, 97, 108, 115, 101]
  else if n.kind = 4 then (if numB n.text = true then some n.text.data.toList else none)
  else if n.kind = 5 then (if okText n.text = true then some (quoT n.text.data.toList) else none)
  else if n.kind = 6 then some (91 :: (joinC (partsT false n.keys n.kids ts) ++ [93]))
  else if n.kind = 7 then (if n.keys.length = n.kids.length ∧ ∀ k ∈ n.keys, okText k = true then some (123 :: (joinC (partsT true n.keys n.kids ts) ++ [125])) else none)
  else none
noncomputable def textsG : List JNode → List (List UInt8) → Option (List (List UInt8))
  | [], ts => some ts
  | n :: r, ts => match nodeT n ts with | none => none | some t => if t.length ≤ 1000 then textsG r (ts ++ [t]) else none
theorem textsG_app : ∀ (a b : List JNode) (ts us : List (List UInt8)), textsG a ts = some us → textsG (a ++ b) ts = textsG b us
  | [], b, ts, us, h => by rw [textsG] at h; injection h with h; subst h; rfl
  | n :: a, b, ts, us, h => by
    rw [List.cons_append, textsG]
    rw [textsG] at h
    cases hn : nodeT n ts with
    | none => rw [hn] at h; cases h
    | some t =>
      rw [hn] at h
      dsimp only at h ⊢
      split at h
      · rename_i hl
        rw [if_pos hl]
        exact textsG_app a b _ us h
      · cases h
theorem textsG_one {n : JNode} {ts : List (List UInt8)} {t : List UInt8} (h : nodeT n ts = some t) (hl : t.length ≤ 1000) : textsG [n] ts = some (ts ++ [t]) := by
  rw [textsG, h]
  dsimp only
  rw [if_pos hl]
  rfl
theorem kidT_app {ts us : List (List UInt8)} {k : Int} (h : k.toNat < ts.length) : kidT (ts ++ us) k = kidT ts k := by
  unfold kidT
  rw [List.getD_eq_getElem?_getD, List.getElem?_append_left h, ← List.getD_eq_getElem?_getD]
theorem partsT_app {ob : Bool} {keys : List ByteArray} {kids : List Int} {ts us : List (List UInt8)} (h : ∀ k ∈ kids, k.toNat < ts.length) : partsT ob keys kids (ts ++ us) = partsT ob keys kids ts := by
  unfold partsT
  split
  · exact List.map_congr_left fun x hx => by rw [kidT_app (h _ (List.of_mem_zip hx).2)]
  · exact List.map_congr_left fun x hx => kidT_app (h _ hx)
theorem skB_at {L : List UInt8} {p : Nat} (h : blB (gB L p) = false) : skB L p = p := runE_stop h
theorem isVal_bl {c : Nat} (h : isVal c = true) : blB c = false := by
  unfold isVal dgB at h
  unfold blB
  simp only [Bool.or_eq_true, beq_iff_eq, decide_eq_true_eq] at h
  simp only [Bool.or_eq_false_iff, beq_eq_false_iff_ne]
  omega
theorem isVal_ne {c : Nat} (h : isVal c = true) : c ≠ 93 ∧ c ≠ 125 ∧ c ≠ 0 := by
  unfold isVal dgB at h
  simp only [Bool.or_eq_true, beq_iff_eq, decide_eq_true_eq] at h
  omega
theorem gB_app {L a b : List UInt8} {q : Nat} (h : L.drop q = a ++ b) : gB L (q + a.length) = gB b 0 ∧ L.drop (q + a.length) = b := by
  have e : L.drop (q + a.length) = b := by rw [← List.drop_drop, h, List.drop_left]
  refine ⟨?_, e⟩
  rw [← e]
  unfold gB
  simp [List.getD_eq_getElem?_getD, List.getElem?_drop]
theorem gB_hd {L a b : List UInt8} {q : Nat} (h : L.drop q = a ++ b) (ha : a ≠ []) : gB L q = gB a 0 := by
  cases a with
  | nil => exact absurd rfl ha
  | cons c a =>
    rw [List.cons_append] at h
    rw [(gB_drop h).1]
    rfl
theorem mkB_size' (l : List UInt8) : okText (mkB l) = textOk l := rfl
/-- what reading a value gives, and that its text is read again -/
def BackV (L : List UInt8) (V : List UInt8 → Nat → Nat → List JNode → JR) : Prop :=
  ∀ (p b : Nat) (ns : List JNode) (kid j b' : Nat) (ns' : List JNode), p ≤ L.length → V L p b ns = .ok kid j b' ns' →
    ∃ new, ns' = ns ++ new ∧ kid + 1 = ns'.length ∧ j ≤ L.length ∧ ∀ ts : List (List UInt8), ts.length = ns.length → ∃ us T, textsG new ts = some (ts ++ us) ∧ us.length = new.length ∧ us.getLast? = some T ∧ T.length + p ≤ j ∧ isVal (gB T 0) = true ∧ okL T ∧
      ∀ (L2 : List UInt8) (p2 : Nat) (rest : List UInt8), L2.drop p2 = T ++ rest → endV (gB rest 0) → V L2 p2 b ns = .ok kid (p2 + T.length) b' ns'
def BackG (L : List UInt8) (G : List UInt8 → Nat → Nat → Nat → List JNode → JR) : Prop :=
  ∀ (o p b : Nat) (ns : List JNode) (kid j b' : Nat) (ns' : List JNode), (o = 91 ∨ o = 123) → p < L.length → G L o p b ns = .ok kid j b' ns' →
    ∃ new, ns' = ns ++ new ∧ kid + 1 = ns'.length ∧ j ≤ L.length ∧ ∀ ts : List (List UInt8), ts.length = ns.length → ∃ us T, textsG new ts = some (ts ++ us) ∧ us.length = new.length ∧ us.getLast? = some T ∧ T.length + p ≤ j ∧ gB T 0 = o ∧ okL T ∧
      ∀ (L2 : List UInt8) (p2 : Nat) (rest : List UInt8), L2.drop p2 = T ++ rest → G L2 o p2 b ns = .ok kid (p2 + T.length) b' ns'
theorem putN_ok {n : JNode} {j b kid j' b' : Nat} {ns ns' : List JNode} (h : putN n j b ns = .ok kid j' b' ns') : kid = ns.length ∧ j' = j ∧ b' = b ∧ ns' = ns ++ [n] := by
  unfold putN at h
  injection h with h1 h2 h3 h4
  exact ⟨h1.symm, h2.symm, h3.symm, h4.symm⟩
theorem T_ne {T : List UInt8} (h : isVal (gB T 0) = true) : T ≠ [] := fun e => by rw [e] at h; exact absurd h (by decide)
/-- a leaf: its node and its text -/
theorem back_leaf {L : List UInt8} (hL : L.length ≤ 1000) {n : JNode} {T : List UInt8} {p j : Nat} {ns : List JNode} (hn : ∀ ts, nodeT n ts = some T) (h1 : T.length + p ≤ j) (h2 : j ≤ L.length) (ts : List (List UInt8)) : textsG [n] ts = some (ts ++ [T]) ∧ [T].length = [n].length ∧ [T].getLast? = some T :=
  ⟨textsG_one (hn ts) (by omega), rfl, rfl⟩
theorem valG_word {L2 : List UInt8} {grp : Nat → Nat → Nat → List JNode → JR} {p2 b : Nat} {ns : List JNode} {rest : List UInt8} (k : Int) (wd : List UInt8) (hw : (wd = [110, 117, 108, 108] ∧ k = 1) ∨ (wd = [116, 114, 117, 101] ∧ k = 2) ∨ (wd = [102, 97, 108, 115, 101] ∧ k = 3)) (hb : b ≠ 200) (hd : L2.drop p2 = wd ++ rest) :
    valG L2 grp p2 b ns = putN ⟨k, ⟨#[]⟩, [], []⟩ (p2 + wd.length) (b + 1) ns := by
  have hE := wordE_at wd p2 rest hd
  rcases hw with ⟨rfl, rfl⟩ | ⟨rfl, rfl⟩ | ⟨rfl, rfl⟩
  · have h1 : gB L2 p2 = 110 := (gB_drop hd).1
    unfold valG
    rw [h1, if_neg (by decide), if_neg hb, if_pos rfl]
    unfold wordR
    rw [show [110, 117, 108, 108] = List.map UInt8.toNat [110, 117, 108, 108] from rfl, hE, if_pos rfl]
  · have h1 : gB L2 p2 = 116 := (gB_drop hd).1
    unfold valG
    rw [h1, if_neg (by decide), if_neg hb, if_neg (by decide), if_pos rfl]
    unfold wordR
    rw [show [116, 114, 117, 101] = List.map UInt8.toNat [116, 114, 117, 101] from rfl, hE, if_pos rfl]
  · have h1 : gB L2 p2 = 102 := (gB_drop hd).1
    unfold valG
    rw [h1, if_neg (by decide), if_neg hb, if_neg (by decide), if_neg (by decide), if_pos rfl]
    unfold wordR
    rw [show [102, 97, 108, 115, 101] = List.map UInt8.toNat [102, 97, 108, 115, 101] from rfl, hE, if_pos rfl]
theorem valG_back {L : List UInt8} (hL : L.length ≤ 1000) (hok : okL L) {G : List UInt8 → Nat → Nat → Nat → List JNode → JR} (hG : BackG L G) : BackV L (fun L => valG L (G L)) := by
  intro p b ns kid j b' ns' hp h
  dsimp only at h ⊢
  have h0 := h
  unfold valG at h
  by_cases hv : isVal (gB L p) = false
  · rw [if_pos hv] at h; cases h
  rw [if_neg hv] at h
  have hlt : p < L.length := gB_lt (fun e => by rw [e] at hv; exact hv rfl)
  by_cases hb : b = 200
  · rw [if_pos hb] at h; cases h
  rw [if_neg hb] at h
  have word : ∀ (wd : List UInt8) (k : Int), ((wd = [110, 117, 108, 108] ∧ k = 1) ∨ (wd = [116, 114, 117, 101] ∧ k = 2) ∨ (wd = [102, 97, 108, 115, 101] ∧ k = 3)) → wordR L p (wd.map UInt8.toNat) k (b + 1) ns = .ok kid j b' ns' → isVal (gB wd 0) = true →
      ∃ new, ns' = ns ++ new ∧ kid + 1 = ns'.length ∧ j ≤ L.length ∧ ∀ ts : List (List UInt8), ts.length = ns.length → ∃ us T, textsG new ts = some (ts ++ us) ∧ us.length = new.length ∧ us.getLast? = some T ∧ T.length + p ≤ j ∧ isVal (gB T 0) = true ∧ okL T ∧
      ∀ (L2 : List UInt8) (p2 : Nat) (rest : List UInt8), L2.drop p2 = T ++ rest → endV (gB rest 0) → valG L2 (G L2) p2 b ns = .ok kid (p2 + T.length) b' ns' := by
    intro wd k hw hr hi
    unfold wordR at hr
    have hin := wordE_in L (wd.map UInt8.toNat) p (by rcases hw with ⟨rfl, _⟩ | ⟨rfl, _⟩ | ⟨rfl, _⟩ <;> decide) (by omega)
    split at hr
    · rename_i hE
      obtain ⟨e1, e2, e3, e4⟩ := putN_ok hr
      have hj := hin.2.2 hE
      rw [List.length_map] at hj
      rw [← e2] at hj
      have hin2 := hin.2.1
      rw [← e2] at hin2
      have hnt : ∀ ts, nodeT ⟨k, ⟨#[]⟩, [], []⟩ ts = some wd := by
        intro ts
        unfold nodeT
        rcases hw with ⟨rfl, rfl⟩ | ⟨rfl, rfl⟩ | ⟨rfl, rfl⟩ <;> rfl
      refine ⟨_, e4, by rw [e4, e1, List.length_append]; rfl, hin2, fun ts hts => ⟨[wd], wd, ?_⟩⟩
      obtain ⟨q1, q2, q3⟩ := back_leaf hL (n := ⟨k, ⟨#[]⟩, [], []⟩) (T := wd) (p := p) (j := j) (ns := ns) hnt (by omega) hin2 ts
      refine ⟨q1, q2, q3, by omega, hi, okL_lows (by rcases hw with ⟨rfl, _⟩ | ⟨rfl, _⟩ | ⟨rfl, _⟩ <;> decide), fun L2 p2 rest hd _ => ?_⟩
      rw [valG_word k wd hw hb hd, e1, e3, e4]
      rfl
    · cases hr
  split at h
  · exact word [110, 117, 108, 108] 1 (Or.inl ⟨rfl, rfl⟩) h (by decide)
  rename_i c1
  split at h
  · exact word [116, 114, 117, 101] 2 (Or.inr (Or.inl ⟨rfl, rfl⟩)) h (by decide)
  rename_i c2
  split at h
  · exact word [102, 97, 108, 115, 101] 3 (Or.inr (Or.inr ⟨rfl, rfl⟩)) h (by decide)
  rename_i c3
  split at h
  · rename_i c4
    split at h
    · rename_i hs
      obtain ⟨e1, e2, e3, e4⟩ := putN_ok h
      obtain ⟨s1, s2⟩ := strP_ok hok c4 hs
      have s3 := (strP_in hlt).1
      rw [← e2] at s2 s3
      obtain ⟨o, ho⟩ : ∃ o, (strP L p).2.2 = o := ⟨_, rfl⟩
      rw [ho] at s1 s2 e4
      have hg := escT_grow o
      have hql : (quoT o).length = (o.flatMap escT).length + 2 := by unfold quoT; simp
      have hnt : ∀ ts, nodeT ⟨5, mkB o, [], []⟩ ts = some (quoT o) := by
        intro ts
        unfold nodeT
        rw [if_neg (show ¬ ((5 : Int) = 1) by decide), if_neg (show ¬ ((5 : Int) = 2) by decide), if_neg (show ¬ ((5 : Int) = 3) by decide), if_neg (show ¬ ((5 : Int) = 4) by decide), if_pos rfl, if_pos (by rw [mkB_size']; exact okL_textOk s1 (by omega))]
        rfl
      refine ⟨_, e4, by rw [e4, e1, List.length_append]; rfl, s3, fun ts hts => ⟨[quoT o], quoT o, ?_⟩⟩
      obtain ⟨q1, q2, q3⟩ := back_leaf hL (n := ⟨5, mkB o, [], []⟩) (T := quoT o) (p := p) (j := j) (ns := ns) hnt (by omega) s3 ts
      refine ⟨q1, q2, q3, by omega, by rfl, okL_quo s1, fun L2 p2 rest hd _ => ?_⟩
      have hsb := strP_back s1 hd
      have hq : gB L2 p2 = 34 := (gB_drop (r := o.flatMap escT ++ [34] ++ rest) hd).1
      unfold valG
      rw [hq, if_neg (by decide), if_neg hb, if_neg (by decide), if_neg (by decide), if_neg (by decide), if_pos rfl, hsb]
      dsimp only
      rw [if_pos rfl, e1, e3, e4]
      rfl
    · cases h
  rename_i c4
  split at h
  · rename_i c5
    obtain ⟨new, g1, g2, g3, g4⟩ := hG _ _ _ _ _ _ _ _ c5 hlt h
    refine ⟨new, g1, g2, g3, fun ts hts => ?_⟩
    obtain ⟨us, T, t1, t2, t3, t4, t5, t7, t6⟩ := g4 ts hts
    have hi : isVal (gB T 0) = true := by rw [t5]; rcases c5 with e | e <;> rw [e] <;> decide
    refine ⟨us, T, t1, t2, t3, t4, hi, t7, fun L2 p2 rest hd _ => ?_⟩
    have hq : gB L2 p2 = gB L p := by rw [gB_hd hd (T_ne hi), t5]
    unfold valG
    rw [hq, if_neg hv, if_neg hb, if_neg c1, if_neg c2, if_neg c3, if_neg c4, if_pos c5]
    exact t6 L2 p2 rest hd
  · rename_i c5
    split at h
    · rename_i hn
      obtain ⟨e1, e2, e3, e4⟩ := putN_ok h
      have hf := numJ_fw hn
      have hnj : numJ L p = (true, j) := by rw [e2, ← hn]
      rw [hnj] at e4 hf
      dsimp only at e4 hf
      obtain ⟨T, hT⟩ : ∃ T, (L.drop p).take (j - p) = T := ⟨_, rfl⟩
      have hTl : T.length = j - p := by rw [← hT, List.length_take, List.length_drop]; omega
      have hnb := num_numB hL hnj
      rw [hT] at e4 hnb
      have hnt : ∀ ts, nodeT ⟨4, mkB T, [], []⟩ ts = some T := by
        intro ts
        unfold nodeT
        rw [if_neg (show ¬ ((4 : Int) = 1) by decide), if_neg (show ¬ ((4 : Int) = 2) by decide), if_neg (show ¬ ((4 : Int) = 3) by decide), if_pos rfl, if_pos hnb]
        rfl
      have hhd : gB T 0 = gB L p := by
        rw [← hT]
        unfold gB
        rw [List.getD_eq_getElem?_getD, List.getElem?_take_of_lt (by omega), List.getElem?_drop, ← List.getD_eq_getElem?_getD]
        rfl
      refine ⟨_, e4, by rw [e4, e1, List.length_append]; rfl, hf.2, fun ts hts => ⟨[T], T, ?_⟩⟩
      obtain ⟨q1, q2, q3⟩ := back_leaf hL (n := ⟨4, mkB T, [], []⟩) (T := T) (p := p) (j := j) (ns := ns) hnt (by omega) hf.2 ts
      refine ⟨q1, q2, q3, by omega, by rw [hhd]; simpa using hv, by rw [← hT]; exact num_span hnj, fun L2 p2 rest hd he => ?_⟩
      have hne : T ≠ [] := fun e => by rw [e] at hTl; simp at hTl; omega
      have hq : gB L2 p2 = gB L p := by rw [gB_hd hd hne, hhd]
      have hs := numJ_shift (Sh.of (L := L) (L2 := L2) (p := p) (j := j) (p2 := p2) (rest := rest) (by omega) hf.2 (by rw [hT]; exact hd) he hf.1) hnj
      have htk : (L2.drop p2).take (p2 + (j - p) - p2) = T := by rw [hd, show p2 + (j - p) - p2 = T.length by omega, List.take_left]
      unfold valG
      rw [hq, if_neg hv, if_neg hb, if_neg c1, if_neg c2, if_neg c3, if_neg c4, if_neg c5, hs]
      dsimp only
      rw [if_pos rfl, htk, e1, e3, e4, hTl]
      rfl
    · cases h
end Go.Proofs.YtlfkfofeenakhaaDoor
