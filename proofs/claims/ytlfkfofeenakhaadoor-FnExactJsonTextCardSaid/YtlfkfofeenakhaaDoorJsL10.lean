/-
  What is proved here: plain laws on JSON: lists and objects are read again from their text; a line is read again. No program in sight; no condition.
-/
import Derived.Test.YtlfkfofeenakhaaDoorJsL9
import Derived.Test.YtlfkfofeenakhaaDoorJsS7
namespace Go.Proofs.YtlfkfofeenakhaaDoor
open Go.RowKit
set_option linter.unusedVariables false
set_option linter.unusedSimpArgs false

def tailJ : List (List UInt8) → List UInt8
  | [] => []
  | a :: r => 44 :: joinC (a :: r)
theorem joinC_cons (a : List UInt8) (r : List (List UInt8)) : joinC (a :: r) = a ++ tailJ r := by
  cases r with
  | nil => show a = a ++ []; simp
  | cons b r => rfl
theorem tailJ_cons (a : List UInt8) (r : List (List UInt8)) : tailJ (a :: r) = 44 :: (a ++ tailJ r) := by rw [← joinC_cons]; rfl
theorem okL_tail : ∀ {ps : List (List UInt8)}, (∀ p ∈ ps, okL p) → okL (tailJ ps)
  | [], _ => okL_nil
  | a :: r, h => by
    rw [tailJ_cons]
    exact okL_app (a := [44]) (okL_one (by decide)) (okL_app (h a (by simp)) (okL_tail fun p hp => h p (by simp [hp])))
theorem tailJ_len : ∀ (ps : List (List UInt8)), ps.length ≤ (tailJ ps).length
  | [] => Nat.le_refl _
  | a :: r => by
    have := tailJ_len r
    rw [tailJ_cons]
    simp only [List.length_cons, List.length_append]
    omega
theorem joinC_tail (ps : List (List UInt8)) : (joinC ps).length + (if ps = [] then 0 else 1) = (tailJ ps).length := by
  cases ps with
  | nil => rfl
  | cons a r => rw [if_neg (by simp)]; rfl
theorem partsT_cons {ob : Bool} {key : ByteArray} {keys : List ByteArray} {k : Int} {kids : List Int} {ts : List (List UInt8)} : partsT ob (key :: keys) (k :: kids) ts = (if ob = true then quoT key.data.toList ++ 58 :: kidT ts k else kidT ts k) :: partsT ob keys kids ts := by
  unfold partsT
  cases ob <;> rfl
theorem partsT_cons' {keys keys' : List ByteArray} {k : Int} {kids : List Int} {ts : List (List UInt8)} : partsT false keys (k :: kids) ts = kidT ts k :: partsT false keys' kids ts := rfl
theorem partsT_nil {ob : Bool} {ts : List (List UInt8)} {keys : List ByteArray} : partsT ob keys [] ts = [] := by
  unfold partsT
  cases ob
  · rfl
  · simp
theorem partsT_len {ob : Bool} {keys : List ByteArray} {kids : List Int} {ts : List (List UInt8)} (h : ob = true → keys.length = kids.length) : (partsT ob keys kids ts).length = kids.length := by
  unfold partsT
  cases ob with
  | false => rw [if_neg (by decide), List.length_map]
  | true =>
    have := h rfl
    rw [if_pos rfl, List.length_map, List.length_zip]
    omega
theorem skB_ge (L : List UInt8) (q : Nat) : q ≤ skB L q := runE_le _ _ _
theorem kidT_last {ts us : List (List UInt8)} {T : List UInt8} {k : Nat} (hl : us.getLast? = some T) (hk : k + 1 = ts.length + us.length) : kidT (ts ++ us) (k : Int) = T := by
  unfold kidT
  rw [Int.toNat_natCast, List.getD_eq_getElem?_getD]
  have hne : us ≠ [] := fun e => by rw [e] at hl; cases hl
  have h0 : 0 < us.length := List.length_pos_iff.2 hne
  rw [List.getElem?_append_right (by omega)]
  rw [List.getLast?_eq_getElem?] at hl
  rw [show k - ts.length = us.length - 1 by omega, hl]
  rfl
theorem drop_more {L a b : List UInt8} {q : Nat} (h : L.drop q = a ++ b) : L.drop (q + a.length) = b := (gB_app h).2
theorem sk_here {L : List UInt8} {q : Nat} {c : UInt8} {r : List UInt8} (h : L.drop q = c :: r) (hc : blB c.toNat = false) : skB L q = q := skB_at (by rw [(gB_drop h).1]; exact hc)
theorem sk_val {L T r : List UInt8} {q : Nat} (h : L.drop q = T ++ r) (hT : isVal (gB T 0) = true) : skB L q = q := skB_at (by rw [gB_hd h (T_ne hT)]; exact isVal_bl hT)
def obO (o : Nat) : Bool := decide (o = 123)
def kO (o : Nat) : Int := if o = 123 then 7 else 6
/-- what the rest of a list or an object gives: off the place of a part, with the text of the parts -/
def TailG (L : List UInt8) (V : List UInt8 → Nat → Nat → List JNode → JR) (o f q b : Nat) (ns : List JNode) (keys : List ByteArray) (kids : List Int) (kid j b' : Nat) (ns' : List JNode) (ks : List ByteArray) (ds : List Int) (mid : List JNode) : Prop :=
  ns' = ns ++ mid ++ [⟨kO o, ⟨#[]⟩, keys ++ ks, kids ++ ds⟩] ∧ kid = (ns ++ mid).length ∧ j ≤ L.length ∧ ds ≠ [] ∧ (o = 123 → ks.length = ds.length) ∧ (∀ d ∈ ds, 0 ≤ d ∧ d.toNat < (ns ++ mid).length) ∧ (∀ k ∈ ks, okL k.data.toList ∧ k.size ≤ L.length) ∧
  ∀ ts : List (List UInt8), ts.length = ns.length → ∃ us, textsG mid ts = some (ts ++ us) ∧ us.length = mid.length ∧ (joinC (partsT (obO o) ks ds (ts ++ us))).length + q + 1 ≤ j ∧
    (∀ p ∈ partsT (obO o) ks ds (ts ++ us), okL p) ∧ (o = 123 → gB (joinC (partsT (obO o) ks ds (ts ++ us))) 0 = 34) ∧ (o ≠ 123 → isVal (gB (joinC (partsT (obO o) ks ds (ts ++ us))) 0) = true) ∧
    ∀ (L2 : List UInt8) (q2 f2 : Nat) (rest : List UInt8), L2.drop q2 = joinC (partsT (obO o) ks ds (ts ++ us)) ++ UInt8.ofNat (endOf o) :: rest → ds.length ≤ f2 → grpG L2 (V L2) o (endOf o) f2 q2 b ns keys kids = .ok kid (q2 + (joinC (partsT (obO o) ks ds (ts ++ us))).length + 1) b' ns'
theorem tailJ_ne {ps : List (List UInt8)} (h : ps ≠ []) : tailJ ps = 44 :: joinC ps := by
  cases ps with
  | nil => exact absurd rfl h
  | cons a r => rfl
theorem partsT_ne {ob : Bool} {keys : List ByteArray} {kids : List Int} {ts : List (List UInt8)} (h : ob = true → keys.length = kids.length) (hd : kids ≠ []) : partsT ob keys kids ts ≠ [] := fun e => by
  have h1 := partsT_len (ts := ts) h
  rw [e] at h1
  exact hd (List.eq_nil_of_length_eq_zero h1.symm)
theorem gB0_app {T r : List UInt8} (h : T ≠ []) : gB (T ++ r) 0 = gB T 0 := gB_hd (L := T ++ r) (a := T) (b := r) (q := 0) (by simp) h
theorem endOf_le (o : Nat) : endOf o < 256 := by unfold endOf; split <;> decide
theorem endOf_t (o : Nat) : (UInt8.ofNat (endOf o)).toNat = endOf o := ofNatT (endOf_le o)
theorem endOf_bl (o : Nat) : blB (endOf o) = false := by unfold endOf; split <;> decide
theorem endOf_v (o : Nat) : endV (endOf o) := by unfold endOf; split <;> simp [endV]
theorem endOf_44 (o : Nat) : (44 : Nat) ≠ endOf o := by unfold endOf; split <;> decide
theorem gB_cons (c : UInt8) (r : List UInt8) : gB (c :: r) 0 = c.toNat := rfl
/-- behind a value -/
def NextG (L : List UInt8) (V : List UInt8 → Nat → Nat → List JNode → JR) (o q b : Nat) (ns : List JNode) (keys : List ByteArray) (kids : List Int) (kid j b' : Nat) (ns' : List JNode) (ks : List ByteArray) (ds : List Int) (k1 : Nat) (mid : List JNode) : Prop :=
  ns' = ns ++ mid ++ [⟨kO o, ⟨#[]⟩, keys ++ ks, kids ++ (k1 : Int) :: ds⟩] ∧ kid = (ns ++ mid).length ∧ j ≤ L.length ∧ (o = 123 → ks.length = ds.length) ∧ (∀ d ∈ (k1 : Int) :: ds, 0 ≤ d ∧ d.toNat < (ns ++ mid).length) ∧ (∀ k ∈ ks, okL k.data.toList ∧ k.size ≤ L.length) ∧
  ∀ ts : List (List UInt8), ts.length = ns.length → ∃ us T, textsG mid ts = some (ts ++ us) ∧ us.length = mid.length ∧ kidT (ts ++ us) (k1 : Int) = T ∧ isVal (gB T 0) = true ∧ okL T ∧ (∀ p ∈ partsT (obO o) ks ds (ts ++ us), okL p) ∧ T.length + (tailJ (partsT (obO o) ks ds (ts ++ us))).length + q + 1 ≤ j ∧
    ∀ (L2 : List UInt8) (q2 f2 : Nat) (rest : List UInt8), L2.drop q2 = T ++ (tailJ (partsT (obO o) ks ds (ts ++ us)) ++ UInt8.ofNat (endOf o) :: rest) → ds.length ≤ f2 →
      grpN L2 o (endOf o) (grpG L2 (V L2) o (endOf o) f2) (V L2 q2 b ns) keys kids = .ok kid (q2 + T.length + (tailJ (partsT (obO o) ks ds (ts ++ us))).length + 1) b' ns'
theorem grpN_tail {L : List UInt8} {V : List UInt8 → Nat → Nat → List JNode → JR} (hV : BackV L V) {o f : Nat}
    (IH : ∀ (q b : Nat) (ns : List JNode) (keys : List ByteArray) (kids : List Int) (kid j b' : Nat) (ns' : List JNode), q ≤ L.length → grpG L (V L) o (endOf o) f q b ns keys kids = .ok kid j b' ns' → ∃ ks ds mid, TailG L V o f q b ns keys kids kid j b' ns' ks ds mid)
    (q b : Nat) (ns : List JNode) (keys : List ByteArray) (kids : List Int) (kid j b' : Nat) (ns' : List JNode) (hq : q ≤ L.length) (h : grpN L o (endOf o) (grpG L (V L) o (endOf o) f) (V L q b ns) keys kids = .ok kid j b' ns') :
    ∃ ks ds k1 mid, NextG L V o q b ns keys kids kid j b' ns' ks ds k1 mid := by
  cases hr : V L q b ns with
  | er c x => rw [hr] at h; unfold grpN at h; cases h
  | ok k1 j1 b1 ns2 =>
    obtain ⟨new, v1, v2, v3, v4⟩ := hV _ _ _ _ _ _ _ hq hr
    rw [hr] at h
    unfold grpN at h
    dsimp only at h
    have hnl : ns2.length = ns.length + new.length := by rw [v1, List.length_append]
    split at h
    · rename_i he
      obtain ⟨e1, e2, e3, e4⟩ := putN_ok h
      have hlt : skB L j1 < L.length := gB_lt (by rw [he]; exact endOf_ne o)
      refine ⟨[], [], k1, new, ?_, by rw [e1, v1], by omega, fun _ => rfl, ?_, (fun k hk => by cases hk), fun ts hts => ?_⟩
      · rw [e4, v1, List.append_nil]
        first | done | rfl
      · intro d hd
        rw [List.mem_singleton.1 hd]
        exact ⟨by omega, by rw [Int.toNat_natCast, List.length_append]; omega⟩
      obtain ⟨us, T, t1, t2, t3, t4, t5, t6, t7⟩ := v4 ts hts
      refine ⟨us, T, t1, t2, kidT_last t3 (by omega), t5, t6, (fun p hp => by rw [partsT_nil] at hp; cases hp), ?_, fun L2 q2 f2 rest hd hf => ?_⟩
      · rw [partsT_nil]
        have := skB_ge L j1
        show T.length + 0 + q + 1 ≤ j
        omega
      · rw [partsT_nil] at hd ⊢
        have hd' : L2.drop q2 = T ++ (UInt8.ofNat (endOf o) :: rest) := hd
        rw [t7 L2 q2 _ hd' (by rw [gB_cons, endOf_t]; exact endOf_v o)]
        have hd2 := drop_more hd'
        have hsk := sk_here hd2 (by rw [endOf_t]; exact endOf_bl o)
        have hgb := (gB_drop hd2).1
        rw [endOf_t] at hgb
        unfold grpN
        dsimp only
        rw [hsk, if_pos hgb, e1, e3, e4]
        rfl
    · split at h
      · rename_i he h44
        have hlt : skB L j1 < L.length := gB_lt (by rw [h44]; decide)
        have hq' := skB_in L (p := skB L j1 + 1) hlt
        obtain ⟨ks, ds, mid, g1, g2, g3, g4, g5, g6, g7, g8⟩ := IH _ _ _ _ _ _ _ _ _ hq'.2 h
        refine ⟨ks, ds, k1, new ++ mid, ?_, ?_, g3, g5, ?_, g7, fun ts hts => ?_⟩
        · rw [g1, v1]
          simp
        · rw [g2, v1]
          simp
        · intro d hd
          have hll : (ns ++ (new ++ mid)).length = (ns2 ++ mid).length := by rw [v1]; simp
          rw [hll]
          rcases List.mem_cons.1 hd with rfl | hd
          · exact ⟨by omega, by rw [Int.toNat_natCast, List.length_append]; omega⟩
          · exact g6 d hd
        obtain ⟨us, T, t1, t2, t3, t4, t5, t6, t7⟩ := v4 ts hts
        have hts2 : (ts ++ us).length = ns2.length := by rw [List.length_append]; omega
        obtain ⟨us2, u1, u2, u3, u4, u5, u6, u7⟩ := g8 (ts ++ us) hts2
        have hob : obO o = true → ks.length = ds.length := fun e => g5 (by unfold obO at e; simpa using e)
        rw [List.append_assoc] at u1 u3 u4 u5 u6 u7
        have hne := partsT_ne (ts := ts ++ (us ++ us2)) hob g4
        obtain ⟨P, hP⟩ : ∃ P, partsT (obO o) ks ds (ts ++ (us ++ us2)) = P := ⟨_, rfl⟩
        rw [hP] at u3 u4 u5 u6 u7 hne
        have hkt : kidT (ts ++ (us ++ us2)) (k1 : Int) = T := by
          rw [← List.append_assoc, kidT_app (by rw [Int.toNat_natCast]; omega)]
          exact kidT_last t3 (by omega)
        refine ⟨us ++ us2, T, ?_, by rw [List.length_append, List.length_append]; omega, hkt, t5, t6, by rw [hP]; exact u4, ?_, fun L2 q2 f2 rest hd hf => ?_⟩
        · rw [textsG_app _ _ _ _ t1, u1]
        · rw [hP, tailJ_ne hne, List.length_cons]
          have := skB_ge L j1
          have := hq'.1
          omega
        · rw [hP, tailJ_ne hne] at hd ⊢
          have hd' : L2.drop q2 = T ++ (44 :: (joinC P ++ UInt8.ofNat (endOf o) :: rest)) := hd
          rw [t7 L2 q2 _ hd' (Or.inr (Or.inl rfl))]
          have hd2 := drop_more hd'
          have hsk := sk_here hd2 (by decide)
          have hgb := (gB_drop hd2).1
          have hd3 := (gB_drop hd2).2.1
          have hsk2 : skB L2 (q2 + T.length + 1) = q2 + T.length + 1 := by
            have hJ : joinC P ≠ [] := by
              by_cases h123 : o = 123
              · intro e; have := u5 h123; rw [e] at this; exact absurd this (by decide)
              · exact T_ne (u6 h123)
            refine skB_at ?_
            rw [gB_hd hd3 hJ]
            by_cases h123 : o = 123
            · rw [u5 h123]; decide
            · exact isVal_bl (u6 h123)
          have hre := u7 L2 (q2 + T.length + 1) f2 rest hd3 hf
          unfold grpN
          dsimp only
          rw [hsk, hgb, show (44 : UInt8).toNat = 44 from rfl, if_neg (endOf_44 o), if_pos rfl, hsk2, hre]
          congr 1
          rw [List.length_cons]
          omega
      · cases h
theorem grpG_tail {L : List UInt8} (hL : okL L) {V : List UInt8 → Nat → Nat → List JNode → JR} (hV : BackV L V) {o : Nat} :
    ∀ (f q b : Nat) (ns : List JNode) (keys : List ByteArray) (kids : List Int) (kid j b' : Nat) (ns' : List JNode), q ≤ L.length → grpG L (V L) o (endOf o) f q b ns keys kids = .ok kid j b' ns' → ∃ ks ds mid, TailG L V o f q b ns keys kids kid j b' ns' ks ds mid
  | 0, q, b, ns, keys, kids, kid, j, b', ns', hq, h => by rw [grpG] at h; cases h
  | f + 1, q, b, ns, keys, kids, kid, j, b', ns', hq, h => by
    have IH := grpN_tail (f := f) (o := o) hV (grpG_tail hL hV f)
    rw [grpG] at h
    by_cases h123 : o = 123
    · rw [if_pos h123] at h
      split at h
      · cases h
      rename_i h34
      have h34 : gB L q = 34 := by omega
      split at h
      · cases h
      rename_i hst
      have hst : (strP L q).1 = true := by simpa using hst
      split at h
      · cases h
      rename_i hk
      split at h
      · cases h
      rename_i h58
      have h58 : gB L (skB L (strP L q).2.1) = 58 := by omega
      obtain ⟨s1, s2⟩ := strP_ok hL h34 hst
      have hlt : skB L (strP L q).2.1 < L.length := gB_lt (by rw [h58]; decide)
      have hq' := skB_in L (p := skB L (strP L q).2.1 + 1) hlt
      obtain ⟨ks, ds, k1, mid, g1, g2, g3, g4, g5, g6, g8⟩ := IH _ _ _ _ _ _ _ _ _ hq'.2 h
      obtain ⟨t, ht⟩ : ∃ t, (strP L q).2.2 = t := ⟨_, rfl⟩
      rw [ht] at s1 s2 g1 g8 hk
      have hg := escT_grow t
      have hql : (quoT t).length = (t.flatMap escT).length + 2 := by unfold quoT; simp
      have hsk0 := skB_ge L (strP L q).2.1
      refine ⟨mkB t :: ks, (k1 : Int) :: ds, mid, by rw [g1]; simp, g2, g3, by simp, fun e => by rw [List.length_cons, List.length_cons, g4 e], g5, ?_, fun ts hts => ?_⟩
      · intro k hkm
        rcases List.mem_cons.1 hkm with rfl | hkm
        · rw [mkB_data, mkB_size]
          exact ⟨s1, by omega⟩
        · exact g6 k hkm
      obtain ⟨us, T, t1, t2, t3, t4, t5, t6, t7, t8⟩ := g8 ts hts
      have hob : obO o = true := by unfold obO; exact decide_eq_true h123
      have hpc : partsT (obO o) (mkB t :: ks) ((k1 : Int) :: ds) (ts ++ us) = (quoT t ++ 58 :: T) :: partsT (obO o) ks ds (ts ++ us) := by rw [partsT_cons, if_pos hob, mkB_data, t3]
      refine ⟨us, t1, t2, ?_⟩
      rw [hpc, joinC_cons]
      refine ⟨?_, ?_, ?_, fun e => absurd h123 e, fun L2 q2 f2 rest hd hf => ?_⟩
      · simp only [List.length_append, List.length_cons]
        have := hq'.1
        omega
      · intro p hp
        rcases List.mem_cons.1 hp with rfl | hp
        · exact okL_app (okL_quo s1) (okL_app (a := [58]) (okL_one (by decide)) t5)
        · exact t6 p hp
      · intro _
        rfl
      · obtain ⟨f3, rfl⟩ : ∃ f3, f2 = f3 + 1 := ⟨f2 - 1, by rw [List.length_cons] at hf; omega⟩
        have hd' : L2.drop q2 = quoT t ++ (58 :: (T ++ (tailJ (partsT (obO o) ks ds (ts ++ us)) ++ UInt8.ofNat (endOf o) :: rest))) := by rw [hd]; simp
        have hsb := strP_back s1 hd'
        have hq34 : gB L2 q2 = 34 := by rw [gB_hd hd' (by unfold quoT; simp)]; rfl
        have hd2 := drop_more hd'
        have hsk := sk_here hd2 (by decide)
        have hgb := (gB_drop hd2).1
        have hd3 := (gB_drop hd2).2.1
        have hsk2 := sk_val hd3 t4
        have hre := t8 L2 _ f3 rest hd3 (by rw [List.length_cons] at hf; omega)
        rw [grpG, if_pos h123, if_neg (by omega), hsb]
        dsimp only
        rw [if_neg (by decide), if_neg hk, hsk, hgb, show (58 : UInt8).toNat = 58 from rfl, if_neg (by decide), hsk2, hre]
        congr 1
        simp only [List.length_append, List.length_cons]
        omega
    · rw [if_neg h123] at h
      obtain ⟨ks, ds, k1, mid, g1, g2, g3, g4, g5, g6, g8⟩ := IH _ _ _ _ _ _ _ _ _ hq h
      refine ⟨ks, (k1 : Int) :: ds, mid, g1, g2, g3, by simp, fun e => absurd e h123, g5, g6, fun ts hts => ?_⟩
      obtain ⟨us, T, t1, t2, t3, t4, t5, t6, t7, t8⟩ := g8 ts hts
      have hob : obO o = false := by unfold obO; exact decide_eq_false h123
      have hpc : partsT (obO o) ks ((k1 : Int) :: ds) (ts ++ us) = T :: partsT (obO o) ks ds (ts ++ us) := by rw [hob, partsT_cons' (keys' := ks), t3]
      refine ⟨us, t1, t2, ?_⟩
      rw [hpc, joinC_cons]
      refine ⟨?_, ?_, fun e => absurd e h123, fun _ => by rw [gB0_app (T_ne t4)]; exact t4, fun L2 q2 f2 rest hd hf => ?_⟩
      · rw [List.length_append]
        omega
      · intro p hp
        rcases List.mem_cons.1 hp with rfl | hp
        · exact t5
        · exact t6 p hp
      · obtain ⟨f3, rfl⟩ : ∃ f3, f2 = f3 + 1 := ⟨f2 - 1, by rw [List.length_cons] at hf; omega⟩
        rw [List.append_assoc] at hd
        have hre := t8 L2 q2 f3 rest hd (by rw [List.length_cons] at hf; omega)
        rw [grpG, if_neg h123, hre, List.length_append]
        congr 1
        omega
theorem grpB_back {L : List UInt8} (hL : L.length ≤ 1000) (hok : okL L) {V : List UInt8 → Nat → Nat → List JNode → JR} (hV : BackV L V) : BackG L (fun L => grpB L (V L)) := by
  intro o p b ns kid j b' ns' ho hp h
  dsimp only at h ⊢
  unfold grpB at h
  have hsk := skB_in L (p := p + 1) hp
  have hoT : (UInt8.ofNat o).toNat = o := ofNatT (by omega)
  have ho0 : okL [UInt8.ofNat o] := okL_one (by rw [hoT]; omega)
  have he0 : okL [UInt8.ofNat (endOf o)] := okL_one (by rw [endOf_t]; unfold endOf; split <;> omega)
  have hkt : ∀ (ks : List ByteArray) (ds : List Int) (ts : List (List UInt8)), (o = 123 → ks.length = ds.length ∧ ∀ k ∈ ks, okText k = true) → nodeT ⟨kO o, ⟨#[]⟩, ks, ds⟩ ts = some (UInt8.ofNat o :: (joinC (partsT (obO o) ks ds ts) ++ [UInt8.ofNat (endOf o)])) := by
    intro ks ds ts hk
    unfold nodeT
    rcases ho with rfl | rfl
    · rfl
    · rw [show kO 123 = 7 from rfl]
      dsimp only
      rw [if_neg (show ¬ ((7 : Int) = 1) by decide), if_neg (show ¬ ((7 : Int) = 2) by decide), if_neg (show ¬ ((7 : Int) = 3) by decide), if_neg (show ¬ ((7 : Int) = 4) by decide), if_neg (show ¬ ((7 : Int) = 5) by decide), if_neg (show ¬ ((7 : Int) = 6) by decide), if_pos rfl, if_pos (hk rfl)]
      rfl
  split at h
  · rename_i he
    obtain ⟨e1, e2, e3, e4⟩ := putN_ok h
    have hlt : skB L (p + 1) < L.length := gB_lt (by rw [he]; exact endOf_ne o)
    refine ⟨_, e4, by rw [e4, e1, List.length_append]; rfl, by omega, fun ts hts => ⟨[[UInt8.ofNat o, UInt8.ofNat (endOf o)]], [UInt8.ofNat o, UInt8.ofNat (endOf o)], ?_⟩⟩
    have hn := hkt [] [] ts (fun _ => ⟨rfl, fun k hk => by cases hk⟩)
    rw [partsT_nil] at hn
    refine ⟨textsG_one hn (by show 2 ≤ 1000; decide), rfl, rfl, ?_, by rw [gB_cons]; exact hoT, okL_app ho0 he0, fun L2 p2 rest hd => ?_⟩
    · show 2 + p ≤ j
      omega
    · have hd' : L2.drop p2 = UInt8.ofNat o :: (UInt8.ofNat (endOf o) :: rest) := hd
      have hd2 := (gB_drop hd').2.1
      have hs2 := sk_here hd2 (by rw [endOf_t]; exact endOf_bl o)
      have hgb := (gB_drop hd2).1
      rw [endOf_t] at hgb
      unfold grpB
      rw [hs2, if_pos hgb, e1, e3, e4]
      rfl
  · obtain ⟨ks, ds, mid, g1, g2, g3, g4, g5, g6, g7, g8⟩ := grpG_tail hok hV _ _ _ _ _ _ _ _ _ _ hsk.2 h
    rw [List.nil_append, List.nil_append] at g1
    refine ⟨mid ++ [⟨kO o, ⟨#[]⟩, ks, ds⟩], by rw [g1, List.append_assoc], by rw [g1, g2]; simp; omega, g3, fun ts hts => ?_⟩
    obtain ⟨us, t1, t2, t3, t4, t5, t6, t7⟩ := g8 ts hts
    have hn := hkt ks ds (ts ++ us) (fun e => ⟨g5 e, fun k hk => by obtain ⟨a1, a2⟩ := g7 k hk; exact okL_textOk a1 (by rw [← Lib.size_eq]; omega)⟩)
    have hob : obO o = true → ks.length = ds.length := fun e => g5 (by unfold obO at e; simpa using e)
    have hne := partsT_ne (ts := ts ++ us) hob g4
    have hpl := partsT_len (ts := ts ++ us) hob
    obtain ⟨P, hP⟩ : ∃ P, partsT (obO o) ks ds (ts ++ us) = P := ⟨_, rfl⟩
    rw [hP] at t3 t4 t5 t6 t7 hn hne hpl
    have hTl : (UInt8.ofNat o :: (joinC P ++ [UInt8.ofNat (endOf o)])).length = (joinC P).length + 2 := by simp
    refine ⟨us ++ [UInt8.ofNat o :: (joinC P ++ [UInt8.ofNat (endOf o)])], UInt8.ofNat o :: (joinC P ++ [UInt8.ofNat (endOf o)]), ?_, ?_, by simp, ?_, by rw [gB_cons]; exact hoT, ?_, fun L2 p2 rest hd => ?_⟩
    · rw [textsG_app _ _ _ _ t1, textsG_one hn (by rw [hTl]; omega), List.append_assoc]
    · rw [List.length_append, List.length_append, t2]
      rfl
    · rw [hTl]
      have := hsk.1
      omega
    · refine okL_app ho0 (okL_app ?_ he0)
      have := okL_tail t4
      rw [tailJ_ne hne] at this
      exact (okL_low this (by decide)).1
    · have hd' : L2.drop p2 = UInt8.ofNat o :: (joinC P ++ UInt8.ofNat (endOf o) :: rest) := by rw [hd]; simp
      have hd2 := (gB_drop hd').2.1
      have hJ : joinC P ≠ [] := by
        by_cases h123 : o = 123
        · intro e; have := t5 h123; rw [e] at this; exact absurd this (by decide)
        · exact T_ne (t6 h123)
      have hhd : blB (gB (joinC P) 0) = false ∧ gB (joinC P) 0 ≠ endOf o := by
        by_cases h123 : o = 123
        · rw [t5 h123]
          refine ⟨by decide, ?_⟩
          unfold endOf
          split <;> decide
        · have h9 := t6 h123
          have h8 := isVal_ne h9
          refine ⟨isVal_bl h9, ?_⟩
          unfold endOf
          rw [if_neg h123]
          exact h8.1
      have hs2 : skB L2 (p2 + 1) = p2 + 1 := skB_at (by rw [gB_hd hd2 hJ]; exact hhd.1)
      have hre := t7 L2 (p2 + 1) (L2.length + 1) rest hd2 (by
        have h1 := congrArg List.length hd2
        rw [List.length_drop, List.length_append] at h1
        have h2 := tailJ_len P
        rw [tailJ_ne hne, List.length_cons] at h2
        omega)
      unfold grpB
      rw [hs2, if_neg (by rw [gB_hd hd2 hJ]; exact hhd.2), hre]
      congr 1
      rw [hTl]
      omega
theorem grpL_back {L : List UInt8} (hL : L.length ≤ 1000) (hok : okL L) : ∀ v, BackG L (fun L => grpL L v)
  | 0 => by
    intro o p b ns kid j b' ns' ho hp h
    dsimp only at h
    rw [grpL] at h
    cases h
  | v + 1 => by
    have h1 := grpB_back hL hok (valG_back hL hok (grpL_back hL hok v))
    exact h1
/-- a line that is read: the nodes' texts, the last one's is read again -/
theorem jrd_back {s : ByteArray} {ns : List JNode} {p : Nat} (h : jrdP s = (ns, p, 0)) : ∃ us T, textsG ns [] = some us ∧ us.length = ns.length ∧ us.getLast? = some T ∧ T.length ≤ s.size ∧ jrdP (mkB T) = (ns, 0, 0) ∧ p = 0 := by
  unfold jrdP at h
  cases hk : okText s with
  | false => rw [hk, if_neg (by decide)] at h; cases h
  | true =>
    rw [hk, if_pos rfl] at h
    obtain ⟨hok, hl⟩ := textOk_okL (l := s.data.toList) hk
    cases hv : valG s.data.toList (grpL s.data.toList 8) (skB s.data.toList 0) 0 [] with
    | er c q =>
      rw [hv] at h
      dsimp only at h
      have h9 := valG_er hv
      injection h with _ h
      injection h with _ h
      omega
    | ok kid j b' ns' =>
      rw [hv] at h
      dsimp only at h
      split at h
      · injection h with _ h
        injection h with _ h
        cases h
      · rename_i hsz
        injection h with h1 h2
        injection h2 with h2 _
        have h1 : ns' = ns := h1
        have hin := skB_in s.data.toList (p := 0) (Nat.zero_le _)
        obtain ⟨new, v1, v2, v3, v4⟩ := valG_back hl hok (grpL_back hl hok 8) _ _ _ _ _ _ _ hin.2 hv
        obtain ⟨us, T, t1, t2, t3, t4, t5, t6, t7⟩ := v4 [] rfl
        rw [List.nil_append] at v1 t1
        have hnew : new = ns := by rw [← v1, h1]
        rw [hnew] at t1 t2
        have hsl : s.size = s.data.toList.length := Lib.size_eq s
        have hTl : T.length ≤ s.size := by omega
        refine ⟨us, T, t1, t2, t3, hTl, ?_, h2.symm⟩
        have hre := t7 T 0 [] (by simp) endV_nil
        dsimp only at hre
        rw [Nat.zero_add] at hre
        have hs0 : skB T 0 = 0 := skB_at (isVal_bl t5)
        have hsT : skB T T.length = T.length := skB_at (by rw [gB_end (Nat.le_refl _)]; decide)
        unfold jrdP
        rw [mkB_size', okL_textOk t6 (by omega), if_pos rfl, mkB_data, hs0, hre]
        dsimp only
        rw [hsT, mkB_size, if_neg (by omega), h1]
end Go.Proofs.YtlfkfofeenakhaaDoor
