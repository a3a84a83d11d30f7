/-
  What is proved here: naturals in digits ('natOk'), numbers ('decOk'): what isNat, NatOk, isDec, DecOk return. No condition.
-/
import Derived.Test.YtommldonooicjaaDoorDv
import Derived.Test.YtommldonooicjaaDoorWithin
namespace Go.Proofs.YtommldonooicjaaDoor
open Go.RowKit
set_option linter.unusedVariables false
set_option linter.unusedSimpArgs false

def isDig (c : UInt8) : Bool := decide (48 ≤ c.toNat ∧ c.toNat ≤ 57)
def natOk (l : List UInt8) : Bool := l.all isDig && decide (1 ≤ l.length ∧ l.length ≤ 600) && (decide (l.length = 1) || decide (l.head? ≠ some 48))
theorem isDig_iff {c : UInt8} : isDig c = true ↔ 48 ≤ c.toNat ∧ c.toNat ≤ 57 := by simp [isDig]
theorem natOk_iff {l : List UInt8} : natOk l = true ↔ (∀ c ∈ l, 48 ≤ c.toNat ∧ c.toNat ≤ 57) ∧ 1 ≤ l.length ∧ l.length ≤ 600 ∧ (l.length = 1 ∨ l.head? ≠ some 48) := by
  unfold natOk
  simp only [Bool.and_eq_true, Bool.or_eq_true, decide_eq_true_eq, List.all_eq_true, isDig_iff]
  constructor
  · rintro ⟨⟨h1, h2, h3⟩, h4⟩; exact ⟨h1, h2, h3, h4⟩
  · rintro ⟨h1, h2, h3, h4⟩; exact ⟨⟨h1, h2, h3⟩, h4⟩
theorem size_list (s : ByteArray) : s.size = s.data.toList.length := Lib.size_eq s
theorem get_list (s : ByteArray) (i : Nat) (h : i < s.size) : s.data.toList[i]'(by rw [← size_list]; exact h) = s[i] := rfl
theorem mem_list {s : ByteArray} {P : UInt8 → Prop} (h : ∀ i (hi : i < s.size), P s[i]) : ∀ c ∈ s.data.toList, P c := by
  intro c hc
  obtain ⟨i, hi, rfl⟩ := List.mem_iff_getElem.1 hc
  exact h i (by rw [size_list]; exact hi)
theorem head_list (s : ByteArray) (h : 0 < s.size) : s.data.toList.head? = some s[0] := by
  rw [List.head?_eq_getElem?, List.getElem?_eq_getElem (by rw [← size_list]; exact h)]
  rfl
theorem toNat_eq_48 {c : UInt8} : c.toNat = 48 ↔ c = 48 := by
  constructor
  · intro h; exact UInt8.toNat_inj.1 h
  · rintro rfl; rfl

set_option maxHeartbeats 1000000 in
theorem implIsNat (s : ByteArray) (w : World) (hs : s.size ≤ 9223372036854775807) :
    Calls Tryd.prog 85 #[.string s] w fun e w' => e = .returned (.bool (natOk s.data.toList)) ∧ w = w' := by
  go_enter Tryd.func85, Tryd.ntmps85
  go_wp2
  go_loop [6] (fun i => ∃ k : Nat, k ≤ s.size ∧ i = .int .i64 k ∧ ∀ i (hi : i < k) (hi' : i < s.size), 48 ≤ s[i].toNat ∧ s[i].toNat ≤ 57) (fun i => s.size - (intOf i).toNat)
  case atStart => exact ⟨0, Nat.zero_le _, rfl, fun i hi => absurd hi (by omega)⟩
  case round =>
    obtain ⟨k, hk, rfl, hr⟩ := hrel
    have HR := hid hr
    clear hr
    by_cases hlt : k < s.size
    · by_cases hd : 48 ≤ s[k].toNat ∧ s[k].toNat ≤ 57
      · have h1 : ¬ (s[k].toNat : Int) < 48 := by omega
        have h2 : ¬ (57 : Int) < (s[k].toNat : Int) := by omega
        have HD := hid hd
        clear hd
        go_wp2
        go_round
        case rel => exact ⟨k + 1, by omega, by go_num, fun i hi hi' => by
          by_cases hik : i = k
          · subst hik; exact HD.out
          · exact HR.out i (by omega) hi'⟩
        case measure => simp [intOf]; omega
      · have hbad : natOk s.data.toList = false := by
          rw [Bool.eq_false_iff]
          intro h
          exact hd ((natOk_iff.1 h).1 s[k] (by rw [← get_list s k hlt]; exact List.getElem_mem _))
        have HB := hid hbad
        clear hbad
        have hd' : s[k].toNat < 48 ∨ 57 < s[k].toNat := by omega
        clear hd
        rcases hd' with hd' | hd'
        · have h1 : (s[k].toNat : Int) < 48 := by omega
          go_wp2
          go_ret
          exact ⟨end_bool HB.out.symm, rfl⟩
        · have h1 : ¬ (s[k].toNat : Int) < 48 := by omega
          have h2 : (57 : Int) < (s[k].toNat : Int) := by omega
          go_wp2
          go_ret
          exact ⟨end_bool HB.out.symm, rfl⟩
    · have : k = s.size := by omega
      subst this
      have hall : ∀ c ∈ s.data.toList, 48 ≤ c.toNat ∧ c.toNat ≤ 57 := mem_list (fun i hi => HR.out i hi hi)
      have HA := hid hall
      clear hall
      by_cases hin : 1 ≤ s.size ∧ s.size ≤ 600
      · have hb : inB 1 (s.size : Int) 600 = true := inB_true (by omega)
        have h0 : 0 < s.size := by omega
        by_cases hz : s[0].toNat = 48
        · by_cases hone : s.size = 1
          · have hn : ((s[0].toNat : Int) != 48) = false := by rw [hz]; rfl
            have hl : s.data.toList = [48] := by
              have h1 : s.data.toList.length = 1 := by rw [← size_list]; exact hone
              match hm : s.data.toList, h1 with
              | [c], _ =>
                have := head_list s h0
                rw [hm] at this
                simp at this
                rw [this, toNat_eq_48.1 hz]
            have he : (s.toList == [48]) = true := by rw [Lib.toList_data, hl]; rfl
            have hok : natOk s.data.toList = true := natOk_iff.2 ⟨HA.out, by rw [← size_list]; omega, by rw [← size_list]; omega, Or.inl (by rw [← size_list]; exact hone)⟩
            have HO := hid hok
            clear hok hl hone hz hlt
            go_wp2_with (go_at_call 37; refine (within_any _ _ _ _).mono ?_; rintro e w1 ⟨rfl, rfl⟩)
            go_ret
            exact ⟨end_bool HO.out.symm, rfl⟩
          · have hn : ((s[0].toNat : Int) != 48) = false := by rw [hz]; rfl
            have he : (s.toList == [48]) = false := by
              rw [Lib.toList_data]
              simp only [beq_eq_false_iff_ne]
              intro h
              have := size_list s
              rw [h] at this
              exact hone this
            have hok : natOk s.data.toList = false := by
              rw [Bool.eq_false_iff]
              intro h
              rcases (natOk_iff.1 h).2.2.2 with h1 | h1
              · exact hone (by rw [size_list]; exact h1)
              · exact h1 (by rw [head_list s h0, toNat_eq_48.1 hz])
            have HO := hid hok
            clear hok hone hz hlt
            go_wp2_with (go_at_call 37; refine (within_any _ _ _ _).mono ?_; rintro e w1 ⟨rfl, rfl⟩)
            go_ret
            exact ⟨end_bool HO.out.symm, rfl⟩
        · have hn : ((s[0].toNat : Int) != 48) = true := by rw [bne_iff_ne]; omega
          have hok : natOk s.data.toList = true := natOk_iff.2 ⟨HA.out, by rw [← size_list]; omega, by rw [← size_list]; omega, Or.inr (by rw [head_list s h0]; simp; exact fun h => hz (toNat_eq_48.2 h))⟩
          have HO := hid hok
          clear hok hz hlt
          go_wp2_with (go_at_call 37; refine (within_any _ _ _ _).mono ?_; rintro e w1 ⟨rfl, rfl⟩)
          go_ret
          exact ⟨end_bool HO.out.symm, rfl⟩
      · have hb : inB 1 (s.size : Int) 600 = false := inB_false (by omega)
        have hok : natOk s.data.toList = false := by
          rw [Bool.eq_false_iff]
          intro h
          have := natOk_iff.1 h
          rw [← size_list] at this
          omega
        have HO := hid hok
        clear hok hlt
        go_wp2_with (go_at_call 37; refine (within_any _ _ _ _).mono ?_; rintro e w1 ⟨rfl, rfl⟩)
        go_ret
        exact ⟨end_bool HO.out.symm, rfl⟩

set_option maxHeartbeats 1000000 in
theorem specNatOk (s : ByteArray) (w : World) (hs : s.size ≤ 9223372036854775807) :
    Calls Tryd.prog 86 #[.string s] w fun e w' => e = .returned (.bool (natOk s.data.toList)) ∧ w = w' := by
  by_cases hin : 1 ≤ s.size ∧ s.size ≤ 600
  · have h0 : 0 < s.size := by omega
    have i1 : ¬ (s.size : Int) < 1 := by omega
    have i2 : ¬ (600 : Int) < (s.size : Int) := by omega
    by_cases hz : s.size ≠ 1 ∧ s[0].toNat = 48
    · have hok : natOk s.data.toList = false := by
        rw [Bool.eq_false_iff]
        intro h
        rcases (natOk_iff.1 h).2.2.2 with h1 | h1
        · exact hz.1 (by rw [size_list]; exact h1)
        · exact h1 (by rw [head_list s h0, toNat_eq_48.1 hz.2])
      have HO := hid hok
      have g1 : (1 : Int) < (s.size : Int) := by omega
      have g2 : ((s[0].toNat : Int) == 48) = true := by rw [hz.2]; rfl
      clear hok hz hin
      go_enter Tryd.func86, Tryd.ntmps86
      go_wp2
      go_ret
      exact ⟨end_bool HO.out.symm, rfl⟩
    · have HZ := hid hz
      have HI := hid hin
      have hcase : s.size = 1 ∨ (s.size ≠ 1 ∧ s[0].toNat ≠ 48) := by omega
      clear hz hin
      have key : (¬ (1 : Int) < (s.size : Int)) ∨ ((1 : Int) < (s.size : Int) ∧ ((s[0].toNat : Int) == 48) = false) := by
        rcases hcase with h | ⟨h1, h2⟩
        · left; omega
        · right; exact ⟨by omega, by rw [beq_eq_false_iff_ne]; omega⟩
      have HC := hid hcase
      clear hcase
      rcases key with g1 | ⟨g1, g2⟩
      all_goals
        go_enter Tryd.func86, Tryd.ntmps86
        go_wp2
        go_loop [3] (fun i => ∃ k : Nat, k ≤ s.size ∧ i = .int .i64 k ∧ ∀ i (hi : i < k) (hi' : i < s.size), 48 ≤ s[i].toNat ∧ s[i].toNat ≤ 57) (fun i => s.size - (intOf i).toNat)
        case atStart => exact ⟨0, Nat.zero_le _, rfl, fun i hi => absurd hi (by omega)⟩
        case round =>
          obtain ⟨k, hk, rfl, hr⟩ := hrel
          have HR := hid hr
          clear hr
          by_cases hlt : k < s.size
          · have hb256 : s[k].toNat < 256 := s[k].toNat_lt
            have hcv : 0 ≤ (s[k].toNat : Int) ∧ (s[k].toNat : Int) < 256 := by omega
            by_cases hd : 48 ≤ s[k].toNat ∧ s[k].toNat ≤ 57
            · have hb : inB 48 (s[k].toNat : Int) 57 = true := inB_true (by omega)
              have HD := hid hd
              clear hd
              go_wp2_with fail
              refine (between_any _ _ _ _).mono ?_
              rintro e w1 ⟨rfl, rfl⟩
              (try simp only [wrap64_byte])
              go_wp2
              go_round
              case rel => exact ⟨k + 1, by omega, by go_num, fun i hi hi' => by
                by_cases hik : i = k
                · subst hik; exact HD.out
                · exact HR.out i (by omega) hi'⟩
              case measure => simp [intOf]; omega
            · have hb : inB 48 (s[k].toNat : Int) 57 = false := inB_false (by omega)
              have hbad : natOk s.data.toList = false := by
                rw [Bool.eq_false_iff]
                intro h
                exact hd ((natOk_iff.1 h).1 s[k] (by rw [← get_list s k hlt]; exact List.getElem_mem _))
              have HB := hid hbad
              clear hbad hd
              go_wp2_with fail
              refine (between_any _ _ _ _).mono ?_
              rintro e w1 ⟨rfl, rfl⟩
              (try simp only [wrap64_byte])
              go_wp2
              go_ret
              exact ⟨end_bool HB.out.symm, rfl⟩
          · have : k = s.size := by omega
            subst this
            have hok : natOk s.data.toList = true := natOk_iff.2 ⟨mem_list (fun i hi => HR.out i hi hi), by rw [← size_list]; exact HI.out.1, by rw [← size_list]; exact HI.out.2, by
              rcases HC.out with h | ⟨_, h⟩
              · left; rw [← size_list]; exact h
              · right; rw [head_list s h0]; simp; exact fun h' => h (toNat_eq_48.2 h')⟩
            have HO := hid hok
            clear hok
            go_wp2
            go_ret
            exact ⟨end_bool HO.out.symm, rfl⟩
  · have hok : natOk s.data.toList = false := by
      rw [Bool.eq_false_iff]
      intro h
      have := natOk_iff.1 h
      rw [← size_list] at this
      omega
    have HO := hid hok
    have hcase : (s.size : Int) < 1 ∨ (¬ (s.size : Int) < 1 ∧ (600 : Int) < (s.size : Int)) := by omega
    clear hok hin
    rcases hcase with g1 | ⟨g1, g2⟩
    all_goals
      go_enter Tryd.func86, Tryd.ntmps86
      go_wp2
      go_ret
      exact ⟨end_bool HO.out.symm, rfl⟩

/-- a number in form -/
def decOk (d : Dec) : Bool :=
  if d.dig.size = 0 then !d.neg && decide (d.exp = 0)
  else natOk d.dig.data.toList && decide (d.dig.size ≤ 20) && decide (d.dig.data.toList.head? ≠ some 48) && decide (d.dig.data.toList.getLast? ≠ some 48) && decide (-98 - (d.dig.size : Int) ≤ d.exp ∧ d.exp ≤ 100 - (d.dig.size : Int))
theorem decOk_nil (neg : Bool) (exp : Int) : decOk ⟨neg, ⟨#[]⟩, exp⟩ = (!neg && decide (exp = 0)) := by
  unfold decOk
  exact if_pos rfl
theorem last_list (s : ByteArray) (h : 0 < s.size) : s.data.toList.getLast? = some (s[s.size - 1]'(by omega)) := by
  rw [List.getLast?_eq_getElem?, List.getElem?_eq_getElem (by rw [← size_list]; omega)]
  simp only [← size_list]
  rfl
theorem decOk_pos {d : Dec} (h : 0 < d.dig.size) : decOk d = (natOk d.dig.data.toList && decide (d.dig.size ≤ 20) && !decide (d.dig[0].toNat = 48) && !decide ((d.dig[d.dig.size - 1]'(by omega)).toNat = 48) && decide (-98 - (d.dig.size : Int) ≤ d.exp ∧ d.exp ≤ 100 - (d.dig.size : Int))) := by
  unfold decOk
  rw [if_neg (by omega), head_list _ h, last_list _ h]
  simp only [ne_eq, Option.some.injEq, toNat_eq_48, decide_not]
theorem ba_nil {s : ByteArray} (h : s.size = 0) : s = ⟨#[]⟩ := by
  cases s with
  | mk a => simp [ByteArray.size] at h; simp [h]
theorem ba_nil_list {s : ByteArray} (h : ¬ s.size = 0) : ¬ s.toList = [] := by
  intro h'
  rw [Lib.toList_data] at h'
  rw [size_list, h'] at h
  exact h rfl
theorem ba_nil_empty {s : ByteArray} (h : ¬ s.size = 0) : s.toList.isEmpty = false := by
  cases hl : s.toList with
  | nil => exact absurd hl (ba_nil_list h)
  | cons a r => rfl
theorem ba_nil_beq {s : ByteArray} (h : ¬ s.size = 0) : (s.toList == []) = false := by
  rw [beq_eq_false_iff_ne]; exact ba_nil_list h

set_option maxHeartbeats 4000000 in
theorem implIsDec {cs : Array Value} {d : Dec} (w : World) (hrd : Rd.rd (Old w) w cs.toList d) :
    Calls Tryd.prog 66 #[.agg cs] w fun e w' => e = .returned (.bool (decOk d)) ∧ Below w.heap.size w w' := by
  obtain ⟨hcs, hs, he⟩ := rdDec hrd
  obtain rfl := arr_of_list hcs
  clear hcs hrd
  obtain ⟨neg, dig, exp⟩ := d
  dsimp only at hs he ⊢
  by_cases h0 : dig.size = 0
  · obtain rfl := ba_nil h0
    clear h0 hs
    have hb : inB 1 0 20 = false := inB_false (by omega)
    cases neg
    · by_cases hx : exp = 0
      · subst hx
        go_enter Tryd.func66, Tryd.ntmps66
        go_wp2
        go_ret
        exact ⟨end_bool (by rfl), ext_alloc _ _⟩
      · have hx' : (exp == 0) = false := by rw [beq_eq_false_iff_ne]; exact hx
        have hok : decOk ⟨false, ⟨#[]⟩, exp⟩ = false := by rw [decOk_nil]; simp [hx]
        have HO := hid hok
        clear hok
        go_enter Tryd.func66, Tryd.ntmps66
        go_wp2_with (go_at_call 37; refine (within_any _ _ _ _).mono ?_; rintro e w1 ⟨rfl, rfl⟩)
        go_ret
        exact ⟨end_bool HO.out.symm, ext_alloc _ _⟩
    · have hok : decOk ⟨true, ⟨#[]⟩, exp⟩ = false := by rw [decOk_nil]; rfl
      have HO := hid hok
      clear hok
      go_enter Tryd.func66, Tryd.ntmps66
      go_wp2_with (go_at_call 37; refine (within_any _ _ _ _).mono ?_; rintro e w1 ⟨rfl, rfl⟩)
      go_ret
      exact ⟨end_bool HO.out.symm, ext_alloc _ _⟩
  · have hpos : 0 < dig.size := by omega
    have hne := ba_nil_list h0
    have hE := hid (decOk_pos (d := ⟨neg, dig, exp⟩) hpos)
    obtain ⟨n, hn⟩ : ∃ b, natOk dig.data.toList = b := ⟨_, rfl⟩
    have HN := hid hn
    clear h0 hn
    by_cases h20 : dig.size ≤ 20
    · have hb : inB 1 (dig.size : Int) 20 = true := inB_true (by omega)
      by_cases hx : -98 - (dig.size : Int) ≤ exp ∧ exp ≤ 100 - (dig.size : Int)
      all_goals
        first
          | (have hb2 : inB (-99 - (dig.size : Int) + 1) exp (99 - (dig.size : Int) + 1) = true := inB_true (by omega))
          | (have hb2 : inB (-99 - (dig.size : Int) + 1) exp (99 - (dig.size : Int) + 1) = false := inB_false (by omega))
        have HX := hid hx
        clear hx
        by_cases hz : dig[0].toNat = 48
        all_goals
          first
            | (have hz' : ((dig[0].toNat : Int) != 48) = false := by rw [hz]; rfl)
            | (have hz' : ((dig[0].toNat : Int) != 48) = true := by rw [bne_iff_ne]; omega)
          have HZ := hid hz
          clear hz
          by_cases hl : (dig[dig.size - 1]'(by omega)).toNat = 48
          all_goals
            first
              | (have hl' : (((dig[dig.size - 1]'(by omega)).toNat : Int) != 48) = false := by rw [hl]; rfl)
              | (have hl' : (((dig[dig.size - 1]'(by omega)).toNat : Int) != 48) = true := by rw [bne_iff_ne]; omega)
            have HL := hid hl
            clear hl
            cases n
            all_goals
              go_enter Tryd.func66, Tryd.ntmps66
              go_wp2_with (first | (go_at_call 37; refine (within_any _ _ _ _).mono ?_; rintro e w1 ⟨rfl, rfl⟩) | (go_at_call 85; refine (implIsNat _ _ hs).mono ?_; rintro e w1 ⟨rfl, rfl⟩; rw [HN.out]))
              all_goals (go_ret; exact ⟨end_bool (by rw [hE.out, HN.out]; simp [HX.out, HZ.out, HL.out, h20]), ext_alloc _ _⟩)
    · have hb : inB 1 (dig.size : Int) 20 = false := inB_false (by omega)
      go_enter Tryd.func66, Tryd.ntmps66
      go_wp2_with (first | (go_at_call 37; refine (within_any _ _ _ _).mono ?_; rintro e w1 ⟨rfl, rfl⟩))
      all_goals (go_ret; exact ⟨end_bool (by rw [hE.out]; simp [h20]), ext_alloc _ _⟩)

set_option maxHeartbeats 4000000 in
theorem specDecOk {cs : Array Value} {d : Dec} (w : World) (hrd : Rd.rd (Old w) w cs.toList d) :
    Calls Tryd.prog 69 #[.agg cs] w fun e w' => e = .returned (.bool (decOk d)) ∧ Below w.heap.size w w' := by
  obtain ⟨hcs, hs, he⟩ := rdDec hrd
  obtain rfl := arr_of_list hcs
  clear hcs hrd
  obtain ⟨neg, dig, exp⟩ := d
  dsimp only at hs he ⊢
  by_cases h0 : dig.size = 0
  · obtain rfl := ba_nil h0
    clear h0 hs
    cases neg
    · by_cases hx : exp = 0
      · subst hx
        go_enter Tryd.func69, Tryd.ntmps69
        go_wp2
        go_ret
        exact ⟨end_bool (by rfl), ext_alloc _ _⟩
      · have hx' : (exp == 0) = false := by rw [beq_eq_false_iff_ne]; exact hx
        have hok : decOk ⟨false, ⟨#[]⟩, exp⟩ = false := by rw [decOk_nil]; simp [hx]
        have HO := hid hok
        clear hok
        go_enter Tryd.func69, Tryd.ntmps69
        go_wp2
        go_ret
        exact ⟨end_bool HO.out.symm, ext_alloc _ _⟩
    · have hok : decOk ⟨true, ⟨#[]⟩, exp⟩ = false := by rw [decOk_nil]; rfl
      have HO := hid hok
      clear hok
      go_enter Tryd.func69, Tryd.ntmps69
      go_wp2
      go_ret
      exact ⟨end_bool HO.out.symm, ext_alloc _ _⟩
  · have hpos : 0 < dig.size := by omega
    have hne := ba_nil_list h0
    have hne2 := ba_nil_empty h0
    have hE := hid (decOk_pos (d := ⟨neg, dig, exp⟩) hpos)
    obtain ⟨n, hn⟩ : ∃ b, natOk dig.data.toList = b := ⟨_, rfl⟩
    have HN := hid hn
    clear h0 hn
    by_cases h20 : dig.size ≤ 20
    · have hb : ¬ (20 : Int) < (dig.size : Int) := by omega
      have hz3 : ((dig[0].toNat : Int) == 48) = true ∨ (((dig[0].toNat : Int) == 48) = false ∧ (((dig[dig.size - 1]'(by omega)).toNat : Int) == 48) = true) ∨ (((dig[0].toNat : Int) == 48) = false ∧ (((dig[dig.size - 1]'(by omega)).toNat : Int) == 48) = false ∧ n = false) ∨
        (((dig[0].toNat : Int) == 48) = false ∧ (((dig[dig.size - 1]'(by omega)).toNat : Int) == 48) = false ∧ n = true) := by
        by_cases hz : dig[0].toNat = 48
        · left; rw [hz]; rfl
        · by_cases hl : (dig[dig.size - 1]'(by omega)).toNat = 48
          · right; left; exact ⟨by rw [beq_eq_false_iff_ne]; omega, by rw [hl]; rfl⟩
          · cases n
            · right; right; left; exact ⟨by rw [beq_eq_false_iff_ne]; omega, by rw [beq_eq_false_iff_ne]; omega, rfl⟩
            · right; right; right; exact ⟨by rw [beq_eq_false_iff_ne]; omega, by rw [beq_eq_false_iff_ne]; omega, rfl⟩
      rcases hz3 with hz | ⟨hz, hl⟩ | ⟨hz, hl, rfl⟩ | ⟨hz, hl, rfl⟩
      · have HZ := hid hz
        go_enter Tryd.func69, Tryd.ntmps69
        go_wp2
        go_ret
        exact ⟨end_bool (by
                          rw [hE.out]
                          have : dig[0].toNat = 48 := by have h := HZ.out; rw [beq_iff_eq] at h; omega
                          simp [this]), ext_alloc _ _⟩
      · have HL := hid hl
        go_enter Tryd.func69, Tryd.ntmps69
        go_wp2
        go_ret
        exact ⟨end_bool (by
                          rw [hE.out]
                          have : (dig[dig.size - 1]'(by omega)).toNat = 48 := by have h := HL.out; rw [beq_iff_eq] at h; omega
                          simp [this]), ext_alloc _ _⟩
      · go_enter Tryd.func69, Tryd.ntmps69
        go_wp2_with (go_at_call 86; refine (specNatOk _ _ hs).mono ?_; rintro e w1 ⟨rfl, rfl⟩; rw [HN.out])
        go_ret
        exact ⟨end_bool (by rw [hE.out, HN.out]; simp), ext_alloc _ _⟩
      · have HZ := hid hz
        have HL := hid hl
        have hx3 : (-98 - (dig.size : Int) ≤ exp ∧ exp ≤ 100 - (dig.size : Int)) ∨ (-98 - (dig.size : Int) ≤ exp ∧ ¬ exp ≤ 100 - (dig.size : Int)) ∨ ¬ (-98 - (dig.size : Int) ≤ exp) := by omega
        rcases hx3 with ⟨x1, x2⟩ | ⟨x1, x2⟩ | x1
        all_goals
          go_enter Tryd.func69, Tryd.ntmps69
          go_wp2_with (go_at_call 86; refine (specNatOk _ _ hs).mono ?_; rintro e w1 ⟨rfl, rfl⟩; rw [HN.out])
          go_ret
          exact ⟨end_bool (by
            rw [hE.out, HN.out]
            have a1 : ¬ dig[0].toNat = 48 := by have := HZ.out; rw [beq_eq_false_iff_ne] at this; omega
            have a2 : ¬ (dig[dig.size - 1]'(by omega)).toNat = 48 := by have := HL.out; rw [beq_eq_false_iff_ne] at this; omega
            simp [a1, a2, h20]
            first | omega | (rw [Bool.eq_iff_iff]; simp; omega)), ext_alloc _ _⟩
    · have hb : (20 : Int) < (dig.size : Int) := by omega
      go_enter Tryd.func69, Tryd.ntmps69
      go_wp2
      go_ret
      exact ⟨end_bool (by rw [hE.out]; simp [h20]), ext_alloc _ _⟩
end Go.Proofs.YtommldonooicjaaDoor
