/-
  What is proved here: l09End and l09Quoted of spec. No condition.
-/
import Derived.Test.YtommldonooicjaaDoorCsvS2
namespace Go.Proofs.YtommldonooicjaaDoor
open Go.RowKit
set_option linter.unusedVariables false
set_option linter.unusedSimpArgs false

/-- what l09End says -/
def endS (l : List UInt8) : Nat := match endR l with | some 0 => 9 | some e => e | none => 0
theorem endR_cons (c : UInt8) (r : List UInt8) : endR (c :: r) = if c = 10 then some 1 else if c = 13 ∧ r.head? = some 10 then some 2 else none := rfl
theorem u8_ne {c : UInt8} {n : Nat} (hn : n < 256) (h : ¬ c = UInt8.ofNat n) : ¬ (c.toNat : Int) = (n : Int) := fun e => h (by
  apply UInt8.toNat_inj.1
  rw [UInt8.toNat_ofNat']
  omega)
set_option maxHeartbeats 4000000 in
set_option maxRecDepth 100000 in
theorem specEnd {s : ByteArray} {p : Nat} (w : World) (hp : p ≤ s.size) (hs : s.size ≤ 1000000) :
    Calls Tryd.prog 51 #[.string s, .int .i64 (p : Int)] w fun e w' => e = .returned (.int .i64 (endS (s.data.toList.drop p) : Int)) ∧ w' = w := by
  obtain ⟨L, hL⟩ : ∃ L, s.data.toList.drop p = L := ⟨_, rfl⟩
  rw [hL]
  cases L with
  | nil =>
    have hps := (drop_nil_iff hp).1 hL
    have h1 : (s.size : Int) ≤ (p : Int) := by omega
    have HR := hid (show endS [] = 9 from rfl)
    rw [HR.out]
    clear hps hL
    go_enter Tryd.func51, Tryd.ntmps51
    go_wp2
    go_ret
    exact ⟨rfl, rfl⟩
  | cons c r =>
    obtain ⟨hlt, hby⟩ := byte_at hL
    have hlt1 : ¬ (s.size : Int) ≤ (p : Int) := by omega
    have hlt2 : (p : Int) < (s.size : Int) := by omega
    have hp0 : (0 : Int) ≤ (p : Int) := by omega
    by_cases h10 : c = 10
    · have hix : ((s[p]'hlt : UInt8).toNat : Int) = 10 := by rw [hby, h10]; rfl
      have hixb : (((s[p]'hlt : UInt8).toNat : Int) == 10) = true := by rw [hix]; rfl
      have HR := hid (show endS (c :: r) = 1 by unfold endS; rw [endR_cons, if_pos h10]; rfl)
      rw [HR.out]
      clear hL hby h10
      go_enter Tryd.func51, Tryd.ntmps51
      go_wp2
      go_ret
      exact ⟨rfl, rfl⟩
    have hi10 : ¬ ((s[p]'hlt : UInt8).toNat : Int) = 10 := by rw [hby]; exact u8_ne (by decide) h10
    have hi10b : (((s[p]'hlt : UInt8).toNat : Int) == 10) = false := by rw [beq_eq_false_iff_ne]; exact hi10
    by_cases h13 : c = 13
    · have hix : ((s[p]'hlt : UInt8).toNat : Int) = 13 := by rw [hby, h13]; rfl
      have hixb : (((s[p]'hlt : UInt8).toNat : Int) == 13) = true := by rw [hix]; rfl
      obtain ⟨p1, hp1⟩ : ∃ x, p + 1 = x := ⟨_, rfl⟩
      have hw1' : (p : Int) + 1 = (p1 : Int) := by omega
      have hw1 : IntKind.i64.wrap (p1 : Int) = (p1 : Int) := IntWalk.i64_in _ (by omega)
      have hD1 : s.data.toList.drop p1 = r := by rw [← hp1, ← List.drop_drop, hL]; rfl
      have hp10 : (0 : Int) ≤ (p1 : Int) := by omega
      cases r with
      | nil =>
        have hpe : p1 = s.size := (drop_nil_iff (by omega)).1 hD1
        have hge : ¬ (p1 : Int) < (s.size : Int) := by omega
        have HR := hid (show endS [c] = 0 by rw [h13]; rfl)
        rw [HR.out]
        clear hL hby h10 h13 hD1 hpe hp1
        go_enter Tryd.func51, Tryd.ntmps51
        go_wp2
        go_ret
        exact ⟨rfl, rfl⟩
      | cons d Z =>
        obtain ⟨hlt1', hby1⟩ := byte_at hD1
        have hge : (p1 : Int) < (s.size : Int) := by omega
        by_cases hd : d = 10
        · have hjx : ((s[p1]'hlt1' : UInt8).toNat : Int) = 10 := by rw [hby1, hd]; rfl
          have hjxb : (((s[p1]'hlt1' : UInt8).toNat : Int) == 10) = true := by rw [hjx]; rfl
          have HR := hid (show endS (c :: d :: Z) = 2 by rw [h13, hd]; rfl)
          rw [HR.out]
          clear hL hby h10 h13 hD1 hp1 hby1 hd
          go_enter Tryd.func51, Tryd.ntmps51
          go_wp2
          go_ret
          exact ⟨rfl, rfl⟩
        · have hjx : ¬ ((s[p1]'hlt1' : UInt8).toNat : Int) = 10 := by rw [hby1]; exact u8_ne (by decide) hd
          have hjxb : (((s[p1]'hlt1' : UInt8).toNat : Int) == 10) = false := by rw [beq_eq_false_iff_ne]; exact hjx
          have HR := hid (show endS (c :: d :: Z) = 0 by unfold endS; rw [endR_cons, if_neg h10, if_neg (fun h => hd (Option.some.inj h.2))])
          rw [HR.out]
          clear hL hby h10 h13 hD1 hp1 hby1 hd
          go_enter Tryd.func51, Tryd.ntmps51
          go_wp2
          go_ret
          exact ⟨rfl, rfl⟩
    · have hix : ¬ ((s[p]'hlt : UInt8).toNat : Int) = 13 := by rw [hby]; exact u8_ne (by decide) h13
      have hixb : (((s[p]'hlt : UInt8).toNat : Int) == 13) = false := by rw [beq_eq_false_iff_ne]; exact hix
      have HR := hid (show endS (c :: r) = 0 by unfold endS; rw [endR_cons, if_neg h10, if_neg (fun h => h13 h.1)])
      rw [HR.out]
      clear hL hby h10 h13
      go_enter Tryd.func51, Tryd.ntmps51
      go_wp2
      go_ret
      exact ⟨rfl, rfl⟩
/-- what l09Quoted says -/
def quoV (p n : Nat) : Option (List UInt8 × Nat) → Value
  | none => .tuple #[.string ⟨#[]⟩, .int .i64 (n : Int), .bool false]
  | some q => .tuple #[.string (mkB q.1), .int .i64 ((p + q.2 : Nat) : Int), .bool true]
theorem ext_one {s : ByteArray} {q : Nat} {c : UInt8} {r : List UInt8} (h : s.data.toList.drop q = c :: r) : s.extract q (q + 1) = mkB [c] := by
  apply ba_toL
  rw [mkB_data, ByteArray.data_extract, Array.toList_extract, List.extract_eq_take_drop, h]
  simp
set_option maxHeartbeats 4000000 in
set_option maxRecDepth 100000 in
theorem specQuoted {s : ByteArray} {p : Nat} (w : World) (hp : p ≤ s.size) (hs : s.size ≤ 1000000) :
    Calls Tryd.prog 50 #[.string s, .int .i64 (p : Int)] w fun e w' => e = .returned (quoV p s.size (qP (s.data.toList.drop p))) ∧ w' = w := by
  obtain ⟨R, hR⟩ : ∃ R, qP (s.data.toList.drop p) = R := ⟨_, rfl⟩
  have HR := hid hR
  rw [hR]
  clear hR
  go_enter Tryd.func50, Tryd.ntmps50
  go_wp2
  go_loopw [1, 7] (fun a o wr => ∃ (q : Nat) (C : List UInt8), a = .int .i64 (q : Int) ∧ o = .string (mkB C) ∧ p ≤ q ∧ q ≤ s.size ∧ C.length ≤ q ∧ wr = w ∧ Hid (R = (qP (s.data.toList.drop q)).map (fun r => (C ++ r.1, q - p + r.2)))) (fun a _ _ => s.size - (intOf a).toNat)
  case atStart => exact ⟨p, [], rfl, rfl, Nat.le_refl _, hp, Nat.zero_le _, rfl, hid (by rw [← HR.out]; cases qP (s.data.toList.drop p) <;> simp)⟩
  case round =>
    obtain ⟨q, C, rfl, rfl, hq1, hq2, hC, rfl, HQ⟩ := hrel
    have hCB : (mkB C).size = C.length := mkB_size C
    cases hD : s.data.toList.drop q with
    | nil =>
      have hqe : q = s.size := (drop_nil_iff hq2).1 hD
      have hge : ¬ (q : Int) < (s.size : Int) := by omega
      have HRR := hid (show R = none by rw [HQ.out, hD]; rfl)
      have HV := hid (show quoV p s.size R = .tuple #[.string ⟨#[]⟩, .int .i64 (q : Int), .bool false] by rw [HRR.out, ← hqe]; rfl)
      clear hD HQ hqe
      go_wp2
      refine bodyPost_ret (v := .tuple #[.string ⟨#[]⟩, .int .i64 (q : Int), .bool false]) (by simp [results, Tryd.results50, go_sem, *]) rfl ⟨by rw [HV.out], rfl⟩
    | cons c r =>
      obtain ⟨hlt, hby⟩ := byte_at hD
      have hge : (q : Int) < (s.size : Int) := by omega
      have hq0 : (0 : Int) ≤ (q : Int) := by omega
      obtain ⟨q1, hq1e⟩ : ∃ x, q + 1 = x := ⟨_, rfl⟩
      have hw1' : (q : Int) + 1 = (q1 : Int) := by omega
      have hw1 : IntKind.i64.wrap (q1 : Int) = (q1 : Int) := IntWalk.i64_in _ (by omega)
      have hp10 : (0 : Int) ≤ (q1 : Int) := by omega
      have hD1 : s.data.toList.drop q1 = r := by rw [← hq1e, ← List.drop_drop, hD]; rfl
      by_cases h34 : c = 34
      · have hix : ((s[q]'hlt : UInt8).toNat : Int) = 34 := by rw [hby, h34]; rfl
        have hixb : (((s[q]'hlt : UInt8).toNat : Int) == 34) = true := by rw [hix]; rfl
        by_cases hstop : r.head? ≠ some 34
        · have HV := hid (show quoV p s.size R = .tuple #[.string (mkB C), .int .i64 (q1 : Int), .bool true] by
            rw [HQ.out, hD, h34, qP_stop hstop]
            show Value.tuple #[.string (mkB (C ++ [])), .int .i64 ((p + (q - p + 1) : Nat) : Int), .bool true] = _
            rw [List.append_nil, show p + (q - p + 1) = q1 by omega])
          cases r with
          | nil =>
            have hqe : q1 = s.size := (drop_nil_iff (by omega)).1 hD1
            have hg1 : (s.size : Int) ≤ (q1 : Int) := by omega
            clear hD HQ hby h34 hstop hD1 hq1e hqe
            go_wp2
            refine bodyPost_ret (v := .tuple #[.string (mkB C), .int .i64 (q1 : Int), .bool true]) (by simp [results, Tryd.results50, go_sem, *]) rfl ⟨by rw [HV.out], rfl⟩
          | cons d Z =>
            obtain ⟨hlt1, hby1⟩ := byte_at hD1
            have hg1 : ¬ (s.size : Int) ≤ (q1 : Int) := by omega
            have hg2 : (q1 : Int) < (s.size : Int) := by omega
            have hd : ¬ d = 34 := fun e => hstop (by rw [e]; rfl)
            have hjx : ¬ ((s[q1]'hlt1 : UInt8).toNat : Int) = 34 := by rw [hby1]; exact u8_ne (by decide) hd
            have hjxb : (((s[q1]'hlt1 : UInt8).toNat : Int) == 34) = false := by rw [beq_eq_false_iff_ne]; exact hjx
            have hjxc : (((s[q1]'hlt1 : UInt8).toNat : Int) != 34) = true := bne_iff_ne.2 hjx
            clear hD HQ hby h34 hstop hD1 hq1e hby1 hd
            go_wp2
            refine bodyPost_ret (v := .tuple #[.string (mkB C), .int .i64 (q1 : Int), .bool true]) (by simp [results, Tryd.results50, go_sem, *]) rfl ⟨by rw [HV.out], rfl⟩
        · obtain ⟨Z, rfl⟩ : ∃ Z, r = 34 :: Z := by
            cases r with
            | nil => exact absurd (show ([] : List UInt8).head? ≠ some 34 by simp) hstop
            | cons d Z =>
              by_cases hd : d = 34
              · exact ⟨Z, by rw [hd]⟩
              · exact absurd (show (d :: Z).head? ≠ some 34 by simpa using hd) hstop
          obtain ⟨hlt1, hby1⟩ := byte_at hD1
          have hg1 : ¬ (s.size : Int) ≤ (q1 : Int) := by omega
          have hg2 : (q1 : Int) < (s.size : Int) := by omega
          have hjx : ((s[q1]'hlt1 : UInt8).toNat : Int) = 34 := by rw [hby1]; rfl
          have hjxb : (((s[q1]'hlt1 : UInt8).toNat : Int) == 34) = true := by rw [hjx]; rfl
          have hjxc : (((s[q1]'hlt1 : UInt8).toNat : Int) != 34) = false := by rw [hjx]; rfl
          obtain ⟨q2, hq2e⟩ : ∃ x, q1 + 1 = x := ⟨_, rfl⟩
          have hw2' : (q1 : Int) + 1 = (q2 : Int) := by omega
          have hw2 : IntKind.i64.wrap (q2 : Int) = (q2 : Int) := IntWalk.i64_in _ (by omega)
          have hl1 : (q1 : Int) ≤ (q2 : Int) := by omega
          have hl2 : (q2 : Int) ≤ (s.size : Int) := by omega
          have hx := ext_one hD1
          rw [hq2e] at hx
          have hsum : ¬ 9223372036854775807 < (mkB C).size + (mkB [(34 : UInt8)]).size := by rw [mkB_size, mkB_size]; simp only [List.length_cons, List.length_nil]; omega
          have HN := hid (show R = (qP (s.data.toList.drop q2)).map (fun r => (C ++ [34] ++ r.1, q2 - p + r.2)) by
            have h2 : s.data.toList.drop q2 = Z := by rw [← hq2e, ← List.drop_drop, hD1]; rfl
            rw [HQ.out, hD, h34, qP_two, h2]
            cases qP Z with
            | none => rfl
            | some t =>
              simp only [Option.map_some, Option.some.injEq, Prod.mk.injEq, List.append_assoc]
              exact ⟨rfl, by omega⟩)
          have HQ2 := hid (show q2 = q + 2 by omega)
          have HSC := hid (str_cat C [34])
          clear hD HQ hby h34 hstop hD1 hq1e hby1 hq2e hCB
          go_wp2
          go_roundw
          case rel => exact ⟨q2, C ++ [34], rfl, by rw [HSC.out], by have := HQ2.out; omega, by omega, by have := HQ2.out; simp; omega, by first | rfl | trivial, HN⟩
          case measure => have := HQ2.out; simp [intOf]; omega
      · have hix : ¬ ((s[q]'hlt : UInt8).toNat : Int) = 34 := by rw [hby]; exact u8_ne (by decide) h34
        have hixb : (((s[q]'hlt : UInt8).toNat : Int) == 34) = false := by rw [beq_eq_false_iff_ne]; exact hix
        have hl1 : (q : Int) ≤ (q1 : Int) := by omega
        have hl2 : (q1 : Int) ≤ (s.size : Int) := by omega
        have hx := ext_one hD
        rw [hq1e] at hx
        have hsum : ¬ 9223372036854775807 < (mkB C).size + (mkB [c]).size := by rw [mkB_size, mkB_size]; simp only [List.length_cons, List.length_nil]; omega
        have HN := hid (show R = (qP (s.data.toList.drop q1)).map (fun r => (C ++ [c] ++ r.1, q1 - p + r.2)) by
          rw [HQ.out, hD, qP_cons h34, hD1]
          cases qP r with
          | none => rfl
          | some t =>
            simp only [Option.map_some, Option.some.injEq, Prod.mk.injEq, List.append_assoc]
            exact ⟨rfl, by omega⟩)
        have HQ2 := hid (show q1 = q + 1 by omega)
        have HSC := hid (str_cat C [c])
        clear hD HQ hby h34 hD1 hq1e hCB
        go_wp2
        go_roundw
        case rel => exact ⟨q1, C ++ [c], rfl, by rw [HSC.out], by have := HQ2.out; omega, by omega, by have := HQ2.out; simp; omega, by first | rfl | trivial, HN⟩
        case measure => have := HQ2.out; simp [intOf]; omega
end Go.Proofs.YtommldonooicjaaDoor
