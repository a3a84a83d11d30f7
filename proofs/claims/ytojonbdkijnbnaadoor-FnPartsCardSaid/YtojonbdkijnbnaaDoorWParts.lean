/-
  What is proved here: the walk of FnParts: the law returns true at every code. The condition 'Tabs' says that the library's tables for UTF-8 lie in the world.
-/
import Derived.Test.YtojonbdkijnbnaaDoorWTextBack
import Derived.Test.YtojonbdkijnbnaaDoorPart
namespace Go.Proofs.YtojonbdkijnbnaaDoor
open Go.RowKit
set_option linter.unusedVariables false
set_option linter.unusedSimpArgs false

set_option maxHeartbeats 4000000 in
set_option maxRecDepth 100000 in
theorem lawPick {S : Nat → Prop} {v : Value} {c : List UInt8} (at' n : Int) (w : World) (h : Rd.rd S w [v] c) (ha : 0 ≤ at' ∧ at' ≤ 1000) (hn : 2 ≤ n ∧ n ≤ 1000000) :
    Calls Tryd.prog 34 #[v, .int .i64 at', .int .i64 n] w fun e w' => ∃ r : Nat, e = .returned (.int .i64 (r : Int)) ∧ (r : Int) < n ∧ w = w' := by
  obtain ⟨a, cap, rfl, h1, h2, hc⟩ := rdBytes h
  obtain ⟨len, hlen⟩ : ∃ len, c.length = len := ⟨_, rfl⟩
  rw [hlen] at h1 hc
  rw [hlen]
  clear h hlen
  by_cases hz : len = 0
  · subst hz
    clear hc
    go_enter Tryd.func34, Tryd.ntmps34
    go_wp2
    go_ret
    exact ⟨0, rfl, by omega, rfl⟩
  obtain ⟨g, off, rfl, _, hx⟩ := hc (by omega)
  have HX := hid hx
  have hlz : (0 : Int) < (len : Int) := by omega
  have hlz2 : ((len : Int) == 0) = false := by rw [beq_eq_false_iff_ne]; omega
  have hlz3 : ¬ (len : Int) = 0 := by omega
  have hn2 : ¬ n < 2 := by omega
  clear hc hx hz
  go_enter Tryd.func34, Tryd.ntmps34
  go_wp2
  go_loop [7, 8] (fun x k => ∃ xv kv : Nat, x = .int .i64 (xv : Int) ∧ k = .int .i64 (kv : Int) ∧ ((kv = 0 ∧ xv = 0) ∨ (kv = 1 ∧ xv ≤ 255) ∨ (kv = 2 ∧ xv ≤ 8160) ∨ (kv = 3 ∧ xv ≤ 253215))) (fun _ k => 3 - (intOf k).toNat)
  case atStart => exact ⟨0, 0, rfl, rfl, by omega⟩
  case round =>
    obtain ⟨xv, kv, rfl, rfl, hk⟩ := hrel
    by_cases hlt : (kv : Int) < 3
    · obtain ⟨m, hm1, hm2⟩ : ∃ m : Nat, (at' + (kv : Int)) % (len : Int) = (m : Int) ∧ m < len := by
        have q1 := Int.emod_nonneg (at' + (kv : Int)) hlz3
        have q2 := Int.emod_lt_of_pos (at' + (kv : Int)) hlz
        exact ⟨((at' + (kv : Int)) % (len : Int)).toNat, by omega, by omega⟩
      have hm3 : (0 : Int) ≤ (m : Int) := by omega
      have hm4 : (m : Int) < (len : Int) := by omega
      obtain ⟨x, hx1, hx2⟩ := HX.out m hm2
      go_wp2
      go_round
      case rel => exact ⟨31 * xv + x, kv + 1, by first | go_num | (congr 1; omega), by first | go_num | (congr 1; omega), by omega⟩
      case measure => simp [intOf]; omega
    · have hnz : ¬ n = 0 := by omega
      have hn3 : (0 : Int) < n := by omega
      obtain ⟨m, hm1, hm2⟩ : ∃ m : Nat, ((xv : Int) + at') % n = (m : Int) ∧ (m : Int) < n := by
        have q1 := Int.emod_nonneg ((xv : Int) + at') hnz
        have q2 := Int.emod_lt_of_pos ((xv : Int) + at') hn3
        exact ⟨(((xv : Int) + at') % n).toNat, by omega, by omega⟩
      go_wp2
      go_ret
      exact ⟨m, rfl, hm2, rfl⟩
theorem take_snoc (rs : List Nat) (k : Nat) (hk : k < rs.length) : rs.take (k+1) = rs.take k ++ [rs[k]] := by
  rw [List.take_add_one, List.getElem?_eq_getElem hk]; rfl
theorem partK_take {rs : List Nat} {n : Int} (h : 0 ≤ n) : ∀ k, k ≤ rs.length → partK rs 1 n k = (rs.take k).take n.toNat := by
  intro k
  induction k with
  | zero => intro _; simp [partK]
  | succ k ih =>
    intro hk
    by_cases hs : (k : Int) < n
    · rw [partK_yes (by unfold selB; simp only [Bool.and_eq_true, decide_eq_true_eq]; omega) (by omega), ih (by omega), List.take_take, List.take_take, show min n.toNat k = k by omega, show min n.toNat (k + 1) = k + 1 by omega, take_snoc rs k (by omega)]
    · rw [partK_no (by unfold selB; simp only [Bool.and_eq_false_iff, decide_eq_false_iff_not]; omega), ih (by omega), List.take_take, List.take_take]
      congr 1
      omega
theorem partK_drop {rs : List Nat} {n : Int} (h : 0 ≤ n) (hl : rs.length ≤ 1000) : ∀ k, k ≤ rs.length → partK rs (n + 1) 1000 k = (rs.take k).drop n.toNat := by
  intro k
  induction k with
  | zero => intro _; simp [partK]
  | succ k ih =>
    intro hk
    by_cases hs : n ≤ (k : Int)
    · rw [partK_yes (by unfold selB; simp only [Bool.and_eq_true, decide_eq_true_eq]; omega) (by omega), ih (by omega), take_snoc rs k (by omega), List.drop_append_of_le_length (by rw [List.length_take]; omega)]
    · rw [partK_no (by unfold selB; simp only [Bool.and_eq_false_iff, decide_eq_false_iff_not]; omega), ih (by omega), List.drop_eq_nil_of_le (by rw [List.length_take]; omega), List.drop_eq_nil_of_le (by rw [List.length_take]; omega)]
theorem parts_join {s : ByteArray} {n : Int} (h : okText s = true) (hn : 0 ≤ n) :
    partT s 1 n ++ partT s (n + 1) 1000 = s ∧ lenOf (partT s 1 n) = (if n < lenOf s then n else lenOf s) := by
  obtain ⟨ht, hpt, htl, hrl⟩ := texts_of_ok h
  obtain ⟨hr, hsz, _⟩ := ok_runes h
  obtain ⟨rs, hrs⟩ : ∃ rs, runesN s.data.toList = rs := ⟨_, rfl⟩
  have e1 : partT s 1 n = mkB (texts (rs.take n.toNat)) := by
    unfold partT partL
    rw [h, if_pos rfl, hrs, partK_take hn _ (Nat.le_refl _), List.take_length]
  have e2 : partT s (n + 1) 1000 = mkB (texts (rs.drop n.toNat)) := by
    unfold partT partL
    rw [h, if_pos rfl, hrs, partK_drop hn (by rw [← hrs]; exact hrl) _ (Nat.le_refl _), List.take_length]
  rw [hrs] at ht hpt htl hrl hr
  refine ⟨?_, ?_⟩
  · rw [e1, e2, mkB_append, ← texts_append, List.take_append_drop, ht]
  · have hp : ∀ c ∈ rs.take n.toNat, isPt c := fun c hc => hpt c (List.mem_of_mem_take hc)
    have hru := runes_texts _ hp
    have hle : (texts (rs.take n.toNat)).length ≤ 1000 := by
      have := congrArg List.length (texts_append (rs.take n.toNat) (rs.drop n.toNat))
      rw [List.take_append_drop, List.length_append] at this
      omega
    obtain ⟨q1, q2⟩ := runes_some hle hru
    have hok2 : okText (partT s 1 n) = true := by rw [e1]; exact q2
    rw [lenOf_ok hok2, lenOf_ok h, e1, mkB_data, q1, hrs, List.length_take]
    split <;> omega
set_option maxHeartbeats 4000000 in
set_option maxRecDepth 100000 in
theorem fnParts_walk (W : World) (hT : Tabs W) {v0 v1 : Value} {x0 x1 : List UInt8} (h0 : Rd.rd (Old W) W [v0] x0) (h1 : Rd.rd (Old W) W [v1] x1) :
    Calls Tryd.prog 8 #[v0, v1] W fun e W' => e = .returned (.bool true) ∧ Below W.heap.size W W' := by
  by_cases hb : 1048576 < (x0.length : Int)
  · go_enter Tryd.func8, Tryd.ntmps8
    go_wp2_with (go_at_call 25; refine (lawBig _ h0).mono ?_; rintro e w1 ⟨rfl, rfl⟩; rw [decide_eq_true hb])
    go_ret
    exact ⟨rfl, Below.refl _ _⟩
  have HB := hid (decide_eq_false hb)
  have hn : x0.length ≤ 1048576 := by omega
  clear hb
  by_cases hb1 : 1048576 < (x1.length : Int)
  · go_enter Tryd.func8, Tryd.ntmps8
    go_wp2_with (go_at_call 25; first | (refine (lawBig _ h0).mono ?_; rintro e w1 ⟨rfl, rfl⟩; rw [HB.out]) | (refine (lawBig _ h1).mono ?_; rintro e w1 ⟨rfl, rfl⟩; rw [decide_eq_true hb1]))
    go_ret
    exact ⟨rfl, Below.refl _ _⟩
  have HB1 := hid (decide_eq_false hb1)
  clear hb1
  go_enter Tryd.func8, Tryd.ntmps8
  go_wp2_with (first | (go_at_call 25; first | (refine (lawBig _ h0).mono ?_; rintro e w1 ⟨rfl, rfl⟩; rw [HB.out]) | (refine (lawBig _ h1).mono ?_; rintro e w1 ⟨rfl, rfl⟩; rw [HB1.out])) | (go_at_call 26; refine (drawRunes _ h0 hn).mono ?_; rintro e w2 ⟨s, rfl, hs, hb2⟩) | (go_at_call 32; refine Hid.out ?_))
  refine hid ?_
  refine (specTextOk s _).mono ?_
  rintro e w3 ⟨rfl, hb3⟩
  have hB3 := ext_trans hb2 hb3
  obtain ⟨ok, hok⟩ : ∃ ok, okText s = ok := ⟨_, rfl⟩
  rw [hok]
  cases ok with
  | false =>
    have hp : partT s 1 1000 = ⟨#[]⟩ := by unfold partT; rw [hok]; rfl
    have HP := hid hp
    clear hok hp
    go_wp2_with (go_at_call 33; refine (implPart s 1 1000 _ (tabs_below hT hB3) (by omega) (by omega)).mono ?_; rintro e w4 ⟨rfl, hb4⟩; rw [HP.out])
    go_ret
    exact ⟨rfl, ext_trans hB3 hb4⟩
  | true =>
    go_wp2_with fail
    refine (lawPick 2 40 _ (Rd.later hB3 h1) (by omega) (by omega)).mono ?_
    rintro e w4 ⟨r, rfl, hr, rfl⟩
    obtain ⟨hj1, hj2⟩ := parts_join (n := r) hok (by omega)
    have hls := lenOf_ok hok
    have hps : (partT s 1 r).size + (partT s (r + 1) 1000).size ≤ 1000 := by
      have := congrArg ByteArray.size hj1
      rw [ByteArray.size_append] at this
      have := ok_size hok
      omega
    have hsum : ¬ 9223372036854775807 < (partT s 1 r).size + (partT s (r + 1) 1000).size := by omega
    have HJ1 := hid hj1
    have HJ2 := hid hj2
    obtain ⟨q, hq⟩ : ∃ q, lenOf s = q := ⟨_, rfl⟩
    obtain ⟨pa, hpa⟩ : ∃ pa, partT s 1 r = pa := ⟨_, rfl⟩
    obtain ⟨pb, hpb⟩ : ∃ pb, partT s (r + 1) 1000 = pb := ⟨_, rfl⟩
    have HQ := hid hq
    have HPA := hid hpa
    have HPB := hid hpb
    have HJ3 := hid (show pa ++ pb = s by rw [← hpa, ← hpb]; exact hj1)
    have HJ4 := hid (show lenOf pa = if (r : Int) < q then (r : Int) else q by rw [← hpa, ← hq]; exact hj2)
    rw [hpa, hpb] at hsum
    clear hj1 hj2 hq hpa hpb hls hps hok
    have hE : ((pa ++ pb).toList == s.toList) = true := by rw [HJ3.out]; simp
    by_cases hrq : (r : Int) < q
    · have HJ5 := hid (show lenOf pa = (r : Int) by rw [HJ4.out, if_pos hrq])
      go_wp2_with fail
      refine (implPart s 1 r _ (tabs_below hT hB3) (by omega) (by omega)).mono ?_
      rintro e w5 ⟨rfl, hb5⟩
      rw [HPA.out]
      go_wp2_with fail
      refine (implPart s (r + 1) 1000 _ (tabs_below hT (ext_trans hB3 hb5)) (by omega) (by omega)).mono ?_
      rintro e w6 ⟨rfl, hb6⟩
      rw [HPB.out]
      go_wp2_with fail
      refine (specLength s _).mono ?_
      rintro e w7 ⟨rfl, hb7⟩
      rw [HQ.out]
      go_wp2_with fail
      refine (implLength pa _ (tabs_below hT (ext_trans (ext_trans (ext_trans hB3 hb5) hb6) hb7))).mono ?_
      rintro e w8 ⟨rfl, hb8⟩
      rw [HJ5.out]
      go_wp2
      go_ret
      exact ⟨rfl, ext_trans (ext_trans (ext_trans (ext_trans hB3 hb5) hb6) hb7) hb8⟩
    · have HJ5 := hid (show lenOf pa = q by rw [HJ4.out, if_neg hrq])
      go_wp2_with fail
      refine (implPart s 1 r _ (tabs_below hT hB3) (by omega) (by omega)).mono ?_
      rintro e w5 ⟨rfl, hb5⟩
      rw [HPA.out]
      go_wp2_with fail
      refine (implPart s (r + 1) 1000 _ (tabs_below hT (ext_trans hB3 hb5)) (by omega) (by omega)).mono ?_
      rintro e w6 ⟨rfl, hb6⟩
      rw [HPB.out]
      go_wp2_with fail
      refine (specLength s _).mono ?_
      rintro e w7 ⟨rfl, hb7⟩
      rw [HQ.out]
      go_wp2_with fail
      refine (implLength pa _ (tabs_below hT (ext_trans (ext_trans (ext_trans hB3 hb5) hb6) hb7))).mono ?_
      rintro e w8 ⟨rfl, hb8⟩
      rw [HJ5.out]
      go_wp2
      go_ret
      exact ⟨rfl, ext_trans (ext_trans (ext_trans (ext_trans hB3 hb5) hb6) hb7) hb8⟩
end Go.Proofs.YtojonbdkijnbnaaDoor
