/-
  What is proved here: TextOk, Runes, Length, ValOk, TextVal on both sides. The condition 'Tabs' says that the library's tables for UTF-8 lie in the world.
-/
import Derived.Test.YtommldonooicjaaDoorRunesI
import Derived.Test.YtommldonooicjaaDoorNat
import Derived.Test.YtommldonooicjaaDoorVal0
namespace Go.Proofs.YtommldonooicjaaDoor
open Go.RowKit Go.Lib
set_option linter.unusedVariables false
set_option linter.unusedSimpArgs false

def okText (s : ByteArray) : Bool := textOk s.data.toList
theorem specTextOk (s : ByteArray) (w : World) : Calls Tryd.prog 34 #[.string s] w fun e w' => e = .returned (.bool (okText s)) ∧ Below w.heap.size w w' := by
  go_enter Tryd.func34, Tryd.ntmps34
  go_wp2_with fail
  refine (specRunes s _).mono ?_
  rintro e w1 ⟨u, rfl, _, hb⟩
  go_wp2
  go_ret
  exact ⟨rfl, hb⟩
theorem implTextOk (s : ByteArray) (w : World) (hT : Tabs w) : Calls Tryd.prog 30 #[.string s] w fun e w' => e = .returned (.bool (okText s)) ∧ Below w.heap.size w w' := by
  go_enter Tryd.func30, Tryd.ntmps30
  go_wp2_with fail
  refine (implRunesOf s _ hT).mono ?_
  rintro e w1 ⟨u, rfl, _, hb⟩
  go_wp2
  go_ret
  exact ⟨rfl, hb⟩

def isDec0 (d : Dec) : Bool := !d.neg && decide (d.dig.toList = []) && decide (d.exp = 0)
def valOk (v : Val) : Bool :=
  if v.kind = 0 then isDec0 v.num && decide (v.text.toList = [])
  else if v.kind = 1 then decOk v.num && decide (v.text.toList = [])
  else if v.kind = 2 ∨ v.kind = 3 then isDec0 v.num && okText v.text
  else false
theorem valOk_0 (d : Dec) (t : ByteArray) : valOk ⟨0, d, t⟩ = (isDec0 d && decide (t.toList = [])) := rfl
theorem valOk_1 (d : Dec) (t : ByteArray) : valOk ⟨1, d, t⟩ = (decOk d && decide (t.toList = [])) := rfl
theorem valOk_2 (d : Dec) (t : ByteArray) : valOk ⟨2, d, t⟩ = (isDec0 d && okText t) := rfl
theorem valOk_3 (d : Dec) (t : ByteArray) : valOk ⟨3, d, t⟩ = (isDec0 d && okText t) := rfl
theorem empty_dec (t : ByteArray) : t.toList.isEmpty = decide (t.toList = []) := by cases t.toList <;> rfl
theorem valOk_else {k : Int} (d : Dec) (t : ByteArray) (h0 : ¬ k = 0) (h1 : ¬ k = 1) (h2 : ¬ k = 2) (h3 : ¬ k = 3) : valOk ⟨k, d, t⟩ = false := by simp [valOk, h0, h1, h2, h3]

set_option maxHeartbeats 4000000 in
theorem implIsVal {cs : Array Value} {x : Val} (w : World) (hrd : Rd.rd (Old w) w cs.toList x) (hT : Tabs w) :
    Calls Tryd.prog 31 #[.agg cs] w fun e w' => e = .returned (.bool (valOk x)) ∧ Below w.heap.size w w' := by
  obtain ⟨hcs, g0, g1, g2, g3⟩ := rdVal hrd
  obtain rfl := arr_of_list hcs
  clear hcs hrd
  obtain ⟨kind, ⟨neg, dig, exp⟩, text⟩ := x
  dsimp only at g0 g1 g2 g3 ⊢
  by_cases k0 : kind = 0
  · subst k0
    go_enter Tryd.func31, Tryd.ntmps31
    go_wp2
    all_goals (go_ret; exact ⟨end_bool (by simp [valOk_0, isDec0, *]), ext_alloc _ _⟩)
  have t0 : (kind == 0) = false := by rw [beq_eq_false_iff_ne]; exact k0
  by_cases k1 : kind = 1
  · subst k1
    obtain ⟨b, hb⟩ : ∃ b, decOk ⟨neg, dig, exp⟩ = b := ⟨_, rfl⟩
    have HB := hid hb
    clear hb
    cases b
    · go_enter Tryd.func31, Tryd.ntmps31
      go_wp2_with fail
      refine (implIsDec (d := ⟨neg, dig, exp⟩) _ (by exact rdDec_mk (x := ⟨neg, dig, exp⟩) g1 g2)).mono ?_
      rintro e w1 ⟨rfl, hb⟩
      rw [HB.out]
      go_wp2
      go_ret
      exact ⟨end_bool (by rw [valOk_1, HB.out]; rfl), ext_trans (ext_alloc _ _) hb⟩
    · go_enter Tryd.func31, Tryd.ntmps31
      go_wp2_with fail
      refine (implIsDec (d := ⟨neg, dig, exp⟩) _ (by exact rdDec_mk (x := ⟨neg, dig, exp⟩) g1 g2)).mono ?_
      rintro e w1 ⟨rfl, hb⟩
      rw [HB.out]
      obtain ⟨hc1, hf1⟩ := bcell hb
      go_wp2
      go_ret
      exact ⟨end_bool (by rw [valOk_1, HB.out, Bool.true_and, empty_dec]), ext_trans (ext_alloc _ _) hb⟩
  have t1 : (kind == 1) = false := by rw [beq_eq_false_iff_ne]; exact k1
  by_cases k2 : kind = 2
  · subst k2
    go_enter Tryd.func31, Tryd.ntmps31
    go_wp2_with ((go_at_call 30; refine (implTextOk text _ (tabs_below hT (ext_alloc _ _))).mono ?_; rintro e w1 ⟨rfl, hb⟩))
    all_goals (go_ret; first | exact ⟨end_bool (by simp [valOk_2, isDec0, *]), ext_alloc _ _⟩ | exact ⟨end_bool (by simp [valOk_2, isDec0, *]), ext_trans (ext_alloc _ _) hb⟩)
  have t2 : (kind == 2) = false := by rw [beq_eq_false_iff_ne]; exact k2
  by_cases k3 : kind = 3
  · subst k3
    go_enter Tryd.func31, Tryd.ntmps31
    go_wp2_with ((go_at_call 30; refine (implTextOk text _ (tabs_below hT (ext_alloc _ _))).mono ?_; rintro e w1 ⟨rfl, hb⟩))
    all_goals (go_ret; first | exact ⟨end_bool (by simp [valOk_3, isDec0, *]), ext_alloc _ _⟩ | exact ⟨end_bool (by simp [valOk_3, isDec0, *]), ext_trans (ext_alloc _ _) hb⟩)
  have t3 : (kind == 3) = false := by rw [beq_eq_false_iff_ne]; exact k3
  go_enter Tryd.func31, Tryd.ntmps31
  go_wp2
  go_ret
  exact ⟨end_bool (valOk_else _ _ k0 k1 k2 k3).symm, ext_alloc _ _⟩

set_option maxHeartbeats 4000000 in
theorem specValOk {cs : Array Value} {x : Val} (w : World) (hrd : Rd.rd (Old w) w cs.toList x) :
    Calls Tryd.prog 35 #[.agg cs] w fun e w' => e = .returned (.bool (valOk x)) ∧ Below w.heap.size w w' := by
  obtain ⟨hcs, g0, g1, g2, g3⟩ := rdVal hrd
  obtain rfl := arr_of_list hcs
  clear hcs hrd
  obtain ⟨kind, ⟨neg, dig, exp⟩, text⟩ := x
  dsimp only at g0 g1 g2 g3 ⊢
  by_cases k0 : kind = 0
  · subst k0
    go_enter Tryd.func35, Tryd.ntmps35
    go_wp2
    all_goals (go_ret; exact ⟨end_bool (by simp [valOk_0, isDec0, *]), ext_alloc _ _⟩)
  have t0 : (kind == 0) = false := by rw [beq_eq_false_iff_ne]; exact k0
  by_cases k1 : kind = 1
  · subst k1
    obtain ⟨b, hb⟩ : ∃ b, decOk ⟨neg, dig, exp⟩ = b := ⟨_, rfl⟩
    have HB := hid hb
    clear hb
    by_cases ht : text.toList = []
    · have ht' : text.toList.isEmpty = true := by rw [ht]; rfl
      have HT' := hid ht
      clear ht
      go_enter Tryd.func35, Tryd.ntmps35
      go_wp2_with fail
      refine (specDecOk (d := ⟨neg, dig, exp⟩) _ (by exact rdDec_mk (x := ⟨neg, dig, exp⟩) g1 g2)).mono ?_
      rintro e w1 ⟨rfl, hb⟩
      rw [HB.out]
      go_wp2
      go_ret
      exact ⟨end_bool (by rw [valOk_1, HB.out, decide_eq_true HT'.out, Bool.and_true]), ext_trans (ext_alloc _ _) hb⟩
    · have ht' : text.toList.isEmpty = false := by rw [empty_dec]; exact decide_eq_false ht
      have HT' := hid ht
      clear ht
      go_enter Tryd.func35, Tryd.ntmps35
      go_wp2
      go_ret
      exact ⟨end_bool (by rw [valOk_1, decide_eq_false HT'.out, Bool.and_false]), ext_alloc _ _⟩
  have t1 : (kind == 1) = false := by rw [beq_eq_false_iff_ne]; exact k1
  by_cases k2 : kind = 2
  · subst k2
    go_enter Tryd.func35, Tryd.ntmps35
    go_wp2_with ((go_at_call 34; refine (specTextOk text _).mono ?_; rintro e w1 ⟨rfl, hb⟩))
    all_goals (go_ret; first | exact ⟨end_bool (by simp [valOk_2, isDec0, *]), ext_alloc _ _⟩ | exact ⟨end_bool (by simp [valOk_2, isDec0, *]), ext_trans (ext_alloc _ _) hb⟩)
  have t2 : (kind == 2) = false := by rw [beq_eq_false_iff_ne]; exact k2
  by_cases k3 : kind = 3
  · subst k3
    go_enter Tryd.func35, Tryd.ntmps35
    go_wp2_with ((go_at_call 34; refine (specTextOk text _).mono ?_; rintro e w1 ⟨rfl, hb⟩))
    all_goals (go_ret; first | exact ⟨end_bool (by simp [valOk_3, isDec0, *]), ext_alloc _ _⟩ | exact ⟨end_bool (by simp [valOk_3, isDec0, *]), ext_trans (ext_alloc _ _) hb⟩)
  have t3 : (kind == 3) = false := by rw [beq_eq_false_iff_ne]; exact k3
  go_enter Tryd.func35, Tryd.ntmps35
  go_wp2
  go_ret
  exact ⟨end_bool (valOk_else _ _ k0 k1 k2 k3).symm, ext_alloc _ _⟩


/-- a value, or none where it is not ok -/
def soundVal (v : Val) : Val := if valOk v then v else val0
theorem rd_sound {S : Nat → Prop} {w : World} {v : Val} (g0 : -9223372036854775808 ≤ v.kind ∧ v.kind ≤ 9223372036854775807) (g1 : v.num.dig.size ≤ 9223372036854775807) (g2 : -9223372036854775808 ≤ v.num.exp ∧ v.num.exp ≤ 9223372036854775807) (g3 : v.text.size ≤ 9223372036854775807) :
    Rd.rd S w [.int .i64 (soundVal v).kind, .bool (soundVal v).num.neg, .string (soundVal v).num.dig, .int .i64 (soundVal v).num.exp, .string (soundVal v).text] (soundVal v) := by
  unfold soundVal
  split
  · exact rdVal_mk g0 g1 g2 g3
  · exact rd_val0

set_option maxHeartbeats 1000000 in
theorem specSound {cs : Array Value} {x : Val} (w : World) (hrd : Rd.rd (Old w) w cs.toList x) :
    Calls Tryd.prog 61 #[.agg cs] w fun e w' => ∃ cs' : Array Value, e = .returned (.agg cs') ∧ Rd.rd (Old w') w' cs'.toList (soundVal x) ∧ Below w.heap.size w w' := by
  obtain ⟨hcs, g0, g1, g2, g3⟩ := rdVal hrd
  obtain rfl := arr_of_list hcs
  clear hcs hrd
  obtain ⟨b, hb⟩ : ∃ b, valOk x = b := ⟨_, rfl⟩
  have HB := hid hb
  clear hb
  have hres := fun (S : Nat → Prop) (w : World) => rd_sound (S := S) (w := w) (v := x) g0 g1 g2 g3
  cases b
  · have HS := hid (show soundVal x = val0 by unfold soundVal; rw [HB.out]; rfl)
    go_enter Tryd.func61, Tryd.ntmps61
    go_wp2_with fail
    refine (specValOk (x := x) _ (by exact rdVal_mk g0 g1 g2 g3)).mono ?_
    rintro e w1 ⟨rfl, hb⟩
    rw [HB.out]
    obtain ⟨hc1, hf1⟩ := bcell hb
    have hl : w.heap.size + 1 < w1.heap.size := by have := hb.size; (try simp at this); omega
    have hl' : w.heap.size < w1.heap.size := by omega
    have hbw : Below w.heap.size w w1 := ext_trans (ext_trans (ext_alloc _ _) (ext_alloc _ _)) hb
    go_wp2
    refine bodyPost_ret (v := .agg #[.int .i64 0, .bool false, .string ⟨#[]⟩, .int .i64 0, .string ⟨#[]⟩]) (by simp [results, Tryd.results61, go_sem, hc1, hl, hl']) rfl ⟨_, rfl, ?_, ?_⟩
    · rw [HS.out]; exact rd_val0
    · repeat' (first | (with_reducible exact hbw) | (with_reducible refine Below.setCell ?_ ?_ _) | (simp; done) | (simp; omega) | omega)
  · have HS := hid (show soundVal x = x by unfold soundVal; rw [HB.out]; rfl)
    go_enter Tryd.func61, Tryd.ntmps61
    go_wp2_with fail
    refine (specValOk (x := x) _ (by exact rdVal_mk g0 g1 g2 g3)).mono ?_
    rintro e w1 ⟨rfl, hb⟩
    rw [HB.out]
    obtain ⟨hc1, hf1⟩ := bcell hb
    have hl : w.heap.size + 1 < w1.heap.size := by have := hb.size; (try simp at this); omega
    have hl' : w.heap.size < w1.heap.size := by omega
    have hbw : Below w.heap.size w w1 := ext_trans (ext_trans (ext_alloc _ _) (ext_alloc _ _)) hb
    go_wp2
    refine bodyPost_ret (v := .agg #[.int .i64 x.kind, .bool x.num.neg, .string x.num.dig, .int .i64 x.num.exp, .string x.text]) (by simp [results, Tryd.results61, go_sem, hc1, hl, hl']) rfl ⟨_, rfl, ?_, ?_⟩
    · rw [HS.out]; exact rdVal_mk g0 g1 g2 g3
    · repeat' (first | (with_reducible exact hbw) | (with_reducible refine Below.setCell ?_ ?_ _) | (simp; done) | (simp; omega) | omega)

def dec0 : Dec := ⟨false, ⟨#[]⟩, 0⟩
def textVal (s : ByteArray) : Val := if okText s then ⟨2, dec0, s⟩ else val0
theorem isDec0_dec0 : isDec0 dec0 = true := by
  have : (⟨#[]⟩ : ByteArray).toList = [] := by rw [Lib.toList_data]
  unfold isDec0 dec0
  rw [this]
  rfl
theorem rd_text {S : Nat → Prop} {w : World} {s : ByteArray} (hs : s.size ≤ 9223372036854775807) : Rd.rd S w [.int .i64 2, .bool false, .string ⟨#[]⟩, .int .i64 0, .string s] (⟨2, dec0, s⟩ : Val) :=
  rdVal_mk (x := ⟨2, dec0, s⟩) (show (-9223372036854775808 : Int) ≤ 2 ∧ (2 : Int) ≤ 9223372036854775807 by decide) (show (⟨#[]⟩ : ByteArray).size ≤ 9223372036854775807 by decide) (show (-9223372036854775808 : Int) ≤ 0 ∧ (0 : Int) ≤ 9223372036854775807 by decide) hs
theorem sound_text (s : ByteArray) : soundVal ⟨2, dec0, s⟩ = textVal s := by
  unfold soundVal textVal
  rw [valOk_2, isDec0_dec0, Bool.true_and]

set_option maxHeartbeats 1000000 in
theorem specTextVal (s : ByteArray) (w : World) (hs : s.size ≤ 9223372036854775807) :
    Calls Tryd.prog 60 #[.string s] w fun e w' => ∃ cs' : Array Value, e = .returned (.agg cs') ∧ Rd.rd (Old w') w' cs'.toList (textVal s) ∧ Below w.heap.size w w' := by
  go_enter Tryd.func60, Tryd.ntmps60
  go_wp2_with fail
  refine (specSound (x := ⟨2, dec0, s⟩) _ (by exact rd_text hs)).mono ?_
  rw [sound_text]
  rintro e w1 ⟨cs1, rfl, hr, hb⟩
  obtain ⟨hcs1, g0, g1, g2, g3⟩ := rdVal hr
  obtain rfl := arr_of_list hcs1
  obtain ⟨hc1, hf1⟩ := bcell hb
  have hl' : w.heap.size < w1.heap.size := by have := hb.size; (try simp at this); omega
  have hbw : Below w.heap.size w w1 := ext_trans (ext_alloc _ _) hb
  clear hcs1 hr
  go_wp2
  refine bodyPost_ret (v := .agg #[.int .i64 (textVal s).kind, .bool (textVal s).num.neg, .string (textVal s).num.dig, .int .i64 (textVal s).num.exp, .string (textVal s).text]) (by simp [results, Tryd.results60, go_sem, hc1, hl']) rfl ⟨_, rfl, ?_, ?_⟩
  · exact rdVal_mk g0 g1 g2 g3
  · repeat' (first | (with_reducible exact hbw) | (with_reducible refine Below.setCell ?_ ?_ _) | (simp; done) | (simp; omega) | omega)

end Go.Proofs.YtommldonooicjaaDoor
