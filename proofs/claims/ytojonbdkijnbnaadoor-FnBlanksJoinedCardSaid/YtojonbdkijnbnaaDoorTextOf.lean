/-
  What is proved here: impl.textOf and impl.TextOf return the bytes of a list of code points (TextOf: of at most 1000 bytes). No condition.
-/
import Derived.Test.YtojonbdkijnbnaaDoorLen
import Derived.Lib.OthersKept
namespace Go.Proofs.YtojonbdkijnbnaaDoor
open Go.RowKit
set_option linter.unusedVariables false
set_option linter.unusedSimpArgs false

theorem runeCells_enc {c : Nat} (h : isPt c) : Lib.runeCells (c : Int) = byteVals (enc c) := by
  obtain ⟨h1, h2, h3⟩ := h
  unfold Lib.runeCells enc byteVals
  by_cases a1 : c < 128
  · rw [Lib.encodeRuneZ_one (by omega) (by omega), if_pos a1]
    simp only [List.map_cons, List.map_nil]
    rw [u8_cast (by omega)]
  · by_cases a2 : c < 2048
    · rw [Lib.encodeRuneZ_two (by omega) (by omega), if_neg a1, if_pos a2]
      simp only [List.map_cons, List.map_nil]
      rw [u8_cast (by omega), u8_cast (by omega)]
      simp only [List.cons.injEq, Value.int.injEq, true_and, and_true]
      refine ⟨?_, ?_⟩ <;> omega
    · by_cases a3 : c < 65536
      · rw [Lib.encodeRuneZ_three (by omega), if_neg a1, if_neg a2, if_pos a3]
        simp only [List.map_cons, List.map_nil]
        rw [u8_cast (by omega), u8_cast (by omega), u8_cast (by omega)]
        simp only [List.cons.injEq, Value.int.injEq, true_and, and_true]
        refine ⟨?_, ?_, ?_⟩ <;> omega
      · rw [Lib.encodeRuneZ_four (by omega) (by omega), if_neg a1, if_neg a2, if_neg a3]
        simp only [List.map_cons, List.map_nil]
        rw [u8_cast (by omega), u8_cast (by omega), u8_cast (by omega), u8_cast (by omega)]
        simp only [List.cons.injEq, Value.int.injEq, true_and, and_true]
        refine ⟨?_, ?_, ?_, ?_⟩ <;> omega
theorem byteVals_append (a b : List UInt8) : byteVals (a ++ b) = byteVals a ++ byteVals b := by simp [byteVals]
theorem texts_snoc (rs : List Nat) (c : Nat) : texts (rs ++ [c]) = texts rs ++ enc c := by rw [texts_append]; simp [texts]
theorem texts_le (rs : List Nat) : (texts rs).length ≤ 4 * rs.length := by
  induction rs with
  | nil => simp [texts]
  | cons c rs ih =>
    have := enc_pos c
    simp only [texts, List.flatMap_cons, List.length_append, List.length_cons] at *
    omega
/-- a row of numbers that a call owns, told by its cells -/
theorem own_ints {w : World} {B : Nat} {e : TypeId} {v : Value} {rs : List Nat} (h : w.ownsRow B e 1 v rs.length (intVals rs)) :
    ∃ a cap, v = .slice a rs.length cap ∧ (0 < rs.length → ∃ b, a = some ⟨b, 0, none⟩ ∧ b < w.heap.size ∧ ∀ i (hi : i < rs.length), w.cell? ⟨b, i, none⟩ = some (.int .i64 (rs[i] : Int))) := by
  obtain ⟨a, cap, hv⟩ := own_slice h
  refine ⟨a, cap, hv, fun h0 => ?_⟩
  subst hv
  rcases h.2 with ⟨hv, h1⟩ | ⟨g, cap', cur, hv, hB, hg, _⟩
  · omega
  · simp only [Value.slice.injEq, true_and] at hv
    obtain ⟨rfl, rfl⟩ := hv
    refine ⟨g, rfl, ?_, fun i hi => ?_⟩
    · exact (Array.getElem?_eq_some_iff.1 hg).1
    · have hx := h.cells (g := g) rfl i (.int .i64 (rs[i] : Int)) (by
        unfold intVals
        rw [List.getElem?_map, List.getElem?_eq_getElem hi]; rfl)
      simpa [Addr.add_lit] using hx
theorem implPoint (c : Int) (w : World) : Calls Tryd.prog 85 #[.int .i64 c] w fun e w' => e = .returned (.bool (ptB c)) ∧ w = w' := by
  by_cases h1 : 1 ≤ c ∧ c ≤ 1114111
  · have b1 : inB 1 c 1114111 = true := inB_true h1
    by_cases h2 : 55296 ≤ c ∧ c ≤ 57343
    · have b2 : inB 55296 c 57343 = true := inB_true h2
      have hr := hid (show ptB c = false by unfold ptB; simp [h1, h2])
      clear h1 h2
      go_enter Tryd.func85, Tryd.ntmps85
      go_wp2_with (go_at_call 51; refine (within_any _ _ _ _).mono ?_; rintro e w1 ⟨rfl, rfl⟩)
      go_ret
      exact ⟨end_bool hr.out.symm, rfl⟩
    · have b2 : inB 55296 c 57343 = false := inB_false h2
      have hr := hid (show ptB c = true by unfold ptB; rw [decide_eq_true h1, decide_eq_false h2]; rfl)
      clear h1 h2
      go_enter Tryd.func85, Tryd.ntmps85
      go_wp2_with (go_at_call 51; refine (within_any _ _ _ _).mono ?_; rintro e w1 ⟨rfl, rfl⟩)
      go_ret
      exact ⟨end_bool hr.out.symm, rfl⟩
  · have b1 : inB 1 c 1114111 = false := inB_false h1
    have hr := hid (show ptB c = false by unfold ptB; rw [decide_eq_false h1]; rfl)
    clear h1
    go_enter Tryd.func85, Tryd.ntmps85
    go_wp2_with (go_at_call 51; refine (within_any _ _ _ _).mono ?_; rintro e w1 ⟨rfl, rfl⟩)
    go_ret
    exact ⟨end_bool hr.out.symm, rfl⟩

set_option maxHeartbeats 4000000 in
set_option maxRecDepth 100000 in
theorem implTextOf0 {v : Value} {B0 : Nat} {rs : List Nat} (w : World) (hown : w.ownsRow B0 3 1 v rs.length (intVals rs)) (hpt : ∀ c ∈ rs, isPt c) (hn : rs.length ≤ 1000000) :
    Calls Tryd.prog 65 #[v] w fun e w' => e = .returned (.tuple #[.string (mkB (texts rs)), .bool true]) ∧ Below w.heap.size w w' := by
  obtain ⟨a, cap, rfl, hc⟩ := own_ints hown
  have HP := hid hpt
  clear hown hpt
  go_enter Tryd.func65, Tryd.ntmps65
  go_wp2
  go_loopw [9] (fun i wr => ∃ k : Nat, k ≤ rs.length ∧ i = .int .i64 k ∧ Lib.IsBuilderF 101 5 w.heap.size w.heap.size (Lib.byteCells (texts (rs.take k))) wr ∧ Below w.heap.size w wr) (fun i _ => rs.length - (intOf i).toNat)
  case atStart => exact ⟨0, Nat.zero_le _, rfl, Lib.IsBuilderF.of (Lib.fresh_isBuilder _ _ w), ext_alloc _ _⟩
  case round =>
    obtain ⟨k, hk, rfl, hI, hb⟩ := hrel
    have hlen : (texts (rs.take k)).length ≤ 4000000 := by
      have := texts_le (rs.take k)
      rw [List.length_take] at this
      omega
    by_cases hlt : k < rs.length
    · obtain ⟨b, rfl, hbl, hcell⟩ := hc (by omega)
      have hce := hcell k hlt
      have hce1 : wr.cell? ⟨b, k, none⟩ = some (.int .i64 (rs[k] : Int)) := (hb.cell hbl).trans hce
      have hp := HP.out rs[k] (List.getElem_mem hlt)
      obtain ⟨c, hcc⟩ : ∃ c, rs[k] = c := ⟨_, rfl⟩
      have htk : texts (rs.take (k + 1)) = texts (rs.take k) ++ enc c := by rw [List.take_add_one, List.getElem?_eq_getElem hlt, hcc]; simp [texts]
      rw [hcc] at hce1 hp
      have hpb : ptB (c : Int) = true := ptB_iff.2 hp
      have hc1 := hp.1
      have hc2 := hp.2.1
      have HPT := hid hp
      have HTK := hid htk
      clear hce hcell hp htk hcc hc
      go_wp2_with (go_at_call 85; refine (implPoint _ _).mono ?_; rintro e w1 ⟨rfl, rfl⟩)
      go_wp2_with (go_at_call 86; refine (Tryd.Builder_WriteRune_k w.heap.size w.heap.size _ _ (by omega) (by omega) _ hI (by rw [Lib.byteCells_length]; omega) hb.size).mono ?_)
      rintro e W1 ⟨rfl, h1, b1, k1⟩
      rw [runeCells_enc HPT.out] at *
      go_wp2
      go_round
      case rel => exact ⟨k + 1, by omega, by go_num, by rw [HTK.out, Lib.byteCells_append]; exact Or.inr h1, hb.trans b1⟩
      case measure => simp [intOf]; omega
    · have hkk : k = rs.length := by omega
      subst hkk
      rw [List.take_length] at hI
      clear hc hlen
      go_wp2_with (go_at_call 87; refine (Tryd.Builder_String_any_k w.heap.size w.heap.size _ _ hI hb.size).mono ?_)
      rintro e W1 ⟨rfl, _, b1, _⟩
      go_wp2
      go_ret2
      exact ⟨rfl, hb.trans b1⟩

set_option maxHeartbeats 1000000 in
theorem implTextOf {v : Value} {B0 : Nat} {rs : List Nat} (w : World) (hown : w.ownsRow B0 3 1 v rs.length (intVals rs)) (hpt : ∀ c ∈ rs, isPt c) (hn : rs.length ≤ 1000000) (hl : (texts rs).length ≤ 1000) :
    Calls Tryd.prog 31 #[v] w fun e w' => e = .returned (.tuple #[.string (mkB (texts rs)), .bool true]) ∧ Below w.heap.size w w' := by
  have hsz : (mkB (texts rs)).size ≤ 1000 := by rw [mkB_size]; exact hl
  have C := fun w' (h : w = w') => implTextOf0 w hown hpt hn
  obtain ⟨a, cap, rfl, hc⟩ := own_ints hown
  clear hc hpt hown hl
  go_enter Tryd.func31, Tryd.ntmps31
  go_wp2_with (go_at_call 65; refine (C _ rfl).mono ?_; rintro e w1 ⟨rfl, hb⟩)
  go_ret2
  exact ⟨rfl, hb⟩
end Go.Proofs.YtojonbdkijnbnaaDoor
