/-
  What is proved here: spec.l01Text and spec.Part return the bytes of the chosen code points. No condition.
-/
import Derived.Test.YtomcoilmpkpoeaaGreatDoorQPart
namespace Go.Proofs.YtomcoilmpkpoeaaGreatDoor
open Go.RowKit
set_option linter.unusedVariables false
set_option linter.unusedSimpArgs false

theorem texts_take {rs : List Nat} {k : Nat} (h : k < rs.length) : texts (rs.take (k + 1)) = texts (rs.take k) ++ enc rs[k] := by
  rw [List.take_add_one, List.getElem?_eq_getElem h, texts_append]
  congr 1
  simp [texts]
/-- a row of bytes that a call owns, as a string -/
theorem own_string {P : Program} {w : World} {B : Nat} {src dst e : TypeId} {v : Value} {l : List UInt8} (h : w.ownsRow B e 1 v l.length (byteVals l)) (hs : P.underlying src = some (.slice e)) (he : P.underlying e = some (.int .u8)) (hd : P.underlying dst = some .string) :
    (convert src dst v).run P w = .ok (.string (mkB l)) w := by
  rcases h.2 with ⟨rfl, h0⟩ | ⟨g, cap, cur, rfl, _, hg, _⟩
  · have : l = [] := List.eq_nil_of_length_eq_zero h0
    subst this
    rw [run_convert_bytes_string w src dst e none 0 0 hs he hd]
    have hl := run_loadCells_list (P := P) w ⟨0, 0, none⟩ ([] : List Value) (fun j v hj => by simp at hj)
    simp [Conv.bytesToString, mkB] at hl ⊢
    rfl
  · refine run_convert_bytes_back w src dst e ⟨g, 0, none⟩ cap l hs he hd (fun j hj => ?_)
    exact h.cells (g := g) rfl j _ (by unfold byteVals; rw [List.getElem?_map, List.getElem?_eq_getElem hj]; rfl)
theorem cells_new (w : World) (cs : Array Value) (e : TypeId) : ∀ j u, cs.toList[j]? = some u → (w.alloc (.cells cs e)).cell? ((⟨w.heap.size, 0, none⟩ : Addr).add j) = some u := by
  intro j u h
  rw [Addr.add_lit, Nat.zero_add]
  rw [cell_of_row _ _ j _ _ _ (heap_alloc_new w _)]
  simpa using h
theorem info_u8 : (Tryz.prog.info? 5).map (fun i => (i.zero, i.size, i.bytes)) = some (some (.int .u8 0), 1, 1) := by kernel_rfl
set_option maxHeartbeats 4000000 in
set_option maxRecDepth 100000 in
theorem specText {v : Value} {B0 : Nat} {rs : List Nat} (w : World) (hown : w.ownsRow B0 3 1 v rs.length (intVals rs)) (hpt : ∀ c ∈ rs, isPt c) (hn : rs.length ≤ 1000000) :
    Calls Tryz.prog 117 #[v] w fun e w' => e = .returned (.string (mkB (texts rs))) ∧ Below w.heap.size w w' := by
  obtain ⟨i0, hi, hz0, hz1, hz2⟩ := info_parts info_u8
  obtain ⟨a, cap, rfl, hc⟩ := own_ints hown
  have HP := hid hpt
  clear hown hpt
  go_enter Tryz.func117, Tryz.ntmps117
  go_wp2
  go_loopw [3, 4] (fun out i wr => ∃ k : Nat, k ≤ rs.length ∧ i = .int .i64 k ∧ wr.ownsRow w.heap.size 5 1 out (texts (rs.take k)).length (byteVals (texts (rs.take k))) ∧ Below w.heap.size w wr) (fun _ i _ => rs.length - (intOf i).toNat)
  case atStart => exact ⟨0, Nat.zero_le _, rfl, own_none (Nat.le_refl _) _, ext_alloc _ _⟩
  case round =>
    obtain ⟨k, hk, rfl, hown, hb⟩ := hrel
    have hlen : (texts (rs.take k)).length ≤ 4000000 := by
      have := texts_le (rs.take k)
      rw [List.length_take] at this
      omega
    by_cases hlt : k < rs.length
    · obtain ⟨b, rfl, hbl, hcell⟩ := hc (by omega)
      have hce1 : wr.cell? ⟨b, k, none⟩ = some (.int .i64 (rs[k] : Int)) := (hb.cell hbl).trans (hcell k hlt)
      have hp := HP.out rs[k] (List.getElem_mem hlt)
      have htk := texts_take hlt
      obtain ⟨c, hcc⟩ : ∃ c, rs[k] = c := ⟨_, rfl⟩
      rw [hcc] at hce1 hp htk
      have hc1 := hp.1
      have hc2 := hp.2.1
      have hel := enc_pos c
      have HTK := hid htk
      clear hcell hp htk hcc hc
      go_wp2_with (go_at_call 147; refine (specBytes c hc1 hc2 _).mono ?_; rintro e w1 ⟨rfl, rfl⟩; refine Hid.out ?_)
      refine hid ?_
      go_wp2_with ((at_builtin; refine wpList_append_own _ rfl _ _ 33 rfl w.heap.size 5 i0 (.int .u8 0) 1 1 Tryz.underlying33 hi hz0 hz1 hz2 rfl (by decide) _ _ _ rfl (hown.alloc _) ⟨wr.heap.size, 0, none⟩ (enc c).length (enc c).length (byteVals (enc c)) rfl (by rw [byteVals_length, Nat.mul_one]) ?c1 ?c2 ?c3 ?c4 ?c5 ?_))
      case c1 => exact cells_new wr (byteVals (enc c)).toArray _
      case c2 =>
        intro u hu
        unfold byteVals at hu
        obtain ⟨x, _, rfl⟩ := List.mem_map.1 hu
        rfl
      case c3 => unfold maxLen; omega
      case c4 => omega
      case c5 => simp; exact Nat.le_trans hb.size (by omega)
      intro v' w2 hown2 hgrow _
      have hlt' := (hown.alloc (.cells (byteVals (enc c)).toArray 5)).lt
      have hB2 : Below w.heap.size w w2 := (ext_trans hb (ext_alloc _ _)).grown hgrow (ext_trans hb (ext_alloc _ _)).size (fun q hq => (hlt' q hq).1)
      clear hi hz0 hz1 hz2 hgrow hown hlt'
      go_wp2
      go_roundw
      case rel => exact ⟨k + 1, by omega, by go_num, by rw [HTK.out, byteVals_append, List.length_append]; exact hown2, hB2⟩
      case measure => simp [intOf]; omega
    · have hkk : k = rs.length := by omega
      subst hkk
      rw [List.take_length] at hown
      have hcv := own_string (P := Tryz.prog) (src := 33) (dst := 9) hown Tryz.underlying33 Tryz.underlying5 Tryz.underlying9
      obtain ⟨oa, oc, rfl⟩ := own_slice hown
      clear hc hlen hi hz0 hz1 hz2 hown
      go_wp2
      go_ret
      exact ⟨rfl, hb⟩
end Go.Proofs.YtomcoilmpkpoeaaGreatDoor
