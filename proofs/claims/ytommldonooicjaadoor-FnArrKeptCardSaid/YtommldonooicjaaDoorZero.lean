/-
  What is proved here: spec.l02Zeros returns a row of noughts, impl.natShift a natural with noughts behind it. No condition.
-/
import Derived.Test.YtommldonooicjaaDoorPartS
import Derived.Test.YtommldonooicjaaDoorShelfA
import Derived.Test.YtommldonooicjaaDoorNat
import Derived.Lib.Repeat
namespace Go.Proofs.YtommldonooicjaaDoor
open Go.RowKit
set_option linter.unusedVariables false
set_option linter.unusedSimpArgs false

def zeroL (n : Nat) : List UInt8 := List.replicate n 48
def zeroB (n : Nat) : ByteArray := mkB (zeroL n)
theorem zeroL_len (n : Nat) : (zeroL n).length = n := by unfold zeroL; rw [List.length_replicate]
theorem zeroB_size (n : Nat) : (zeroB n).size = n := by unfold zeroB; rw [mkB_size, zeroL_len]
theorem zeroL_succ (n : Nat) : zeroL (n + 1) = zeroL n ++ [48] := by unfold zeroL; rw [List.replicate_succ']
theorem repeat_zero : ∀ n : Nat, Lib.repeatL [48] n = zeroL n
  | 0 => rfl
  | n + 1 => by
    show [48] ++ Lib.repeatL [48] n = zeroL (n + 1)
    rw [repeat_zero n]
    rfl
theorem info_u8Z : (Tryd.prog.info? 5).map (fun i => (i.zero, i.size, i.bytes)) = some (some (.int .u8 0), 1, 1) := by kernel_rfl
set_option maxHeartbeats 4000000 in
set_option maxRecDepth 100000 in
theorem specZeros (m : Nat) (w : World) (hm : m ≤ 1000000) :
    Calls Tryd.prog 115 #[.int .i64 (m : Int)] w fun e w' => e = .returned (.string (zeroB m)) ∧ Below w.heap.size w w' := by
  obtain ⟨i0, hi, hz0, hz1, hz2⟩ := info_parts info_u8Z
  go_enter Tryd.func115, Tryd.ntmps115
  go_wp2
  go_loopw [3, 4] (fun out i wr => ∃ k : Nat, k ≤ m ∧ i = .int .i64 (k : Int) ∧ wr.ownsRow w.heap.size 5 1 out (zeroL k).length (byteVals (zeroL k)) ∧ Below w.heap.size w wr) (fun _ i _ => m - (intOf i).toNat)
  case atStart => exact ⟨0, Nat.zero_le _, rfl, own_none (Nat.le_refl _) _, ext_alloc _ _⟩
  case round =>
    obtain ⟨k, hk, rfl, hown, hb⟩ := hrel
    have hlen : (zeroL k).length ≤ 1000000 := by rw [zeroL_len]; omega
    by_cases hlt : k < m
    · have HST := hid (zeroL_succ k)
      go_wp2_with ((at_builtin; refine wpList_append_own _ rfl _ _ 22 rfl w.heap.size 5 i0 (.int .u8 0) 1 1 Tryd.underlying22 hi hz0 hz1 hz2 rfl (by decide) _ _ _ rfl (hown.alloc _) ⟨wr.heap.size, 0, none⟩ 1 1 [.int .u8 48] rfl rfl ?c1 ?c2 ?c3 ?c4 ?c5 ?_))
      case c1 => exact cells_new wr #[.int .u8 48] _
      case c2 => intro u hu; simp at hu; subst hu; rfl
      case c3 => unfold maxLen; omega
      case c4 => omega
      case c5 => simp; exact Nat.le_trans hb.size (by omega)
      intro v' w2 hown2 hgrow _
      have hlt' := (hown.alloc (.cells #[.int .u8 48] 5)).lt
      have hB2 : Below w.heap.size w w2 := (ext_trans hb (ext_alloc _ _)).grown hgrow (ext_trans hb (ext_alloc _ _)).size (fun q hq => (hlt' q hq).1)
      clear hi hz0 hz1 hz2 hgrow hown hlt'
      go_wp2
      go_roundw
      case rel => exact ⟨k + 1, by omega, by go_num, by rw [HST.out, byteVals_append, List.length_append]; exact hown2, hB2⟩
      case measure => simp [intOf]; omega
    · have hkk : k = m := by omega
      subst hkk
      have hcv := own_string (P := Tryd.prog) (src := 22) (dst := 9) hown Tryd.underlying22 Tryd.underlying5 Tryd.underlying9
      obtain ⟨oa, oc, rfl⟩ := own_slice hown
      clear hlen hi hz0 hz1 hz2 hown
      go_wp2
      go_ret
      exact ⟨rfl, hb⟩
end Go.Proofs.YtommldonooicjaaDoor
