/-
  What is proved here: impl.SplitText and impl.Fields at a separator of one code point. The condition 'Tabs' says that the library's tables lie in the world; 'Mx', that its MaxLen holds an int.
-/
import Derived.Test.YtibbkddncjohkaaDoorSjT
import Derived.Test.YtibbkddncjohkaaDoorLen
namespace Go.Proofs.YtibbkddncjohkaaDoor
open Go.RowKit
set_option linter.unusedVariables false
set_option linter.unusedSimpArgs false

/-- what a separator of one code point is -/
structure Sep1 (sep : ByteArray) : Prop where
  ok : okText sep = true
  len : lenOf sep = 1
  sz : 1 ≤ sep.size
  n0 : (sep.toList == []) = false
  n1 : sep.toList.isEmpty = false
  nb : (sep.toList == [32]) = false
def PartsE (s sep : ByteArray) (w' : World) (v : Value) : Prop := Rd.rd (Old w') w' [v] (partsB s sep)
set_option maxHeartbeats 8000000 in
set_option maxRecDepth 100000 in
theorem implSplitText {s sep : ByteArray} (w : World) (hT : Tabs w) (hM : Mx w) (hs : okText s = true) (hp : Sep1 sep) (h0 : (s.toList == []) = false) (h1 : s.toList.isEmpty = false) :
    Calls Tryd.prog 15 #[.string s, .string sep] w fun e w' => ∃ v, e = .returned v ∧ PartsE s sep w' v ∧ Below w.heap.size w w' := by
  have hsz := ok_size hs
  have HS := hid hs
  have HP := hid hp.ok
  have hn0 := hp.n0
  have hn1 := hp.n1
  have hz := hp.sz
  clear hs hp
  go_enter Tryd.func15, Tryd.ntmps15
  go_wp2_with fail
  refine (implTextOk s _ hT).mono ?_
  rintro e w1 ⟨rfl, hb1⟩
  rw [HS.out]
  go_wp2_with fail
  refine (implTextOk sep _ (tabs_below hT hb1)).mono ?_
  rintro e w2 ⟨rfl, hb2⟩
  rw [HP.out]
  have HB := hid (ext_trans hb1 hb2)
  have hM2 := mx_below hM HB.out
  go_wp2_with fail
  refine (sSplit s sep w2 (by omega) hz hM2).mono ?_
  rintro e w3 ⟨n, rfl, hn, hown, hb3⟩
  have HR := hid (show PartsE s sep w3 (.slice (some ⟨w2.heap.size, 0, none⟩) n n) by
    subst hn
    exact Rd.mono (fun b hb => hb.2) (own_strsN hown (fun p hp => Nat.le_trans ((parts_size sep hz s.size s (Nat.le_refl _)).2 p hp) (by omega))))
  have HB3 := hid hb3
  clear hown hb3 hn
  go_wp2
  go_ret
  exact ⟨_, rfl, HR.out, ext_trans HB.out HB3.out⟩
set_option maxHeartbeats 8000000 in
set_option maxRecDepth 100000 in
theorem implFieldsOf {s sep : ByteArray} (w : World) (hT : Tabs w) (hM : Mx w) (hs : okText s = true) (hp : Sep1 sep) (h0 : (s.toList == []) = false) (h1 : s.toList.isEmpty = false) (hl : (partsB s sep).length ≤ 100) :
    Calls Tryd.prog 27 #[.string s, .string sep] w fun e w' => ∃ v, e = .returned (.tuple #[v, .int .i64 0]) ∧ PartsE s sep w' v ∧ Below w.heap.size w w' := by
  have HS : Hid (textOk s.data.toList = true) := hid hs
  have HP := hid hp
  have HS2 := hid hs
  have hn0 := hp.n0
  have hn1 := hp.n1
  have hnb := hp.nb
  clear hs hp
  go_enter Tryd.func27, Tryd.ntmps27
  go_wp2_with fail
  refine (implRunesOf s _ hT).mono ?_
  rintro e w1 ⟨u, rfl, hown, hb1⟩
  rw [HS.out]
  obtain ⟨ua, uc, rfl⟩ := own_slice hown
  clear hown
  go_wp2_with fail
  refine (implTextOk sep _ (tabs_below hT hb1)).mono ?_
  rintro e w2 ⟨rfl, hb2⟩
  rw [HP.out.ok]
  have HB := hid (ext_trans hb1 hb2)
  go_wp2_with fail
  refine (implLength sep _ (tabs_below hT HB.out)).mono ?_
  rintro e w3 ⟨rfl, hb3⟩
  rw [HP.out.len]
  have HB3 := hid (ext_trans HB.out hb3)
  go_wp2_with fail
  refine (implSplitText _ (tabs_below hT HB3.out) (mx_below hM HB3.out) HS2.out HP.out h0 h1).mono ?_
  rintro e w4 ⟨v, rfl, hr, hb4⟩
  obtain ⟨a, cap, hv, g1, g2, g3⟩ := hr
  obtain rfl : v = .slice a (partsB s sep).length cap := by simpa using hv
  have HR := hid (show PartsE s sep w4 (.slice a (partsB s sep).length cap) from ⟨a, cap, hv, g1, g2, g3⟩)
  have HB4 := hid (ext_trans HB3.out hb4)
  have hli : ¬ (100 : Int) < ((partsB s sep).length : Int) := by omega
  clear hv g1 g2 g3 hb4
  go_wp2
  go_ret2
  exact ⟨_, rfl, HR.out, HB4.out⟩
set_option maxHeartbeats 2000000 in
theorem implFields {s sep : ByteArray} (w : World) (hT : Tabs w) (hM : Mx w) (hs : okText s = true) (hp : Sep1 sep) (h0 : (s.toList == []) = false) (h1 : s.toList.isEmpty = false) (hl : (partsB s sep).length ≤ 100) :
    Calls Tryd.prog 13 #[.string s, .string sep] w fun e w' => ∃ v, e = .returned (.tuple #[v, .int .i64 0]) ∧ PartsE s sep w' v ∧ Below w.heap.size w w' := by
  have C := hid (implFieldsOf w hT hM hs hp h0 h1 hl)
  clear hT hM hs hp h0 h1 hl
  go_enter Tryd.func13, Tryd.ntmps13
  go_wp2_with fail
  refine C.out.mono ?_
  rintro e w1 ⟨v, rfl, hr, hb⟩
  go_wp2
  go_ret2
  exact ⟨_, rfl, hr, hb⟩
end Go.Proofs.YtibbkddncjohkaaDoor
