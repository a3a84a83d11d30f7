/-
  What is proved here: the reference's JSON reader by levels; JsonRead and JsonNumber of the reference. No condition.
-/
import Derived.Test.YtlfkfofeenakhaaDoorJsS6
import Derived.Test.YtlfkfofeenakhaaDoorJsL6
namespace Go.Proofs.YtlfkfofeenakhaaDoor
open Go.RowKit
set_option linter.unusedVariables false
set_option linter.unusedSimpArgs false

/-- an error bears a code -/
def ErN (r : JR) : Prop := ∀ c q, r = .er c q → c ≠ 0
theorem erN_put {n : JNode} {j b : Nat} {ns : List JNode} : ErN (putN n j b ns) := fun _ _ h => by cases h
theorem erN_er {c q : Nat} (h : c ≠ 0) : ErN (.er c q) := fun _ _ e => by injection e with e1 e2; omega
theorem grpN_er {L : List UInt8} {o e : Nat} {nxt : Nat → Nat → List JNode → List ByteArray → List Int → JR} {r : JR} {keys : List ByteArray} {kids : List Int} (hr : ErN r) (h : ∀ q b ns ks ds, ErN (nxt q b ns ks ds)) : ErN (grpN L o e nxt r keys kids) := by
  unfold grpN
  cases r with
  | er c q => exact hr
  | ok kid j b ns =>
    dsimp only
    split
    · exact erN_put
    · split
      · exact h _ _ _ _ _
      · exact erN_er (by decide)
theorem grpG_er {L : List UInt8} {val : Nat → Nat → List JNode → JR} {o e : Nat} (hv : ∀ p b ns, ErN (val p b ns)) : ∀ (f q b : Nat) (ns : List JNode) (keys : List ByteArray) (kids : List Int), ErN (grpG L val o e f q b ns keys kids)
  | 0, q, b, ns, keys, kids => by rw [grpG]; exact erN_er (by decide)
  | f + 1, q, b, ns, keys, kids => by
    rw [grpG]
    repeat' split
    all_goals first | exact erN_er (by decide) | exact grpN_er (hv _ _ _) (fun q1 b1 ns1 ks ds => grpG_er hv f q1 b1 ns1 ks ds)
theorem valG_erN {L : List UInt8} {grp : Nat → Nat → Nat → List JNode → JR} (hg : ∀ o p b ns, ErN (grp o p b ns)) (p b : Nat) (ns : List JNode) : ErN (valG L grp p b ns) := by
  have hw : ∀ wd (k : Int) b0, ErN (wordR L p wd k b0 ns) := by
    intro wd k b0
    unfold wordR
    split
    · exact erN_put
    · exact erN_er (by decide)
  unfold valG
  repeat' split
  all_goals first | exact erN_er (by decide) | exact hw _ _ _ | exact erN_put | exact hg _ _ _ _
theorem grpL_er (L : List UInt8) : ∀ (v o p b : Nat) (ns : List JNode), ErN (grpL L v o p b ns)
  | 0, o, p, b, ns => by rw [grpL]; exact erN_er (by decide)
  | v + 1, o, p, b, ns => by
    rw [grpL]
    unfold grpB
    split
    · exact erN_put
    · exact grpG_er (valG_erN (grpL_er L v)) _ _ _ _ _ _
theorem valG_er {L : List UInt8} {p b c q : Nat} {ns : List JNode} (h : valG L (grpL L 8) p b ns = .er c q) : c ≠ 0 := valG_erN (grpL_er L 8) p b ns c q h
/-- a row of nodes: its cells -/
theorem rdJNodes {S : Nat → Prop} {w : World} {v : Value} {ns : List JNode} (h : Rd.rd S w [v] ns) : ∃ a cap, v = .slice a ns.length cap ∧ ns.length ≤ cap ∧ cap ≤ 9223372036854775807 ∧
    (0 < ns.length → ∃ b off, a = some ⟨b, off, none⟩ ∧ S b ∧ ∀ i (hi : i < ns.length), ∃ us uk, (w.cell? ⟨b, off + i * 4, none⟩ = some (.int .i64 ns[i].kind) ∧ w.cell? ⟨b, off + i * 4 + 1, none⟩ = some (.string ns[i].text) ∧ w.cell? ⟨b, off + i * 4 + 2, none⟩ = some us ∧ w.cell? ⟨b, off + i * 4 + 3, none⟩ = some uk) ∧ (-9223372036854775808 ≤ ns[i].kind ∧ ns[i].kind ≤ 9223372036854775807) ∧ ns[i].text.size ≤ 9223372036854775807 ∧ Rd.rd S w [us] ns[i].keys ∧ Rd.rd S w [uk] ns[i].kids) := by
  obtain ⟨a, cap, hv, h1, h2, h3⟩ := h
  refine ⟨a, cap, by simpa using hv, h1, h2, fun hp => ?_⟩
  obtain ⟨b, off, e, hS, hr⟩ := h3 hp
  refine ⟨b, off, e, hS, fun i hi => ?_⟩
  obtain ⟨cs, hc, c1, c2, rfl, g1, c3, c4, rfl, g2, c5, c6, rfl, g3, g4⟩ := hr i hi
  obtain ⟨rfl, k1⟩ := g1
  obtain ⟨rfl, k2⟩ := g2
  obtain ⟨us, rfl⟩ := List.length_eq_one_iff.1 (Rd.len g3)
  obtain ⟨uk, rfl⟩ := List.length_eq_one_iff.1 (Rd.len g4)
  exact ⟨us, uk, ⟨hc 0 (by decide), hc 1 (by decide), hc 2 (by decide), hc 3 (by decide)⟩, k1, k2, g3, g4⟩
theorem rd_noNode {S : Nat → Prop} {w : World} : Rd.rd S w [.slice none 0 0] ([] : List JNode) := ⟨none, 0, rfl, Nat.le_refl _, by omega, fun h => absurd h (by simp)⟩
theorem rd_own_atJ {α : Type} [Rd α] {S : Nat → Prop} {w : World} {base : Nat} {e : TypeId} {v : Value} {css : List (List Value)} {xs : List α} (h : w.ownsRow base e (Rd.n α) v xs.length css.flatten) (he : Each S w css xs) (hS : ∀ b, v.ownBlock = some b → base ≤ b → b < w.heap.size → S b) : Rd.rd S w [v] xs := by
  rcases h.2 with ⟨rfl, hn⟩ | ⟨g, cap, cur, rfl, hb, hg, hnc, hcm, hcs, htake⟩
  · rw [show xs = [] from List.eq_nil_of_length_eq_zero hn]
    exact ⟨none, 0, rfl, Nat.le_refl _, by omega, fun h => absurd h (by simp)⟩
  · have hlt : g < w.heap.size := (Array.getElem?_eq_some_iff.1 hg).1
    have hcur : cur = (css.flatten ++ cur.toList.drop (xs.length * Rd.n α)).toArray := by
      rw [← htake, List.take_append_drop]
    rw [hcur] at hg
    exact rd_of_block hg he (hS g rfl hb hlt) hnc (by unfold maxLen at hcm; omega)
theorem JNs.rd {X : Nat → Prop} {g : Nat} {nv : Value} {w : World} {ns : List JNode} (h : JNs X g nv w ns) : Rd.rd (fun b => g < b ∧ b < w.heap.size) w [nv] ns := by
  obtain ⟨css, ho, he⟩ := h
  exact rd_own_atJ ho (he.mono (fun b hb => ⟨hb.1, hb.2.1⟩)) (fun b _ h1 h2 => ⟨by omega, h2⟩)
theorem rd_out {α : Type} [Rd α] {g B : Nat} {w w' : World} {cs : List Value} {x : α} (h : Rd.rd (fun b => g < b ∧ b < w.heap.size) w cs x) (hb : ∀ b, g < b → w'.heap[b]? = w.heap[b]?) (hs : w.heap.size ≤ w'.heap.size) (hB : B ≤ g) : Rd.rd (New B w') w' cs x :=
  Rd.mono (fun b hb => ⟨by have := hb.1; omega, by have := hb.2; omega⟩) (Rd.same (fun b h => hb b h.1) h)
/-- the levels -/
theorem specJGroupV {g : Nat} {s : ByteArray} (hs : s.size ≤ 5000) : ∀ v d, d + v = 8 → GrpC s g d (grpL s.data.toList v)
  | 0, d, h => by
    obtain rfl : d = 8 := by omega
    have e : grpL s.data.toList 0 = fun _ p _ _ => .er 3 p := by funext o p b ns; rw [grpL]
    rw [e]
    exact specJGroup8 hs
  | v + 1, d, h => by
    have e : grpL s.data.toList (v + 1) = grpB s.data.toList (valG s.data.toList (grpL s.data.toList v)) := by funext o p b ns; rw [grpL]
    rw [e]
    exact specJGroup hs (by omega) (valG_fw (grpL_fw _ v)) (specJValue hs (specJGroupV hs v (d + 1) (by omega)))
theorem specJTop {g : Nat} {s : ByteArray} (hs : s.size ≤ 5000) : ValC s g 0 (valG s.data.toList (grpL s.data.toList 8)) := specJValue hs (specJGroupV hs 8 0 rfl)
/-- what reading a line leaves, ahead of the answer -/
def ReadJ (g : Nat) (s : ByteArray) (R : List JNode × Nat × Nat) (w2 wx : World) : Prop :=
  ∃ (j c q d b : Nat) (nv : Value), JS wx g s j c q d b nv ∧ ((c ≠ 0 ∧ R = ([], q, c)) ∨ (c = 0 ∧ ∃ ns, R = (ns, 0, 0) ∧ JNs (fun _ => False) g nv wx ns)) ∧ Below g w2 wx
set_option maxHeartbeats 16000000 in
set_option maxRecDepth 100000 in
theorem specJRead (s : ByteArray) (w : World) :
    Calls Tryd.prog 8 #[.string s] w fun e w' => ∃ nv : Value, e = .returned (.tuple #[.agg #[nv], .int .i64 (((jrdP s).2.1 : Nat) : Int), .int .i64 (((jrdP s).2.2 : Nat) : Int)]) ∧ Rd.rd (New w.heap.size w') w' [nv] (jrdP s).1 ∧ Below w.heap.size w w' := by
  have CK := hid (specTextOk s (w.alloc (.cells #[.slice none 0 0] 24)))
  have hln := okText_size (s := s)
  obtain ⟨R, hR⟩ : ∃ R, jrdP s = R := ⟨_, rfl⟩
  obtain ⟨B, hB⟩ : ∃ B, okText s = B := ⟨_, rfl⟩
  have HR := hid (show R = if B = true then (match valG s.data.toList (grpL s.data.toList 8) (skB s.data.toList 0) 0 [] with
    | .er c p => ([], p, c)
    | .ok _ j _ ns => if skB s.data.toList j < s.size then ([], skB s.data.toList j, 2) else (ns, 0, 0)) else ([], 0, 1) by rw [← hR, ← hB]; rfl)
  rw [hB] at CK hln
  rw [hR]
  have HLN := hid hln
  clear hR hB hln
  cases B with
  | false =>
    have HR2 := hid (show R = ([], 0, 1) from HR.out)
    obtain rfl := HR2.out
    go_enter Tryd.func8, Tryd.ntmps8
    go_wp2_with fail
    refine CK.out.mono ?_
    rintro e w1 ⟨rfl, hb1⟩
    have hx1 : w1.heap[w.heap.size]? = some (.cells #[.slice none 0 0] 24 (0, 0)) := (hb1.block w.heap.size (by simp)).trans (heap_alloc_new w _)
    have cx : w1.cell? ⟨w.heap.size, 0, none⟩ = some (.slice none 0 0) := cell_of_row _ _ 0 _ _ _ hx1
    have zx : w1.frozen? ⟨w.heap.size, 0, none⟩ = false := frozen_of_row _ _ 0 _ _ hx1
    have HB1 := hid ((ext_alloc w (.cells #[.slice none 0 0] 24)).trans (hb1.mono (ext_alloc w _).size))
    clear hb1 hx1
    go_wp2
    refine bodyPost_ret (v := .tuple #[.agg #[.slice none 0 0], .int .i64 ((0 : Nat) : Int), .int .i64 ((1 : Nat) : Int)]) (by simp [results, Tryd.results8, go_sem, *]) rfl ?_
    exact ⟨_, rfl, rd_noNode, HB1.out.setCell (p := ⟨w.heap.size, 0, none⟩) (Nat.le_refl _) _⟩
  | true =>
    have hs5 : s.size ≤ 5000 := by have := HLN.out rfl; omega
    have CV := hid (fun g => specJTop (g := g) hs5)
    have CB := hid (fun (w : World) (g p b d cd bd : Nat) (nv : Value) (h : JS w g s p cd bd d b nv) => specJBlanks w h hs5)
    have CF := hid (fun (w : World) (g p b d q : Nat) (nv : Value) (h : JS w g s p 0 0 d b nv) => specJFail 2 q w h)
    obtain ⟨L, hL⟩ : ∃ L, s.data.toList = L := ⟨_, rfl⟩
    have HSZ := hid (show s.size = L.length by rw [← hL, Lib.size_eq])
    have HFW := hid (valG_fw (grpL_fw L 8))
    unfold ValC at CV
    rw [hL] at CV CB HR
    rw [if_pos rfl] at HR
    obtain ⟨p0, hp0⟩ : ∃ p, skB L 0 = p := ⟨_, rfl⟩
    have HP0 := hid (show p0 ≤ L.length by rw [← hp0]; exact (skB_in L (Nat.zero_le _)).2)
    rw [hp0] at HR
    obtain ⟨V, hV⟩ : ∃ V, valG L (grpL L 8) p0 0 [] = V := ⟨_, rfl⟩
    rw [hV] at HR
    have HV := hid hV
    have HPE := hid hp0
    clear hL HLN hp0 hV
    go_enter Tryd.func8, Tryd.ntmps8
    go_wp2_with fail
    refine CK.out.mono ?_
    rintro e w1 ⟨rfl, hb1⟩
    have hx1 : w1.heap[w.heap.size]? = some (.cells #[.slice none 0 0] 24 (0, 0)) := (hb1.block w.heap.size (by simp)).trans (heap_alloc_new w _)
    have HX1 := hid hx1
    have HB1 := hid ((ext_alloc w (.cells #[.slice none 0 0] 24)).trans (hb1.mono (ext_alloc w _).size))
    have HLT := hid (Array.getElem?_eq_some_iff.1 hx1).1
    clear hb1 hx1
    go_wp2_with fail
    obtain ⟨w2, hw2⟩ : ∃ x, w1.alloc (.cells #[.string s, .int .i64 0, .int .i64 0, .int .i64 0, .int .i64 0, .int .i64 0, .slice none 0 0] 50) = x := ⟨_, rfl⟩
    obtain ⟨g, hg⟩ : ∃ x, w1.heap.size = x := ⟨_, rfl⟩
    have HJ2 := hid (show JS w2 g s 0 0 0 0 0 (.slice none 0 0) by rw [← hw2, ← hg]; exact heap_alloc_new w1 _)
    have HB2 := hid (show Below g w1 w2 ∧ g ≤ w2.heap.size by
      rw [← hw2, ← hg]
      exact ⟨ext_alloc w1 _, by simp⟩)
    have HG := hid hg
    have hne : ¬ w.heap.size = g := by have := HLT.out; omega
    have hne2 : ¬ g = w.heap.size := by omega
    try rw [hw2, hg]
    clear hw2 hg
    refine (CB.out _ _ _ _ _ _ _ _ HJ2.out).mono ?_
    rintro e w3 ⟨rfl, hj, hk⟩
    have HJ3 := hid (show JS w3 g s p0 0 0 0 0 (.slice none 0 0) by rw [← HPE.out]; exact hj)
    have HB3 := hid (show Below g w1 w3 from HB2.out.1.trans (hk.below HB2.out.2 (fun b h => by cases h)))
    have HG3 := hid (Nat.le_trans HB2.out.2 hk.size)
    clear hj hk
    go_wp2_with fail
    refine (CV.out g (fun _ => False) w3 p0 0 (.slice none 0 0) [] (fun _ h => h.elim) HJ3.out (by rw [HSZ.out]; exact HP0.out) (by decide) (Nat.le_refl _) ⟨[], ⟨rfl, Or.inl ⟨rfl, rfl⟩⟩, rfl, fun i h => absurd h (by simp)⟩).mono ?_
    rintro e w4 ⟨hv, hk⟩
    rw [HV.out] at hv
    obtain ⟨x, j, c, q, d', b', nv5, rfl, hj4, hro, hvv⟩ := hv.both
    have HJ4 := hid hj4
    have HVV := hid hvv
    have HB4 := hid (show Below g w1 w4 from HB3.out.trans (hk.below HG3.out (fun b h => by cases h)))
    have HG4 := hid (Nat.le_trans HG3.out hk.size)
    obtain ⟨c0, c1, c2, c3, c4, c5, c6, y1, y2, y3, y4, y5, y6, hl⟩ := hj4.cells
    clear hv hk hj4 hro hvv c0 c1 c3 c4 c5 c6 y1 y2 y3 y4 y5 y6 hl
    go_upto_if 21 with fail
    clear c2
    go_cut [] from 6 (fun wx => ReadJ g s R w1 wx)
    case first =>
      rcases HVV.out with ⟨rfl, rfl, rfl, ns5, hr5, hn5⟩ | ⟨hc, hr5, hj5, hx5⟩
      · obtain ⟨j2, hj2⟩ : ∃ y, skB L j = y := ⟨_, rfl⟩
        have HJ2E := hid hj2
        have HN5 := hid hn5
        have HR3 := hid (show R = if j2 < s.size then ([], j2, 2) else (ns5, 0, 0) by rw [HR.out, hr5, ← hj2])
        clear hr5 hn5 hj2
        go_wp2_with fail
        refine (CB.out _ _ _ _ _ _ _ _ HJ4.out).mono ?_
        rintro e w5 ⟨rfl, hj, hk⟩
        have HJ5 := hid (show JS w5 g s j2 0 0 0 b' nv5 by rw [← HJ2E.out]; exact hj)
        have HN6 := hid (HN5.out.kp hk)
        have HB5 := hid (show Below g w1 w5 from HB4.out.trans (hk.below HG4.out (fun b h => by cases h)))
        have HG5 := hid (Nat.le_trans HG4.out hk.size)
        obtain ⟨c0, c1, c2, c3, c4, c5, c6, y1, y2, y3, y4, y5, y6, hl⟩ := HJ5.out.cells
        clear hj hk c0 c2 c3 c4 c5 c6 y1 y2 y3 y4 y5 y6 hl
        by_cases hlt : j2 < s.size
        · have e1 : (j2 : Int) < (s.size : Int) := by omega
          have HR4 := hid (show R = ([], j2, 2) by rw [HR3.out, if_pos hlt])
          have CF1 := hid (CF.out w5 g j2 b' 0 j2 nv5 HJ5.out)
          go_wp2_with fail
          refine CF1.out.mono ?_
          rintro e w6 ⟨rfl, hj, hk⟩
          have HJ6 := hid (show JS w6 g s j2 2 j2 0 b' nv5 from hj)
          have HB6 := hid (show Below g w1 w6 from HB5.out.trans (hk.below HG5.out (fun b h => by cases h)))
          clear hj hk
          go_wp2
          go_meet
          case rel => exact ⟨_, _, _, _, _, _, HJ6.out, Or.inl ⟨by decide, HR4.out⟩, HB6.out⟩
        · have e1 : ¬ (j2 : Int) < (s.size : Int) := by omega
          have HR4 := hid (show R = (ns5, 0, 0) by rw [HR3.out, if_neg hlt])
          go_wp2
          go_meet
          case rel => exact ⟨_, _, _, _, _, _, HJ5.out, Or.inr ⟨rfl, ns5, HR4.out, HN6.out⟩, HB5.out⟩
      · have hz1 : ((c : Int) == 0) = false := by rw [beq_eq_false_iff_ne]; omega
        have hz2 : ¬ (c : Int) = 0 := by omega
        have HR3 := hid (show R = ([], q, c) by rw [HR.out, hr5])
        have HC := hid hc
        clear hr5 hc hj5 hx5
        go_wp2
        go_meet
        case rel => exact ⟨_, _, _, _, _, _, HJ4.out, Or.inl ⟨HC.out, HR3.out⟩, HB4.out⟩
    case rest =>
    obtain ⟨jj, c, q, d, b, nv, hj, hcc, hb⟩ := hcut
    have hgl : g < wc.heap.size := hj.cells.2.2.2.2.2.2.2.2.2.2.2.2.2
    have hxc : wc.heap[w.heap.size]? = some (.cells #[.slice none 0 0] 24 (0, 0)) := (hb.block w.heap.size (by have := HLT.out; have := HG.out; omega)).trans HX1.out
    have cx : wc.cell? ⟨w.heap.size, 0, none⟩ = some (.slice none 0 0) := cell_of_row _ _ 0 _ _ _ hxc
    have zx : wc.frozen? ⟨w.heap.size, 0, none⟩ = false := frozen_of_row _ _ 0 _ _ hxc
    have HBC := hid (show Below w.heap.size w wc from HB1.out.trans (hb.mono (by have := HLT.out; have := HG.out; omega)))
    have HJ := hid hj
    obtain ⟨c0, c1, c2, c3, c4, c5, c6, y1, y2, y3, y4, y5, y6, hl⟩ := hj.cells
    clear hj hb hxc
    rcases hcc with ⟨hc, hr⟩ | ⟨rfl, ns, hr, hn⟩
    · have hz1 : ((c : Int) == 0) = false := by rw [beq_eq_false_iff_ne]; omega
      have hz2 : ¬ (c : Int) = 0 := by omega
      have hz3 : ((c : Int) != 0) = true := by rw [bne_iff_ne]; omega
      subst hr
      clear hc
      go_wp2_with fail
      go_region
      go_wp2
      refine bodyPost_ret (v := .tuple #[.agg #[.slice none 0 0], .int .i64 ((q : Nat) : Int), .int .i64 ((c : Nat) : Int)]) (by simp [results, Tryd.results8, go_sem, *]) rfl ?_
      exact ⟨_, rfl, rd_noNode, (HBC.out.drew).setCell (p := ⟨w.heap.size, 0, none⟩) (Nat.le_refl _) _⟩
    · have hrd := hn.rd
      obtain ⟨na, nc, rfl, _⟩ := rdJNodes hrd
      have HN := hid hrd
      subst hr
      have c2' : wc.cell? ⟨g, 2, none⟩ = some (.int .i64 0) := c2
      clear hn c2 hrd
      go_wp2
      refine bodyPost_ret (v := .tuple #[.agg #[.slice na ns.length nc], .int .i64 ((0 : Nat) : Int), .int .i64 ((0 : Nat) : Int)]) (by simp [results, Tryd.results8, go_sem, *]) rfl ?_
      exact ⟨_, rfl, rd_out HN.out (fun b hb => heap_setCell_other _ _ _ _ (fun e => by have e1 : b = w.heap.size := e; have := HLT.out; have := HG.out; omega)) (by simp [World.setCell]) (by have := HLT.out; have := HG.out; omega), HBC.out.setCell (p := ⟨w.heap.size, 0, none⟩) (Nat.le_refl _) _⟩
set_option maxHeartbeats 16000000 in
set_option maxRecDepth 100000 in
theorem specJNumberT (s : ByteArray) (w : World) :
    Calls Tryd.prog 46 #[.string s] w fun e w' => e = .returned (.bool (numB s)) ∧ Below w.heap.size w w' := by
  have CJ := hid (specJRead s w)
  obtain ⟨B, hB⟩ : ∃ B, numB s = B := ⟨_, rfl⟩
  obtain ⟨R, hR⟩ : ∃ R, jrdP s = R := ⟨_, rfl⟩
  obtain ⟨ns, at_, code⟩ := R
  have HI := hid (show (∃ n, (ns, at_, code) = ([n], 0, 0) ∧ n.kind = 4 ∧ n.text = s) ↔ B = true by rw [← hB, ← hR]; exact jrd_num s)
  have HAT := hid (show code = 0 → at_ = 0 by
    intro hc
    unfold jrdP at hR
    split at hR
    · split at hR
      · injection hR with h1 h2
        injection h2 with h3 h4
        rename_i c p hv
        exfalso
        have := valG_er hv
        omega
      · split at hR
        · injection hR with h1 h2; injection h2 with h3 h4; omega
        · injection hR with h1 h2; injection h2 with h3 h4; exact h3.symm
    · injection hR with h1 h2; injection h2 with h3 h4; omega)
  rw [hR] at CJ
  rw [hB]
  clear hB hR
  go_enter Tryd.func46, Tryd.ntmps46
  go_wp2_with fail
  refine CJ.out.mono ?_
  rintro e w1 ⟨nv, rfl, hrd, hb1⟩
  try dsimp only at hrd
  obtain ⟨na, nc, rfl, hcap1, hcap2, hcell⟩ := rdJNodes hrd
  have HB1 := hid hb1
  have HB2 := hid (show Below w.heap.size w (w1.alloc (.cells #[.slice na ns.length nc] 24)) from ext_trans hb1 (ext_alloc w1 _))
  by_cases hc : code = 0
  rotate_left
  · have e1 : ((code : Int) == 0) = false := by rw [beq_eq_false_iff_ne]; omega
    have e2 : ¬ (code : Int) = 0 := by omega
    have HBF := hid (show B = false by
      rw [Bool.eq_false_iff]
      intro h
      obtain ⟨n, h1, h2, h3⟩ := HI.out.2 h
      injection h1 with h4 h5
      injection h5 with h6 h7
      exact hc h7)
    clear hrd hb1 hcell hc
    go_wp2
    go_ret
    exact ⟨by rw [HBF.out]; rfl, HB2.out⟩
  subst hc
  by_cases hn : ns.length = 1
  rotate_left
  · have e1 : ((ns.length : Int) == 1) = false := by rw [beq_eq_false_iff_ne]; omega
    have e2 : ¬ (ns.length : Int) = 1 := by omega
    have HBF := hid (show B = false by
      rw [Bool.eq_false_iff]
      intro h
      obtain ⟨n, h1, h2, h3⟩ := HI.out.2 h
      injection h1 with h4 h5
      rw [h4] at hn
      exact hn rfl)
    clear hrd hb1 hcell hn
    go_wp2
    go_ret
    exact ⟨by rw [HBF.out]; rfl, HB2.out⟩
  obtain ⟨n, rfl⟩ := List.length_eq_one_iff.1 hn
  obtain ⟨b, off, rfl, hb, hrow⟩ := hcell (by simp)
  obtain ⟨us, uk, ⟨k0, k1, _, _⟩, _, _⟩ := hrow 0 (by simp)
  rw [show [n].length = 1 from rfl] at HB2 ⊢
  have hoff : off + 0 * 4 = off := by omega
  rw [hoff] at k0 k1
  simp only [List.getElem_cons_zero] at k0 k1
  have z0 := ((ext_alloc w1 (.cells #[.slice (some ⟨b, off, none⟩) 1 nc] 24)).cell (p := ⟨b, off, none⟩) hb.2).trans k0
  have z1 := ((ext_alloc w1 (.cells #[.slice (some ⟨b, off, none⟩) 1 nc] 24)).cell (p := ⟨b, off + 1, none⟩) hb.2).trans k1
  have HBI := hid (show B = (decide (n.kind = 4) && decide (n.text = s)) by
    rw [Bool.eq_iff_iff, ← HI.out, Bool.and_eq_true, decide_eq_true_iff, decide_eq_true_iff]
    constructor
    · rintro ⟨n', h1, h2, h3⟩
      injection h1 with h4 h5
      injection h4 with h6
      subst h6
      exact ⟨h2, h3⟩
    · rintro ⟨h1, h2⟩
      exact ⟨n, by rw [HAT.out rfl], h1, h2⟩)
  obtain ⟨k, hk⟩ : ∃ k, n.kind = k := ⟨_, rfl⟩
  obtain ⟨tx, htx⟩ : ∃ k, n.text = k := ⟨_, rfl⟩
  rw [hk] at z0 HBI
  rw [htx] at z1 HBI
  clear hrd hb1 hcell hn hrow k0 k1 hoff HI HAT hk htx
  by_cases h4 : k = 4
  · subst h4
    by_cases ht : tx = s
    · subst ht
      have HBF := hid (show B = true by rw [HBI.out]; simp)
      have e1 : (tx.toList == tx.toList) = true := by simp
      go_wp2
      go_ret
      exact ⟨by rw [HBF.out]; first | rfl | (simp [go_sem]; done), HB2.out⟩
    · have HBF := hid (show B = false by rw [HBI.out, decide_eq_false ht]; simp)
      have e1 : (tx.toList == s.toList) = false := by
        rw [beq_eq_false_iff_ne]
        intro e
        rw [Lib.toList_data, Lib.toList_data] at e
        exact ht (by rw [← mkB_of tx, ← mkB_of s, e])
      go_wp2
      go_ret
      exact ⟨by rw [HBF.out]; first | rfl | (simp [go_sem, ht]; done), HB2.out⟩
  · have e1 : (k == 4) = false := by rw [beq_eq_false_iff_ne]; exact h4
    have HBF := hid (show B = false by rw [HBI.out, decide_eq_false h4]; rfl)
    go_wp2
    go_ret
    exact ⟨by rw [HBF.out]; rfl, HB2.out⟩
end Go.Proofs.YtlfkfofeenakhaaDoor
