/-
  What is proved here: which configurations are sound, in impl and in the reference. The condition 'Tabs' says that the library's tables for UTF-8 lie in the world.
-/
import Derived.Test.YtkmkencodcfloaaDoorRxRdS
import Derived.Test.YtkmkencodcfloaaDoorLen
namespace Go.Proofs.YtkmkencodcfloaaDoor
open Go.RowKit
set_option linter.unusedVariables false
set_option linter.unusedSimpArgs false

noncomputable def confOk (c : Conf) : Bool := inB 1 c.tag 4 && (okText c.fs && (okText c.ofs && (okText c.ors && (inB 0 (lenOf c.rs) 1 && ((!decide (1 < lenOf c.fs) || decide ((rdP 200 c.fs).2.2 = 0)) && (!c.head || decide (c.tag = 2) || decide (c.tag = 3)))))))
theorem rdConfC {S : Nat → Prop} {w : World} {cs : List Value} {x : Conf} (h : Rd.rd S w cs x) : cs = [.int .i64 x.tag, .string x.fs, .string x.rs, .string x.ofs, .string x.ors, .bool x.head] := by
  obtain ⟨c1, r1, rfl, ⟨rfl, h1⟩, c2, r2, rfl, ⟨rfl, h2⟩, c3, r3, rfl, ⟨rfl, h3⟩, c4, r4, rfl, ⟨rfl, h4⟩, c5, c6, rfl, ⟨rfl, h5⟩, h6⟩ := h
  obtain rfl : c6 = [.bool x.head] := h6
  rfl
set_option maxHeartbeats 16000000 in
set_option maxRecDepth 100000 in
theorem implIsConf {cs : Array Value} {x : Conf} (w : World) (h : Rd.rd (Old w) w cs.toList x) (hT : Tabs w) :
    Calls Tryd.prog 18 #[.agg cs] w fun e w' => e = .returned (.bool (confOk x)) ∧ Below w.heap.size w w' := by
  obtain rfl := arr_of_list (rdConfC h)
  obtain ⟨tag, fs, rs, ofs, ors, head⟩ := x
  clear h
  unfold confOk
  dsimp only
  have hW0 := heap_alloc_new w (.cells #[.int .i64 tag, .string fs, .string rs, .string ofs, .string ors, .bool head] 26)
  have HBX := hid (fun (w' : World) (hb : Below (w.heap.size + 1) (w.alloc (.cells #[.int .i64 tag, .string fs, .string rs, .string ofs, .string ors, .bool head] 26)) w') => (blk6c ((hb.block w.heap.size (Nat.lt_succ_self _)).trans hW0)).1)
  have HBW := hid (fun (w' : World) (hb : Below (w.heap.size + 1) (w.alloc (.cells #[.int .i64 tag, .string fs, .string rs, .string ofs, .string ors, .bool head] 26)) w') => (ext_alloc w (.cells #[.int .i64 tag, .string fs, .string rs, .string ofs, .string ors, .bool head] 26)).trans (hb.mono (Nat.le_succ _)))
  have HSZ := hid (fun (w' : World) (hb : Below (w.heap.size + 1) (w.alloc (.cells #[.int .i64 tag, .string fs, .string rs, .string ofs, .string ors, .bool head] 26)) w') => (show w.heap.size + 1 ≤ w'.heap.size from by have := hb.size; simp at this; exact this))
  clear hW0
  have hb0 := Below.refl (w.heap.size + 1) (w.alloc (.cells #[.int .i64 tag, .string fs, .string rs, .string ofs, .string ors, .bool head] 26))
  obtain ⟨c0, c1, c2, c3, c4, c5⟩ := HBX.out _ hb0
  go_enter Tryd.func18, Tryd.ntmps18
  go_wp2_with fail
  refine (within_any tag 1 4 _).mono ?_
  rintro e wz ⟨rfl, rfl⟩
  obtain ⟨qt, ht⟩ : ∃ b, inB 1 tag 4 = b := ⟨_, rfl⟩
  rw [ht]
  have Ht := hid ht
  clear ht
  cases qt with
  | false =>
    go_wp2
    go_ret
    exact ⟨by simp [Ht.out], HBW.out _ hb0⟩
  | true =>
    go_wp2_with fail
    refine (implTextOk fs _ (tabs_below hT (HBW.out _ hb0))).mono ?_
    rintro e wfs ⟨rfl, hb⟩
    have bfs := hb0.trans (hb.mono (HSZ.out _ hb0))
    clear hb c0 c1 c2 c3 c4 c5
    obtain ⟨c0, c1, c2, c3, c4, c5⟩ := HBX.out _ bfs
    obtain ⟨qfs, hfs⟩ : ∃ b, okText fs = b := ⟨_, rfl⟩
    rw [hfs]
    have Hfs := hid hfs
    clear hfs
    cases qfs with
    | false =>
      go_wp2
      go_ret
      exact ⟨by simp [Hfs.out], HBW.out _ bfs⟩
    | true =>
      go_wp2_with fail
      refine (implTextOk ofs _ (tabs_below hT (HBW.out _ bfs))).mono ?_
      rintro e wofs ⟨rfl, hb⟩
      have bofs := bfs.trans (hb.mono (HSZ.out _ bfs))
      clear hb c0 c1 c2 c3 c4 c5
      obtain ⟨c0, c1, c2, c3, c4, c5⟩ := HBX.out _ bofs
      obtain ⟨qofs, hofs⟩ : ∃ b, okText ofs = b := ⟨_, rfl⟩
      rw [hofs]
      have Hofs := hid hofs
      clear hofs
      cases qofs with
      | false =>
        go_wp2
        go_ret
        exact ⟨by simp [Hofs.out], HBW.out _ bofs⟩
      | true =>
        go_wp2_with fail
        refine (implTextOk ors _ (tabs_below hT (HBW.out _ bofs))).mono ?_
        rintro e wors ⟨rfl, hb⟩
        have bors := bofs.trans (hb.mono (HSZ.out _ bofs))
        clear hb c0 c1 c2 c3 c4 c5
        obtain ⟨c0, c1, c2, c3, c4, c5⟩ := HBX.out _ bors
        obtain ⟨qors, hors⟩ : ∃ b, okText ors = b := ⟨_, rfl⟩
        rw [hors]
        have Hors := hid hors
        clear hors
        cases qors with
        | false =>
          go_wp2
          go_ret
          exact ⟨by simp [Hors.out], HBW.out _ bors⟩
        | true =>
          go_wp2_with fail
          refine (implLength rs _ (tabs_below hT (HBW.out _ bors))).mono ?_
          rintro e wrs ⟨rfl, hb⟩
          have brs := bors.trans (hb.mono (HSZ.out _ bors))
          clear hb c0 c1 c2 c3 c4 c5
          obtain ⟨c0, c1, c2, c3, c4, c5⟩ := HBX.out _ brs
          go_wp2_with fail
          refine (within_any (lenOf rs) 0 1 _).mono ?_
          rintro e wz ⟨rfl, rfl⟩
          obtain ⟨qr, hr⟩ : ∃ b, inB 0 (lenOf rs) 1 = b := ⟨_, rfl⟩
          rw [hr]
          have Hr := hid hr
          clear hr
          cases qr with
          | false =>
            go_wp2
            go_ret
            exact ⟨by simp [Hr.out], HBW.out _ brs⟩
          | true =>
            go_wp2_with fail
            refine (implLength fs _ (tabs_below hT (HBW.out _ brs))).mono ?_
            rintro e wl ⟨rfl, hb⟩
            have bl := brs.trans (hb.mono (HSZ.out _ brs))
            clear hb c0 c1 c2 c3 c4 c5
            obtain ⟨c0, c1, c2, c3, c4, c5⟩ := HBX.out _ bl
            obtain ⟨n9, hn9⟩ : ∃ z, lenOf fs = z := ⟨_, rfl⟩
            have HN9 := hid hn9
            rw [hn9]
            clear hn9
            by_cases h1 : 1 < n9
            · go_wp2_with fail
              refine (implRxRead fs _ (tabs_below hT (HBW.out _ bl))).mono ?_
              rintro e w9 ⟨na, n, nc, rfl, hb⟩
              have b9 := bl.trans (hb.mono (HSZ.out _ bl))
              clear hb c0 c1 c2 c3 c4 c5
              have hs9 := HSZ.out _ b9
              have hne9 : ¬ w9.heap.size = w.heap.size := by omega
              have hne8 : ¬ w.heap.size = w9.heap.size := by omega
              have hlt9 : w.heap.size < w9.heap.size := by omega
              obtain ⟨c0, c1, c2, c3, c4, c5⟩ := HBX.out _ b9
              obtain ⟨c, hc⟩ : ∃ c, (rdP 200 fs).2.2 = c := ⟨_, rfl⟩
              rw [hc]
              have HC := hid hc
              clear hc
              have b10 := b9.alloc hs9 (.cells #[.slice na n nc] 46)
              by_cases hc0 : c = 0
              · subst hc0
                have hhd : True := trivial
                cases head with
                | false =>
                  go_wp2
                  go_ret
                  exact ⟨by simp [Ht.out, Hfs.out, Hofs.out, Hors.out, Hr.out, HN9.out, h1, HC.out], HBW.out _ b10⟩
                | true =>
                  by_cases t2 : tag = 2
                  · have e2 : (tag == 2) = true := by simp [t2]
                    have T2 := hid t2
                    clear t2
                    go_wp2
                    go_ret
                    exact ⟨by simp [Ht.out, Hfs.out, Hofs.out, Hors.out, Hr.out, HN9.out, h1, HC.out, T2.out, show inB 1 2 4 = true by decide], HBW.out _ b10⟩
                  · have e2 : (tag == 2) = false := by simpa using t2
                    by_cases t3 : tag = 3
                    · have e3 : (tag == 3) = true := by simp [t3]
                      have T3 := hid t3
                      clear t3
                      go_wp2
                      go_ret
                      exact ⟨by simp [Ht.out, Hfs.out, Hofs.out, Hors.out, Hr.out, HN9.out, h1, HC.out, T3.out, show inB 1 3 4 = true by decide], HBW.out _ b10⟩
                    · have e3 : (tag == 3) = false := by simpa using t3
                      have T2 := hid t2
                      have T3 := hid t3
                      go_wp2
                      go_ret
                      exact ⟨by simp [Ht.out, Hfs.out, Hofs.out, Hors.out, Hr.out, HN9.out, h1, HC.out, T2.out, T3.out], HBW.out _ b10⟩
              · have z1 : ((c : Int) == 0) = false := by rw [beq_eq_false_iff_ne]; omega
                have z2 : ¬ (c : Int) = 0 := by omega
                have z3 : ((c : Int) != 0) = true := by rw [bne_iff_ne]; omega
                go_wp2
                go_ret
                exact ⟨by simp [HN9.out, h1, HC.out, hc0], HBW.out _ b10⟩
            · have hn1 : ¬ 1 < n9 := h1
              have hhd : True := trivial
              cases head with
              | false =>
                go_wp2
                go_ret
                exact ⟨by simp [Ht.out, Hfs.out, Hofs.out, Hors.out, Hr.out, HN9.out, h1], HBW.out _ bl⟩
              | true =>
                by_cases t2 : tag = 2
                · have e2 : (tag == 2) = true := by simp [t2]
                  have T2 := hid t2
                  clear t2
                  go_wp2
                  go_ret
                  exact ⟨by simp [Ht.out, Hfs.out, Hofs.out, Hors.out, Hr.out, HN9.out, h1, T2.out, show inB 1 2 4 = true by decide], HBW.out _ bl⟩
                · have e2 : (tag == 2) = false := by simpa using t2
                  by_cases t3 : tag = 3
                  · have e3 : (tag == 3) = true := by simp [t3]
                    have T3 := hid t3
                    clear t3
                    go_wp2
                    go_ret
                    exact ⟨by simp [Ht.out, Hfs.out, Hofs.out, Hors.out, Hr.out, HN9.out, h1, T3.out, show inB 1 3 4 = true by decide], HBW.out _ bl⟩
                  · have e3 : (tag == 3) = false := by simpa using t3
                    have T2 := hid t2
                    have T3 := hid t3
                    go_wp2
                    go_ret
                    exact ⟨by simp [Ht.out, Hfs.out, Hofs.out, Hors.out, Hr.out, HN9.out, h1, T2.out, T3.out], HBW.out _ bl⟩
set_option maxHeartbeats 16000000 in
set_option maxRecDepth 100000 in
theorem specConfOk {cs : Array Value} {x : Conf} (w : World) (h : Rd.rd (Old w) w cs.toList x) :
    Calls Tryd.prog 6 #[.agg cs] w fun e w' => e = .returned (.bool (confOk x)) ∧ Below w.heap.size w w' := by
  obtain rfl := arr_of_list (rdConfC h)
  obtain ⟨tag, fs, rs, ofs, ors, head⟩ := x
  clear h
  unfold confOk
  dsimp only
  have hW0 := heap_alloc_new w (.cells #[.int .i64 tag, .string fs, .string rs, .string ofs, .string ors, .bool head] 26)
  have HBX := hid (fun (w' : World) (hb : Below (w.heap.size + 1) (w.alloc (.cells #[.int .i64 tag, .string fs, .string rs, .string ofs, .string ors, .bool head] 26)) w') => (blk6c ((hb.block w.heap.size (Nat.lt_succ_self _)).trans hW0)).1)
  have HBW := hid (fun (w' : World) (hb : Below (w.heap.size + 1) (w.alloc (.cells #[.int .i64 tag, .string fs, .string rs, .string ofs, .string ors, .bool head] 26)) w') => (ext_alloc w (.cells #[.int .i64 tag, .string fs, .string rs, .string ofs, .string ors, .bool head] 26)).trans (hb.mono (Nat.le_succ _)))
  have HSZ := hid (fun (w' : World) (hb : Below (w.heap.size + 1) (w.alloc (.cells #[.int .i64 tag, .string fs, .string rs, .string ofs, .string ors, .bool head] 26)) w') => (show w.heap.size + 1 ≤ w'.heap.size from by have := hb.size; simp at this; exact this))
  clear hW0
  have hb0 := Below.refl (w.heap.size + 1) (w.alloc (.cells #[.int .i64 tag, .string fs, .string rs, .string ofs, .string ors, .bool head] 26))
  obtain ⟨c0, c1, c2, c3, c4, c5⟩ := HBX.out _ hb0
  go_enter Tryd.func6, Tryd.ntmps6
  go_wp2_with fail
  refine (between_any tag 1 4 _).mono ?_
  rintro e wz ⟨rfl, rfl⟩
  obtain ⟨qt, ht⟩ : ∃ b, inB 1 tag 4 = b := ⟨_, rfl⟩
  rw [ht]
  have Ht := hid ht
  clear ht
  cases qt with
  | false =>
    go_wp2
    go_ret
    exact ⟨by simp [Ht.out], HBW.out _ hb0⟩
  | true =>
    go_wp2_with fail
    refine (specTextOk fs _).mono ?_
    rintro e wfs ⟨rfl, hb⟩
    have bfs := hb0.trans (hb.mono (HSZ.out _ hb0))
    clear hb c0 c1 c2 c3 c4 c5
    obtain ⟨c0, c1, c2, c3, c4, c5⟩ := HBX.out _ bfs
    obtain ⟨qfs, hfs⟩ : ∃ b, okText fs = b := ⟨_, rfl⟩
    rw [hfs]
    have Hfs := hid hfs
    clear hfs
    cases qfs with
    | false =>
      go_wp2
      go_ret
      exact ⟨by simp [Hfs.out], HBW.out _ bfs⟩
    | true =>
      go_wp2_with fail
      refine (specTextOk ofs _).mono ?_
      rintro e wofs ⟨rfl, hb⟩
      have bofs := bfs.trans (hb.mono (HSZ.out _ bfs))
      clear hb c0 c1 c2 c3 c4 c5
      obtain ⟨c0, c1, c2, c3, c4, c5⟩ := HBX.out _ bofs
      obtain ⟨qofs, hofs⟩ : ∃ b, okText ofs = b := ⟨_, rfl⟩
      rw [hofs]
      have Hofs := hid hofs
      clear hofs
      cases qofs with
      | false =>
        go_wp2
        go_ret
        exact ⟨by simp [Hofs.out], HBW.out _ bofs⟩
      | true =>
        go_wp2_with fail
        refine (specTextOk ors _).mono ?_
        rintro e wors ⟨rfl, hb⟩
        have bors := bofs.trans (hb.mono (HSZ.out _ bofs))
        clear hb c0 c1 c2 c3 c4 c5
        obtain ⟨c0, c1, c2, c3, c4, c5⟩ := HBX.out _ bors
        obtain ⟨qors, hors⟩ : ∃ b, okText ors = b := ⟨_, rfl⟩
        rw [hors]
        have Hors := hid hors
        clear hors
        cases qors with
        | false =>
          go_wp2
          go_ret
          exact ⟨by simp [Hors.out], HBW.out _ bors⟩
        | true =>
          go_wp2_with fail
          refine (specLength rs _).mono ?_
          rintro e wrs ⟨rfl, hb⟩
          have brs := bors.trans (hb.mono (HSZ.out _ bors))
          clear hb c0 c1 c2 c3 c4 c5
          obtain ⟨c0, c1, c2, c3, c4, c5⟩ := HBX.out _ brs
          go_wp2_with fail
          refine (between_any (lenOf rs) 0 1 _).mono ?_
          rintro e wz ⟨rfl, rfl⟩
          obtain ⟨qr, hr⟩ : ∃ b, inB 0 (lenOf rs) 1 = b := ⟨_, rfl⟩
          rw [hr]
          have Hr := hid hr
          clear hr
          cases qr with
          | false =>
            go_wp2
            go_ret
            exact ⟨by simp [Hr.out], HBW.out _ brs⟩
          | true =>
            go_wp2_with fail
            refine (specLength fs _).mono ?_
            rintro e wl ⟨rfl, hb⟩
            have bl := brs.trans (hb.mono (HSZ.out _ brs))
            clear hb c0 c1 c2 c3 c4 c5
            obtain ⟨c0, c1, c2, c3, c4, c5⟩ := HBX.out _ bl
            obtain ⟨n9, hn9⟩ : ∃ z, lenOf fs = z := ⟨_, rfl⟩
            have HN9 := hid hn9
            rw [hn9]
            clear hn9
            by_cases h1 : 1 < n9
            · go_wp2_with fail
              refine (specRxRead fs _).mono ?_
              rintro e w9 ⟨na, n, nc, rfl, hb⟩
              have b9 := bl.trans (hb.mono (HSZ.out _ bl))
              clear hb c0 c1 c2 c3 c4 c5
              have hs9 := HSZ.out _ b9
              have hne9 : ¬ w9.heap.size = w.heap.size := by omega
              have hne8 : ¬ w.heap.size = w9.heap.size := by omega
              have hlt9 : w.heap.size < w9.heap.size := by omega
              obtain ⟨c0, c1, c2, c3, c4, c5⟩ := HBX.out _ b9
              obtain ⟨c, hc⟩ : ∃ c, (rdP 200 fs).2.2 = c := ⟨_, rfl⟩
              rw [hc]
              have HC := hid hc
              clear hc
              have b10 := b9.alloc hs9 (.cells #[.slice na n nc] 46)
              by_cases hc0 : c = 0
              · subst hc0
                have hhd : True := trivial
                cases head with
                | false =>
                  go_wp2
                  go_ret
                  exact ⟨by simp [Ht.out, Hfs.out, Hofs.out, Hors.out, Hr.out, HN9.out, h1, HC.out], HBW.out _ b10⟩
                | true =>
                  by_cases t2 : tag = 2
                  · have e2 : (tag == 2) = true := by simp [t2]
                    have T2 := hid t2
                    clear t2
                    go_wp2
                    go_ret
                    exact ⟨by simp [Ht.out, Hfs.out, Hofs.out, Hors.out, Hr.out, HN9.out, h1, HC.out, T2.out, show inB 1 2 4 = true by decide], HBW.out _ b10⟩
                  · have e2 : (tag == 2) = false := by simpa using t2
                    by_cases t3 : tag = 3
                    · have e3 : (tag == 3) = true := by simp [t3]
                      have T3 := hid t3
                      clear t3
                      go_wp2
                      go_ret
                      exact ⟨by simp [Ht.out, Hfs.out, Hofs.out, Hors.out, Hr.out, HN9.out, h1, HC.out, T3.out, show inB 1 3 4 = true by decide], HBW.out _ b10⟩
                    · have e3 : (tag == 3) = false := by simpa using t3
                      have T2 := hid t2
                      have T3 := hid t3
                      go_wp2
                      go_ret
                      exact ⟨by simp [Ht.out, Hfs.out, Hofs.out, Hors.out, Hr.out, HN9.out, h1, HC.out, T2.out, T3.out], HBW.out _ b10⟩
              · have z1 : ((c : Int) == 0) = false := by rw [beq_eq_false_iff_ne]; omega
                have z2 : ¬ (c : Int) = 0 := by omega
                have z3 : ((c : Int) != 0) = true := by rw [bne_iff_ne]; omega
                go_wp2
                go_ret
                exact ⟨by simp [HN9.out, h1, HC.out, hc0], HBW.out _ b10⟩
            · have hn1 : ¬ 1 < n9 := h1
              have hhd : True := trivial
              cases head with
              | false =>
                go_wp2
                go_ret
                exact ⟨by simp [Ht.out, Hfs.out, Hofs.out, Hors.out, Hr.out, HN9.out, h1], HBW.out _ bl⟩
              | true =>
                by_cases t2 : tag = 2
                · have e2 : (tag == 2) = true := by simp [t2]
                  have T2 := hid t2
                  clear t2
                  go_wp2
                  go_ret
                  exact ⟨by simp [Ht.out, Hfs.out, Hofs.out, Hors.out, Hr.out, HN9.out, h1, T2.out, show inB 1 2 4 = true by decide], HBW.out _ bl⟩
                · have e2 : (tag == 2) = false := by simpa using t2
                  by_cases t3 : tag = 3
                  · have e3 : (tag == 3) = true := by simp [t3]
                    have T3 := hid t3
                    clear t3
                    go_wp2
                    go_ret
                    exact ⟨by simp [Ht.out, Hfs.out, Hofs.out, Hors.out, Hr.out, HN9.out, h1, T3.out, show inB 1 3 4 = true by decide], HBW.out _ bl⟩
                  · have e3 : (tag == 3) = false := by simpa using t3
                    have T2 := hid t2
                    have T3 := hid t3
                    go_wp2
                    go_ret
                    exact ⟨by simp [Ht.out, Hfs.out, Hofs.out, Hors.out, Hr.out, HN9.out, h1, T2.out, T3.out], HBW.out _ bl⟩
set_option maxHeartbeats 16000000 in
theorem implConfOk {cs : Array Value} {x : Conf} (w : World) (h : Rd.rd (Old w) w cs.toList x) (hT : Tabs w) :
    Calls Tryd.prog 8 #[.agg cs] w fun e w' => e = .returned (.bool (confOk x)) ∧ Below w.heap.size w w' := by
  obtain rfl := arr_of_list (rdConfC h)
  have CC := hid (implIsConf (w.alloc (.cells #[.int .i64 x.tag, .string x.fs, .string x.rs, .string x.ofs, .string x.ors, .bool x.head] 26)) (Rd.later (ext_alloc w _) h) (tabs_below hT (ext_alloc w _)))
  clear h
  go_enter Tryd.func8, Tryd.ntmps8
  go_wp2_with fail
  refine CC.out.mono ?_
  rintro e w1 ⟨rfl, hb⟩
  go_wp2
  go_ret
  exact ⟨rfl, ext_trans (ext_alloc w _) hb⟩
end Go.Proofs.YtkmkencodcfloaaDoor
