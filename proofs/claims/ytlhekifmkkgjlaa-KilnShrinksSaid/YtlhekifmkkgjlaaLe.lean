/- The law KilnMoulds, walked. -/
import Derived.Test.YtlhekifmkkgjlaaLd
set_option linter.unusedSimpArgs false
set_option linter.unusedVariables false
set_option linter.unnecessarySimpa false
namespace Go.Proofs.Ytlhekifmkkgjlaa
open Go Go.RowKit Go.Shelf
set_option maxHeartbeats 4000000
/-- a call behind which all is as before: the next world x, from y, box numbers told -/
theorem moulds_clay (side wl wh dl dh fl fh : Int) (w : World) (hc : clB dl dh fl fh = false) : Calls Try.prog 5 #[.int .i64 side, .agg #[.int .i64 wl, .int .i64 wh], .agg #[.int .i64 dl, .int .i64 dh, .int .i64 fl, .int .i64 fh]] w fun e w' => e = .returned (.bool true) ∧ Below w.heap.size w w' := by
  have HK := hide known_any
  have B0 := hide (((Below.refl _ w).alloc (Nat.le_refl _) (.cells #[.int .i64 wl, .int .i64 wh] 25)).alloc (by simp) (.cells #[.int .i64 dl, .int .i64 dh, .int .i64 fl, .int .i64 fh] 40))
  have S0 := hide ((Blk.new w 25 #[.int .i64 wl, .int .i64 wh]).alloc (.cells #[.int .i64 dl, .int .i64 dh, .int .i64 fl, .int .i64 fh] 40))
  have c0 := Blk.new (w.alloc (.cells #[.int .i64 wl, .int .i64 wh] 25)) 40 #[.int .i64 dl, .int .i64 dh, .int .i64 fl, .int .i64 fh]
  simp only [World.size_alloc] at c0
  have C0 := hide c0
  clear c0
  have HRC := hide (refClay_any dl dh fl fh)
  have H1 := hide (fun W => Shrunk_err1 side dl dh fl fh W hc)
  have H2 := hide (fun W => Moulds_err1 wl wh dl dh fl fh W hc)
  rw [hc] at HRC
  clear hc
  go_enter Try.func5, Try.ntmps5
  go_wp2_with fail
  refine (H1.out _).mono ?_
  rintro e w1 ⟨rfl, hb1⟩
  have B1 := hide (B0.out.trans (hb1.mono B0.out.size))
  have S1 := hide ((S0.out.ext hb1).alloc (.cells #[.int .i64 0, .int .i64 0] 25))
  have C1 := hide ((C0.out.ext hb1).alloc (.cells #[.int .i64 0, .int .i64 0] 25))
  have T1 := hide (Blk.new w1 25 #[.int .i64 0, .int .i64 0])
  have B2 := hide (B1.out.alloc B1.out.size (.cells #[.int .i64 0, .int .i64 0] 25))
  obtain ⟨g1, g2, g3, -, -⟩ := blk2 (S0.out.ext hb1)
  obtain ⟨g4, g5, g6, g7, g8⟩ := blk4 (C0.out.ext hb1)
  clear hb1
  go_wp2_with fail
  refine (H2.out _).mono ?_
  rintro e w3 ⟨rfl, hb3⟩
  have B3 := hide (B2.out.trans (hb3.mono B2.out.size))
  have B4 := hide (B3.out.alloc B3.out.size (.cells #[.int .i64 0, .int .i64 0] 25))
  have T3 := hide ((T1.out.ext hb3).alloc (.cells #[.int .i64 0, .int .i64 0] 25))
  have U3 := hide (Blk.new w3 25 #[.int .i64 0, .int .i64 0])
  clear g1 g2 g3 g4 g5 g6 g7 g8
  obtain ⟨g4, g5, g6, g7, g8⟩ := blk4 (C1.out.ext hb3)
  clear hb3
  go_wp2_with fail
  refine (HRC.out _).mono ?_
  rintro e w5 ⟨rfl, hb5⟩
  have B5 := hide (B4.out.trans (hb5.mono B4.out.size))
  clear g4 g5 g6 g7 g8
  obtain ⟨g1, g2, g3, -, -⟩ := blk2 (T3.out.ext hb5)
  obtain ⟨g4, g5, g6, -, -⟩ := blk2 (U3.out.ext hb5)
  clear hb5
  go_wp2_with fail
  refine (HK.out _).mono ?_
  rintro e w6 ⟨rfl, hb6⟩
  go_wp2_with fail
  go_ret
  exact ⟨rfl, B5.out.trans (hb6.mono B5.out.size)⟩
theorem moulds_bad (side wl wh dl dh fl fh : Int) (w : World) (hc : clB dl dh fl fh = true) (hw : spB wl wh 0 1000000 = false) : Calls Try.prog 5 #[.int .i64 side, .agg #[.int .i64 wl, .int .i64 wh], .agg #[.int .i64 dl, .int .i64 dh, .int .i64 fl, .int .i64 fh]] w fun e w' => e = .returned (.bool true) ∧ Below w.heap.size w w' := by
  have HK := hide known_any
  have B0 := hide (((Below.refl _ w).alloc (Nat.le_refl _) (.cells #[.int .i64 wl, .int .i64 wh] 25)).alloc (by simp) (.cells #[.int .i64 dl, .int .i64 dh, .int .i64 fl, .int .i64 fh] 40))
  have S0 := hide ((Blk.new w 25 #[.int .i64 wl, .int .i64 wh]).alloc (.cells #[.int .i64 dl, .int .i64 dh, .int .i64 fl, .int .i64 fh] 40))
  have c0 := Blk.new (w.alloc (.cells #[.int .i64 wl, .int .i64 wh] 25)) 40 #[.int .i64 dl, .int .i64 dh, .int .i64 fl, .int .i64 fh]
  simp only [World.size_alloc] at c0
  have C0 := hide c0
  clear c0
  have HRC := hide (refClay_any dl dh fl fh)
  have H2 := hide (fun W => Moulds_err2 wl wh dl dh fl fh W hc hw)
  rw [hc] at HRC
  have hw' : ¬ (0 ≤ wl ∧ wl ≤ wh ∧ wh ≤ 1000000) := by simpa [spB] using hw
  clear hw
  rcases (by omega : side < 1 ∨ 1000000 < side ∨ (1 ≤ side ∧ side ≤ 1000000)) with h1 | h1 | ⟨h1, h2⟩
  · have H1 := hide (fun W => Shrunk_err2 side dl dh fl fh W hc (by omega))
    clear hc
    rcases (by omega : wl < 0 ∨ (0 ≤ wl ∧ wh < wl) ∨ (0 ≤ wl ∧ wl ≤ wh ∧ 1000000 < wh)) with h3 | ⟨h3, h4⟩ | ⟨h3, h4, h5⟩
    all_goals
      clear hw'
      go_enter Try.func5, Try.ntmps5
      go_wp2_with fail
      refine (H1.out _).mono ?_
      rintro e w1 ⟨rfl, hb1⟩
      have B1 := hide (B0.out.trans (hb1.mono B0.out.size))
      have S1 := hide ((S0.out.ext hb1).alloc (.cells #[.int .i64 0, .int .i64 0] 25))
      have C1 := hide ((C0.out.ext hb1).alloc (.cells #[.int .i64 0, .int .i64 0] 25))
      have T1 := hide (Blk.new w1 25 #[.int .i64 0, .int .i64 0])
      have B2 := hide (B1.out.alloc B1.out.size (.cells #[.int .i64 0, .int .i64 0] 25))
      obtain ⟨g1, g2, g3, -, -⟩ := blk2 (S0.out.ext hb1)
      obtain ⟨g4, g5, g6, g7, g8⟩ := blk4 (C0.out.ext hb1)
      clear hb1
      go_wp2_with fail
      refine (H2.out _).mono ?_
      rintro e w3 ⟨rfl, hb3⟩
      have B3 := hide (B2.out.trans (hb3.mono B2.out.size))
      have B4 := hide (B3.out.alloc B3.out.size (.cells #[.int .i64 0, .int .i64 0] 25))
      have S3 := hide ((S1.out.ext hb3).alloc (.cells #[.int .i64 0, .int .i64 0] 25))
      have C3 := hide ((C1.out.ext hb3).alloc (.cells #[.int .i64 0, .int .i64 0] 25))
      have T3 := hide ((T1.out.ext hb3).alloc (.cells #[.int .i64 0, .int .i64 0] 25))
      have U3 := hide (Blk.new w3 25 #[.int .i64 0, .int .i64 0])
      clear g1 g2 g3 g4 g5 g6 g7 g8
      obtain ⟨g4, g5, g6, g7, g8⟩ := blk4 (C1.out.ext hb3)
      clear hb3
      go_wp2_with fail
      refine (HRC.out _).mono ?_
      rintro e w5 ⟨rfl, hb5⟩
      have B5 := hide (B4.out.trans (hb5.mono B4.out.size))
      have S5 := hide (S3.out.ext hb5)
      have C5 := hide (C3.out.ext hb5)
      have T5 := hide (T3.out.ext hb5)
      have U5 := hide (U3.out.ext hb5)
      clear g4 g5 g6 g7 g8 hb5
      obtain ⟨g1, g2, g3, -, -⟩ := blk2 T5.out
      obtain ⟨g4, g5, g6, -, -⟩ := blk2 S5.out
      obtain ⟨g7, g8, g9, -, -⟩ := blk2 U5.out
      obtain ⟨k1, k2, k3, k4, k5⟩ := blk4 C5.out
      go_wp2_with fail
      refine (HK.out _).mono ?_
      rintro e w9 ⟨rfl, hb9⟩
      go_wp2_with fail
      go_ret
      exact ⟨rfl, B5.out.trans (hb9.mono B5.out.size)⟩
  · have H1 := hide (fun W => Shrunk_err2 side dl dh fl fh W hc (by omega))
    have h1' : 1 ≤ side := by omega
    clear hc
    rcases (by omega : wl < 0 ∨ (0 ≤ wl ∧ wh < wl) ∨ (0 ≤ wl ∧ wl ≤ wh ∧ 1000000 < wh)) with h3 | ⟨h3, h4⟩ | ⟨h3, h4, h5⟩
    all_goals
      clear hw'
      go_enter Try.func5, Try.ntmps5
      go_wp2_with fail
      refine (H1.out _).mono ?_
      rintro e w1 ⟨rfl, hb1⟩
      have B1 := hide (B0.out.trans (hb1.mono B0.out.size))
      have S1 := hide ((S0.out.ext hb1).alloc (.cells #[.int .i64 0, .int .i64 0] 25))
      have C1 := hide ((C0.out.ext hb1).alloc (.cells #[.int .i64 0, .int .i64 0] 25))
      have T1 := hide (Blk.new w1 25 #[.int .i64 0, .int .i64 0])
      have B2 := hide (B1.out.alloc B1.out.size (.cells #[.int .i64 0, .int .i64 0] 25))
      obtain ⟨g1, g2, g3, -, -⟩ := blk2 (S0.out.ext hb1)
      obtain ⟨g4, g5, g6, g7, g8⟩ := blk4 (C0.out.ext hb1)
      clear hb1
      go_wp2_with fail
      refine (H2.out _).mono ?_
      rintro e w3 ⟨rfl, hb3⟩
      have B3 := hide (B2.out.trans (hb3.mono B2.out.size))
      have B4 := hide (B3.out.alloc B3.out.size (.cells #[.int .i64 0, .int .i64 0] 25))
      have S3 := hide ((S1.out.ext hb3).alloc (.cells #[.int .i64 0, .int .i64 0] 25))
      have C3 := hide ((C1.out.ext hb3).alloc (.cells #[.int .i64 0, .int .i64 0] 25))
      have T3 := hide ((T1.out.ext hb3).alloc (.cells #[.int .i64 0, .int .i64 0] 25))
      have U3 := hide (Blk.new w3 25 #[.int .i64 0, .int .i64 0])
      clear g1 g2 g3 g4 g5 g6 g7 g8
      obtain ⟨g4, g5, g6, g7, g8⟩ := blk4 (C1.out.ext hb3)
      clear hb3
      go_wp2_with fail
      refine (HRC.out _).mono ?_
      rintro e w5 ⟨rfl, hb5⟩
      have B5 := hide (B4.out.trans (hb5.mono B4.out.size))
      have S5 := hide (S3.out.ext hb5)
      have C5 := hide (C3.out.ext hb5)
      have T5 := hide (T3.out.ext hb5)
      have U5 := hide (U3.out.ext hb5)
      clear g4 g5 g6 g7 g8 hb5
      obtain ⟨g1, g2, g3, -, -⟩ := blk2 T5.out
      obtain ⟨g4, g5, g6, -, -⟩ := blk2 S5.out
      obtain ⟨g7, g8, g9, -, -⟩ := blk2 U5.out
      obtain ⟨k1, k2, k3, k4, k5⟩ := blk4 C5.out
      go_wp2_with fail
      refine (HK.out _).mono ?_
      rintro e w9 ⟨rfl, hb9⟩
      go_wp2_with fail
      go_ret
      exact ⟨rfl, B5.out.trans (hb9.mono B5.out.size)⟩
  · have H1 := hide (fun W => Shrunk_ok side dl dh fl fh W hc h1 h2)
    have HRS := hide (fun W => refShrunk_any side dl dh fl fh W (by omega) (by omega) hc)
    generalize shLo side dh fh = sa at H1 HRS
    generalize shHi side dl fl = sb at H1 HRS
    clear hc
    rcases (by omega : wl < 0 ∨ (0 ≤ wl ∧ wh < wl) ∨ (0 ≤ wl ∧ wl ≤ wh ∧ 1000000 < wh)) with h3 | ⟨h3, h4⟩ | ⟨h3, h4, h5⟩
    all_goals
      clear hw'
      go_enter Try.func5, Try.ntmps5
      go_wp2_with fail
      refine (H1.out _).mono ?_
      rintro e w1 ⟨rfl, hb1⟩
      have B1 := hide (B0.out.trans (hb1.mono B0.out.size))
      have S1 := hide ((S0.out.ext hb1).alloc (.cells #[.int .i64 sa, .int .i64 sb] 25))
      have C1 := hide ((C0.out.ext hb1).alloc (.cells #[.int .i64 sa, .int .i64 sb] 25))
      have T1 := hide (Blk.new w1 25 #[.int .i64 sa, .int .i64 sb])
      have B2 := hide (B1.out.alloc B1.out.size (.cells #[.int .i64 sa, .int .i64 sb] 25))
      obtain ⟨g1, g2, g3, -, -⟩ := blk2 (S0.out.ext hb1)
      obtain ⟨g4, g5, g6, g7, g8⟩ := blk4 (C0.out.ext hb1)
      clear hb1
      go_wp2_with fail
      refine (H2.out _).mono ?_
      rintro e w3 ⟨rfl, hb3⟩
      have B3 := hide (B2.out.trans (hb3.mono B2.out.size))
      have B4 := hide (B3.out.alloc B3.out.size (.cells #[.int .i64 0, .int .i64 0] 25))
      have S3 := hide ((S1.out.ext hb3).alloc (.cells #[.int .i64 0, .int .i64 0] 25))
      have C3 := hide ((C1.out.ext hb3).alloc (.cells #[.int .i64 0, .int .i64 0] 25))
      have T3 := hide ((T1.out.ext hb3).alloc (.cells #[.int .i64 0, .int .i64 0] 25))
      have U3 := hide (Blk.new w3 25 #[.int .i64 0, .int .i64 0])
      clear g1 g2 g3 g4 g5 g6 g7 g8
      obtain ⟨g4, g5, g6, g7, g8⟩ := blk4 (C1.out.ext hb3)
      clear hb3
      go_wp2_with fail
      refine (HRC.out _).mono ?_
      rintro e w5 ⟨rfl, hb5⟩
      have B5 := hide (B4.out.trans (hb5.mono B4.out.size))
      have S5 := hide (S3.out.ext hb5)
      have C5 := hide (C3.out.ext hb5)
      have T5 := hide (T3.out.ext hb5)
      have U5 := hide (U3.out.ext hb5)
      clear g4 g5 g6 g7 g8 hb5
      obtain ⟨g1, g2, g3, -, -⟩ := blk2 T5.out
      obtain ⟨g4, g5, g6, -, -⟩ := blk2 S5.out
      obtain ⟨g7, g8, g9, -, -⟩ := blk2 U5.out
      obtain ⟨k1, k2, k3, k4, k5⟩ := blk4 C5.out
      go_wp2_with fail
      have HH1 : Hid ((fun W : World => (W.cell? ⟨w1.heap.size, 0, none⟩ = some (.int .i64 sa) ∧ W.cell? ⟨w1.heap.size, 1, none⟩ = some (.int .i64 sb)) ∧ W.cell? ⟨w.heap.size + 1, 0, none⟩ = some (.int .i64 dl) ∧ W.cell? ⟨w.heap.size + 1, 1, none⟩ = some (.int .i64 dh) ∧ W.cell? ⟨w.heap.size + 1, 2, none⟩ = some (.int .i64 fl) ∧ W.cell? ⟨w.heap.size + 1, 3, none⟩ = some (.int .i64 fh)) w5.drew) := ⟨⟨g2, g3⟩, k2, k3, k4, k5⟩
      refine wp_region_J (fun W : World => (W.cell? ⟨w1.heap.size, 0, none⟩ = some (.int .i64 sa) ∧ W.cell? ⟨w1.heap.size, 1, none⟩ = some (.int .i64 sb)) ∧ W.cell? ⟨w.heap.size + 1, 0, none⟩ = some (.int .i64 dl) ∧ W.cell? ⟨w.heap.size + 1, 1, none⟩ = some (.int .i64 dh) ∧ W.cell? ⟨w.heap.size + 1, 2, none⟩ = some (.int .i64 fl) ∧ W.cell? ⟨w.heap.size + 1, 3, none⟩ = some (.int .i64 fh)) (by kernel_rfl) ?_
      clear g1 g2 g3 g4 g5 g6 g7 g8 g9 k1 k2 k3 k4 k5
      refine wpAnyJ_take 0 (v := ?_) (by first | exact hF | exact wideFn) HH1.out rfl (by kernel_rfl) (by kernel_rfl) (by kernel_rfl) (by kernel_rfl) rfl ?_ (fun _ _ _ h => h) ?_
      rotate_left
      · intro W hSW
        simp only [List.getElem_toArray, List.getElem_cons_zero, List.getElem_cons_succ]
        (try dsimp only at hSW)
        go_simp
        with_reducible rfl
      (try simp only [List.getElem_toArray, List.getElem_cons_zero, List.getElem_cons_succ, Act.put, List.setIfInBounds_toArray, List.set_cons_zero, List.set_cons_succ])
      refine wpAnyJ_take 1 (v := ?_) (by first | exact hF | exact wideFn) HH1.out rfl (by kernel_rfl) (by kernel_rfl) (by kernel_rfl) (by kernel_rfl) rfl ?_ (fun _ _ _ h => h) ?_
      rotate_left
      · intro W hSW
        simp only [List.getElem_toArray, List.getElem_cons_zero, List.getElem_cons_succ]
        (try dsimp only at hSW)
        go_simp
        with_reducible rfl
      (try simp only [List.getElem_toArray, List.getElem_cons_zero, List.getElem_cons_succ, Act.put, List.setIfInBounds_toArray, List.set_cons_zero, List.set_cons_succ])
      refine wpAnyJ_take 2 (v := ?_) (by first | exact hF | exact wideFn) HH1.out rfl (by kernel_rfl) (by kernel_rfl) (by kernel_rfl) (by kernel_rfl) rfl ?_ (fun _ _ _ h => h) ?_
      rotate_left
      · intro W hSW
        simp only [List.getElem_toArray, List.getElem_cons_zero, List.getElem_cons_succ]
        (try dsimp only at hSW)
        go_simp
        with_reducible rfl
      (try simp only [List.getElem_toArray, List.getElem_cons_zero, List.getElem_cons_succ, Act.put, List.setIfInBounds_toArray, List.set_cons_zero, List.set_cons_succ])
      refine wpAnyJ_take 3 (v := ?_) (by first | exact hF | exact wideFn) HH1.out rfl (by kernel_rfl) (by kernel_rfl) (by kernel_rfl) (by kernel_rfl) rfl ?_ (fun _ _ _ h => h) ?_
      rotate_left
      · intro W hSW
        simp only [List.getElem_toArray, List.getElem_cons_zero, List.getElem_cons_succ]
        (try dsimp only at hSW)
        go_simp
        with_reducible rfl
      (try simp only [List.getElem_toArray, List.getElem_cons_zero, List.getElem_cons_succ, Act.put, List.setIfInBounds_toArray, List.set_cons_zero, List.set_cons_succ])
      refine wpAnyJ_take 4 (v := ?_) (by first | exact hF | exact wideFn) HH1.out rfl (by kernel_rfl) (by kernel_rfl) (by kernel_rfl) (by kernel_rfl) rfl ?_ (fun _ _ _ h => h) ?_
      rotate_left
      · intro W hSW
        simp only [List.getElem_toArray, List.getElem_cons_zero, List.getElem_cons_succ]
        (try dsimp only at hSW)
        go_simp
        with_reducible rfl
      (try simp only [List.getElem_toArray, List.getElem_cons_zero, List.getElem_cons_succ, Act.put, List.setIfInBounds_toArray, List.set_cons_zero, List.set_cons_succ])
      refine wpAnyJ_take 5 (v := ?_) (by first | exact hF | exact wideFn) HH1.out rfl (by kernel_rfl) (by kernel_rfl) (by kernel_rfl) (by kernel_rfl) rfl ?_ (fun _ _ _ h => h) ?_
      rotate_left
      · intro W hSW
        simp only [List.getElem_toArray, List.getElem_cons_zero, List.getElem_cons_succ]
        (try dsimp only at hSW)
        go_simp
        with_reducible rfl
      (try simp only [List.getElem_toArray, List.getElem_cons_zero, List.getElem_cons_succ, Act.put, List.setIfInBounds_toArray, List.set_cons_zero, List.set_cons_succ])
      refine wpAnyJ_one 6 rfl (by kernel_rfl) (fun K hK => ?_)
      simp only [List.getElem_toArray, List.getElem_cons_zero, List.getElem_cons_succ]
      go_simp
      refine ⟨trivial, rfl, ?_⟩
      refine (callsIn_wide.2 (HRS.out _)).mono ?_
      rintro e w6 ⟨rfl, hb6⟩
      have HH2 : Hid ((fun W : World => (W.cell? ⟨w1.heap.size, 0, none⟩ = some (.int .i64 sa) ∧ W.cell? ⟨w1.heap.size, 1, none⟩ = some (.int .i64 sb)) ∧ W.cell? ⟨w.heap.size + 1, 0, none⟩ = some (.int .i64 dl) ∧ W.cell? ⟨w.heap.size + 1, 1, none⟩ = some (.int .i64 dh) ∧ W.cell? ⟨w.heap.size + 1, 2, none⟩ = some (.int .i64 fl) ∧ W.cell? ⟨w.heap.size + 1, 3, none⟩ = some (.int .i64 fh)) w6) := hide ⟨⟨(blk2 (T5.out.drew.ext hb6)).2.1, (blk2 (T5.out.drew.ext hb6)).2.2.1⟩, (blk4 (C5.out.drew.ext hb6)).2⟩
      dsimp only
      refine hK.out _ _ (fun _ => HH2.out) ?_
      clear hK K
      (try simp only [List.getElem_toArray, List.getElem_cons_zero, List.getElem_cons_succ, Act.put, List.setIfInBounds_toArray, List.set_cons_zero, List.set_cons_succ])
      refine wpAnyJ_take 7 (v := ?_) (by first | exact hF | exact wideFn) HH2.out rfl (by kernel_rfl) (by kernel_rfl) (by kernel_rfl) (by kernel_rfl) rfl ?_ (fun _ _ _ h => h) ?_
      rotate_left
      · intro W hSW
        simp only [List.getElem_toArray, List.getElem_cons_zero, List.getElem_cons_succ]
        (try dsimp only at hSW)
        go_simp
        with_reducible rfl
      (try simp only [List.getElem_toArray, List.getElem_cons_zero, List.getElem_cons_succ, Act.put, List.setIfInBounds_toArray, List.set_cons_zero, List.set_cons_succ])
      refine wpAnyJ_take 8 (v := ?_) (by first | exact hF | exact wideFn) HH2.out rfl (by kernel_rfl) (by kernel_rfl) (by kernel_rfl) (by kernel_rfl) rfl ?_ (fun _ _ _ h => h) ?_
      rotate_left
      · intro W hSW
        simp only [List.getElem_toArray, List.getElem_cons_zero, List.getElem_cons_succ]
        (try dsimp only at hSW)
        go_simp
        with_reducible rfl
      (try simp only [List.getElem_toArray, List.getElem_cons_zero, List.getElem_cons_succ, Act.put, List.setIfInBounds_toArray, List.set_cons_zero, List.set_cons_succ])
      refine wpAnyJ_done (by kernel_rfl) ?_
      have B6 := hide (B5.out.drew.trans (hb6.mono B5.out.size))
      have S6 := hide (S5.out.drew.ext hb6)
      have C6 := hide (C5.out.drew.ext hb6)
      have T6 := hide (T5.out.drew.ext hb6)
      have U6 := hide (U5.out.drew.ext hb6)
      clear hb6 HH1 HH2
      obtain ⟨g1, g2, g3, -, -⟩ := blk2 T6.out
      obtain ⟨g4, g5, g6, -, -⟩ := blk2 S6.out
      obtain ⟨g7, g8, g9, -, -⟩ := blk2 U6.out
      obtain ⟨k1, k2, k3, k4, k5⟩ := blk4 C6.out
      go_wp2_with fail
      refine (HK.out _).mono ?_
      rintro e w9 ⟨rfl, hb9⟩
      go_wp2_with fail
      go_ret
      exact ⟨rfl, B6.out.trans (hb9.mono B6.out.size)⟩
theorem least_ex (p : Nat → Bool) : ∀ n, ∃ r, Least p n r
  | 0 => ⟨0, Nat.le_refl _, fun i h => absurd h (by omega), fun h => absurd h (by omega)⟩
  | n + 1 => by
    obtain ⟨r, h1, h2, h3⟩ := least_ex p n
    by_cases hr : r < n
    · exact ⟨r, by omega, h2, fun _ => h3 hr⟩
    · obtain rfl : r = n := by omega
      cases hp : p r
      · refine ⟨r + 1, by omega, fun i hi => ?_, fun h => absurd h (by omega)⟩
        by_cases h : i < r
        · exact h2 i h
        · obtain rfl : i = r := by omega
          exact hp
      · exact ⟨r, by omega, h2, fun _ => hp⟩
theorem moulds_yes (side wl wh dl dh fl fh : Int) (a b : Nat) (w : World) (hc : clB dl dh fl fh = true) (hw : 0 ≤ wl ∧ wl ≤ wh ∧ wh ≤ 1000000)
    (H2 : Hid (∀ W, Calls Try.prog 21 #[.agg #[.int .i64 wl, .int .i64 wh], .agg #[.int .i64 dl, .int .i64 dh, .int .i64 fl, .int .i64 fh]] W fun e w' => e = .returned (.tuple #[.agg #[.int .i64 ((a : Int) + 1), .int .i64 b], .int .i64 0]) ∧ Below W.heap.size W w'))
    (HRM : Hid (∀ W, Calls Try.prog 24 #[.agg #[.int .i64 wl, .int .i64 wh], .agg #[.int .i64 dl, .int .i64 dh, .int .i64 fl, .int .i64 fh]] W fun e w' => e = .returned (.tuple #[.agg #[.int .i64 ((a : Int) + 1), .int .i64 b], .bool true]) ∧ Below W.heap.size W w')) : Calls Try.prog 5 #[.int .i64 side, .agg #[.int .i64 wl, .int .i64 wh], .agg #[.int .i64 dl, .int .i64 dh, .int .i64 fl, .int .i64 fh]] w fun e w' => e = .returned (.bool true) ∧ Below w.heap.size w w' := by
  have HK := hide known_any
  have B0 := hide (((Below.refl _ w).alloc (Nat.le_refl _) (.cells #[.int .i64 wl, .int .i64 wh] 25)).alloc (by simp) (.cells #[.int .i64 dl, .int .i64 dh, .int .i64 fl, .int .i64 fh] 40))
  have S0 := hide ((Blk.new w 25 #[.int .i64 wl, .int .i64 wh]).alloc (.cells #[.int .i64 dl, .int .i64 dh, .int .i64 fl, .int .i64 fh] 40))
  have c0 := Blk.new (w.alloc (.cells #[.int .i64 wl, .int .i64 wh] 25)) 40 #[.int .i64 dl, .int .i64 dh, .int .i64 fl, .int .i64 fh]
  simp only [World.size_alloc] at c0
  have C0 := hide c0
  clear c0
  have HRC := hide (refClay_any dl dh fl fh)
  rw [hc] at HRC
  obtain ⟨h3, h4, h5⟩ := hw
  rcases (by omega : side < 1 ∨ 1000000 < side ∨ (1 ≤ side ∧ side ≤ 1000000)) with h1 | h1 | ⟨h1, h2⟩
  · have H1 := hide (fun W => Shrunk_err2 side dl dh fl fh W hc (by omega))
    clear hc
    go_enter Try.func5, Try.ntmps5
    go_wp2_with fail
    refine (H1.out _).mono ?_
    rintro e w1 ⟨rfl, hb1⟩
    have B1 := hide (B0.out.trans (hb1.mono B0.out.size))
    have S1 := hide ((S0.out.ext hb1).alloc (.cells #[.int .i64 0, .int .i64 0] 25))
    have C1 := hide ((C0.out.ext hb1).alloc (.cells #[.int .i64 0, .int .i64 0] 25))
    have T1 := hide (Blk.new w1 25 #[.int .i64 0, .int .i64 0])
    have B2 := hide (B1.out.alloc B1.out.size (.cells #[.int .i64 0, .int .i64 0] 25))
    obtain ⟨g1, g2, g3, -, -⟩ := blk2 (S0.out.ext hb1)
    obtain ⟨g4, g5, g6, g7, g8⟩ := blk4 (C0.out.ext hb1)
    clear hb1
    go_wp2_with fail
    refine (H2.out _).mono ?_
    rintro e w3 ⟨rfl, hb3⟩
    have B3 := hide (B2.out.trans (hb3.mono B2.out.size))
    have B4 := hide (B3.out.alloc B3.out.size (.cells #[.int .i64 ((a : Int) + 1), .int .i64 b] 25))
    have S3 := hide ((S1.out.ext hb3).alloc (.cells #[.int .i64 ((a : Int) + 1), .int .i64 b] 25))
    have C3 := hide ((C1.out.ext hb3).alloc (.cells #[.int .i64 ((a : Int) + 1), .int .i64 b] 25))
    have T3 := hide ((T1.out.ext hb3).alloc (.cells #[.int .i64 ((a : Int) + 1), .int .i64 b] 25))
    have U3 := hide (Blk.new w3 25 #[.int .i64 ((a : Int) + 1), .int .i64 b])
    clear g1 g2 g3 g4 g5 g6 g7 g8
    obtain ⟨g4, g5, g6, g7, g8⟩ := blk4 (C1.out.ext hb3)
    clear hb3
    go_wp2_with fail
    refine (HRC.out _).mono ?_
    rintro e w5 ⟨rfl, hb5⟩
    have B5 := hide (B4.out.trans (hb5.mono B4.out.size))
    have S5 := hide (S3.out.ext hb5)
    have C5 := hide (C3.out.ext hb5)
    have T5 := hide (T3.out.ext hb5)
    have U5 := hide (U3.out.ext hb5)
    clear g4 g5 g6 g7 g8 hb5
    obtain ⟨g1, g2, g3, -, -⟩ := blk2 T5.out
    obtain ⟨g4, g5, g6, -, -⟩ := blk2 S5.out
    obtain ⟨g7, g8, g9, -, -⟩ := blk2 U5.out
    obtain ⟨k1, k2, k3, k4, k5⟩ := blk4 C5.out
    go_wp2_with fail
    refine (HRM.out _).mono ?_
    rintro e w7 ⟨rfl, hb7⟩
    have B7 := hide (B5.out.trans (hb7.mono B5.out.size))
    have B8 := hide (B7.out.alloc B7.out.size (.cells #[.int .i64 ((a : Int) + 1), .int .i64 b] 25))
    clear g1 g2 g3 g4 g5 g6 g7 g8 g9 k1 k2 k3 k4 k5
    obtain ⟨g7, g8, g9, -, -⟩ := blk2 (U5.out.ext hb7)
    clear hb7
    go_wp2_with fail
    refine (HK.out _).mono ?_
    rintro e w9 ⟨rfl, hb9⟩
    go_wp2_with fail
    go_ret
    exact ⟨rfl, B8.out.trans (hb9.mono B8.out.size)⟩
  · have H1 := hide (fun W => Shrunk_err2 side dl dh fl fh W hc (by omega))
    have h1' : 1 ≤ side := by omega
    clear hc
    go_enter Try.func5, Try.ntmps5
    go_wp2_with fail
    refine (H1.out _).mono ?_
    rintro e w1 ⟨rfl, hb1⟩
    have B1 := hide (B0.out.trans (hb1.mono B0.out.size))
    have S1 := hide ((S0.out.ext hb1).alloc (.cells #[.int .i64 0, .int .i64 0] 25))
    have C1 := hide ((C0.out.ext hb1).alloc (.cells #[.int .i64 0, .int .i64 0] 25))
    have T1 := hide (Blk.new w1 25 #[.int .i64 0, .int .i64 0])
    have B2 := hide (B1.out.alloc B1.out.size (.cells #[.int .i64 0, .int .i64 0] 25))
    obtain ⟨g1, g2, g3, -, -⟩ := blk2 (S0.out.ext hb1)
    obtain ⟨g4, g5, g6, g7, g8⟩ := blk4 (C0.out.ext hb1)
    clear hb1
    go_wp2_with fail
    refine (H2.out _).mono ?_
    rintro e w3 ⟨rfl, hb3⟩
    have B3 := hide (B2.out.trans (hb3.mono B2.out.size))
    have B4 := hide (B3.out.alloc B3.out.size (.cells #[.int .i64 ((a : Int) + 1), .int .i64 b] 25))
    have S3 := hide ((S1.out.ext hb3).alloc (.cells #[.int .i64 ((a : Int) + 1), .int .i64 b] 25))
    have C3 := hide ((C1.out.ext hb3).alloc (.cells #[.int .i64 ((a : Int) + 1), .int .i64 b] 25))
    have T3 := hide ((T1.out.ext hb3).alloc (.cells #[.int .i64 ((a : Int) + 1), .int .i64 b] 25))
    have U3 := hide (Blk.new w3 25 #[.int .i64 ((a : Int) + 1), .int .i64 b])
    clear g1 g2 g3 g4 g5 g6 g7 g8
    obtain ⟨g4, g5, g6, g7, g8⟩ := blk4 (C1.out.ext hb3)
    clear hb3
    go_wp2_with fail
    refine (HRC.out _).mono ?_
    rintro e w5 ⟨rfl, hb5⟩
    have B5 := hide (B4.out.trans (hb5.mono B4.out.size))
    have S5 := hide (S3.out.ext hb5)
    have C5 := hide (C3.out.ext hb5)
    have T5 := hide (T3.out.ext hb5)
    have U5 := hide (U3.out.ext hb5)
    clear g4 g5 g6 g7 g8 hb5
    obtain ⟨g1, g2, g3, -, -⟩ := blk2 T5.out
    obtain ⟨g4, g5, g6, -, -⟩ := blk2 S5.out
    obtain ⟨g7, g8, g9, -, -⟩ := blk2 U5.out
    obtain ⟨k1, k2, k3, k4, k5⟩ := blk4 C5.out
    go_wp2_with fail
    refine (HRM.out _).mono ?_
    rintro e w7 ⟨rfl, hb7⟩
    have B7 := hide (B5.out.trans (hb7.mono B5.out.size))
    have B8 := hide (B7.out.alloc B7.out.size (.cells #[.int .i64 ((a : Int) + 1), .int .i64 b] 25))
    clear g1 g2 g3 g4 g5 g6 g7 g8 g9 k1 k2 k3 k4 k5
    obtain ⟨g7, g8, g9, -, -⟩ := blk2 (U5.out.ext hb7)
    clear hb7
    go_wp2_with fail
    refine (HK.out _).mono ?_
    rintro e w9 ⟨rfl, hb9⟩
    go_wp2_with fail
    go_ret
    exact ⟨rfl, B8.out.trans (hb9.mono B8.out.size)⟩
  · have H1 := hide (fun W => Shrunk_ok side dl dh fl fh W hc h1 h2)
    have HRS := hide (fun W => refShrunk_any side dl dh fl fh W (by omega) (by omega) hc)
    generalize shLo side dh fh = sa at H1 HRS
    generalize shHi side dl fl = sb at H1 HRS
    clear hc
    go_enter Try.func5, Try.ntmps5
    go_wp2_with fail
    refine (H1.out _).mono ?_
    rintro e w1 ⟨rfl, hb1⟩
    have B1 := hide (B0.out.trans (hb1.mono B0.out.size))
    have S1 := hide ((S0.out.ext hb1).alloc (.cells #[.int .i64 sa, .int .i64 sb] 25))
    have C1 := hide ((C0.out.ext hb1).alloc (.cells #[.int .i64 sa, .int .i64 sb] 25))
    have T1 := hide (Blk.new w1 25 #[.int .i64 sa, .int .i64 sb])
    have B2 := hide (B1.out.alloc B1.out.size (.cells #[.int .i64 sa, .int .i64 sb] 25))
    obtain ⟨g1, g2, g3, -, -⟩ := blk2 (S0.out.ext hb1)
    obtain ⟨g4, g5, g6, g7, g8⟩ := blk4 (C0.out.ext hb1)
    clear hb1
    go_wp2_with fail
    refine (H2.out _).mono ?_
    rintro e w3 ⟨rfl, hb3⟩
    have B3 := hide (B2.out.trans (hb3.mono B2.out.size))
    have B4 := hide (B3.out.alloc B3.out.size (.cells #[.int .i64 ((a : Int) + 1), .int .i64 b] 25))
    have S3 := hide ((S1.out.ext hb3).alloc (.cells #[.int .i64 ((a : Int) + 1), .int .i64 b] 25))
    have C3 := hide ((C1.out.ext hb3).alloc (.cells #[.int .i64 ((a : Int) + 1), .int .i64 b] 25))
    have T3 := hide ((T1.out.ext hb3).alloc (.cells #[.int .i64 ((a : Int) + 1), .int .i64 b] 25))
    have U3 := hide (Blk.new w3 25 #[.int .i64 ((a : Int) + 1), .int .i64 b])
    clear g1 g2 g3 g4 g5 g6 g7 g8
    obtain ⟨g4, g5, g6, g7, g8⟩ := blk4 (C1.out.ext hb3)
    clear hb3
    go_wp2_with fail
    refine (HRC.out _).mono ?_
    rintro e w5 ⟨rfl, hb5⟩
    have B5 := hide (B4.out.trans (hb5.mono B4.out.size))
    have S5 := hide (S3.out.ext hb5)
    have C5 := hide (C3.out.ext hb5)
    have T5 := hide (T3.out.ext hb5)
    have U5 := hide (U3.out.ext hb5)
    clear g4 g5 g6 g7 g8 hb5
    obtain ⟨g1, g2, g3, -, -⟩ := blk2 T5.out
    obtain ⟨g4, g5, g6, -, -⟩ := blk2 S5.out
    obtain ⟨g7, g8, g9, -, -⟩ := blk2 U5.out
    obtain ⟨k1, k2, k3, k4, k5⟩ := blk4 C5.out
    go_wp2_with fail
    have HH1 : Hid ((fun W : World => (W.cell? ⟨w1.heap.size, 0, none⟩ = some (.int .i64 sa) ∧ W.cell? ⟨w1.heap.size, 1, none⟩ = some (.int .i64 sb)) ∧ W.cell? ⟨w.heap.size + 1, 0, none⟩ = some (.int .i64 dl) ∧ W.cell? ⟨w.heap.size + 1, 1, none⟩ = some (.int .i64 dh) ∧ W.cell? ⟨w.heap.size + 1, 2, none⟩ = some (.int .i64 fl) ∧ W.cell? ⟨w.heap.size + 1, 3, none⟩ = some (.int .i64 fh)) w5.drew) := ⟨⟨g2, g3⟩, k2, k3, k4, k5⟩
    refine wp_region_J (fun W : World => (W.cell? ⟨w1.heap.size, 0, none⟩ = some (.int .i64 sa) ∧ W.cell? ⟨w1.heap.size, 1, none⟩ = some (.int .i64 sb)) ∧ W.cell? ⟨w.heap.size + 1, 0, none⟩ = some (.int .i64 dl) ∧ W.cell? ⟨w.heap.size + 1, 1, none⟩ = some (.int .i64 dh) ∧ W.cell? ⟨w.heap.size + 1, 2, none⟩ = some (.int .i64 fl) ∧ W.cell? ⟨w.heap.size + 1, 3, none⟩ = some (.int .i64 fh)) (by kernel_rfl) ?_
    clear g1 g2 g3 g4 g5 g6 g7 g8 g9 k1 k2 k3 k4 k5
    refine wpAnyJ_take 0 (v := ?_) (by first | exact hF | exact wideFn) HH1.out rfl (by kernel_rfl) (by kernel_rfl) (by kernel_rfl) (by kernel_rfl) rfl ?_ (fun _ _ _ h => h) ?_
    rotate_left
    · intro W hSW
      simp only [List.getElem_toArray, List.getElem_cons_zero, List.getElem_cons_succ]
      (try dsimp only at hSW)
      go_simp
      with_reducible rfl
    (try simp only [List.getElem_toArray, List.getElem_cons_zero, List.getElem_cons_succ, Act.put, List.setIfInBounds_toArray, List.set_cons_zero, List.set_cons_succ])
    refine wpAnyJ_take 1 (v := ?_) (by first | exact hF | exact wideFn) HH1.out rfl (by kernel_rfl) (by kernel_rfl) (by kernel_rfl) (by kernel_rfl) rfl ?_ (fun _ _ _ h => h) ?_
    rotate_left
    · intro W hSW
      simp only [List.getElem_toArray, List.getElem_cons_zero, List.getElem_cons_succ]
      (try dsimp only at hSW)
      go_simp
      with_reducible rfl
    (try simp only [List.getElem_toArray, List.getElem_cons_zero, List.getElem_cons_succ, Act.put, List.setIfInBounds_toArray, List.set_cons_zero, List.set_cons_succ])
    refine wpAnyJ_take 2 (v := ?_) (by first | exact hF | exact wideFn) HH1.out rfl (by kernel_rfl) (by kernel_rfl) (by kernel_rfl) (by kernel_rfl) rfl ?_ (fun _ _ _ h => h) ?_
    rotate_left
    · intro W hSW
      simp only [List.getElem_toArray, List.getElem_cons_zero, List.getElem_cons_succ]
      (try dsimp only at hSW)
      go_simp
      with_reducible rfl
    (try simp only [List.getElem_toArray, List.getElem_cons_zero, List.getElem_cons_succ, Act.put, List.setIfInBounds_toArray, List.set_cons_zero, List.set_cons_succ])
    refine wpAnyJ_take 3 (v := ?_) (by first | exact hF | exact wideFn) HH1.out rfl (by kernel_rfl) (by kernel_rfl) (by kernel_rfl) (by kernel_rfl) rfl ?_ (fun _ _ _ h => h) ?_
    rotate_left
    · intro W hSW
      simp only [List.getElem_toArray, List.getElem_cons_zero, List.getElem_cons_succ]
      (try dsimp only at hSW)
      go_simp
      with_reducible rfl
    (try simp only [List.getElem_toArray, List.getElem_cons_zero, List.getElem_cons_succ, Act.put, List.setIfInBounds_toArray, List.set_cons_zero, List.set_cons_succ])
    refine wpAnyJ_take 4 (v := ?_) (by first | exact hF | exact wideFn) HH1.out rfl (by kernel_rfl) (by kernel_rfl) (by kernel_rfl) (by kernel_rfl) rfl ?_ (fun _ _ _ h => h) ?_
    rotate_left
    · intro W hSW
      simp only [List.getElem_toArray, List.getElem_cons_zero, List.getElem_cons_succ]
      (try dsimp only at hSW)
      go_simp
      with_reducible rfl
    (try simp only [List.getElem_toArray, List.getElem_cons_zero, List.getElem_cons_succ, Act.put, List.setIfInBounds_toArray, List.set_cons_zero, List.set_cons_succ])
    refine wpAnyJ_take 5 (v := ?_) (by first | exact hF | exact wideFn) HH1.out rfl (by kernel_rfl) (by kernel_rfl) (by kernel_rfl) (by kernel_rfl) rfl ?_ (fun _ _ _ h => h) ?_
    rotate_left
    · intro W hSW
      simp only [List.getElem_toArray, List.getElem_cons_zero, List.getElem_cons_succ]
      (try dsimp only at hSW)
      go_simp
      with_reducible rfl
    (try simp only [List.getElem_toArray, List.getElem_cons_zero, List.getElem_cons_succ, Act.put, List.setIfInBounds_toArray, List.set_cons_zero, List.set_cons_succ])
    refine wpAnyJ_one 6 rfl (by kernel_rfl) (fun K hK => ?_)
    simp only [List.getElem_toArray, List.getElem_cons_zero, List.getElem_cons_succ]
    go_simp
    refine ⟨trivial, rfl, ?_⟩
    refine (callsIn_wide.2 (HRS.out _)).mono ?_
    rintro e w6 ⟨rfl, hb6⟩
    have HH2 : Hid ((fun W : World => (W.cell? ⟨w1.heap.size, 0, none⟩ = some (.int .i64 sa) ∧ W.cell? ⟨w1.heap.size, 1, none⟩ = some (.int .i64 sb)) ∧ W.cell? ⟨w.heap.size + 1, 0, none⟩ = some (.int .i64 dl) ∧ W.cell? ⟨w.heap.size + 1, 1, none⟩ = some (.int .i64 dh) ∧ W.cell? ⟨w.heap.size + 1, 2, none⟩ = some (.int .i64 fl) ∧ W.cell? ⟨w.heap.size + 1, 3, none⟩ = some (.int .i64 fh)) w6) := hide ⟨⟨(blk2 (T5.out.drew.ext hb6)).2.1, (blk2 (T5.out.drew.ext hb6)).2.2.1⟩, (blk4 (C5.out.drew.ext hb6)).2⟩
    dsimp only
    refine hK.out _ _ (fun _ => HH2.out) ?_
    clear hK K
    (try simp only [List.getElem_toArray, List.getElem_cons_zero, List.getElem_cons_succ, Act.put, List.setIfInBounds_toArray, List.set_cons_zero, List.set_cons_succ])
    refine wpAnyJ_take 7 (v := ?_) (by first | exact hF | exact wideFn) HH2.out rfl (by kernel_rfl) (by kernel_rfl) (by kernel_rfl) (by kernel_rfl) rfl ?_ (fun _ _ _ h => h) ?_
    rotate_left
    · intro W hSW
      simp only [List.getElem_toArray, List.getElem_cons_zero, List.getElem_cons_succ]
      (try dsimp only at hSW)
      go_simp
      with_reducible rfl
    (try simp only [List.getElem_toArray, List.getElem_cons_zero, List.getElem_cons_succ, Act.put, List.setIfInBounds_toArray, List.set_cons_zero, List.set_cons_succ])
    refine wpAnyJ_take 8 (v := ?_) (by first | exact hF | exact wideFn) HH2.out rfl (by kernel_rfl) (by kernel_rfl) (by kernel_rfl) (by kernel_rfl) rfl ?_ (fun _ _ _ h => h) ?_
    rotate_left
    · intro W hSW
      simp only [List.getElem_toArray, List.getElem_cons_zero, List.getElem_cons_succ]
      (try dsimp only at hSW)
      go_simp
      with_reducible rfl
    (try simp only [List.getElem_toArray, List.getElem_cons_zero, List.getElem_cons_succ, Act.put, List.setIfInBounds_toArray, List.set_cons_zero, List.set_cons_succ])
    refine wpAnyJ_done (by kernel_rfl) ?_
    have B6 := hide (B5.out.drew.trans (hb6.mono B5.out.size))
    have S6 := hide (S5.out.drew.ext hb6)
    have C6 := hide (C5.out.drew.ext hb6)
    have T6 := hide (T5.out.drew.ext hb6)
    have U6 := hide (U5.out.drew.ext hb6)
    clear hb6 HH1 HH2
    obtain ⟨g1, g2, g3, -, -⟩ := blk2 T6.out
    obtain ⟨g4, g5, g6, -, -⟩ := blk2 S6.out
    obtain ⟨g7, g8, g9, -, -⟩ := blk2 U6.out
    obtain ⟨k1, k2, k3, k4, k5⟩ := blk4 C6.out
    go_wp2_with fail
    refine (HRM.out _).mono ?_
    rintro e w7 ⟨rfl, hb7⟩
    have B7 := hide (B6.out.trans (hb7.mono B6.out.size))
    have B8 := hide (B7.out.alloc B7.out.size (.cells #[.int .i64 ((a : Int) + 1), .int .i64 b] 25))
    clear g1 g2 g3 g4 g5 g6 g7 g8 g9 k1 k2 k3 k4 k5
    obtain ⟨g7, g8, g9, -, -⟩ := blk2 (U6.out.ext hb7)
    clear hb7
    go_wp2_with fail
    refine (HK.out _).mono ?_
    rintro e w9 ⟨rfl, hb9⟩
    go_wp2_with fail
    go_ret
    exact ⟨rfl, B8.out.trans (hb9.mono B8.out.size)⟩
theorem moulds_no (side wl wh dl dh fl fh : Int) (a b : Nat) (w : World) (hc : clB dl dh fl fh = true) (hw : 0 ≤ wl ∧ wl ≤ wh ∧ wh ≤ 1000000)
    (H2 : Hid (∀ W, Calls Try.prog 21 #[.agg #[.int .i64 wl, .int .i64 wh], .agg #[.int .i64 dl, .int .i64 dh, .int .i64 fl, .int .i64 fh]] W fun e w' => e = .returned (.tuple #[.agg #[.int .i64 0, .int .i64 0], .int .i64 7]) ∧ Below W.heap.size W w'))
    (HRM : Hid (∀ W, Calls Try.prog 24 #[.agg #[.int .i64 wl, .int .i64 wh], .agg #[.int .i64 dl, .int .i64 dh, .int .i64 fl, .int .i64 fh]] W fun e w' => e = .returned (.tuple #[.agg #[.int .i64 ((a : Int) + 1), .int .i64 b], .bool false]) ∧ Below W.heap.size W w')) : Calls Try.prog 5 #[.int .i64 side, .agg #[.int .i64 wl, .int .i64 wh], .agg #[.int .i64 dl, .int .i64 dh, .int .i64 fl, .int .i64 fh]] w fun e w' => e = .returned (.bool true) ∧ Below w.heap.size w w' := by
  have HK := hide known_any
  have B0 := hide (((Below.refl _ w).alloc (Nat.le_refl _) (.cells #[.int .i64 wl, .int .i64 wh] 25)).alloc (by simp) (.cells #[.int .i64 dl, .int .i64 dh, .int .i64 fl, .int .i64 fh] 40))
  have S0 := hide ((Blk.new w 25 #[.int .i64 wl, .int .i64 wh]).alloc (.cells #[.int .i64 dl, .int .i64 dh, .int .i64 fl, .int .i64 fh] 40))
  have c0 := Blk.new (w.alloc (.cells #[.int .i64 wl, .int .i64 wh] 25)) 40 #[.int .i64 dl, .int .i64 dh, .int .i64 fl, .int .i64 fh]
  simp only [World.size_alloc] at c0
  have C0 := hide c0
  clear c0
  have HRC := hide (refClay_any dl dh fl fh)
  rw [hc] at HRC
  obtain ⟨h3, h4, h5⟩ := hw
  rcases (by omega : side < 1 ∨ 1000000 < side ∨ (1 ≤ side ∧ side ≤ 1000000)) with h1 | h1 | ⟨h1, h2⟩
  · have H1 := hide (fun W => Shrunk_err2 side dl dh fl fh W hc (by omega))
    clear hc
    go_enter Try.func5, Try.ntmps5
    go_wp2_with fail
    refine (H1.out _).mono ?_
    rintro e w1 ⟨rfl, hb1⟩
    have B1 := hide (B0.out.trans (hb1.mono B0.out.size))
    have S1 := hide ((S0.out.ext hb1).alloc (.cells #[.int .i64 0, .int .i64 0] 25))
    have C1 := hide ((C0.out.ext hb1).alloc (.cells #[.int .i64 0, .int .i64 0] 25))
    have T1 := hide (Blk.new w1 25 #[.int .i64 0, .int .i64 0])
    have B2 := hide (B1.out.alloc B1.out.size (.cells #[.int .i64 0, .int .i64 0] 25))
    obtain ⟨g1, g2, g3, -, -⟩ := blk2 (S0.out.ext hb1)
    obtain ⟨g4, g5, g6, g7, g8⟩ := blk4 (C0.out.ext hb1)
    clear hb1
    go_wp2_with fail
    refine (H2.out _).mono ?_
    rintro e w3 ⟨rfl, hb3⟩
    have B3 := hide (B2.out.trans (hb3.mono B2.out.size))
    have B4 := hide (B3.out.alloc B3.out.size (.cells #[.int .i64 0, .int .i64 0] 25))
    have S3 := hide ((S1.out.ext hb3).alloc (.cells #[.int .i64 0, .int .i64 0] 25))
    have C3 := hide ((C1.out.ext hb3).alloc (.cells #[.int .i64 0, .int .i64 0] 25))
    have T3 := hide ((T1.out.ext hb3).alloc (.cells #[.int .i64 0, .int .i64 0] 25))
    have U3 := hide (Blk.new w3 25 #[.int .i64 0, .int .i64 0])
    clear g1 g2 g3 g4 g5 g6 g7 g8
    obtain ⟨g4, g5, g6, g7, g8⟩ := blk4 (C1.out.ext hb3)
    clear hb3
    go_wp2_with fail
    refine (HRC.out _).mono ?_
    rintro e w5 ⟨rfl, hb5⟩
    have B5 := hide (B4.out.trans (hb5.mono B4.out.size))
    have S5 := hide (S3.out.ext hb5)
    have C5 := hide (C3.out.ext hb5)
    have T5 := hide (T3.out.ext hb5)
    have U5 := hide (U3.out.ext hb5)
    clear g4 g5 g6 g7 g8 hb5
    obtain ⟨g1, g2, g3, -, -⟩ := blk2 T5.out
    obtain ⟨g4, g5, g6, -, -⟩ := blk2 S5.out
    obtain ⟨g7, g8, g9, -, -⟩ := blk2 U5.out
    obtain ⟨k1, k2, k3, k4, k5⟩ := blk4 C5.out
    go_wp2_with fail
    refine (HRM.out _).mono ?_
    rintro e w7 ⟨rfl, hb7⟩
    have B7 := hide (B5.out.trans (hb7.mono B5.out.size))
    have B8 := hide (B7.out.alloc B7.out.size (.cells #[.int .i64 ((a : Int) + 1), .int .i64 b] 25))
    clear g1 g2 g3 g4 g5 g6 g7 g8 g9 k1 k2 k3 k4 k5
    obtain ⟨g7, g8, g9, -, -⟩ := blk2 (U5.out.ext hb7)
    clear hb7
    go_wp2_with fail
    refine (HK.out _).mono ?_
    rintro e w9 ⟨rfl, hb9⟩
    go_wp2_with fail
    go_ret
    exact ⟨rfl, B8.out.trans (hb9.mono B8.out.size)⟩
  · have H1 := hide (fun W => Shrunk_err2 side dl dh fl fh W hc (by omega))
    have h1' : 1 ≤ side := by omega
    clear hc
    go_enter Try.func5, Try.ntmps5
    go_wp2_with fail
    refine (H1.out _).mono ?_
    rintro e w1 ⟨rfl, hb1⟩
    have B1 := hide (B0.out.trans (hb1.mono B0.out.size))
    have S1 := hide ((S0.out.ext hb1).alloc (.cells #[.int .i64 0, .int .i64 0] 25))
    have C1 := hide ((C0.out.ext hb1).alloc (.cells #[.int .i64 0, .int .i64 0] 25))
    have T1 := hide (Blk.new w1 25 #[.int .i64 0, .int .i64 0])
    have B2 := hide (B1.out.alloc B1.out.size (.cells #[.int .i64 0, .int .i64 0] 25))
    obtain ⟨g1, g2, g3, -, -⟩ := blk2 (S0.out.ext hb1)
    obtain ⟨g4, g5, g6, g7, g8⟩ := blk4 (C0.out.ext hb1)
    clear hb1
    go_wp2_with fail
    refine (H2.out _).mono ?_
    rintro e w3 ⟨rfl, hb3⟩
    have B3 := hide (B2.out.trans (hb3.mono B2.out.size))
    have B4 := hide (B3.out.alloc B3.out.size (.cells #[.int .i64 0, .int .i64 0] 25))
    have S3 := hide ((S1.out.ext hb3).alloc (.cells #[.int .i64 0, .int .i64 0] 25))
    have C3 := hide ((C1.out.ext hb3).alloc (.cells #[.int .i64 0, .int .i64 0] 25))
    have T3 := hide ((T1.out.ext hb3).alloc (.cells #[.int .i64 0, .int .i64 0] 25))
    have U3 := hide (Blk.new w3 25 #[.int .i64 0, .int .i64 0])
    clear g1 g2 g3 g4 g5 g6 g7 g8
    obtain ⟨g4, g5, g6, g7, g8⟩ := blk4 (C1.out.ext hb3)
    clear hb3
    go_wp2_with fail
    refine (HRC.out _).mono ?_
    rintro e w5 ⟨rfl, hb5⟩
    have B5 := hide (B4.out.trans (hb5.mono B4.out.size))
    have S5 := hide (S3.out.ext hb5)
    have C5 := hide (C3.out.ext hb5)
    have T5 := hide (T3.out.ext hb5)
    have U5 := hide (U3.out.ext hb5)
    clear g4 g5 g6 g7 g8 hb5
    obtain ⟨g1, g2, g3, -, -⟩ := blk2 T5.out
    obtain ⟨g4, g5, g6, -, -⟩ := blk2 S5.out
    obtain ⟨g7, g8, g9, -, -⟩ := blk2 U5.out
    obtain ⟨k1, k2, k3, k4, k5⟩ := blk4 C5.out
    go_wp2_with fail
    refine (HRM.out _).mono ?_
    rintro e w7 ⟨rfl, hb7⟩
    have B7 := hide (B5.out.trans (hb7.mono B5.out.size))
    have B8 := hide (B7.out.alloc B7.out.size (.cells #[.int .i64 ((a : Int) + 1), .int .i64 b] 25))
    clear g1 g2 g3 g4 g5 g6 g7 g8 g9 k1 k2 k3 k4 k5
    obtain ⟨g7, g8, g9, -, -⟩ := blk2 (U5.out.ext hb7)
    clear hb7
    go_wp2_with fail
    refine (HK.out _).mono ?_
    rintro e w9 ⟨rfl, hb9⟩
    go_wp2_with fail
    go_ret
    exact ⟨rfl, B8.out.trans (hb9.mono B8.out.size)⟩
  · have H1 := hide (fun W => Shrunk_ok side dl dh fl fh W hc h1 h2)
    have HRS := hide (fun W => refShrunk_any side dl dh fl fh W (by omega) (by omega) hc)
    generalize shLo side dh fh = sa at H1 HRS
    generalize shHi side dl fl = sb at H1 HRS
    clear hc
    go_enter Try.func5, Try.ntmps5
    go_wp2_with fail
    refine (H1.out _).mono ?_
    rintro e w1 ⟨rfl, hb1⟩
    have B1 := hide (B0.out.trans (hb1.mono B0.out.size))
    have S1 := hide ((S0.out.ext hb1).alloc (.cells #[.int .i64 sa, .int .i64 sb] 25))
    have C1 := hide ((C0.out.ext hb1).alloc (.cells #[.int .i64 sa, .int .i64 sb] 25))
    have T1 := hide (Blk.new w1 25 #[.int .i64 sa, .int .i64 sb])
    have B2 := hide (B1.out.alloc B1.out.size (.cells #[.int .i64 sa, .int .i64 sb] 25))
    obtain ⟨g1, g2, g3, -, -⟩ := blk2 (S0.out.ext hb1)
    obtain ⟨g4, g5, g6, g7, g8⟩ := blk4 (C0.out.ext hb1)
    clear hb1
    go_wp2_with fail
    refine (H2.out _).mono ?_
    rintro e w3 ⟨rfl, hb3⟩
    have B3 := hide (B2.out.trans (hb3.mono B2.out.size))
    have B4 := hide (B3.out.alloc B3.out.size (.cells #[.int .i64 0, .int .i64 0] 25))
    have S3 := hide ((S1.out.ext hb3).alloc (.cells #[.int .i64 0, .int .i64 0] 25))
    have C3 := hide ((C1.out.ext hb3).alloc (.cells #[.int .i64 0, .int .i64 0] 25))
    have T3 := hide ((T1.out.ext hb3).alloc (.cells #[.int .i64 0, .int .i64 0] 25))
    have U3 := hide (Blk.new w3 25 #[.int .i64 0, .int .i64 0])
    clear g1 g2 g3 g4 g5 g6 g7 g8
    obtain ⟨g4, g5, g6, g7, g8⟩ := blk4 (C1.out.ext hb3)
    clear hb3
    go_wp2_with fail
    refine (HRC.out _).mono ?_
    rintro e w5 ⟨rfl, hb5⟩
    have B5 := hide (B4.out.trans (hb5.mono B4.out.size))
    have S5 := hide (S3.out.ext hb5)
    have C5 := hide (C3.out.ext hb5)
    have T5 := hide (T3.out.ext hb5)
    have U5 := hide (U3.out.ext hb5)
    clear g4 g5 g6 g7 g8 hb5
    obtain ⟨g1, g2, g3, -, -⟩ := blk2 T5.out
    obtain ⟨g4, g5, g6, -, -⟩ := blk2 S5.out
    obtain ⟨g7, g8, g9, -, -⟩ := blk2 U5.out
    obtain ⟨k1, k2, k3, k4, k5⟩ := blk4 C5.out
    go_wp2_with fail
    have HH1 : Hid ((fun W : World => (W.cell? ⟨w1.heap.size, 0, none⟩ = some (.int .i64 sa) ∧ W.cell? ⟨w1.heap.size, 1, none⟩ = some (.int .i64 sb)) ∧ W.cell? ⟨w.heap.size + 1, 0, none⟩ = some (.int .i64 dl) ∧ W.cell? ⟨w.heap.size + 1, 1, none⟩ = some (.int .i64 dh) ∧ W.cell? ⟨w.heap.size + 1, 2, none⟩ = some (.int .i64 fl) ∧ W.cell? ⟨w.heap.size + 1, 3, none⟩ = some (.int .i64 fh)) w5.drew) := ⟨⟨g2, g3⟩, k2, k3, k4, k5⟩
    refine wp_region_J (fun W : World => (W.cell? ⟨w1.heap.size, 0, none⟩ = some (.int .i64 sa) ∧ W.cell? ⟨w1.heap.size, 1, none⟩ = some (.int .i64 sb)) ∧ W.cell? ⟨w.heap.size + 1, 0, none⟩ = some (.int .i64 dl) ∧ W.cell? ⟨w.heap.size + 1, 1, none⟩ = some (.int .i64 dh) ∧ W.cell? ⟨w.heap.size + 1, 2, none⟩ = some (.int .i64 fl) ∧ W.cell? ⟨w.heap.size + 1, 3, none⟩ = some (.int .i64 fh)) (by kernel_rfl) ?_
    clear g1 g2 g3 g4 g5 g6 g7 g8 g9 k1 k2 k3 k4 k5
    refine wpAnyJ_take 0 (v := ?_) (by first | exact hF | exact wideFn) HH1.out rfl (by kernel_rfl) (by kernel_rfl) (by kernel_rfl) (by kernel_rfl) rfl ?_ (fun _ _ _ h => h) ?_
    rotate_left
    · intro W hSW
      simp only [List.getElem_toArray, List.getElem_cons_zero, List.getElem_cons_succ]
      (try dsimp only at hSW)
      go_simp
      with_reducible rfl
    (try simp only [List.getElem_toArray, List.getElem_cons_zero, List.getElem_cons_succ, Act.put, List.setIfInBounds_toArray, List.set_cons_zero, List.set_cons_succ])
    refine wpAnyJ_take 1 (v := ?_) (by first | exact hF | exact wideFn) HH1.out rfl (by kernel_rfl) (by kernel_rfl) (by kernel_rfl) (by kernel_rfl) rfl ?_ (fun _ _ _ h => h) ?_
    rotate_left
    · intro W hSW
      simp only [List.getElem_toArray, List.getElem_cons_zero, List.getElem_cons_succ]
      (try dsimp only at hSW)
      go_simp
      with_reducible rfl
    (try simp only [List.getElem_toArray, List.getElem_cons_zero, List.getElem_cons_succ, Act.put, List.setIfInBounds_toArray, List.set_cons_zero, List.set_cons_succ])
    refine wpAnyJ_take 2 (v := ?_) (by first | exact hF | exact wideFn) HH1.out rfl (by kernel_rfl) (by kernel_rfl) (by kernel_rfl) (by kernel_rfl) rfl ?_ (fun _ _ _ h => h) ?_
    rotate_left
    · intro W hSW
      simp only [List.getElem_toArray, List.getElem_cons_zero, List.getElem_cons_succ]
      (try dsimp only at hSW)
      go_simp
      with_reducible rfl
    (try simp only [List.getElem_toArray, List.getElem_cons_zero, List.getElem_cons_succ, Act.put, List.setIfInBounds_toArray, List.set_cons_zero, List.set_cons_succ])
    refine wpAnyJ_take 3 (v := ?_) (by first | exact hF | exact wideFn) HH1.out rfl (by kernel_rfl) (by kernel_rfl) (by kernel_rfl) (by kernel_rfl) rfl ?_ (fun _ _ _ h => h) ?_
    rotate_left
    · intro W hSW
      simp only [List.getElem_toArray, List.getElem_cons_zero, List.getElem_cons_succ]
      (try dsimp only at hSW)
      go_simp
      with_reducible rfl
    (try simp only [List.getElem_toArray, List.getElem_cons_zero, List.getElem_cons_succ, Act.put, List.setIfInBounds_toArray, List.set_cons_zero, List.set_cons_succ])
    refine wpAnyJ_take 4 (v := ?_) (by first | exact hF | exact wideFn) HH1.out rfl (by kernel_rfl) (by kernel_rfl) (by kernel_rfl) (by kernel_rfl) rfl ?_ (fun _ _ _ h => h) ?_
    rotate_left
    · intro W hSW
      simp only [List.getElem_toArray, List.getElem_cons_zero, List.getElem_cons_succ]
      (try dsimp only at hSW)
      go_simp
      with_reducible rfl
    (try simp only [List.getElem_toArray, List.getElem_cons_zero, List.getElem_cons_succ, Act.put, List.setIfInBounds_toArray, List.set_cons_zero, List.set_cons_succ])
    refine wpAnyJ_take 5 (v := ?_) (by first | exact hF | exact wideFn) HH1.out rfl (by kernel_rfl) (by kernel_rfl) (by kernel_rfl) (by kernel_rfl) rfl ?_ (fun _ _ _ h => h) ?_
    rotate_left
    · intro W hSW
      simp only [List.getElem_toArray, List.getElem_cons_zero, List.getElem_cons_succ]
      (try dsimp only at hSW)
      go_simp
      with_reducible rfl
    (try simp only [List.getElem_toArray, List.getElem_cons_zero, List.getElem_cons_succ, Act.put, List.setIfInBounds_toArray, List.set_cons_zero, List.set_cons_succ])
    refine wpAnyJ_one 6 rfl (by kernel_rfl) (fun K hK => ?_)
    simp only [List.getElem_toArray, List.getElem_cons_zero, List.getElem_cons_succ]
    go_simp
    refine ⟨trivial, rfl, ?_⟩
    refine (callsIn_wide.2 (HRS.out _)).mono ?_
    rintro e w6 ⟨rfl, hb6⟩
    have HH2 : Hid ((fun W : World => (W.cell? ⟨w1.heap.size, 0, none⟩ = some (.int .i64 sa) ∧ W.cell? ⟨w1.heap.size, 1, none⟩ = some (.int .i64 sb)) ∧ W.cell? ⟨w.heap.size + 1, 0, none⟩ = some (.int .i64 dl) ∧ W.cell? ⟨w.heap.size + 1, 1, none⟩ = some (.int .i64 dh) ∧ W.cell? ⟨w.heap.size + 1, 2, none⟩ = some (.int .i64 fl) ∧ W.cell? ⟨w.heap.size + 1, 3, none⟩ = some (.int .i64 fh)) w6) := hide ⟨⟨(blk2 (T5.out.drew.ext hb6)).2.1, (blk2 (T5.out.drew.ext hb6)).2.2.1⟩, (blk4 (C5.out.drew.ext hb6)).2⟩
    dsimp only
    refine hK.out _ _ (fun _ => HH2.out) ?_
    clear hK K
    (try simp only [List.getElem_toArray, List.getElem_cons_zero, List.getElem_cons_succ, Act.put, List.setIfInBounds_toArray, List.set_cons_zero, List.set_cons_succ])
    refine wpAnyJ_take 7 (v := ?_) (by first | exact hF | exact wideFn) HH2.out rfl (by kernel_rfl) (by kernel_rfl) (by kernel_rfl) (by kernel_rfl) rfl ?_ (fun _ _ _ h => h) ?_
    rotate_left
    · intro W hSW
      simp only [List.getElem_toArray, List.getElem_cons_zero, List.getElem_cons_succ]
      (try dsimp only at hSW)
      go_simp
      with_reducible rfl
    (try simp only [List.getElem_toArray, List.getElem_cons_zero, List.getElem_cons_succ, Act.put, List.setIfInBounds_toArray, List.set_cons_zero, List.set_cons_succ])
    refine wpAnyJ_take 8 (v := ?_) (by first | exact hF | exact wideFn) HH2.out rfl (by kernel_rfl) (by kernel_rfl) (by kernel_rfl) (by kernel_rfl) rfl ?_ (fun _ _ _ h => h) ?_
    rotate_left
    · intro W hSW
      simp only [List.getElem_toArray, List.getElem_cons_zero, List.getElem_cons_succ]
      (try dsimp only at hSW)
      go_simp
      with_reducible rfl
    (try simp only [List.getElem_toArray, List.getElem_cons_zero, List.getElem_cons_succ, Act.put, List.setIfInBounds_toArray, List.set_cons_zero, List.set_cons_succ])
    refine wpAnyJ_done (by kernel_rfl) ?_
    have B6 := hide (B5.out.drew.trans (hb6.mono B5.out.size))
    have S6 := hide (S5.out.drew.ext hb6)
    have C6 := hide (C5.out.drew.ext hb6)
    have T6 := hide (T5.out.drew.ext hb6)
    have U6 := hide (U5.out.drew.ext hb6)
    clear hb6 HH1 HH2
    obtain ⟨g1, g2, g3, -, -⟩ := blk2 T6.out
    obtain ⟨g4, g5, g6, -, -⟩ := blk2 S6.out
    obtain ⟨g7, g8, g9, -, -⟩ := blk2 U6.out
    obtain ⟨k1, k2, k3, k4, k5⟩ := blk4 C6.out
    go_wp2_with fail
    refine (HRM.out _).mono ?_
    rintro e w7 ⟨rfl, hb7⟩
    have B7 := hide (B6.out.trans (hb7.mono B6.out.size))
    have B8 := hide (B7.out.alloc B7.out.size (.cells #[.int .i64 ((a : Int) + 1), .int .i64 b] 25))
    clear g1 g2 g3 g4 g5 g6 g7 g8 g9 k1 k2 k3 k4 k5
    obtain ⟨g7, g8, g9, -, -⟩ := blk2 (U6.out.ext hb7)
    clear hb7
    go_wp2_with fail
    refine (HK.out _).mono ?_
    rintro e w9 ⟨rfl, hb9⟩
    go_wp2_with fail
    go_ret
    exact ⟨rfl, B8.out.trans (hb9.mono B8.out.size)⟩
theorem moulds_law (side wl wh dl dh fl fh : Int) (w : World) : Calls Try.prog 5 #[.int .i64 side, .agg #[.int .i64 wl, .int .i64 wh], .agg #[.int .i64 dl, .int .i64 dh, .int .i64 fl, .int .i64 fh]] w fun e w' => e = .returned (.bool true) ∧ Below w.heap.size w w' := by
  rcases hc : clB dl dh fl fh with _ | _
  · exact moulds_clay side wl wh dl dh fl fh w hc
  rcases hw : spB wl wh 0 1000000 with _ | _
  · exact moulds_bad side wl wh dl dh fl fh w hc hw
  have hw' : 0 ≤ wl ∧ wl ≤ wh ∧ wh ≤ 1000000 := by simpa [spB] using hw
  obtain ⟨a, ha⟩ := least_ex (mLo wl dh fh) 1000000
  obtain ⟨b, hb⟩ := least_ex (mHi wh dl fl) 1000000
  by_cases hab : a + 1 ≤ b
  · refine moulds_yes side wl wh dl dh fl fh a b w hc hw' (hide fun W => (Moulds_ok wl wh dl dh fl fh W hc hw).mono ?_) (hide fun W => (refMoulds_ok wl wh dl dh fl fh W hc).mono ?_)
    · rintro e w' ⟨a2, b2, h1, h2, rfl, h3⟩
      obtain rfl := ha.uniq h1
      obtain rfl := hb.uniq h2
      exact ⟨by rw [if_pos hab], h3⟩
    · rintro e w' ⟨a2, b2, h1, h2, rfl, h3⟩
      obtain rfl := ha.uniq h1
      obtain rfl := hb.uniq h2
      exact ⟨by rw [decide_eq_true hab], h3⟩
  · refine moulds_no side wl wh dl dh fl fh a b w hc hw' (hide fun W => (Moulds_ok wl wh dl dh fl fh W hc hw).mono ?_) (hide fun W => (refMoulds_ok wl wh dl dh fl fh W hc).mono ?_)
    · rintro e w' ⟨a2, b2, h1, h2, rfl, h3⟩
      obtain rfl := ha.uniq h1
      obtain rfl := hb.uniq h2
      exact ⟨by rw [if_neg hab], h3⟩
    · rintro e w' ⟨a2, b2, h1, h2, rfl, h3⟩
      obtain rfl := ha.uniq h1
      obtain rfl := hb.uniq h2
      exact ⟨by rw [decide_eq_false hab], h3⟩
end Go.Proofs.Ytlhekifmkkgjlaa
