/- School: known. -/
import Derived.Test.YtmpegkojencbjaaDoorMergesH
import Derived.Deep.CutBlock
import Derived.Deep.DeepCutAuto
import Derived.IntWalk
import Derived.Deep.QuietTactic
import Derived.BigQuiet
set_option linter.unusedSimpArgs false
set_option linter.unusedVariables false
set_option linter.unnecessarySimpa false
namespace Go.Proofs.YtmpegkojencbjaaDoor
open List renaming getElem_toArray → glA, getElem_cons_zero → glB, getElem_cons_succ → glC, setIfInBounds_toArray → glD, set_cons_zero → glE, set_cons_succ → glF
open Go Go.RowKit Go.Shelf
set_option maxHeartbeats 8000000
set_option maxRecDepth 100000
theorem SR.newA {W : World} {b : Nat} (l : List Wd) (h : W.heap.size = b) : SR (W.alloc (.cells (strs l).toArray 9)) (W.alloc (.cells (strs l).toArray 9)).heap.size (some ⟨b, 0, none⟩) l := h ▸ SR.new W l
theorem LI.newA {W : World} {b : Nat} (l : List Int) (h : W.heap.size = b) : LI (W.alloc (.cells (intJ l).toArray 3)) (W.alloc (.cells (intJ l).toArray 3)).heap.size (some ⟨b, 0, none⟩) l := h ▸ LI.new W l
theorem known_a (W : World) : Calls Tryd.prog 17 #[.slice (some ⟨W.heap.size, 0, none⟩) 3 3, .slice (some ⟨W.heap.size + 1, 0, none⟩) 2 2] ((W.alloc (.cells (strs [wOne, wTwo, wThree]).toArray 9)).alloc (.cells (strs [wOne, wFour]).toArray 9)) fun e w' => ∃ A c, e = .returned (.tuple #[.slice A 2 c, .int .i64 0]) ∧ OwnE w' W.heap.size (.slice A 2 c) [⟨1, 1, wTwo, wFour⟩, ⟨2, 2, wThree, noW⟩] ∧ Below W.heap.size W w' := by
  have hB1 : Below (W.alloc (.cells (strs [wOne, wTwo, wThree]).toArray 9)).heap.size (W.alloc (.cells (strs [wOne, wTwo, wThree]).toArray 9)) ((W.alloc (.cells (strs [wOne, wTwo, wThree]).toArray 9)).alloc (.cells (strs [wOne, wFour]).toArray 9)) := (Below.refl _ _).alloc (Nat.le_refl _) _
  have hB0 : Below W.heap.size W ((W.alloc (.cells (strs [wOne, wTwo, wThree]).toArray 9)).alloc (.cells (strs [wOne, wFour]).toArray 9)) := ((Below.refl W.heap.size W).alloc (Nat.le_refl _) _).trans (hB1.mono (by simp))
  have s1 := (ER.below (SR.new W [wOne, wTwo, wThree]) hB1 (Nat.le_refl _)).more hB1.size
  have s2 := SR.newA (W := W.alloc (.cells (strs [wOne, wTwo, wThree]).toArray 9)) (b := W.heap.size + 1) [wOne, wFour] (World.size_alloc _ _)
  have h := Align_any (some ⟨W.heap.size, 0, none⟩) (some ⟨W.heap.size + 1, 0, none⟩) 3 2 [wOne, wTwo, wThree] [wOne, wFour] _ (SzOk.small (by decide)) (SzOk.small (by decide)) s1 s2
  refine h.mono ?_
  rintro e w' ⟨v, rfl, ho, hb⟩
  rw [known_align, if_pos rfl, known_alL] at ho
  obtain ⟨A, c, rfl⟩ := own_shape ho
  refine ⟨A, c, by rw [known_align]; rfl, ho.low (by simp; omega), hB0.trans (hb.mono hB0.size)⟩
theorem known_m (W : World) : Calls Tryd.prog 22 #[.slice (some ⟨W.heap.size, 0, none⟩) 3 3, .slice (some ⟨W.heap.size + 1, 0, none⟩) 4 4, .slice (some ⟨W.heap.size + 1 + 1, 0, none⟩) 2 2] (((W.alloc (.cells (strs [wLay, wThe, wBricks]).toArray 9)).alloc (.cells (strs [wLay, wThe, wRed, wBricks]).toArray 9)).alloc (.cells (strs [wLay, wBricks]).toArray 9)) fun e w' => ∃ A c, e = .returned (.tuple #[.slice A 3 c, .int .i64 0, .int .i64 0]) ∧ OwnS w' W.heap.size (.slice A 3 c) [wLay, wRed, wBricks] ∧ Below W.heap.size W w' := by
  have hB1 : Below (W.alloc (.cells (strs [wLay, wThe, wBricks]).toArray 9)).heap.size (W.alloc (.cells (strs [wLay, wThe, wBricks]).toArray 9)) ((W.alloc (.cells (strs [wLay, wThe, wBricks]).toArray 9)).alloc (.cells (strs [wLay, wThe, wRed, wBricks]).toArray 9)) := (Below.refl _ _).alloc (Nat.le_refl _) _
  have hB2 : Below ((W.alloc (.cells (strs [wLay, wThe, wBricks]).toArray 9)).alloc (.cells (strs [wLay, wThe, wRed, wBricks]).toArray 9)).heap.size ((W.alloc (.cells (strs [wLay, wThe, wBricks]).toArray 9)).alloc (.cells (strs [wLay, wThe, wRed, wBricks]).toArray 9)) (((W.alloc (.cells (strs [wLay, wThe, wBricks]).toArray 9)).alloc (.cells (strs [wLay, wThe, wRed, wBricks]).toArray 9)).alloc (.cells (strs [wLay, wBricks]).toArray 9)) := (Below.refl _ _).alloc (Nat.le_refl _) _
  have hB12 := hB1.trans (hB2.mono hB1.size)
  have hB0 : Below W.heap.size W (((W.alloc (.cells (strs [wLay, wThe, wBricks]).toArray 9)).alloc (.cells (strs [wLay, wThe, wRed, wBricks]).toArray 9)).alloc (.cells (strs [wLay, wBricks]).toArray 9)) := ((Below.refl W.heap.size W).alloc (Nat.le_refl _) _).trans (hB12.mono (by simp))
  have s1 := (ER.below (SR.new W [wLay, wThe, wBricks]) hB12 (Nat.le_refl _)).more hB12.size
  have s2 := (ER.below (SR.newA (W := W.alloc (.cells (strs [wLay, wThe, wBricks]).toArray 9)) (b := W.heap.size + 1) [wLay, wThe, wRed, wBricks] (World.size_alloc _ _)) hB2 (Nat.le_refl _)).more hB2.size
  have s3 := SR.newA (W := (W.alloc (.cells (strs [wLay, wThe, wBricks]).toArray 9)).alloc (.cells (strs [wLay, wThe, wRed, wBricks]).toArray 9)) (b := W.heap.size + 1 + 1) [wLay, wBricks] (by simp only [World.size_alloc])
  have h := Merge_any (some ⟨W.heap.size, 0, none⟩) (some ⟨W.heap.size + 1, 0, none⟩) (some ⟨W.heap.size + 1 + 1, 0, none⟩) 3 4 2 [wLay, wThe, wBricks] [wLay, wThe, wRed, wBricks] [wLay, wBricks] _ (SzOk.small (by decide)) (SzOk.small (by decide)) (SzOk.small (by decide)) s1 s2 s3 (Nat.le_refl _) (by unfold maxLen; decide)
  refine h.mono ?_
  rintro e w' ⟨v, rfl, ho, hb⟩
  rw [known_merge] at ho ⊢
  obtain ⟨A, c, rfl⟩ := own_shape ho
  refine ⟨A, c, rfl, ownMono ho (by simp; omega), hB0.trans (hb.mono hB0.size)⟩
theorem known_r (W : World) : Calls Tryd.prog 25 #[.slice (some ⟨W.heap.size, 0, none⟩) 4 4, .slice (some ⟨W.heap.size + 1, 0, none⟩) 4 4] ((W.alloc (.cells (intJ [-1, 0, 0, 0]).toArray 3)).alloc (.cells (intJ [-1, 5, 7, 7]).toArray 3)) fun e w' => ∃ A c, e = .returned (.tuple #[.slice A 4 c, .int .i64 1, .int .i64 0]) ∧ OwnJ w' W.heap.size (.slice A 4 c) [7, 5, 7, 7] ∧ Below W.heap.size W w' := by
  have hB1 : Below (W.alloc (.cells (intJ [-1, 0, 0, 0]).toArray 3)).heap.size (W.alloc (.cells (intJ [-1, 0, 0, 0]).toArray 3)) ((W.alloc (.cells (intJ [-1, 0, 0, 0]).toArray 3)).alloc (.cells (intJ [-1, 5, 7, 7]).toArray 3)) := (Below.refl _ _).alloc (Nat.le_refl _) _
  have hB0 : Below W.heap.size W ((W.alloc (.cells (intJ [-1, 0, 0, 0]).toArray 3)).alloc (.cells (intJ [-1, 5, 7, 7]).toArray 3)) := ((Below.refl W.heap.size W).alloc (Nat.le_refl _) _).trans (hB1.mono (by simp))
  have s1 := (ER.below (LI.new W [-1, 0, 0, 0]) hB1 (Nat.le_refl _)).more hB1.size
  have s2 := LI.newA (W := W.alloc (.cells (intJ [-1, 0, 0, 0]).toArray 3)) (b := W.heap.size + 1) [-1, 5, 7, 7] (World.size_alloc _ _)
  have h := Restore_any (some ⟨W.heap.size, 0, none⟩) (some ⟨W.heap.size + 1, 0, none⟩) 4 4 [-1, 0, 0, 0] [-1, 5, 7, 7] _ s1 s2
  refine h.mono ?_
  rintro e w' ⟨v, rfl, ho, hb⟩
  rw [known_rs] at ho ⊢
  obtain ⟨A, c, rfl⟩ := own_shape ho
  refine ⟨A, c, rfl, ownMono ho (by simp; omega), hB0.trans (hb.mono hB0.size)⟩
theorem known_d (b : Nat) (W : World) (hd : ScR W W.heap.size (hdD b) hdS) (x : Int) (r : Int × Int × List Int) (hr : decR hdS [1, x] 0 = r) : Calls Tryd.prog 39 #[scV (hdD b) hdS, .slice (some ⟨W.heap.size, 0, none⟩) 2 2, .int .i64 0] (W.alloc (.cells (intJ [1, x]).toArray 3)) (DePost W r) := by
  have hB1 : Below W.heap.size W (W.alloc (.cells (intJ [1, x]).toArray 3)) := (Below.refl _ _).alloc (Nat.le_refl _) _
  have h := Decide_any (hdD b) hdS (some ⟨W.heap.size, 0, none⟩) 2 [1, x] 0 (W.alloc (.cells (intJ [1, x]).toArray 3)) (hd.below hB1) (by unfold maxLen; decide) (by unfold maxLen; decide) (LI.new W [1, x])
  refine h.mono ?_
  rintro e w' ⟨v, rfl, ho, hb⟩
  rw [hr] at ho ⊢
  exact ⟨v, rfl, ownMono ho hB1.size, hB1.trans (hb.mono hB1.size)⟩
theorem OwnS.sr {W : World} {n0 : Nat} {A : Option Addr} {n c : Nat} {l : List Wd} (h : OwnS W n0 (.slice A n c) l) : n = l.length ∧ SR W W.heap.size A l := by
  obtain ⟨A', c', e⟩ := own_shape h
  injection e with e1 e2 e3
  subst e2
  refine ⟨rfl, fun hn => ?_⟩
  rcases h.2 with ⟨h1, h2⟩ | ⟨g, cap, cur, h1, h2, h3, h4, h5, h6, h7⟩
  · omega
  · injection h1 with hA
    subst hA
    have hg := (World.ownsRow.lt h g rfl).2
    refine ⟨g, 0, rfl, hg, fun k i hk hi => ?_⟩
    obtain rfl : i = 0 := by omega
    have hc := World.ownsRow.cells h (g := g) rfl k _ (strs_at l hk)
    have e1 : ((⟨g, 0, none⟩ : Addr).add k) = ⟨g, 0 + k * 1 + 0, none⟩ := by simp [Addr.add]; omega
    rw [e1] at hc
    exact hc
theorem known_f (b1 b2 : Nat) (W : World) (h1 : ScR W W.heap.size (hdD b1) hdS) (h2 : ScR W W.heap.size (hdD b2) hdS) : Calls Tryd.prog 32 #[scV (hdD b1) hdS, .agg #[.slice (some ⟨b2 + 1, 0, none⟩) 2 2, .int .i64 1, .slice (some ⟨b2 + 1 + 1 + 1 + 1, 0, none⟩) 2 3], .int .i64 0] W fun e w' => ∃ A c, e = .returned (.tuple #[.slice A 2 c, .int .i64 0]) ∧ OwnJ w' W.heap.size (.slice A 2 c) [0, 0] ∧ Below W.heap.size W w' := by
  have h3 : ScR W W.heap.size (hdD b2) ldS := by
    refine ⟨h2.fs, ⟨fun _ => ?_, fun k hk => ?_⟩⟩
    · obtain ⟨b, off, e1, e2, e3⟩ := h2.rs.row (by decide)
      refine ⟨b, off, e1, e2, fun k i hk hi => ?_⟩
      have hk : k < 2 := hk
      rw [e3 k i (by show k < 3; omega) hi]
      rcases (by omega : k = 0 ∨ k = 1) with rfl | rfl <;> rfl
    · have hk : k < 2 := hk
      have h := h2.rs.tests k (by show k < 3; omega)
      rcases (by omega : k = 0 ∨ k = 1) with rfl | rfl <;> exact h
  have h := Differ_any (hdD b1) (hdD b2) hdS ldS 0 W h1 h3 (by unfold maxLen; decide) (by unfold maxLen; decide) (by unfold maxLen; decide) (by unfold maxLen; decide)
  refine Calls.mono (show Calls Tryd.prog 32 #[scV (hdD b1) hdS, .agg #[.slice (some ⟨b2 + 1, 0, none⟩) 2 2, .int .i64 1, .slice (some ⟨b2 + 1 + 1 + 1 + 1, 0, none⟩) 2 3], .int .i64 0] W _ from h) ?_
  rintro e w' ⟨v, rfl, ho, hb⟩
  rw [known_df] at ho ⊢
  obtain ⟨A, c, rfl⟩ := own_shape ho
  exact ⟨A, c, rfl, ho, hb⟩
theorem known_any (w : World) : Calls Tryd.prog 15 #[] w fun e w' => e = .returned (.bool true) ∧ Below w.heap.size w w' := by
  go_enter Tryd.func15, Tryd.ntmps15
  go_wp2_with fail
  refine (known_a w).mono ?_
  rintro e w1 ⟨A1, c1, rfl, ho1, hb1⟩
  have O1 := hide ho1
  have B1 := hide hb1
  clear ho1 hb1
  go_wp2_with fail
  refine (known_m w1).mono ?_
  rintro e w2 ⟨A2, c2, rfl, ho2, hb2⟩
  have O1 := hide (O1.out.ext hb2)
  have O2 := hide ho2
  have B2 := hide (B1.out.trans (hb2.mono B1.out.size))
  clear ho2 hb2 B1
  go_wp2_with fail
  refine (known_r w2).mono ?_
  rintro e w3 ⟨A3, c3, rfl, ho3, hb3⟩
  have O1 := hide (O1.out.ext hb3)
  have O2 := hide (O2.out.ext hb3)
  have O3 := hide ho3
  have B3 := hide (B2.out.trans (hb3.mono B2.out.size))
  clear ho3 hb3 B2
  go_wp2_with fail
  refine (hundred_any w3).mono ?_
  rintro e w4 ⟨rfl, hsc, hb4⟩
  have O1 := hide (O1.out.ext hb4)
  have O2 := hide (O2.out.ext hb4)
  have O3 := hide (OwnJ.ext O3.out hb4)
  have B4 := hide (B3.out.trans (hb4.mono B3.out.size))
  have HSC := hide hsc
  clear hsc hb4 B3
  go_wp2_with fail
  refine (known_d w3.heap.size w4 HSC.out 1 _ known_dec1).mono ?_
  rintro e w5 ⟨v5, rfl, ho5, hb5⟩
  dsimp only at ho5 ⊢
  obtain ⟨A5, c5, rfl⟩ := own_shape ho5
  have O1 := hide (O1.out.ext hb5)
  have O2 := hide (O2.out.ext hb5)
  have O3 := hide (OwnJ.ext O3.out hb5)
  have O5 := hide ho5
  have B5 := hide (B4.out.trans (hb5.mono B4.out.size))
  clear ho5 hb5 B4 HSC
  go_wp2_with fail
  refine (hundred_any w5).mono ?_
  rintro e w6 ⟨rfl, hsc, hb6⟩
  have O1 := hide (O1.out.ext hb6)
  have O2 := hide (O2.out.ext hb6)
  have O3 := hide (OwnJ.ext O3.out hb6)
  have O5 := hide (OwnJ.ext O5.out hb6)
  have B6 := hide (B5.out.trans (hb6.mono B5.out.size))
  have HSC := hide hsc
  clear hsc hb6 B5
  go_wp2_with fail
  obtain ⟨⟨r1, r2, r3⟩, hr⟩ : ∃ r, decR hdS [1, 0] 0 = r := ⟨_, rfl⟩
  have hr2 : r2 = 110 := by have := known_dec2; rw [hr] at this; exact this
  subst hr2
  refine (known_d w5.heap.size w6 HSC.out 0 _ hr).mono ?_
  rintro e w7 ⟨v7, rfl, -, hb7⟩
  dsimp only
  have O1 := hide (O1.out.ext hb7)
  have O2 := hide (O2.out.ext hb7)
  have O3 := hide (OwnJ.ext O3.out hb7)
  have O5 := hide (OwnJ.ext O5.out hb7)
  have B7 := hide (B6.out.trans (hb7.mono B6.out.size))
  clear hb7 B6 HSC hr
  obtain ⟨eb, eo, rfl, -, x0, x1, x2, x3⟩ := (O1.out.edS).2.at_ (k := 1) (by decide) rfl
  obtain ⟨sb, so, rfl, -, y1⟩ := VR1.at_ (k := 1) (O2.out.sr).2 (by decide)
  replace x0 : w7.cell? ⟨eb, eo + 4, none⟩ = some (.int .i64 2) := x0
  replace x1 : w7.cell? ⟨eb, eo + 4 + 1, none⟩ = some (.int .i64 2) := x1
  replace x2 : w7.cell? ⟨eb, eo + 4 + 2, none⟩ = some (.string ⟨#[116, 104, 114, 101, 101]⟩) := x2
  replace x3 : w7.cell? ⟨eb, eo + 4 + 3, none⟩ = some (.string ⟨#[]⟩) := x3
  replace y1 : w7.cell? ⟨sb, so + 1, none⟩ = some (.string ⟨#[114, 101, 100]⟩) := y1
  go_upto_region 8 with fail
  clear x0 x1 x2 x3 y1
  go_wp2_with fail
  refine (hundred_any w7).mono ?_
  rintro e w8 ⟨rfl, hsc, hb8⟩
  have e8 : scV (hdD w7.heap.size) hdS = .agg #[.slice (some ⟨w7.heap.size + 1, 0, none⟩) 2 2, .int .i64 1, .slice (some ⟨w7.heap.size + 1 + 1 + 1 + 1, 0, none⟩) 3 3] := rfl
  rw [e8]
  have O3 := hide (OwnJ.ext O3.out hb8)
  have O5 := hide (OwnJ.ext O5.out hb8)
  have B8 := hide (B7.out.trans (hb8.mono B7.out.size))
  have HSC := hide hsc
  generalize w7.heap.size = b7 at HSC ⊢
  clear hsc hb8 B7 O1 O2 e8
  go_upto_region 10 with fail
  have hT := Blk.new w8 47 #[.slice (some ⟨b7 + 1, 0, none⟩) 2 2, .int .i64 1, .slice (some ⟨b7 + 1 + 1 + 1 + 1, 0, none⟩) 2 3]
  have hb9 : Below w8.heap.size w8 (w8.alloc (.cells #[.slice (some ⟨b7 + 1, 0, none⟩) 2 2, .int .i64 1, .slice (some ⟨b7 + 1 + 1 + 1 + 1, 0, none⟩) 2 3] 47)) := (Below.refl _ _).alloc (Nat.le_refl _) _
  have O3 := hide (OwnJ.ext O3.out hb9)
  have O5 := hide (OwnJ.ext O5.out hb9)
  have B9 := hide (B8.out.trans (hb9.mono B8.out.size))
  have HSC := hide (HSC.out.below hb9)
  clear hb9 B8
  generalize (w8.alloc (.cells #[.slice (some ⟨b7 + 1, 0, none⟩) 2 2, .int .i64 1, .slice (some ⟨b7 + 1 + 1 + 1 + 1, 0, none⟩) 2 3] 47)) = w9 at hT O3 O5 B9 HSC ⊢
  generalize w8.heap.size = T at hT ⊢
  have HS : Hid (∀ W, Below w9.heap.size w9 W → W.cell? ⟨T, 0, none⟩ = some (.slice (some ⟨b7 + 1, 0, none⟩) 2 2) ∧ W.cell? ⟨T, 1, none⟩ = some (.int .i64 1) ∧ W.cell? ⟨T, 2, none⟩ = some (.slice (some ⟨b7 + 1 + 1 + 1 + 1, 0, none⟩) 2 3)) := hide fun W h => (fun x => ⟨x.2.1, x.2.2.1, x.2.2.2.1⟩) (blk3 (hT.ext h))
  clear hT
  have Bd := hide ((Below.refl w9.heap.size w9).drew)
  refine wp_region_J (fun W : World => W.cell? ⟨T, 0, none⟩ = some (.slice (some ⟨b7 + 1, 0, none⟩) 2 2) ∧ W.cell? ⟨T, 1, none⟩ = some (.int .i64 1) ∧ W.cell? ⟨T, 2, none⟩ = some (.slice (some ⟨b7 + 1 + 1 + 1 + 1, 0, none⟩) 2 3)) (by kernel_rfl) ?_
  generalize w9.drew = wd at Bd ⊢
  refine wpAnyJ_take 1 (v := ?_) (by first | exact hF | exact wideFn) (HS.out _ Bd.out) rfl (by kernel_rfl) (by kernel_rfl) (by kernel_rfl) (by kernel_rfl) rfl ?_ (by first | exact fun _ _ _ h => h | exact fun _ _ _ h => hQ2 _ _ _ _ _ h) ?_
  rotate_left
  · intro W hSW
    simp only [glA, glB, glC]
    (try dsimp only at hSW)
    go_simp
    with_reducible rfl
  (try simp only [glA, glB, glC, Act.put, glD, glE, glF])
  refine wpAnyJ_one 0 rfl (by kernel_rfl) (fun K hK => ?_)
  simp only [glA, glB, glC]
  go_simp
  refine ⟨trivial, rfl, ?_⟩
  (with_reducible refine (callsIn_wide.2 (hundred_any wd)).mono ?_)
  rintro e w10 ⟨rfl, hsc10, hb10⟩
  have Be := hide (Bd.out.trans (hb10.mono Bd.out.size))
  dsimp only
  refine hK.out _ _ (fun _ => HS.out _ Be.out) ?_
  clear hK K
  (try simp only [glA, glB, glC, Act.put, glD, glE, glF])
  have HKF := hide (known_f wd.heap.size b7 w10 hsc10 ((HSC.out.below Bd.out).below hb10))
  clear hsc10
  refine wpAnyJ_one 2 rfl (by kernel_rfl) (fun K hK => ?_)
  simp only [glA, glB, glC]
  go_simp
  refine ⟨trivial, rfl, ?_⟩
  (with_reducible refine (callsIn_wide.2 HKF.out).mono ?_)
  rintro e w11 ⟨A6, c6, rfl, ho11, hb11⟩
  have Bf := hide (Be.out.trans (hb11.mono Be.out.size))
  dsimp only
  refine hK.out _ _ (fun _ => HS.out _ Bf.out) ?_
  clear hK K
  (try simp only [glA, glB, glC, Act.put, glD, glE, glF])
  refine wpAnyJ_take 3 (v := ?_) (by first | exact hF | exact wideFn) (HS.out _ Bf.out) rfl (by kernel_rfl) (by kernel_rfl) (by kernel_rfl) (by kernel_rfl) rfl ?_ (by first | exact fun _ _ _ h => h | exact fun _ _ _ h => hQ2 _ _ _ _ _ h) ?_
  rotate_left
  · intro W hSW
    simp only [glA, glB, glC]
    (try dsimp only at hSW)
    go_simp
    with_reducible rfl
  (try simp only [glA, glB, glC, Act.put, glD, glE, glF])
  refine wpAnyJ_take 4 (v := ?_) (by first | exact hF | exact wideFn) (HS.out _ Bf.out) rfl (by kernel_rfl) (by kernel_rfl) (by kernel_rfl) (by kernel_rfl) rfl ?_ (by first | exact fun _ _ _ h => h | exact fun _ _ _ h => hQ2 _ _ _ _ _ h) ?_
  rotate_left
  · intro W hSW
    simp only [glA, glB, glC]
    (try dsimp only at hSW)
    go_simp
    with_reducible rfl
  (try simp only [glA, glB, glC, Act.put, glD, glE, glF])
  refine wpAnyJ_take 5 (v := ?_) (by first | exact hF | exact wideFn) (HS.out _ Bf.out) rfl (by kernel_rfl) (by kernel_rfl) (by kernel_rfl) (by kernel_rfl) rfl ?_ (by first | exact fun _ _ _ h => h | exact fun _ _ _ h => hQ2 _ _ _ _ _ h) ?_
  rotate_left
  · intro W hSW
    simp only [glA, glB, glC]
    (try dsimp only at hSW)
    go_simp
    with_reducible rfl
  (try simp only [glA, glB, glC, Act.put, glD, glE, glF])
  refine wpAnyJ_take 6 (v := ?_) (by first | exact hF | exact wideFn) (HS.out _ Bf.out) rfl (by kernel_rfl) (by kernel_rfl) (by kernel_rfl) (by kernel_rfl) rfl ?_ (by first | exact fun _ _ _ h => h | exact fun _ _ _ h => hQ2 _ _ _ _ _ h) ?_
  rotate_left
  · intro W hSW
    simp only [glA, glB, glC]
    (try dsimp only at hSW)
    go_simp
    with_reducible rfl
  (try simp only [glA, glB, glC, Act.put, glD, glE, glF])
  refine wpAnyJ_take 7 (v := ?_) (by first | exact hF | exact wideFn) (HS.out _ Bf.out) rfl (by kernel_rfl) (by kernel_rfl) (by kernel_rfl) (by kernel_rfl) rfl ?_ (by first | exact fun _ _ _ h => h | exact fun _ _ _ h => hQ2 _ _ _ _ _ h) ?_
  rotate_left
  · intro W hSW
    simp only [glA, glB, glC]
    (try dsimp only at hSW)
    go_simp
    with_reducible rfl
  (try simp only [glA, glB, glC, Act.put, glD, glE, glF])
  refine wpAnyJ_done (by kernel_rfl) ?_
  have O3 := hide (OwnJ.ext O3.out Bf.out)
  have O5 := hide (OwnJ.ext O5.out Bf.out)
  have O6 := hide ho11
  have B11 := hide (B9.out.trans (Bf.out.mono B9.out.size))
  clear ho11 hb10 hb11 B9 Be Bf Bd HS HSC HKF
  obtain ⟨ab, ao, rfl, -, x0⟩ := VR1.at_ (k := 0) (O3.out.li).2 (by decide)
  obtain ⟨bb, bo, rfl, -, y0⟩ := VR1.at_ (k := 0) (O5.out.li).2 (by decide)
  obtain ⟨cb, co, hcc, -, z0⟩ := VR1.at_ (k := 0) (O6.out.li).2 (by decide)
  obtain ⟨cb', co', hcc', -, z1⟩ := VR1.at_ (k := 1) (O6.out.li).2 (by decide)
  subst hcc
  injection hcc' with hcc'
  injection hcc' with hcc1 hcc2
  subst hcc1
  subst hcc2
  replace x0 : w11.cell? ⟨ab, ao, none⟩ = some (.int .i64 7) := x0
  replace y0 : w11.cell? ⟨bb, bo, none⟩ = some (.int .i64 1) := y0
  replace z0 : w11.cell? ⟨cb, co, none⟩ = some (.int .i64 0) := z0
  replace z1 : w11.cell? ⟨cb, co + 1, none⟩ = some (.int .i64 0) := z1
  go_wp2_with fail
  go_ret
  exact ⟨rfl, B11.out⟩
end Go.Proofs.YtmpegkojencbjaaDoor
/- School: the laws' helpers on words, the reference's Word, Text, Same. -/
namespace Go.Proofs.YtmpegkojencbjaaDoor
open List renaming getElem_toArray → glA, getElem_cons_zero → glB, getElem_cons_succ → glC, setIfInBounds_toArray → glD, set_cons_zero → glE, set_cons_succ → glF
open Go Go.RowKit Go.Shelf
set_option maxHeartbeats 2000000
set_option maxRecDepth 100000
theorem refSame_any (A B : Option Addr) (c d : Nat) (l m : List Ed) (w : World) (hl : l.length ≤ maxLen) (hA : EdR w w.heap.size A l) (hB : EdR w w.heap.size B m) :
    Calls Tryd.prog 20 #[.slice A l.length c, .slice B m.length d] w fun e w' => e = .returned (.bool (decide (l = m))) ∧ Below w.heap.size w w' := by
  unfold maxLen at hl
  have HA := hide hA
  have HB := hide hB
  clear hA hB
  by_cases hlm : l.length = m.length
  · obtain ⟨n, hn⟩ : ∃ n, l.length = n := ⟨_, rfl⟩
    have hm : m.length = n := by omega
    have HN := hide (And.intro hn hm)
    rw [hn] at hl
    rw [hn, hm]
    clear hlm hn hm
    go_enter Tryd.func20, Tryd.ntmps20
    go_wp2_with fail
    go_loopw [5] (fun i wr => ∃ k : Nat, k ≤ n ∧ i = .int .i64 k ∧ (∀ j, j < k → l.getD j e0 = m.getD j e0) ∧ Below w.heap.size w wr) (fun i _ => n - (intOf i).toNat)
    case atStart => exact ⟨0, Nat.zero_le _, rfl, fun j hj => absurd hj (by omega), Below.refl _ _⟩
    case round =>
      obtain ⟨k, hk, rfl, hx, hbw⟩ := hrel
      have HX := hide hx
      have HBW := hide hbw
      clear hx
      by_cases hlt : k < n
      · have hlt' : (k : Int) < (n : Int) := by omega
        have i0 : (0 : Int) ≤ (k : Int) := by omega
        obtain ⟨e, he⟩ : ∃ e, l.getD k e0 = e := ⟨_, rfl⟩
        obtain ⟨f, hf⟩ : ∃ f, m.getD k e0 = f := ⟨_, rfl⟩
        obtain ⟨xb, xo, rfl, hxb, a0, a1, a2, a3⟩ := HA.out.at_ (by rw [HN.out.1]; exact hlt) he
        obtain ⟨yb, yo, rfl, hyb, b0, b1, b2, b3⟩ := HB.out.at_ (by rw [HN.out.2]; exact hlt) hf
        have HE := hide (And.intro he hf)
        clear he hf
        obtain ⟨x0, x1, x2, x3⟩ := e
        obtain ⟨y0, y1, y2, y3⟩ := f
        dsimp only at a0 a1 a2 a3 b0 b1 b2 b3
        have HS : Hid (∀ W, Below w.heap.size w W → (W.cell? ⟨xb, xo + k * 4, none⟩ = some (.int .i64 x0) ∧ W.cell? ⟨xb, xo + k * 4 + 1, none⟩ = some (.int .i64 x1) ∧ W.cell? ⟨xb, xo + k * 4 + 2, none⟩ = some (.string x2) ∧ W.cell? ⟨xb, xo + k * 4 + 3, none⟩ = some (.string x3)) ∧ (W.cell? ⟨yb, yo + k * 4, none⟩ = some (.int .i64 y0) ∧ W.cell? ⟨yb, yo + k * 4 + 1, none⟩ = some (.int .i64 y1) ∧ W.cell? ⟨yb, yo + k * 4 + 2, none⟩ = some (.string y2) ∧ W.cell? ⟨yb, yo + k * 4 + 3, none⟩ = some (.string y3))) := hide fun W h =>
          ⟨⟨(h.cell (p := ⟨xb, xo + k * 4, none⟩) hxb).trans a0, (h.cell (p := ⟨xb, xo + k * 4 + 1, none⟩) hxb).trans a1, (h.cell (p := ⟨xb, xo + k * 4 + 2, none⟩) hxb).trans a2, (h.cell (p := ⟨xb, xo + k * 4 + 3, none⟩) hxb).trans a3⟩,
           (h.cell (p := ⟨yb, yo + k * 4, none⟩) hyb).trans b0, (h.cell (p := ⟨yb, yo + k * 4 + 1, none⟩) hyb).trans b1, (h.cell (p := ⟨yb, yo + k * 4 + 2, none⟩) hyb).trans b2, (h.cell (p := ⟨yb, yo + k * 4 + 3, none⟩) hyb).trans b3⟩
        clear a0 a1 a2 a3 b0 b1 b2 b3 hbw
        go_upto_region 6 with fail
        have Bd := hide (HBW.out.trans ((Below.refl wr.heap.size wr).drew.mono HBW.out.size))
        refine wp_region_J (fun W : World => (W.cell? ⟨xb, xo + k * 4, none⟩ = some (.int .i64 x0) ∧ W.cell? ⟨xb, xo + k * 4 + 1, none⟩ = some (.int .i64 x1) ∧ W.cell? ⟨xb, xo + k * 4 + 2, none⟩ = some (.string x2) ∧ W.cell? ⟨xb, xo + k * 4 + 3, none⟩ = some (.string x3)) ∧ (W.cell? ⟨yb, yo + k * 4, none⟩ = some (.int .i64 y0) ∧ W.cell? ⟨yb, yo + k * 4 + 1, none⟩ = some (.int .i64 y1) ∧ W.cell? ⟨yb, yo + k * 4 + 2, none⟩ = some (.string y2) ∧ W.cell? ⟨yb, yo + k * 4 + 3, none⟩ = some (.string y3))) (by kernel_rfl) ?_
        generalize wr.drew = wd at Bd ⊢
        refine wpAnyJ_take 0 (v := ?_) (by first | exact hF | exact wideFn) (HS.out _ Bd.out) rfl (by kernel_rfl) (by kernel_rfl) (by kernel_rfl) (by kernel_rfl) rfl ?_ (by first | exact fun _ _ _ h => h | exact fun _ _ _ h => hQ2 _ _ _ _ _ h) ?_
        rotate_left
        · intro W hSW
          simp only [glA, glB, glC]
          (try dsimp only at hSW)
          go_simp
          with_reducible rfl
        (try simp only [glA, glB, glC, Act.put, glD, glE, glF])
        refine wpAnyJ_take 1 (v := ?_) (by first | exact hF | exact wideFn) (HS.out _ Bd.out) rfl (by kernel_rfl) (by kernel_rfl) (by kernel_rfl) (by kernel_rfl) rfl ?_ (by first | exact fun _ _ _ h => h | exact fun _ _ _ h => hQ2 _ _ _ _ _ h) ?_
        rotate_left
        · intro W hSW
          simp only [glA, glB, glC]
          (try dsimp only at hSW)
          go_simp
          with_reducible rfl
        (try simp only [glA, glB, glC, Act.put, glD, glE, glF])
        refine wpAnyJ_take 2 (v := ?_) (by first | exact hF | exact wideFn) (HS.out _ Bd.out) rfl (by kernel_rfl) (by kernel_rfl) (by kernel_rfl) (by kernel_rfl) rfl ?_ (by first | exact fun _ _ _ h => h | exact fun _ _ _ h => hQ2 _ _ _ _ _ h) ?_
        rotate_left
        · intro W hSW
          simp only [glA, glB, glC]
          (try dsimp only at hSW)
          go_simp
          with_reducible rfl
        (try simp only [glA, glB, glC, Act.put, glD, glE, glF])
        refine wpAnyJ_take 3 (v := ?_) (by first | exact hF | exact wideFn) (HS.out _ Bd.out) rfl (by kernel_rfl) (by kernel_rfl) (by kernel_rfl) (by kernel_rfl) rfl ?_ (by first | exact fun _ _ _ h => h | exact fun _ _ _ h => hQ2 _ _ _ _ _ h) ?_
        rotate_left
        · intro W hSW
          simp only [glA, glB, glC]
          (try dsimp only at hSW)
          go_simp
          with_reducible rfl
        (try simp only [glA, glB, glC, Act.put, glD, glE, glF])
        refine wpAnyJ_take 4 (v := ?_) (by first | exact hF | exact wideFn) (HS.out _ Bd.out) rfl (by kernel_rfl) (by kernel_rfl) (by kernel_rfl) (by kernel_rfl) rfl ?_ (by first | exact fun _ _ _ h => h | exact fun _ _ _ h => hQ2 _ _ _ _ _ h) ?_
        rotate_left
        · intro W hSW
          simp only [glA, glB, glC]
          (try dsimp only at hSW)
          go_simp
          with_reducible rfl
        (try simp only [glA, glB, glC, Act.put, glD, glE, glF])
        refine wpAnyJ_take 5 (v := ?_) (by first | exact hF | exact wideFn) (HS.out _ Bd.out) rfl (by kernel_rfl) (by kernel_rfl) (by kernel_rfl) (by kernel_rfl) rfl ?_ (by first | exact fun _ _ _ h => h | exact fun _ _ _ h => hQ2 _ _ _ _ _ h) ?_
        rotate_left
        · intro W hSW
          simp only [glA, glB, glC]
          (try dsimp only at hSW)
          go_simp
          with_reducible rfl
        (try simp only [glA, glB, glC, Act.put, glD, glE, glF])
        refine wpAnyJ_take 6 (v := ?_) (by first | exact hF | exact wideFn) (HS.out _ Bd.out) rfl (by kernel_rfl) (by kernel_rfl) (by kernel_rfl) (by kernel_rfl) rfl ?_ (by first | exact fun _ _ _ h => h | exact fun _ _ _ h => hQ2 _ _ _ _ _ h) ?_
        rotate_left
        · intro W hSW
          simp only [glA, glB, glC]
          (try dsimp only at hSW)
          go_simp
          with_reducible rfl
        (try simp only [glA, glB, glC, Act.put, glD, glE, glF])
        refine wpAnyJ_take 7 (v := ?_) (by first | exact hF | exact wideFn) (HS.out _ Bd.out) rfl (by kernel_rfl) (by kernel_rfl) (by kernel_rfl) (by kernel_rfl) rfl ?_ (by first | exact fun _ _ _ h => h | exact fun _ _ _ h => hQ2 _ _ _ _ _ h) ?_
        rotate_left
        · intro W hSW
          simp only [glA, glB, glC]
          (try dsimp only at hSW)
          go_simp
          with_reducible rfl
        (try simp only [glA, glB, glC, Act.put, glD, glE, glF])
        by_cases q0 : x0 = y0
        · by_cases q1 : x1 = y1
          · by_cases q2 : x2 = y2
            · by_cases q3 : x3 = y3
              · subst q0 q1 q2 q3
                refine wpAnyJ_take 8 (v := ?_) (by first | exact hF | exact wideFn) (HS.out _ Bd.out) rfl (by kernel_rfl) (by kernel_rfl) (by kernel_rfl) (by kernel_rfl) rfl ?_ (by first | exact fun _ _ _ h => h | exact fun _ _ _ h => hQ2 _ _ _ _ _ h) ?_
                rotate_left
                · intro W hSW
                  simp only [glA, glB, glC]
                  (try dsimp only at hSW)
                  go_simp
                  with_reducible rfl
                (try simp only [glA, glB, glC, Act.put, glD, glE, glF])
                refine wpAnyJ_done (by kernel_rfl) ?_
                go_wp2_with fail
                go_roundw
                case rel => exact ⟨k + 1, by omega, by go_num, fun j hj => by
                  rcases (by omega : j < k ∨ j = k) with h | h
                  · exact HX.out j h
                  · rw [h, HE.out.1, HE.out.2], Bd.out⟩
                case measure => simp [intOf]; omega
              · have q3' := str_ne q3
                refine wpAnyJ_take 8 (v := ?_) (by first | exact hF | exact wideFn) (HS.out _ Bd.out) rfl (by kernel_rfl) (by kernel_rfl) (by kernel_rfl) (by kernel_rfl) rfl ?_ (by first | exact fun _ _ _ h => h | exact fun _ _ _ h => hQ2 _ _ _ _ _ h) ?_
                rotate_left
                · intro W hSW
                  simp only [glA, glB, glC]
                  (try dsimp only at hSW)
                  go_simp
                  with_reducible rfl
                (try simp only [glA, glB, glC, Act.put, glD, glE, glF])
                refine wpAnyJ_done (by kernel_rfl) ?_
                go_wp2_with fail
                go_ret
                refine ⟨ret_bool ?_, Bd.out⟩
                have hne : ¬ l = m := fun e => by
                  have h1 := HE.out.1
                  rw [e, HE.out.2] at h1
                  injection h1 with h0 h1 h2 h3
                  exact q3 h3.symm
                simp [hne]
            · have q2' := str_ne q2
              refine wpAnyJ_take 8 (v := ?_) (by first | exact hF | exact wideFn) (HS.out _ Bd.out) rfl (by kernel_rfl) (by kernel_rfl) (by kernel_rfl) (by kernel_rfl) rfl ?_ (by first | exact fun _ _ _ h => h | exact fun _ _ _ h => hQ2 _ _ _ _ _ h) ?_
              rotate_left
              · intro W hSW
                simp only [glA, glB, glC]
                (try dsimp only at hSW)
                go_simp
                with_reducible rfl
              (try simp only [glA, glB, glC, Act.put, glD, glE, glF])
              refine wpAnyJ_done (by kernel_rfl) ?_
              go_wp2_with fail
              go_ret
              refine ⟨ret_bool ?_, Bd.out⟩
              have hne : ¬ l = m := fun e => by
                have h1 := HE.out.1
                rw [e, HE.out.2] at h1
                injection h1 with h0 h1 h2 h3
                exact q2 h2.symm
              simp [hne]
          · refine wpAnyJ_take 8 (v := ?_) (by first | exact hF | exact wideFn) (HS.out _ Bd.out) rfl (by kernel_rfl) (by kernel_rfl) (by kernel_rfl) (by kernel_rfl) rfl ?_ (by first | exact fun _ _ _ h => h | exact fun _ _ _ h => hQ2 _ _ _ _ _ h) ?_
            rotate_left
            · intro W hSW
              simp only [glA, glB, glC]
              (try dsimp only at hSW)
              go_simp
              with_reducible rfl
            (try simp only [glA, glB, glC, Act.put, glD, glE, glF])
            refine wpAnyJ_done (by kernel_rfl) ?_
            go_wp2_with fail
            go_ret
            refine ⟨ret_bool ?_, Bd.out⟩
            have hne : ¬ l = m := fun e => by
              have h1 := HE.out.1
              rw [e, HE.out.2] at h1
              injection h1 with h0 h1 h2 h3
              exact q1 h1.symm
            simp [hne]
        · refine wpAnyJ_take 8 (v := ?_) (by first | exact hF | exact wideFn) (HS.out _ Bd.out) rfl (by kernel_rfl) (by kernel_rfl) (by kernel_rfl) (by kernel_rfl) rfl ?_ (by first | exact fun _ _ _ h => h | exact fun _ _ _ h => hQ2 _ _ _ _ _ h) ?_
          rotate_left
          · intro W hSW
            simp only [glA, glB, glC]
            (try dsimp only at hSW)
            go_simp
            with_reducible rfl
          (try simp only [glA, glB, glC, Act.put, glD, glE, glF])
          refine wpAnyJ_done (by kernel_rfl) ?_
          go_wp2_with fail
          go_ret
          refine ⟨ret_bool ?_, Bd.out⟩
          have hne : ¬ l = m := fun e => by
            have h1 := HE.out.1
            rw [e, HE.out.2] at h1
            injection h1 with h0 h1 h2 h3
            exact q0 h0.symm
          simp [hne]
      · obtain rfl : k = n := by omega
        go_wp2_with fail
        go_ret
        refine ⟨ret_bool ?_, HBW.out⟩
        have : l = m := getD_all (by rw [HN.out.1, HN.out.2]) (by rw [HN.out.1]; exact HX.out)
        simp [this]
  · have hne : ¬ ((l.length : Int) = (m.length : Int)) := by omega
    have hd : decide (l = m) = false := by
      rw [decide_eq_false_iff_not]; intro h; exact hlm (by rw [h])
    rw [hd]
    clear hd
    generalize l.length = n1 at *
    generalize m.length = n2 at *
    go_enter Tryd.func20, Tryd.ntmps20
    go_wp2_with fail
    go_ret
    exact ⟨rfl, Below.refl _ _⟩
theorem getD_allW {l m : List Wd} (hl : l.length = m.length) (h : ∀ k, k < l.length → l.getD k noW = m.getD k noW) : l = m := by
  apply List.ext_getElem hl
  intro k h1 h2
  have := h k h1
  rwa [List.getD_eq_getElem?_getD, List.getD_eq_getElem?_getD, List.getElem?_eq_getElem h1, List.getElem?_eq_getElem h2] at this
theorem same_any (A B : Option Addr) (c d : Nat) (l m : List Wd) (w : World) (hl : l.length ≤ maxLen) (hA : SR w w.heap.size A l) (hB : SR w w.heap.size B m) :
    Calls Tryd.prog 18 #[.slice A l.length c, .slice B m.length d] w fun e w' => e = .returned (.bool (decide (l = m))) ∧ Below w.heap.size w w' := by
  unfold maxLen at hl
  have HA := hide hA
  have HB := hide hB
  clear hA hB
  by_cases hlm : l.length = m.length
  · obtain ⟨n, hn⟩ : ∃ n, l.length = n := ⟨_, rfl⟩
    have hm : m.length = n := by omega
    have HN := hide (And.intro hn hm)
    rw [hn] at hl
    rw [hn, hm]
    clear hlm hn hm
    go_enter Tryd.func18, Tryd.ntmps18
    go_wp2_with fail
    go_loopw [5] (fun i wr => ∃ k : Nat, k ≤ n ∧ i = .int .i64 k ∧ (∀ j, j < k → l.getD j noW = m.getD j noW) ∧ Below w.heap.size w wr) (fun i _ => n - (intOf i).toNat)
    case atStart => exact ⟨0, Nat.zero_le _, rfl, fun j hj => absurd hj (by omega), Below.refl _ _⟩
    case round =>
      obtain ⟨k, hk, rfl, hx, hbw⟩ := hrel
      have HX := hide hx
      have HBW := hide hbw
      clear hx
      by_cases hlt : k < n
      · have hlt' : (k : Int) < (n : Int) := by omega
        have i0 : (0 : Int) ≤ (k : Int) := by omega
        obtain ⟨x, he⟩ : ∃ e, l.getD k noW = e := ⟨_, rfl⟩
        obtain ⟨y, hf⟩ : ∃ f, m.getD k noW = f := ⟨_, rfl⟩
        obtain ⟨xb, xo, rfl, hxb, a0⟩ := VR1.at_ HA.out (by rw [HN.out.1]; exact hlt)
        obtain ⟨yb, yo, rfl, hyb, b0⟩ := VR1.at_ HB.out (by rw [HN.out.2]; exact hlt)
        rw [he] at a0
        rw [hf] at b0
        have HE := hide (And.intro he hf)
        clear he hf
        have HS : Hid (∀ W, Below w.heap.size w W → W.cell? ⟨xb, xo + k, none⟩ = some (.string x) ∧ W.cell? ⟨yb, yo + k, none⟩ = some (.string y)) := hide fun W h =>
          ⟨(h.cell (p := ⟨xb, xo + k, none⟩) hxb).trans a0, (h.cell (p := ⟨yb, yo + k, none⟩) hyb).trans b0⟩
        clear a0 b0 hbw
        go_upto_region 6 with fail
        have Bd := hide (HBW.out.trans ((Below.refl wr.heap.size wr).drew.mono HBW.out.size))
        refine wp_region_J (fun W : World => W.cell? ⟨xb, xo + k, none⟩ = some (.string x) ∧ W.cell? ⟨yb, yo + k, none⟩ = some (.string y)) (by kernel_rfl) ?_
        generalize wr.drew = wd at Bd ⊢
        refine wpAnyJ_take 0 (v := ?_) (by first | exact hF | exact wideFn) (HS.out _ Bd.out) rfl (by kernel_rfl) (by kernel_rfl) (by kernel_rfl) (by kernel_rfl) rfl ?_ (by first | exact fun _ _ _ h => h | exact fun _ _ _ h => hQ2 _ _ _ _ _ h) ?_
        rotate_left
        · intro W hSW
          simp only [glA, glB, glC]
          (try dsimp only at hSW)
          go_simp
          with_reducible rfl
        (try simp only [glA, glB, glC, Act.put, glD, glE, glF])
        refine wpAnyJ_take 1 (v := ?_) (by first | exact hF | exact wideFn) (HS.out _ Bd.out) rfl (by kernel_rfl) (by kernel_rfl) (by kernel_rfl) (by kernel_rfl) rfl ?_ (by first | exact fun _ _ _ h => h | exact fun _ _ _ h => hQ2 _ _ _ _ _ h) ?_
        rotate_left
        · intro W hSW
          simp only [glA, glB, glC]
          (try dsimp only at hSW)
          go_simp
          with_reducible rfl
        (try simp only [glA, glB, glC, Act.put, glD, glE, glF])
        refine wpAnyJ_take 2 (v := ?_) (by first | exact hF | exact wideFn) (HS.out _ Bd.out) rfl (by kernel_rfl) (by kernel_rfl) (by kernel_rfl) (by kernel_rfl) rfl ?_ (by first | exact fun _ _ _ h => h | exact fun _ _ _ h => hQ2 _ _ _ _ _ h) ?_
        rotate_left
        · intro W hSW
          simp only [glA, glB, glC]
          (try dsimp only at hSW)
          go_simp
          with_reducible rfl
        (try simp only [glA, glB, glC, Act.put, glD, glE, glF])
        refine wpAnyJ_take 3 (v := ?_) (by first | exact hF | exact wideFn) (HS.out _ Bd.out) rfl (by kernel_rfl) (by kernel_rfl) (by kernel_rfl) (by kernel_rfl) rfl ?_ (by first | exact fun _ _ _ h => h | exact fun _ _ _ h => hQ2 _ _ _ _ _ h) ?_
        rotate_left
        · intro W hSW
          simp only [glA, glB, glC]
          (try dsimp only at hSW)
          go_simp
          with_reducible rfl
        (try simp only [glA, glB, glC, Act.put, glD, glE, glF])
        refine wpAnyJ_take 4 (v := ?_) (by first | exact hF | exact wideFn) (HS.out _ Bd.out) rfl (by kernel_rfl) (by kernel_rfl) (by kernel_rfl) (by kernel_rfl) rfl ?_ (by first | exact fun _ _ _ h => h | exact fun _ _ _ h => hQ2 _ _ _ _ _ h) ?_
        rotate_left
        · intro W hSW
          simp only [glA, glB, glC]
          (try dsimp only at hSW)
          go_simp
          with_reducible rfl
        (try simp only [glA, glB, glC, Act.put, glD, glE, glF])
        refine wpAnyJ_take 5 (v := ?_) (by first | exact hF | exact wideFn) (HS.out _ Bd.out) rfl (by kernel_rfl) (by kernel_rfl) (by kernel_rfl) (by kernel_rfl) rfl ?_ (by first | exact fun _ _ _ h => h | exact fun _ _ _ h => hQ2 _ _ _ _ _ h) ?_
        rotate_left
        · intro W hSW
          simp only [glA, glB, glC]
          (try dsimp only at hSW)
          go_simp
          with_reducible rfl
        (try simp only [glA, glB, glC, Act.put, glD, glE, glF])
        refine wpAnyJ_take 6 (v := ?_) (by first | exact hF | exact wideFn) (HS.out _ Bd.out) rfl (by kernel_rfl) (by kernel_rfl) (by kernel_rfl) (by kernel_rfl) rfl ?_ (by first | exact fun _ _ _ h => h | exact fun _ _ _ h => hQ2 _ _ _ _ _ h) ?_
        rotate_left
        · intro W hSW
          simp only [glA, glB, glC]
          (try dsimp only at hSW)
          go_simp
          with_reducible rfl
        (try simp only [glA, glB, glC, Act.put, glD, glE, glF])
        refine wpAnyJ_take 7 (v := ?_) (by first | exact hF | exact wideFn) (HS.out _ Bd.out) rfl (by kernel_rfl) (by kernel_rfl) (by kernel_rfl) (by kernel_rfl) rfl ?_ (by first | exact fun _ _ _ h => h | exact fun _ _ _ h => hQ2 _ _ _ _ _ h) ?_
        rotate_left
        · intro W hSW
          simp only [glA, glB, glC]
          (try dsimp only at hSW)
          go_simp
          with_reducible rfl
        (try simp only [glA, glB, glC, Act.put, glD, glE, glF])
        by_cases q : x = y
        · subst q
          refine wpAnyJ_take 8 (v := ?_) (by first | exact hF | exact wideFn) (HS.out _ Bd.out) rfl (by kernel_rfl) (by kernel_rfl) (by kernel_rfl) (by kernel_rfl) rfl ?_ (by first | exact fun _ _ _ h => h | exact fun _ _ _ h => hQ2 _ _ _ _ _ h) ?_
          rotate_left
          · intro W hSW
            simp only [glA, glB, glC]
            (try dsimp only at hSW)
            go_simp
            with_reducible rfl
          (try simp only [glA, glB, glC, Act.put, glD, glE, glF])
          refine wpAnyJ_done (by kernel_rfl) ?_
          go_wp2_with fail
          go_roundw
          case rel => exact ⟨k + 1, by omega, by go_num, fun j hj => by
            rcases (by omega : j < k ∨ j = k) with h | h
            · exact HX.out j h
            · rw [h, HE.out.1, HE.out.2], Bd.out⟩
          case measure => simp [intOf]; omega
        · have q1 := str_ne q
          refine wpAnyJ_take 8 (v := ?_) (by first | exact hF | exact wideFn) (HS.out _ Bd.out) rfl (by kernel_rfl) (by kernel_rfl) (by kernel_rfl) (by kernel_rfl) rfl ?_ (by first | exact fun _ _ _ h => h | exact fun _ _ _ h => hQ2 _ _ _ _ _ h) ?_
          rotate_left
          · intro W hSW
            simp only [glA, glB, glC]
            (try dsimp only at hSW)
            go_simp
            with_reducible rfl
          (try simp only [glA, glB, glC, Act.put, glD, glE, glF])
          refine wpAnyJ_done (by kernel_rfl) ?_
          go_wp2_with fail
          go_ret
          refine ⟨ret_bool ?_, Bd.out⟩
          have hne : ¬ l = m := fun e => by
            have h1 := HE.out.1
            rw [e, HE.out.2] at h1
            exact q h1.symm
          simp [hne]
      · obtain rfl : k = n := by omega
        go_wp2_with fail
        go_ret
        refine ⟨ret_bool ?_, HBW.out⟩
        have : l = m := getD_allW (by rw [HN.out.1, HN.out.2]) (by rw [HN.out.1]; exact HX.out)
        simp [this]
  · have hne : ¬ ((l.length : Int) = (m.length : Int)) := by omega
    have hd : decide (l = m) = false := by
      rw [decide_eq_false_iff_not]; intro h; exact hlm (by rw [h])
    rw [hd]
    clear hd
    generalize l.length = n1 at *
    generalize m.length = n2 at *
    go_enter Tryd.func18, Tryd.ntmps18
    go_wp2_with fail
    go_ret
    exact ⟨rfl, Below.refl _ _⟩
/-- more than is looked at -/
def lgB (l : List Wd) : Bool := decide (25 < l.length) || l.any fun x => decide (20 < x.size)
theorem lgB_no {l : List Wd} (h : lgB l = false) : l.length ≤ 25 ∧ ∀ x ∈ l, x.size ≤ 20 := by
  unfold lgB at h
  rw [Bool.or_eq_false_iff] at h
  have h1 := of_decide_eq_false h.1
  refine ⟨by omega, fun x hx => ?_⟩
  have h2 := List.any_eq_false.1 h.2 x hx
  simp at h2
  exact h2
theorem long_any (A : Option Addr) (c : Nat) (l : List Wd) (w : World) (hl : SzOk l) (hA : SR w w.heap.size A l) :
    Calls Tryd.prog 14 #[.slice A l.length c] w fun e w' => e = .returned (.bool (lgB l)) ∧ w = w' := by
  have hl1 := hl.1
  unfold maxLen at hl1
  have HA := hide hA
  have HL := hide hl
  obtain ⟨n, hn⟩ : ∃ n, l.length = n := ⟨_, rfl⟩
  have HN := hide hn
  rw [hn] at hl1 ⊢
  clear hA hl hn
  go_enter Tryd.func14, Tryd.ntmps14
  go_wp2_with fail
  go_loopw [3] (fun i wr => ∃ k : Nat, k ≤ n ∧ k ≤ 26 ∧ i = .int .i64 k ∧ Hid (∀ j, j < k → (l.getD j noW).size ≤ 20) ∧ Hid (w = wr)) (fun i _ => n - (intOf i).toNat)
  case atStart => exact ⟨0, Nat.zero_le _, by omega, rfl, hide (fun j hj => absurd hj (by omega)), hide rfl⟩
  case round =>
    obtain ⟨k, hk, hk26, rfl, HX, HW⟩ := hrel
    obtain rfl := HW.out
    by_cases hlt : k < n
    · have hlt' : (k : Int) < (n : Int) := by omega
      by_cases h26 : k < 26
      · have h26' : (k : Int) < 26 := by omega
        have i0 : (0 : Int) ≤ (k : Int) := by omega
        have hkl : k < l.length := by rw [HN.out]; exact hlt
        obtain ⟨b, off, rfl, hb, hc⟩ := VR1.at_ HA.out hkl
        obtain ⟨x, hx⟩ : ∃ x, l.getD k noW = x := ⟨_, rfl⟩
        have hxm := HL.out.at_ k
        rw [hx] at hc hxm
        unfold maxLen at hxm
        by_cases h20 : 20 < x.size
        · have h20' : (20 : Int) < (x.size : Int) := by omega
          have hg : lgB l = true := by
            unfold lgB
            rw [Bool.or_eq_true]
            refine .inr (List.any_eq_true.2 ⟨x, ?_, by simpa using h20⟩)
            rw [← hx, List.getD_eq_getElem?_getD, List.getElem?_eq_getElem hkl]
            exact List.getElem_mem hkl
          have HG := hide hg
          clear hg hx h20
          go_wp2_with fail
          go_ret
          exact ⟨ret_bool HG.out.symm, rfl⟩
        · have h20' : ¬ (20 : Int) < (x.size : Int) := by omega
          have HX2 : Hid (∀ j, j < k + 1 → (l.getD j noW).size ≤ 20) := hide (fun j hj => by
            rcases (by omega : j < k ∨ j = k) with h | rfl
            · exact HX.out j h
            · rw [hx]; omega)
          clear hx h20
          go_wp2_with fail
          go_roundw
          case rel => exact ⟨k + 1, by omega, by omega, by go_num, HX2, by first | trivial | exact hide rfl⟩
          case measure => simp [intOf]; omega
      · have h26' : ¬ (k : Int) < 26 := by omega
        have h25 : (25 : Int) < (n : Int) := by omega
        have hg : lgB l = true := by
          unfold lgB
          rw [Bool.or_eq_true, HN.out]
          exact .inl (by simp; omega)
        have HG := hide hg
        clear hg
        go_wp2_with fail
        go_ret
        exact ⟨ret_bool HG.out.symm, rfl⟩
    · obtain rfl : k = n := by omega
      have hnl : ¬ (k : Int) < (k : Int) := by omega
      have hg : lgB l = decide (25 < (k : Int)) := by
        unfold lgB
        have h2 : (l.any fun x => decide (20 < x.size)) = false := by
          rw [List.any_eq_false]
          intro x hx
          obtain ⟨j, hj, rfl⟩ := List.getElem_of_mem hx
          have := HX.out j (by rw [← HN.out]; exact hj)
          rw [List.getD_eq_getElem?_getD, List.getElem?_eq_getElem hj] at this
          have h3 : l[j].size ≤ 20 := this
          simp; exact h3
        rw [h2, Bool.or_false, HN.out]
        rw [Bool.eq_iff_iff]; simp; omega
      have HG := hide hg
      clear hg
      go_wp2_with fail
      go_ret
      exact ⟨ret_bool (by rw [HG.out]), rfl⟩
theorem OwnS.made0 (W : World) : OwnS (W.alloc (.cells #[] 9)) W.heap.size (.slice (some ⟨W.heap.size, 0, none⟩) 0 0) [] :=
  World.ownsRow_made W #[] 0 (Nat.le_refl _) (by unfold maxLen; omega) rfl
theorem words_any (A : Option Addr) (c : Nat) (l : List Wd) (w : World) (hl : l.length ≤ 100000) (hA : SR w w.heap.size A l) :
    Calls Tryd.prog 16 #[.slice A l.length c] w fun e w' => ∃ v, e = .returned v ∧ OwnS w' w.heap.size v l ∧ Below w.heap.size w w' := by
  have hB0 : Below w.heap.size w (w.alloc (.cells #[] 9)) := (Below.refl _ _).alloc (Nat.le_refl _) _
  obtain ⟨v', w', hrun, ho, hg, -⟩ := (OwnS.made0 w).pushes A c l ((ER.below hA hB0 (Nat.le_refl _)).more hB0.size) (by simp; omega) hB0.size
  rw [List.nil_append] at ho
  have HRUN := hide hrun
  have HO := hide (And.intro ho (hB0.grown hg hB0.size (fun k hk => (World.ownsRow.lt (OwnS.made0 w) k hk).1)))
  clear hrun ho hg hB0 hA
  generalize l.length = n at HRUN ⊢
  go_enter Tryd.func16, Tryd.ntmps16
  go_wp2_with (at_builtin; refine wpList_append_run rfl (.tmp 3) (.tmp 4) 22 rfl rfl rfl HRUN.out ?_)
  go_ret
  exact ⟨_, rfl, HO.out.1, HO.out.2⟩
end Go.Proofs.YtmpegkojencbjaaDoor
/- School: numbers, equal; the reference's Copies. -/
namespace Go.Proofs.YtmpegkojencbjaaDoor
open List renaming getElem_toArray → glA, getElem_cons_zero → glB, getElem_cons_succ → glC, setIfInBounds_toArray → glD, set_cons_zero → glE, set_cons_succ → glF
open Go Go.RowKit Go.Shelf
set_option maxHeartbeats 4000000
set_option maxRecDepth 100000
theorem numbers_any (A : Option Addr) (c : Nat) (l : List Int) (w : World) (hl : l.length ≤ 100000) (hA : LI w w.heap.size A l) :
    Calls Tryd.prog 24 #[.slice A l.length c] w fun e w' => ∃ v, e = .returned v ∧ OwnJ w' w.heap.size v l ∧ Below w.heap.size w w' := by
  have hB0 : Below w.heap.size w (w.alloc (.cells #[] 3)) := (Below.refl _ _).alloc (Nat.le_refl _) _
  obtain ⟨v', w', hrun, ho, hg, -⟩ := (OwnJ.made0 w).pushes A c l ((ER.below hA hB0 (Nat.le_refl _)).more hB0.size) (by simp; omega) hB0.size
  rw [List.nil_append] at ho
  have HRUN := hide hrun
  have HO := hide (And.intro ho (hB0.grown hg hB0.size (fun k hk => (World.ownsRow.lt (OwnJ.made0 w) k hk).1)))
  clear hrun ho hg hB0 hA
  generalize l.length = n at HRUN ⊢
  go_enter Tryd.func24, Tryd.ntmps24
  go_wp2_with (at_builtin; refine wpList_append_run rfl (.tmp 3) (.tmp 4) 36 rfl rfl rfl HRUN.out ?_)
  go_ret
  exact ⟨_, rfl, HO.out.1, HO.out.2⟩
theorem equal_any (A B : Option Addr) (c d : Nat) (l m : List Int) (w : World) (hl : l.length ≤ maxLen) (hA : LI w w.heap.size A l) (hB : LI w w.heap.size B m) :
    Calls Tryd.prog 26 #[.slice A l.length c, .slice B m.length d] w fun e w' => e = .returned (.bool (decide (l = m))) ∧ Below w.heap.size w w' := by
  unfold maxLen at hl
  have HA := hide hA
  have HB := hide hB
  clear hA hB
  by_cases hlm : l.length = m.length
  · obtain ⟨n, hn⟩ : ∃ n, l.length = n := ⟨_, rfl⟩
    have hm : m.length = n := by omega
    have HN := hide (And.intro hn hm)
    rw [hn] at hl
    rw [hn, hm]
    clear hlm hn hm
    go_enter Tryd.func26, Tryd.ntmps26
    go_wp2_with fail
    go_loopw [5] (fun i wr => ∃ k : Nat, k ≤ n ∧ i = .int .i64 k ∧ (∀ j, j < k → l.getD j 0 = m.getD j 0) ∧ Below w.heap.size w wr) (fun i _ => n - (intOf i).toNat)
    case atStart => exact ⟨0, Nat.zero_le _, rfl, fun j hj => absurd hj (by omega), Below.refl _ _⟩
    case round =>
      obtain ⟨k, hk, rfl, hx, hbw⟩ := hrel
      have HX := hide hx
      have HBW := hide hbw
      clear hx
      by_cases hlt : k < n
      · have hlt' : (k : Int) < (n : Int) := by omega
        have i0 : (0 : Int) ≤ (k : Int) := by omega
        obtain ⟨x, hx⟩ : ∃ e, l.getD k 0 = e := ⟨_, rfl⟩
        obtain ⟨y, hy⟩ : ∃ f, m.getD k 0 = f := ⟨_, rfl⟩
        obtain ⟨xb, xo, rfl, hxb, a0⟩ := VR1.at_ HA.out (by rw [HN.out.1]; exact hlt)
        obtain ⟨yb, yo, rfl, hyb, b0⟩ := VR1.at_ HB.out (by rw [HN.out.2]; exact hlt)
        rw [hx] at a0
        rw [hy] at b0
        have HE := hide (And.intro hx hy)
        clear hx hy
        have HS : Hid (∀ W, Below w.heap.size w W → W.cell? ⟨xb, xo + k, none⟩ = some (.int .i64 x) ∧ W.cell? ⟨yb, yo + k, none⟩ = some (.int .i64 y)) := hide fun W h =>
          ⟨(h.cell (p := ⟨xb, xo + k, none⟩) hxb).trans a0, (h.cell (p := ⟨yb, yo + k, none⟩) hyb).trans b0⟩
        clear a0 b0 hbw
        go_upto_region 6 with fail
        have Bd := hide (HBW.out.trans ((Below.refl wr.heap.size wr).drew.mono HBW.out.size))
        refine wp_region_J (fun W : World => W.cell? ⟨xb, xo + k, none⟩ = some (.int .i64 x) ∧ W.cell? ⟨yb, yo + k, none⟩ = some (.int .i64 y)) (by kernel_rfl) ?_
        generalize wr.drew = wd at Bd ⊢
        refine wpAnyJ_take 0 (v := ?_) (by first | exact hF | exact wideFn) (HS.out _ Bd.out) rfl (by kernel_rfl) (by kernel_rfl) (by kernel_rfl) (by kernel_rfl) rfl ?_ (by first | exact fun _ _ _ h => h | exact fun _ _ _ h => hQ2 _ _ _ _ _ h) ?_
        rotate_left
        · intro W hSW
          simp only [glA, glB, glC]
          (try dsimp only at hSW)
          go_simp
          with_reducible rfl
        (try simp only [glA, glB, glC, Act.put, glD, glE, glF])
        refine wpAnyJ_take 1 (v := ?_) (by first | exact hF | exact wideFn) (HS.out _ Bd.out) rfl (by kernel_rfl) (by kernel_rfl) (by kernel_rfl) (by kernel_rfl) rfl ?_ (by first | exact fun _ _ _ h => h | exact fun _ _ _ h => hQ2 _ _ _ _ _ h) ?_
        rotate_left
        · intro W hSW
          simp only [glA, glB, glC]
          (try dsimp only at hSW)
          go_simp
          with_reducible rfl
        (try simp only [glA, glB, glC, Act.put, glD, glE, glF])
        refine wpAnyJ_take 2 (v := ?_) (by first | exact hF | exact wideFn) (HS.out _ Bd.out) rfl (by kernel_rfl) (by kernel_rfl) (by kernel_rfl) (by kernel_rfl) rfl ?_ (by first | exact fun _ _ _ h => h | exact fun _ _ _ h => hQ2 _ _ _ _ _ h) ?_
        rotate_left
        · intro W hSW
          simp only [glA, glB, glC]
          (try dsimp only at hSW)
          go_simp
          with_reducible rfl
        (try simp only [glA, glB, glC, Act.put, glD, glE, glF])
        refine wpAnyJ_take 3 (v := ?_) (by first | exact hF | exact wideFn) (HS.out _ Bd.out) rfl (by kernel_rfl) (by kernel_rfl) (by kernel_rfl) (by kernel_rfl) rfl ?_ (by first | exact fun _ _ _ h => h | exact fun _ _ _ h => hQ2 _ _ _ _ _ h) ?_
        rotate_left
        · intro W hSW
          simp only [glA, glB, glC]
          (try dsimp only at hSW)
          go_simp
          with_reducible rfl
        (try simp only [glA, glB, glC, Act.put, glD, glE, glF])
        refine wpAnyJ_take 4 (v := ?_) (by first | exact hF | exact wideFn) (HS.out _ Bd.out) rfl (by kernel_rfl) (by kernel_rfl) (by kernel_rfl) (by kernel_rfl) rfl ?_ (by first | exact fun _ _ _ h => h | exact fun _ _ _ h => hQ2 _ _ _ _ _ h) ?_
        rotate_left
        · intro W hSW
          simp only [glA, glB, glC]
          (try dsimp only at hSW)
          go_simp
          with_reducible rfl
        (try simp only [glA, glB, glC, Act.put, glD, glE, glF])
        refine wpAnyJ_take 5 (v := ?_) (by first | exact hF | exact wideFn) (HS.out _ Bd.out) rfl (by kernel_rfl) (by kernel_rfl) (by kernel_rfl) (by kernel_rfl) rfl ?_ (by first | exact fun _ _ _ h => h | exact fun _ _ _ h => hQ2 _ _ _ _ _ h) ?_
        rotate_left
        · intro W hSW
          simp only [glA, glB, glC]
          (try dsimp only at hSW)
          go_simp
          with_reducible rfl
        (try simp only [glA, glB, glC, Act.put, glD, glE, glF])
        refine wpAnyJ_take 6 (v := ?_) (by first | exact hF | exact wideFn) (HS.out _ Bd.out) rfl (by kernel_rfl) (by kernel_rfl) (by kernel_rfl) (by kernel_rfl) rfl ?_ (by first | exact fun _ _ _ h => h | exact fun _ _ _ h => hQ2 _ _ _ _ _ h) ?_
        rotate_left
        · intro W hSW
          simp only [glA, glB, glC]
          (try dsimp only at hSW)
          go_simp
          with_reducible rfl
        (try simp only [glA, glB, glC, Act.put, glD, glE, glF])
        refine wpAnyJ_take 7 (v := ?_) (by first | exact hF | exact wideFn) (HS.out _ Bd.out) rfl (by kernel_rfl) (by kernel_rfl) (by kernel_rfl) (by kernel_rfl) rfl ?_ (by first | exact fun _ _ _ h => h | exact fun _ _ _ h => hQ2 _ _ _ _ _ h) ?_
        rotate_left
        · intro W hSW
          simp only [glA, glB, glC]
          (try dsimp only at hSW)
          go_simp
          with_reducible rfl
        (try simp only [glA, glB, glC, Act.put, glD, glE, glF])
        by_cases q0 : x = y
        · subst q0
          refine wpAnyJ_take 8 (v := ?_) (by first | exact hF | exact wideFn) (HS.out _ Bd.out) rfl (by kernel_rfl) (by kernel_rfl) (by kernel_rfl) (by kernel_rfl) rfl ?_ (by first | exact fun _ _ _ h => h | exact fun _ _ _ h => hQ2 _ _ _ _ _ h) ?_
          rotate_left
          · intro W hSW
            simp only [glA, glB, glC]
            (try dsimp only at hSW)
            go_simp
            with_reducible rfl
          (try simp only [glA, glB, glC, Act.put, glD, glE, glF])
          refine wpAnyJ_done (by kernel_rfl) ?_
          go_wp2_with fail
          go_roundw
          case rel => exact ⟨k + 1, by omega, by go_num, fun j hj => by
            rcases (by omega : j < k ∨ j = k) with h | h
            · exact HX.out j h
            · rw [h, HE.out.1, HE.out.2], Bd.out⟩
          case measure => simp [intOf]; omega
        · have q1 := q0
          refine wpAnyJ_take 8 (v := ?_) (by first | exact hF | exact wideFn) (HS.out _ Bd.out) rfl (by kernel_rfl) (by kernel_rfl) (by kernel_rfl) (by kernel_rfl) rfl ?_ (by first | exact fun _ _ _ h => h | exact fun _ _ _ h => hQ2 _ _ _ _ _ h) ?_
          rotate_left
          · intro W hSW
            simp only [glA, glB, glC]
            (try dsimp only at hSW)
            go_simp
            with_reducible rfl
          (try simp only [glA, glB, glC, Act.put, glD, glE, glF])
          refine wpAnyJ_done (by kernel_rfl) ?_
          go_wp2_with fail
          go_ret
          refine ⟨ret_bool ?_, Bd.out⟩
          have hne : ¬ l = m := fun e => by
            have h1 := HE.out.1
            rw [e, HE.out.2] at h1
            exact q0 h1.symm
          simp [hne]
      · obtain rfl : k = n := by omega
        go_wp2_with fail
        go_ret
        refine ⟨ret_bool ?_, HBW.out⟩
        have : l = m := getD_allI (by rw [HN.out.1, HN.out.2]) (by rw [HN.out.1]; exact HX.out)
        simp [this]
  · have hne : ¬ ((l.length : Int) = (m.length : Int)) := by omega
    have hd : decide (l = m) = false := by
      rw [decide_eq_false_iff_not]; intro h; exact hlm (by rw [h])
    rw [hd]
    clear hd
    generalize l.length = n1 at *
    generalize m.length = n2 at *
    go_enter Tryd.func26, Tryd.ntmps26
    go_wp2_with fail
    go_ret
    exact ⟨rfl, Below.refl _ _⟩
/-- parents and readings as told -/
def cpB (P R : List Int) : Bool := !(decide (P.length = 0)) && (decide (R.length = P.length) && cpAll (fun k => P.getD k 0) (fun k => R.getD k 0) P.length)
theorem cpAll_head {p r : Nat → Int} {n : Nat} (hn : 0 < n) (h : p 0 ≠ -1) : cpAll p r n = false :=
  cpAll_no (i := 0) (by unfold cpOk; rw [if_pos rfl, decide_eq_false h]; rfl) hn
theorem cpOk_step {p r : Nat → Int} {k : Nat} (h0 : p 0 = -1) (h1 : 0 < k → 0 ≤ p k ∧ p k < k) (h2 : -1 ≤ r k) (h3 : r k ≤ 15) : cpOk p r k = true := by
  unfold cpOk
  by_cases hk : k = 0
  · subst hk
    rw [if_pos rfl, decide_eq_true h0, decide_eq_true ⟨h2, h3⟩]; rfl
  · have := h1 (by omega)
    rw [if_neg hk, decide_eq_true ⟨this.1, by omega⟩, decide_eq_true ⟨h2, h3⟩]; rfl
theorem cpOk_negp {p r : Nat → Int} {k : Nat} (h0 : 0 < k) (h : ¬ (0 ≤ p k ∧ p k < k)) : cpOk p r k = false := by
  cases h1 : cpOk p r k with
  | false => rfl
  | true =>
    have h2 := cpOk_p h1
    exact absurd ⟨h2.2.2.1 h0, h2.1⟩ h
theorem cpOk_negr {p r : Nat → Int} {k : Nat} (h : ¬ (-1 ≤ r k ∧ r k ≤ 15)) : cpOk p r k = false := by
  cases h1 : cpOk p r k with
  | false => rfl
  | true => exact absurd (cpOk_p h1).2.2.2 h
theorem refCopies_any (A B : Option Addr) (c d : Nat) (P R : List Int) (w : World) (hl : P.length ≤ 100000) (hP : LI w w.heap.size A P) (hR : LI w w.heap.size B R) :
    Calls Tryd.prog 27 #[.slice A P.length c, .slice B R.length d] w fun e w' => e = .returned (.bool (cpB P R)) ∧ w = w' := by
  have HP := hide hP
  have HR := hide hR
  clear hP hR
  obtain ⟨n, hn⟩ : ∃ n, P.length = n := ⟨_, rfl⟩
  obtain ⟨m, hm⟩ : ∃ n, R.length = n := ⟨_, rfl⟩
  have HN := hide (And.intro hn hm)
  rw [hn] at hl
  rw [hn, hm]
  clear hn hm
  rcases (by omega : n = 0 ∨ (0 < n ∧ m ≠ n) ∨ (0 < n ∧ m = n)) with h | ⟨h, h1⟩ | ⟨h, rfl⟩
  · subst h
    go_enter Tryd.func27, Tryd.ntmps27
    go_wp2_with fail
    go_ret
    refine ⟨ret_bool ?_, rfl⟩
    unfold cpB
    rw [decide_eq_true HN.out.1]; rfl
  · have e1 : ¬ (n : Int) = 0 := by omega
    have e2 : ¬ (m : Int) = (n : Int) := by omega
    go_enter Tryd.func27, Tryd.ntmps27
    go_wp2_with fail
    go_ret
    refine ⟨ret_bool ?_, rfl⟩
    unfold cpB
    rw [decide_eq_false (p := R.length = P.length) (by rw [HN.out.1, HN.out.2]; exact h1)]; simp
  · have e1 : ¬ (m : Int) = 0 := by omega
    have e1' : ((m : Int) == 0) = false := by simp; omega
    obtain ⟨xb, xo, rfl, hxb, a0⟩ := VR1.at_ HP.out (k := 0) (by rw [HN.out.1]; exact h)
    obtain ⟨x, hx⟩ : ∃ e, P.getD 0 0 = e := ⟨_, rfl⟩
    rw [hx] at a0
    rw [Nat.add_zero] at a0
    have hlt0 : (0 : Int) < (m : Int) := by omega
    have HX0 := hide hx
    clear hx
    by_cases hx1 : x = -1
    · subst hx1
      go_enter Tryd.func27, Tryd.ntmps27
      go_wp2_with fail
      go_loopw [5] (fun i wr => ∃ k : Nat, k ≤ m ∧ i = .int .i64 k ∧ Hid (cpAll (fun k => P.getD k 0) (fun k => R.getD k 0) k = true) ∧ w = wr) (fun i _ => m - (intOf i).toNat)
      case atStart => exact ⟨0, Nat.zero_le _, rfl, hide rfl, rfl⟩
      case round =>
        obtain ⟨k, hk, rfl, HC, rfl⟩ := hrel
        clear a0
        by_cases hlt : k < m
        · have hlt' : (k : Int) < (m : Int) := by omega
          have i0 : (0 : Int) ≤ (k : Int) := by omega
          obtain ⟨p, hp⟩ : ∃ e, P.getD k 0 = e := ⟨_, rfl⟩
          obtain ⟨r, hr⟩ : ∃ e, R.getD k 0 = e := ⟨_, rfl⟩
          obtain ⟨zb, zo, hz, hzb, b0⟩ := VR1.at_ HP.out (k := k) (by rw [HN.out.1]; exact hlt)
          injection hz with hz
          injection hz with hz1 hz2
          subst hz1 hz2
          obtain ⟨yb, yo, rfl, hyb, c0⟩ := VR1.at_ HR.out (k := k) (by rw [HN.out.2]; exact hlt)
          rw [hp] at b0
          rw [hr] at c0
          have HE := hide (And.intro hp hr)
          clear hp hr
          by_cases hk0 : k = 0
          · subst hk0
            rw [Nat.add_zero] at c0 b0
            have hlt0' : (0 : Int) < (m : Int) := by omega
            by_cases hr1 : r < -1
            · go_wp2_with fail
              go_ret
              refine ⟨ret_bool ?_, rfl⟩
              unfold cpB
              rw [cpAll_no (i := 0) (cpOk_negr (by (try dsimp only); rw [HE.out.2]; omega)) (by rw [HN.out.1]; exact hlt)]
              simp
            · by_cases hr2 : 15 < r
              · go_wp2_with fail
                go_ret
                refine ⟨ret_bool ?_, rfl⟩
                unfold cpB
                rw [cpAll_no (i := 0) (cpOk_negr (by (try dsimp only); rw [HE.out.2]; omega)) (by rw [HN.out.1]; exact hlt)]
                simp
              · go_wp2_with fail
                go_roundw
                case rel => exact ⟨1, by omega, rfl, hide (by
                  show (cpAll _ _ 0 && cpOk _ _ 0) = true
                  rw [HC.out, Bool.true_and]
                  exact cpOk_step HX0.out (fun h => absurd h (by omega)) (by (try dsimp only); rw [HE.out.2]; omega) (by (try dsimp only); rw [HE.out.2]; omega)), by simp⟩
                case measure => simp [intOf]; omega
          · have hk1 : (0 : Int) < (k : Int) := by omega
            by_cases hp1 : p < 0
            · go_wp2_with fail
              go_ret
              refine ⟨ret_bool ?_, rfl⟩
              unfold cpB
              rw [cpAll_no (i := k) (cpOk_negp (by omega) (by (try dsimp only); rw [HE.out.1]; omega)) (by rw [HN.out.1]; exact hlt)]
              simp
            · by_cases hp2 : (k : Int) ≤ p
              · go_wp2_with fail
                go_ret
                refine ⟨ret_bool ?_, rfl⟩
                unfold cpB
                rw [cpAll_no (i := k) (cpOk_negp (by omega) (by (try dsimp only); rw [HE.out.1]; omega)) (by rw [HN.out.1]; exact hlt)]
                simp
              · have hp3 : p < (k : Int) := by omega
                by_cases hr1 : r < -1
                · go_wp2_with fail
                  go_ret
                  refine ⟨ret_bool ?_, rfl⟩
                  unfold cpB
                  rw [cpAll_no (i := k) (cpOk_negr (by (try dsimp only); rw [HE.out.2]; omega)) (by rw [HN.out.1]; exact hlt)]
                  simp
                · by_cases hr2 : 15 < r
                  · go_wp2_with fail
                    go_ret
                    refine ⟨ret_bool ?_, rfl⟩
                    unfold cpB
                    rw [cpAll_no (i := k) (cpOk_negr (by (try dsimp only); rw [HE.out.2]; omega)) (by rw [HN.out.1]; exact hlt)]
                    simp
                  · have hst : IntKind.i64.wrap ((k : Int) + 1) = (k : Int) + 1 := IntWalk.i64_in _ (by omega)
                    go_wp2_with fail
                    go_roundw
                    case rel => exact ⟨k + 1, by omega, by go_num, hide (by
                      show (cpAll _ _ k && cpOk _ _ k) = true
                      rw [HC.out, Bool.true_and]
                      exact cpOk_step HX0.out (fun h => by (try dsimp only); rw [HE.out.1]; omega) (by (try dsimp only); rw [HE.out.2]; omega) (by (try dsimp only); rw [HE.out.2]; omega)), by simp⟩
                    case measure => simp [intOf]; omega
        · obtain rfl : m = k := by omega
          have hnl : ¬ (m : Int) < (m : Int) := by omega
          go_wp2_with fail
          go_ret
          refine ⟨ret_bool ?_, rfl⟩
          unfold cpB
          rw [HN.out.1, HN.out.2, HC.out, decide_eq_false (by omega)]; simp
    · have hx2 : (x == -1) = false := by simpa using hx1
      go_enter Tryd.func27, Tryd.ntmps27
      go_wp2_with fail
      go_ret
      refine ⟨ret_bool ?_, rfl⟩
      unfold cpB
      rw [cpAll_head (by rw [HN.out.1]; exact h) (by rw [HX0.out]; exact hx1)]; simp
end Go.Proofs.YtmpegkojencbjaaDoor
/- School: the law's copied. -/
namespace Go.Proofs.YtmpegkojencbjaaDoor
open Go Go.RowKit Go.Shelf
set_option maxHeartbeats 8000000
set_option maxRecDepth 100000
/-- what a loop of copied keeps -/
structure CpI (w W : World) (G R T : Nat) (d : Ad_) (s : Sch) (fa : Option Addr) (fc : Nat) (k : Nat) (V : Value) (L : List R3) : Prop where
  below : Below w.heap.size w W
  loG : w.heap.size ≤ G
  loR : w.heap.size ≤ R
  lo : w.heap.size ≤ T
  neG : G ≠ T
  neR : R ≠ T
  blkG : Blk W G 47 #[.slice d.fa s.fs.length d.fc, .int .i64 s.q, .slice d.ra s.rs.length d.rc]
  blkR : Blk W R 47 #[.slice none 0 0, .int .i64 0, .slice none 0 0]
  blk : Blk W T 47 #[.slice fa s.fs.length fc, .int .i64 s.q, V]
  fsO : OwnJ W w.heap.size (.slice fa s.fs.length fc) s.fs
  rsO : Own3 W w.heap.size V L
  len : L.length = k
  rl : ∀ j, j < k → ∃ a c, L.getD j r30 = (.slice a (s.rs.getD j r0).when_.length c, (s.rs.getD j r0).ask, (s.rs.getD j r0).say) ∧ OwnQ W w.heap.size (.slice a (s.rs.getD j r0).when_.length c) (s.rs.getD j r0).when_
section
variable {w W W' : World} {G R T : Nat} {d : Ad_} {s : Sch} {fa : Option Addr} {fc k : Nat} {V : Value} {L : List R3}
theorem CpI.ext (h : CpI w W G R T d s fa fc k V L) (hb : Below W.heap.size W W') : CpI w W' G R T d s fa fc k V L :=
  ⟨h.below.trans (hb.mono h.below.size), h.loG, h.loR, h.lo, h.neG, h.neR, h.blkG.ext hb, h.blkR.ext hb, h.blk.ext hb, h.fsO.ext hb, h.rsO.ext hb, h.len, fun j hj => by
    obtain ⟨a, c, h1, h2⟩ := h.rl j hj
    exact ⟨a, c, h1, h2.ext hb⟩⟩
theorem none_or {v : Value} : v.ownBlock = none ∨ v.ownBlock ≠ none := by
  cases v.ownBlock with
  | none => exact .inl rfl
  | some k => exact .inr (by simp)
theorem blk_kx {X g : Nat} {row : Option Nat} {t : TypeId} {cs : Array Value} (h : Blk W g t cs) (hk : KX W W' X row) (h1 : g ≠ X) (h2 : some g ≠ row) : Blk W' g t cs := (hk.block g h.lt h1 h2).trans h
/-- a rule goes to the list -/
theorem CpI.put (h : CpI w W G R T d s fa fc k V L) (a : Option Addr) (c : Nat) (hk : k ≤ 1000)
    (ho : OwnQ W w.heap.size (.slice a (s.rs.getD k r0).when_.length c) (s.rs.getD k r0).when_) :
    ∃ A c' w6, (Builtin.append_ #[45, 45] 45 #[V, .slice (some ⟨W.heap.size, 0, none⟩) 1 1]).run Tryd.prog (W.alloc (.cells #[.slice a (s.rs.getD k r0).when_.length c, .int .i64 (s.rs.getD k r0).ask, .int .i64 (s.rs.getD k r0).say] 73)) = .ok (.slice A (k + 1) c') w6 ∧
      Blk w6 T 47 #[.slice fa s.fs.length fc, .int .i64 s.q, V] ∧
      CpI w (w6.setCell ⟨T, 2, none⟩ (.slice A (k + 1) c')) G R T d s fa fc (k + 1) (.slice A (k + 1) c') (L ++ [(.slice a (s.rs.getD k r0).when_.length c, (s.rs.getD k r0).ask, (s.rs.getD k r0).say)]) := by
  obtain ⟨A, c', w6, hr, h6, hg⟩ := h.rsO.push (.slice a (s.rs.getD k r0).when_.length c, (s.rs.getD k r0).ask, (s.rs.getD k r0).say) rfl (by rw [h.len]; omega) h.below.size
  rw [h.len] at hr h6
  have hBA : Below W.heap.size W (W.alloc (.cells #[.slice a (s.rs.getD k r0).when_.length c, .int .i64 (s.rs.getD k r0).ask, .int .i64 (s.rs.getD k r0).say] 73)) := (Below.refl _ _).alloc (Nat.le_refl _) _
  have h5 := h.ext hBA
  have ho5 := ho.ext hBA
  dsimp only at hg hr
  have kx6 : KX (W.alloc (.cells #[.slice a (s.rs.getD k r0).when_.length c, .int .i64 (s.rs.getD k r0).ask, .int .i64 (s.rs.getD k r0).say] 73)) w6 T V.ownBlock := (KX.refl _ _ _).grown hg
  have kx7 := kx6.set 2 (.slice A (k + 1) c')
  have nT := own_blk_ne h5.rsO h5.blk (by decide)
  have nG := own_blk_ne h5.rsO h5.blkG (by decide)
  have nR := own_blk_ne h5.rsO h5.blkR (by decide)
  have b6 : Blk w6 T 47 #[.slice fa s.fs.length fc, .int .i64 s.q, V] := h5.blk.grown hg (fun e => nT e.symm)
  refine ⟨A, c', w6, hr, b6, ⟨?_, h.loG, h.loR, h.lo, h.neG, h.neR, blk_kx h5.blkG kx7 h.neG (fun e => nG e.symm), blk_kx h5.blkR kx7 h.neR (fun e => nR e.symm), ?_, ?_, ?_, ?_, fun j hj => ?_⟩⟩
  · exact (h5.below.grown hg h5.below.size (fun j hj => (World.ownsRow.lt h5.rsO j hj).1)).setCell h.lo _
  · exact b6.set_ 2 _
  · exact own_kx h5.fsO kx7 (own_blk_ne h5.fsO h5.blk (by decide)) (own_own_ne h5.fsO h5.rsO (by decide))
  · have kx8 : KX w6 (w6.setCell ⟨T, 2, none⟩ (.slice A (k + 1) c')) T none := (KX.refl w6 T none).set 2 _
    exact own_kx h6 kx8 (own_blk_ne h6 b6 (by decide)) none_or
  · rw [List.length_append, h.len]; rfl
  · by_cases e : j = k
    · subst e
      refine ⟨a, c, ?_, own_kx ho5 kx7 (own_blk_ne ho5 h5.blk (by decide)) (own_own_ne ho5 h5.rsO (by decide))⟩
      rw [List.getD_eq_getElem?_getD, List.getElem?_append_right (by rw [h.len]; exact Nat.le_refl _), h.len, Nat.sub_self]
      rfl
    · obtain ⟨a1, c1, e1, o1⟩ := h5.rl j (by omega)
      refine ⟨a1, c1, ?_, own_kx o1 kx7 (own_blk_ne o1 h5.blk (by decide)) (own_own_ne o1 h5.rsO (by decide))⟩
      rw [← e1, List.getD_eq_getElem?_getD, List.getElem?_append_left (by rw [h.len]; omega), List.getD_eq_getElem?_getD]
/-- what is copied is read as the same school -/
theorem CpI.read (h : CpI w W G R T d s fa fc s.rs.length V L) (w' : World) (hk : KX W w' R none) : ∃ d', V = .slice d'.ra s.rs.length d'.rc ∧ d'.fa = fa ∧ d'.fc = fc ∧ ScR w' w'.heap.size d' s := by
  obtain ⟨A, c, hV⟩ := own_shape h.rsO
  rw [h.len] at hV
  subst hV
  have hc : ∀ j, ∃ ac : Option Addr × Nat, j < s.rs.length → L.getD j r30 = (.slice ac.1 (s.rs.getD j r0).when_.length ac.2, (s.rs.getD j r0).ask, (s.rs.getD j r0).say) ∧ OwnQ W w.heap.size (.slice ac.1 (s.rs.getD j r0).when_.length ac.2) (s.rs.getD j r0).when_ := fun j => by
    by_cases hj : j < s.rs.length
    · obtain ⟨a, c, h1, h2⟩ := h.rl j hj
      exact ⟨(a, c), fun _ => ⟨h1, h2⟩⟩
    · exact ⟨(none, 0), fun h => absurd h hj⟩
  obtain ⟨f, hf⟩ := Classical.axiomOfChoice hc
  refine ⟨⟨fa, fc, A, c, fun j => (f j).1, fun j => (f j).2⟩, rfl, rfl, rfl, ?_⟩
  have o1 := own_kx h.fsO hk (own_blk_ne h.fsO h.blkR (by decide)) none_or
  have o2 := own_kx h.rsO hk (own_blk_ne h.rsO h.blkR (by decide)) none_or
  refine ⟨(OwnJ.li o1).2, ⟨?_, fun k hk2 => ?_⟩⟩
  · have h3 := (Own3.row o2).2
    rw [h.len] at h3
    intro hn
    obtain ⟨b, off, hA, hb, hc⟩ := h3 hn
    refine ⟨b, off, hA, hb, fun k i hk1 hi => ?_⟩
    rw [hc k i hk1 hi]
    show some (r3V (L.getD k r30) i) = some (rlV (s.rs.getD k r0) (f k).1 (f k).2 i)
    rw [(hf k hk1).1]
    rcases (by omega : i = 0 ∨ i = 1 ∨ i = 2) with rfl | rfl | rfl <;> rfl
  · have o3 := (hf k hk2).2
    exact (OwnQ.tsR (own_kx o3 hk (own_blk_ne o3 h.blkR (by decide)) none_or)).2
end
def CpPost (w : World) (s : Sch) (e : Ending) (w' : World) : Prop :=
  ∃ d', e = .returned (scV d' s) ∧ ScR w' w'.heap.size d' s ∧ Below w.heap.size w w'
end Go.Proofs.YtmpegkojencbjaaDoor
/- School: the law's copied, walked. -/
namespace Go.Proofs.YtmpegkojencbjaaDoor
open List renaming getElem_toArray → glA, getElem_cons_zero → glB, getElem_cons_succ → glC, setIfInBounds_toArray → glD, set_cons_zero → glE, set_cons_succ → glF
open Go Go.RowKit Go.Shelf
set_option maxHeartbeats 8000000
set_option maxRecDepth 100000
theorem OwnJ.low2 {W : World} {n0 n1 : Nat} {v : Value} {l : List Int} (h : OwnJ W n0 v l) (hb : n1 ≤ n0) : OwnJ W n1 v l := ⟨h.1, h.2.imp id fun ⟨g, cap, cur, h1, h2, h3⟩ => ⟨g, cap, cur, h1, Nat.le_trans hb h2, h3⟩⟩
theorem OwnQ.low {W : World} {n0 n1 : Nat} {v : Value} {l : List (Int × Int)} (h : OwnQ W n0 v l) (hb : n1 ≤ n0) : OwnQ W n1 v l := ⟨h.1, h.2.imp id fun ⟨g, cap, cur, h1, h2, h3⟩ => ⟨g, cap, cur, h1, Nat.le_trans hb h2, h3⟩⟩
theorem copied_any (d : Ad_) (s : Sch) (w : World) (hd : ScR w w.heap.size d s) (h1 : s.fs.length ≤ 1000) (h2 : s.rs.length ≤ 1000) (h3 : ∀ r ∈ s.rs, r.when_.length ≤ 1000) :
    Calls Tryd.prog 31 #[scV d s] w (CpPost w s) := by
  have HD := hide hd
  have HT := hide h3
  obtain ⟨nf, hf⟩ : ∃ n, s.fs.length = n := ⟨_, rfl⟩
  obtain ⟨nr, hr⟩ : ∃ n, s.rs.length = n := ⟨_, rfl⟩
  obtain ⟨Q, hQ⟩ : ∃ n, s.q = n := ⟨_, rfl⟩
  have HN := hide (And.intro hf (And.intro hr hQ))
  have HNU : Hid (∀ W, Below w.heap.size w W → Calls Tryd.prog 24 #[.slice d.fa nf d.fc] W fun e w' => ∃ v, e = .returned v ∧ OwnJ w' W.heap.size v s.fs ∧ Below W.heap.size W w') := hide fun W h => by
    have := numbers_any d.fa d.fc s.fs W (by omega) (hd.below h).fs
    rwa [hf] at this
  unfold scV
  rw [hf, hr, hQ]
  rw [hf] at h1
  rw [hr] at h2
  have G1 := (Blk.new w 47 #[.slice d.fa nf d.fc, .int .i64 Q, .slice d.ra nr d.rc]).alloc (.cells #[.slice none 0 0, .int .i64 0, .slice none 0 0] 47)
  have R1 : Blk ((w.alloc (.cells #[.slice d.fa nf d.fc, .int .i64 Q, .slice d.ra nr d.rc] 47)).alloc (.cells #[.slice none 0 0, .int .i64 0, .slice none 0 0] 47)) (w.heap.size + 1) 47 #[.slice none 0 0, .int .i64 0, .slice none 0 0] := by simpa using Blk.new (w.alloc (.cells #[.slice d.fa nf d.fc, .int .i64 Q, .slice d.ra nr d.rc] 47)) 47 #[.slice none 0 0, .int .i64 0, .slice none 0 0]
  have B2 : Hid (Below w.heap.size w ((w.alloc (.cells #[.slice d.fa nf d.fc, .int .i64 Q, .slice d.ra nr d.rc] 47)).alloc (.cells #[.slice none 0 0, .int .i64 0, .slice none 0 0] 47))) := hide (((Below.refl _ _).alloc (Nat.le_refl _) _).alloc (by simp) _)
  have HSZ : Hid (((w.alloc (.cells #[.slice d.fa nf d.fc, .int .i64 Q, .slice d.ra nr d.rc] 47)).alloc (.cells #[.slice none 0 0, .int .i64 0, .slice none 0 0] 47)).heap.size = w.heap.size + 2) := hide (by simp)
  clear hd hf hr hQ h3
  unfold CpPost
  go_enter Tryd.func31, Tryd.ntmps31
  go_upto_region 1 with fail
  generalize ((w.alloc (.cells #[.slice d.fa nf d.fc, .int .i64 Q, .slice d.ra nr d.rc] 47)).alloc (.cells #[.slice none 0 0, .int .i64 0, .slice none 0 0] 47)) = w2 at B2 G1 R1 HSZ ⊢
  obtain ⟨G, hG⟩ : ∃ x, w.heap.size = x := ⟨_, rfl⟩
  have HG := hide hG
  rw [hG] at G1 R1 ⊢
  have HG1 := hide G1
  have HR1 := hide R1
  clear hG G1 R1
  go_cut [3] (fun v w' => ∃ T fa fc, v = .pointer (some ⟨T, 0, none⟩) ∧ Hid (CpI w w' G (G + 1) T d s fa fc 0 (.slice none 0 0) []))
  case first =>
   as_aux_lemma =>
    have Bd := hide (B2.out.trans ((Below.refl w2.heap.size w2).drew.mono B2.out.size))
    have Gd := hide (HG1.out.ext (Below.refl w2.heap.size w2).drew)
    have Rd := hide (HR1.out.ext (Below.refl w2.heap.size w2).drew)
    have HSd : Hid (w2.drew.heap.size = w.heap.size + 2) := hide HSZ.out
    refine wp_region_J (fun W : World => (W.cell? ⟨G, 0, none⟩ = some (.slice d.fa nf d.fc) ∧ W.cell? ⟨G, 1, none⟩ = some (.int .i64 Q))) (by kernel_rfl) ?_
    generalize w2.drew = wd at Bd Gd Rd HSd ⊢
    clear B2 HG1 HR1 HSZ
    have HC : Hid (∀ W, Below wd.heap.size wd W → (W.cell? ⟨G, 0, none⟩ = some (.slice d.fa nf d.fc) ∧ W.cell? ⟨G, 1, none⟩ = some (.int .i64 Q))) := hide fun W h => by
      obtain ⟨-, q0, q1, q2, -⟩ := blk3 (Gd.out.ext h)
      exact ⟨q0, q1⟩
    refine wpAnyJ_take 0 (v := ?_) (by first | exact hF | exact wideFn) (HC.out _ (Below.refl _ _)) rfl (by kernel_rfl) (by kernel_rfl) (by kernel_rfl) (by kernel_rfl) rfl ?_ (by first | exact fun _ _ _ h => h | exact fun _ _ _ h => hQ2 _ _ _ _ _ h) ?_
    rotate_left
    · intro W hSW
      simp only [glA, glB, glC]
      (try dsimp only at hSW)
      go_simp
      with_reducible rfl
    (try simp only [glA, glB, glC, Act.put, glD, glE, glF])
    refine wpAnyJ_take 1 (v := ?_) (by first | exact hF | exact wideFn) (HC.out _ (Below.refl _ _)) rfl (by kernel_rfl) (by kernel_rfl) (by kernel_rfl) (by kernel_rfl) rfl ?_ (by first | exact fun _ _ _ h => h | exact fun _ _ _ h => hQ2 _ _ _ _ _ h) ?_
    rotate_left
    · intro W hSW
      simp only [glA, glB, glC]
      (try dsimp only at hSW)
      go_simp
      with_reducible rfl
    (try simp only [glA, glB, glC, Act.put, glD, glE, glF])
    refine wpAnyJ_take 3 (v := ?_) (by first | exact hF | exact wideFn) (HC.out _ (Below.refl _ _)) rfl (by kernel_rfl) (by kernel_rfl) (by kernel_rfl) (by kernel_rfl) rfl ?_ (by first | exact fun _ _ _ h => h | exact fun _ _ _ h => hQ2 _ _ _ _ _ h) ?_
    rotate_left
    · intro W hSW
      simp only [glA, glB, glC]
      (try dsimp only at hSW)
      go_simp
      with_reducible rfl
    (try simp only [glA, glB, glC, Act.put, glD, glE, glF])
    refine wpAnyJ_take 4 (v := ?_) (by first | exact hF | exact wideFn) (HC.out _ (Below.refl _ _)) rfl (by kernel_rfl) (by kernel_rfl) (by kernel_rfl) (by kernel_rfl) rfl ?_ (by first | exact fun _ _ _ h => h | exact fun _ _ _ h => hQ2 _ _ _ _ _ h) ?_
    rotate_left
    · intro W hSW
      simp only [glA, glB, glC]
      (try dsimp only at hSW)
      go_simp
      with_reducible rfl
    (try simp only [glA, glB, glC, Act.put, glD, glE, glF])
    refine wpAnyJ_two 2 6 rfl rfl (by kernel_rfl) (fun K hK => ?_) (fun K hK => ?_)
    · simp only [glA, glB, glC]
      go_simp
      refine ⟨trivial, rfl, ?_⟩
      refine (callsIn_wide.2 (HNU.out wd Bd.out)).mono ?_
      rintro e w3 ⟨v, rfl, ho, hb3⟩
      obtain ⟨A', c', rfl⟩ := own_shape ho
      dsimp only
      refine hK.out _ _ (fun _ => HC.out _ hb3) ?_
      clear hK K
      (try simp only [glA, glB, glC, Act.put, glD, glE, glF])
      rw [HN.out.1]
      have hf := HN.out.1
      refine wpAnyJ_take 5 (v := ?_) (by first | exact hF | exact wideFn) (HC.out _ hb3) rfl (by kernel_rfl) (by kernel_rfl) (by kernel_rfl) (by kernel_rfl) rfl ?_ (by first | exact fun _ _ _ h => h | exact fun _ _ _ h => hQ2 _ _ _ _ _ h) ?_
      rotate_left
      · intro W hSW
        simp only [glA, glB, glC]
        (try dsimp only at hSW)
        go_simp
        with_reducible rfl
      (try simp only [glA, glB, glC, Act.put, glD, glE, glF])
      refine wpAnyJ_one 6 rfl (by kernel_rfl) (fun K hK => ?_)
      simp only [glA, glB, glC]
      go_simp
      refine hK.out _ _ (fun _ => HC.out _ (hb3.alloc hb3.size _)) ?_
      clear hK K
      (try simp only [glA, glB, glC, Act.put, glD, glE, glF])
      refine wpAnyJ_one 7 rfl (by kernel_rfl) (fun K hK => ?_)
      simp only [glA, glB, glC]
      go_simp
      refine hK.out _ _ (fun _ => HC.out _ (hb3.alloc hb3.size _)) ?_
      clear hK K
      (try simp only [glA, glB, glC, Act.put, glD, glE, glF])
      refine wpAnyJ_done (by kernel_rfl) ?_
      go_wp2_with fail
      go_meet
      refine ⟨w3.heap.size, A', c', rfl, hide ?_⟩
      have z1 := HSd.out
      have z2 := hb3.size
      have z3 := HG.out
      refine ⟨(Bd.out.trans (hb3.mono Bd.out.size)).alloc (Nat.le_trans Bd.out.size hb3.size) _, Nat.le_of_eq HG.out, by omega, by omega, by omega, by omega, ?_, (Rd.out.ext hb3).alloc _, ?_, ?_, Own3.nil _ _, rfl, fun j hj => absurd hj (by omega)⟩
      · rw [HN.out.1, HN.out.2.1, HN.out.2.2]; exact (Gd.out.ext hb3).alloc _
      · rw [HN.out.1, HN.out.2.2]; exact Blk.new _ _ _
      · exact (ho.low2 Bd.out.size).ext ((Below.refl _ _).alloc (Nat.le_refl _) _)
    · simp only [glA, glB, glC]
      go_simp
      refine hK.out _ _ (fun _ => (HC.out _ ((Below.refl _ _).alloc (Nat.le_refl _) _))) ?_
      clear hK K
      (try simp only [glA, glB, glC, Act.put, glD, glE, glF])
      have Bz : Hid (Below wd.heap.size wd (wd.alloc (.cells #[.slice none 0 0, .int .i64 0, .slice none 0 0] 47))) := hide ((Below.refl _ _).alloc (Nat.le_refl _) _)
      have T1 := hide (Blk.new wd 47 #[.slice none 0 0, .int .i64 0, .slice none 0 0])
      have HSa : Hid ((wd.alloc (.cells #[.slice none 0 0, .int .i64 0, .slice none 0 0] 47)).heap.size = wd.heap.size + 1) := hide (by simp)
      obtain ⟨T, hT⟩ : ∃ x, wd.heap.size = x := ⟨_, rfl⟩
      have HTT := hide hT
      rw [hT] at T1 ⊢
      clear hT
      generalize (wd.alloc (.cells #[.slice none 0 0, .int .i64 0, .slice none 0 0] 47)) = wa at Bz T1 HSa ⊢
      refine wpAnyJ_one 2 rfl (by kernel_rfl) (fun K hK => ?_)
      simp only [glA, glB, glC]
      go_simp
      refine ⟨trivial, rfl, ?_⟩
      refine (callsIn_wide.2 (HNU.out wa (Bd.out.trans (Bz.out.mono Bd.out.size)))).mono ?_
      rintro e w3 ⟨v, rfl, ho, hb3⟩
      obtain ⟨A', c', rfl⟩ := own_shape ho
      dsimp only
      refine hK.out _ _ (fun _ => HC.out _ (Bz.out.trans (hb3.mono Bz.out.size))) ?_
      clear hK K
      (try simp only [glA, glB, glC, Act.put, glD, glE, glF])
      rw [HN.out.1]
      refine wpAnyJ_take 5 (v := ?_) (by first | exact hF | exact wideFn) (HC.out _ (Bz.out.trans (hb3.mono Bz.out.size))) rfl (by kernel_rfl) (by kernel_rfl) (by kernel_rfl) (by kernel_rfl) rfl ?_ (by first | exact fun _ _ _ h => h | exact fun _ _ _ h => hQ2 _ _ _ _ _ h) ?_
      rotate_left
      · intro W hSW
        simp only [glA, glB, glC]
        (try dsimp only at hSW)
        go_simp
        with_reducible rfl
      (try simp only [glA, glB, glC, Act.put, glD, glE, glF])
      obtain ⟨y9, y0, y1, y2, -⟩ := blk3 (T1.out.ext hb3)
      have yf0 := (T1.out.ext hb3).frozen 0
      have yf1 := (T1.out.ext hb3).frozen 1
      have yf2 := (T1.out.ext hb3).frozen 2
      have z1 := HSd.out
      have z2 := hb3.size
      have z3 := HG.out
      have z4 := HTT.out
      have z5 := HSa.out
      have hbS : Below wd.heap.size wd (((w3.setCell ⟨T, 0, none⟩ (.slice A' nf c')).setCell ⟨T, 1, none⟩ (.int .i64 Q)).setCell ⟨T, 2, none⟩ (.slice none 0 0)) := (((Bz.out.trans (hb3.mono Bz.out.size)).setCell (p := ⟨T, 0, none⟩) (by show wd.heap.size ≤ T; omega) _).setCell (p := ⟨T, 1, none⟩) (by show wd.heap.size ≤ T; omega) _).setCell (p := ⟨T, 2, none⟩) (by show wd.heap.size ≤ T; omega) _
      have HBS := hide hbS
      clear hbS z1 z2 z3 z4 z5
      refine wpAnyJ_one 7 rfl (by kernel_rfl) (fun K hK => ?_)
      simp only [glA, glB, glC]
      go_simp
      refine hK.out _ _ (fun _ => HC.out _ HBS.out) ?_
      clear hK K
      (try simp only [glA, glB, glC, Act.put, glD, glE, glF])
      refine wpAnyJ_done (by kernel_rfl) ?_
      go_wp2_with fail
      go_meet
      have z1 := HSd.out
      have z2 := hb3.size
      have z3 := HG.out
      have z4 := HTT.out
      have z5 := HSa.out
      refine ⟨T, A', c', rfl, hide ?_⟩
      refine ⟨Bd.out.trans (HBS.out.mono Bd.out.size), Nat.le_of_eq HG.out, by omega, by omega, by omega, by omega, ?_, ?_, ?_, ?_, Own3.nil _ _, rfl, fun j hj => absurd hj (by omega)⟩
      · rw [HN.out.1, HN.out.2.1, HN.out.2.2]; exact Gd.out.below HBS.out Gd.out.lt
      · exact Rd.out.below HBS.out Rd.out.lt
      · rw [HN.out.1, HN.out.2.2]; exact (T1.out.ext hb3).set3 _ _ _
      · have hlo : T < wa.heap.size := by omega
        rw [← HN.out.1]
        exact OwnJ.low2 (ownsRow_setCell_below (ownsRow_setCell_below (ownsRow_setCell_below ho (a := ⟨T, 0, none⟩) hlo _) (a := ⟨T, 1, none⟩) hlo _) (a := ⟨T, 2, none⟩) hlo _) (by omega)
  obtain ⟨T, fa, fc, rfl, HI⟩ := hcut
  clear B2 HG1 HR1 HSZ HNU
  go_wp2_with fail
  go_loopw [4] (fun i wr => ∃ (k : Nat) (V : Value) (L : List R3), k ≤ nr ∧ i = .int .i64 k ∧ Hid (CpI w wr G (G + 1) T d s fa fc k V L)) (fun i _ => nr - (intOf i).toNat)
  case atStart => exact ⟨0, _, _, Nat.zero_le _, rfl, HI⟩
  case round =>
    obtain ⟨k, V, L, hk, rfl, HK⟩ := hrel
    clear HI
    have hgb := HK.out.blkG
    rw [HN.out.1, HN.out.2.1, HN.out.2.2] at hgb
    obtain ⟨q9, q0, q1, q2, -⟩ := blk3 hgb
    clear hgb
    by_cases hlt : k < nr
    · -- BEGIN2
      have hlt' : (k : Int) < (nr : Int) := by omega
      have k0 : (0 : Int) ≤ (k : Int) := by omega
      have hst : IntKind.i64.wrap ((k : Int) + 1) = ((k + 1 : Nat) : Int) := by rw [IntWalk.i64_in _ (by omega)]; omega
      have hkl : k < s.rs.length := by rw [HN.out.2.1]; exact hlt
      obtain ⟨x, hx⟩ : ∃ x, s.rs.getD k r0 = x := ⟨_, rfl⟩
      have htl : x.when_.length ≤ 1000 := HT.out x (by rw [← hx, List.getD_eq_getElem?_getD, List.getElem?_eq_getElem hkl]; exact List.getElem_mem _)
      have htr := HD.out.rs.tests k hkl
      rw [hx] at htr
      obtain ⟨b, off, hra, hb, a0, a1, a2⟩ := HD.out.rs.at_ hkl hx
      rw [hra] at q2 ⊢
      have c0 := (HK.out.below.cell (p := ⟨b, off + k * 3, none⟩) hb).trans a0
      have c1 := (HK.out.below.cell (p := ⟨b, off + k * 3 + 1, none⟩) hb).trans a1
      have c2 := (HK.out.below.cell (p := ⟨b, off + k * 3 + 2, none⟩) hb).trans a2
      have HXX := hide hx
      have HTR := hide htr
      obtain ⟨ta, hta⟩ : ∃ y, d.ta k = y := ⟨_, rfl⟩
      obtain ⟨tc, htc⟩ : ∃ y, d.tc k = y := ⟨_, rfl⟩
      rw [hta] at HTR
      rw [hta, htc] at c0
      obtain ⟨tn, htn⟩ : ∃ y, x.when_.length = y := ⟨_, rfl⟩
      obtain ⟨ask, hask⟩ : ∃ y, x.ask = y := ⟨_, rfl⟩
      obtain ⟨say, hsay⟩ : ∃ y, x.say = y := ⟨_, rfl⟩
      rw [htn] at c0
      rw [hask] at c1
      rw [hsay] at c2
      have HV := hide (And.intro htn (And.intro hask hsay))
      clear hx htr a0 a1 a2 hta htc htn hask hsay
      go_upto_region 6 with fail
      have HB1 : Hid (Below wr.heap.size wr (wr.alloc (.cells #[.slice ta tn tc, .int .i64 ask, .int .i64 say] 73))) := hide ((Below.refl _ _).alloc (Nat.le_refl _) _)
      have E1 := hide (Blk.new wr 73 #[.slice ta tn tc, .int .i64 ask, .int .i64 say])
      have HZ1 : Hid ((wr.alloc (.cells #[.slice ta tn tc, .int .i64 ask, .int .i64 say] 73)).heap.size = wr.heap.size + 1) := hide (by simp)
      obtain ⟨g, hg⟩ : ∃ x, wr.heap.size = x := ⟨_, rfl⟩
      have HGG := hide hg
      rw [hg] at E1 ⊢
      clear hg c0 c1 c2 q9 q0 q1 q2
      generalize (wr.alloc (.cells #[.slice ta tn tc, .int .i64 ask, .int .i64 say] 73)) = w1 at HB1 E1 HZ1 ⊢
      go_cut [27] (fun v w' => ∃ A1 c1, Hid (CpI w w' G (G + 1) T d s fa fc k V L) ∧ Hid (Blk w' g 73 #[.slice A1 tn c1, .int .i64 ask, .int .i64 say]) ∧ Hid (OwnQ w' w.heap.size (.slice A1 tn c1) x.when_))
      case first =>
       as_aux_lemma =>
        have hBA : Below w1.heap.size w1 (w1.alloc (.cells #[] 76)) := (Below.refl _ _).alloc (Nat.le_refl _) _
        have hbw : Below w.heap.size w w1 := HK.out.below.trans (HB1.out.mono HK.out.below.size)
        obtain ⟨v', w3, hrun, ho, hgr⟩ := (OwnQ.made0 w1).pushes ta tc x.when_ ((ER.below HTR.out (hbw.trans (hBA.mono hbw.size)) (Nat.le_refl _)).more (Nat.le_trans hbw.size hBA.size)) (by simp; omega) hBA.size
        rw [List.nil_append] at ho
        rw [HV.out.1] at hrun
        obtain ⟨A1, c1, hv⟩ := own_shape ho
        rw [HV.out.1] at hv
        subst hv
        have hb3 : Below w1.heap.size w1 w3 := hBA.grown hgr hBA.size (fun k hk => (World.ownsRow.lt (OwnQ.made0 w1) k hk).1)
        have E3 := hide (E1.out.ext hb3)
        have HRUN := hide hrun
        have HO := hide ho
        have HB3 := hide (HB1.out.trans (hb3.mono HB1.out.size))
        obtain ⟨f1, f2, f3, f4, f5⟩ := blk3 E1.out
        obtain ⟨e1, e2, e3, e4, e5⟩ := blk3 E3.out
        have ef := E3.out.frozen 0
        clear hrun ho hgr hb3 hBA hbw e5 f5
        go_wp2_with (at_builtin; refine wpList_append_run rfl (.tmp 24) (.tmp 26) 71 rfl rfl rfl HRUN.out ?_)
        go_meet
        have z1 := HZ1.out
        have z2 := HGG.out
        have hbs : Below wr.heap.size wr (w3.setCell ⟨g, 0, none⟩ (.slice A1 tn c1)) := HB3.out.setCell (p := ⟨g, 0, none⟩) (by show wr.heap.size ≤ g; omega) _
        refine ⟨A1, c1, hide (HK.out.ext hbs), hide (E3.out.set_ 0 _), hide ?_⟩
        have := ownsRow_setCell_below HO.out (a := ⟨g, 0, none⟩) (show g < w1.heap.size by omega) (.slice A1 tn c1)
        exact OwnQ.low this (by have := HK.out.below.size; omega)
      obtain ⟨A1, c1, HI2, HE2, HO2⟩ := hcut
      clear HB1 E1 HZ1 HK HGG
      obtain ⟨AV, cV, hV⟩ := own_shape HI2.out.rsO
      rw [HI2.out.len] at hV
      subst hV
      obtain ⟨A', c', w6, hrun, hb6, hput⟩ := HI2.out.put A1 c1 (by omega) (by rw [HXX.out, HV.out.1]; exact HO2.out)
      rw [HXX.out, HV.out.1, HV.out.2.1, HV.out.2.2] at hrun
      have htb := HI2.out.blk
      rw [HN.out.1, HN.out.2.2] at htb
      obtain ⟨t1, t2, t3, t4, t5⟩ := blk3 htb
      obtain ⟨e1, e2, e3, e4, e5⟩ := blk3 HE2.out
      rw [HN.out.1, HN.out.2.2] at hb6
      obtain ⟨f1, f2, f3, f4, f5⟩ := blk3 hb6
      have ff := hb6.frozen 2
      have HRUN := hide hrun
      have HPUT := hide hput
      clear hrun hput htb hb6 t5 e5 f5 HI2 HE2 HO2
      go_wp2_with (at_builtin; refine wpList_append_run rfl (.tmp 30) (.tmp 32) 45 rfl rfl rfl HRUN.out ?_)
      go_roundw
      case rel => exact ⟨k + 1, _, _, by omega, by go_num, HPUT⟩
      case measure => simp [intOf]; omega
      -- END2
    · obtain rfl : k = nr := by omega
      have hnl : ¬ (k : Int) < (k : Int) := by omega
      obtain ⟨AV, cV, hV⟩ := own_shape HK.out.rsO
      rw [HK.out.len] at hV
      subst hV
      have htb := HK.out.blk
      rw [HN.out.1, HN.out.2.2] at htb
      obtain ⟨t1, t2, t3, t4, -⟩ := blk3 htb
      obtain ⟨r1, r2, r3, r4, -⟩ := blk3 HK.out.blkR
      have rf0 := HK.out.blkR.frozen 0
      have rf1 := HK.out.blkR.frozen 1
      have rf2 := HK.out.blkR.frozen 2
      clear htb
      go_wp2_with fail
      have hw8 := HK.out.blkR.set3 (.slice fa nf fc) (.int .i64 Q) (.slice AV k cV)
      have kx : KX wr (((wr.setCell ⟨G + 1, 0, none⟩ (.slice fa nf fc)).setCell ⟨G + 1, 1, none⟩ (.int .i64 Q)).setCell ⟨G + 1, 2, none⟩ (.slice AV k cV)) (G + 1) none := (((KX.refl wr (G + 1) none).set 0 _).set 1 _).set 2 _
      have hbf : Below w.heap.size w (((wr.setCell ⟨G + 1, 0, none⟩ (.slice fa nf fc)).setCell ⟨G + 1, 1, none⟩ (.int .i64 Q)).setCell ⟨G + 1, 2, none⟩ (.slice AV k cV)) := ((HK.out.below.setCell (p := ⟨G + 1, 0, none⟩) HK.out.loR _).setCell (p := ⟨G + 1, 1, none⟩) HK.out.loR _).setCell (p := ⟨G + 1, 2, none⟩) HK.out.loR _
      have hk' : CpI w wr G (G + 1) T d s fa fc s.rs.length (.slice AV k cV) L := by rw [HN.out.2.1]; exact HK.out
      obtain ⟨d', hd1, hd2, hd3, hd4⟩ := hk'.read _ kx
      injection hd1 with z1 z2 z3
      have hv : scV d' s = .agg #[.slice fa nf fc, .int .i64 Q, .slice AV k cV] := by
        unfold scV
        rw [hd2, hd3, HN.out.1, HN.out.2.1, HN.out.2.2, z1, z3]
      generalize (((wr.setCell ⟨G + 1, 0, none⟩ (.slice fa nf fc)).setCell ⟨G + 1, 1, none⟩ (.int .i64 Q)).setCell ⟨G + 1, 2, none⟩ (.slice AV k cV)) = w8 at hw8 hbf hd4 ⊢
      obtain ⟨-, q0', q1', q2', -⟩ := blk3 hw8
      refine bodyPost_ret (v := .agg #[.slice fa nf fc, .int .i64 Q, .slice AV k cV]) (by simp [results, Tryd.results31, go_sem, q0', q1', q2']) rfl ⟨d', by rw [hv], hd4, hbf⟩
end Go.Proofs.YtmpegkojencbjaaDoor
/- School, plain: what Differ, Gaps and Decide have to do with each other; the case before a case; an own list of numbers that is written. -/
namespace Go.Proofs.YtmpegkojencbjaaDoor
open Go Go.RowKit Go.Shelf
set_option maxHeartbeats 4000000
set_option maxRecDepth 100000
theorem dfK_comm (s t : Sch) (q : Int) : ∀ n, dfK s t q n = dfK t s q n
  | 0 => rfl
  | n + 1 => by
    show (match dfK s t q n with | some k => some k | none => if vdF s q n = vdF t q n then none else some n) = (match dfK t s q n with | some k => some k | none => if vdF t q n = vdF s q n then none else some n)
    rw [dfK_comm s t q n]
    cases dfK t s q n with
    | some k => rfl
    | none =>
      by_cases h : vdF s q n = vdF t q n
      · simp only [h, if_true]
      · simp only [h, if_false]
        rw [if_neg (fun e => h e.symm)]
theorem dfR_comm (s t : Sch) (q : Int) : dfR s t q = dfR t s q := by
  unfold dfR
  rw [Bool.and_comm, Int.min_comm]
  by_cases h : s.fs = t.fs
  · rw [if_pos h, if_pos h.symm, dfK_comm s t q, h]
  · have h' : ¬ t.fs = s.fs := fun e => h e.symm
    simp only [if_neg h, if_neg h']
theorem dfK_is {s t : Sch} {q : Int} : ∀ n, (dfK s t q n = none ∧ ∀ k, k < n → vdF s q k = vdF t q k) ∨ ∃ k, k < n ∧ dfK s t q n = some k ∧ vdF s q k ≠ vdF t q k ∧ ∀ j, j < k → vdF s q j = vdF t q j
  | 0 => .inl ⟨rfl, fun k hk => absurd hk (by omega)⟩
  | n + 1 => by
    rcases dfK_is (s := s) (t := t) (q := q) n with ⟨h1, h2⟩ | ⟨k, hk, h1, h2, h3⟩
    · by_cases h : vdF s q n = vdF t q n
      · have hall : ∀ k, k < n + 1 → vdF s q k = vdF t q k := fun k hk => by
          rcases (by omega : k < n ∨ k = n) with h4 | rfl
          · exact h2 k h4
          · exact h
        exact .inl ⟨dfK_none hall, hall⟩
      · exact .inr ⟨n, by omega, dfK_some h2 h (by omega), h, h2⟩
    · exact .inr ⟨k, by omega, dfK_some h3 h2 (by omega), h2, h3⟩
theorem dfR_cases {s t : Sch} {q : Int} (hs : schB s = true) (ht : schB t = true) :
    dfR s t q = ([], 3) ∨ dfR s t q = ([], 4) ∨ (0 ≤ q ∧ q ≤ min s.q t.q - 1 ∧ s.fs = t.fs ∧
      ((dfR s t q = ([], 7) ∧ ∀ k, k < pr s.fs s.fs.length → vdF s q k = vdF t q k) ∨
        ∃ k, k < pr s.fs s.fs.length ∧ dfR s t q = (clL s.fs k, 0) ∧ vdF s q k ≠ vdF t q k ∧ ∀ j, j < k → vdF s q j = vdF t q j)) := by
  have hst : (schB s && schB t) = true := by rw [hs, ht]; rfl
  by_cases hq : 0 ≤ q ∧ q ≤ min s.q t.q - 1
  · by_cases hf : s.fs = t.fs
    · refine .inr (.inr ⟨hq.1, hq.2, hf, ?_⟩)
      rcases dfK_is (s := s) (t := t) (q := q) (pr s.fs s.fs.length) with ⟨h1, h2⟩ | ⟨k, hk, h1, h2, h3⟩
      · exact .inl ⟨dfR_none hst hq hf h1, h2⟩
      · exact .inr ⟨k, hk, dfR_some hst hq hf h1, h2, h3⟩
    · refine .inr (.inl ?_)
      unfold dfR
      rw [if_pos hst, if_pos hq, if_neg hf]
  · refine .inl ?_
    unfold dfR
    rw [if_pos hst, if_neg hq]
theorem dfR_self {s : Sch} {q : Int} (hs : schB s = true) : (dfR s s q).2 = 3 ∨ (dfR s s q).2 = 7 := by
  rcases dfR_cases (q := q) hs hs with h | h | ⟨-, -, -, h | ⟨k, -, -, h, -⟩⟩
  · rw [h]; exact .inl rfl
  · exfalso
    have hst : (schB s && schB s) = true := by rw [hs]; rfl
    unfold dfR at h
    rw [if_pos hst] at h
    by_cases hq : 0 ≤ q ∧ q ≤ min s.q s.q - 1
    · rw [if_pos hq, if_pos rfl] at h
      cases hk : dfK s s q (pr s.fs s.fs.length) with
      | none => rw [hk] at h; injection h with _ h; exact absurd h (by decide)
      | some k => rw [hk] at h; injection h with _ h; exact absurd h (by decide)
    · rw [if_neg hq] at h; injection h with _ h; exact absurd h (by decide)
  · rw [h.1]; exact .inr rfl
  · exact absurd rfl h
theorem gpN_eq {s t : Sch} {q z : Int} : ∀ n, (∀ k, k < n → vdF s q k = vdF t q k) → gpN s q z n = gpN t q z n
  | 0, _ => rfl
  | n + 1, h => by
    show gpN s q z n + _ = gpN t q z n + _
    rw [gpN_eq n (fun k hk => h k (by omega)), h n (by omega)]
theorem min_le {a b q : Int} (h : q ≤ min a b - 1) : q ≤ a - 1 ∧ q ≤ b - 1 := by omega
theorem gpR_eq {s t : Sch} {q : Int} (hs : schB s = true) (ht : schB t = true) (h0 : 0 ≤ q) (h1 : q ≤ min s.q t.q - 1) (hf : s.fs = t.fs) (h : ∀ k, k < pr s.fs s.fs.length → vdF s q k = vdF t q k) : gpR s q = gpR t q ∧ (gpR s q).2.2 = 0 := by
  obtain ⟨h2, h3⟩ := min_le h1
  unfold gpR
  rw [if_pos hs, if_pos ht, if_pos ⟨h0, h2⟩, if_pos ⟨h0, h3⟩, ← hf, gpN_eq _ h, gpN_eq _ h]
  exact ⟨rfl, rfl⟩
theorem cl_case {fs : List Int} (hf : fsB fs = true) (k : Nat) : icB fs (clL fs k) = true := by
  have h5 : ∀ j, j < fs.length → 1 ≤ fs.getD j 0 ∧ fs.getD j 0 ≤ 4 := fun j hj => fsB_at hf j hj
  have key : ∀ n, n ≤ fs.length → csB (clL fs k) fs n = true := fun n => by
    induction n with
    | zero => intro _; rfl
    | succ n ih =>
      intro hn
      show (csB (clL fs k) fs n && decide _) = true
      rw [ih (by omega), Bool.true_and]
      refine decide_eq_true ?_
      rw [clL_at fs k (by omega)]
      have h6 := dg_bd (fs := fs) (n := fs.length) k (fun j hj => by have := h5 j hj; unfold chF; omega) n (by omega)
      have h7 := h5 n (by omega)
      have h8 : (chF fs n : Int) = fs.getD n 0 := by unfold chF; omega
      omega
  unfold icB
  rw [decide_eq_true (clL_len fs k), key _ (Nat.le_refl _)]; rfl
theorem decR_at {s : Sch} {q : Int} (hs : schB s = true) (h0 : 0 ≤ q) (h1 : q ≤ s.q - 1) (k : Nat) : ((decR s (clL s.fs k) q).1, (decR s (clL s.fs k) q).2.1) = vdF s q k := by
  unfold decR vdF
  rw [if_pos hs, if_pos ⟨h0, h1⟩, if_pos (cl_case (schB_ok hs).fs k)]
/-- the last of n numbers of which P is not true -/
theorem last_no (P : Nat → Bool) : ∀ n, (∀ j, j < n → P j = true) ∨ ∃ i, i < n ∧ P i = false ∧ ∀ j, i < j → j < n → P j = true
  | 0 => .inl fun j hj => absurd hj (by omega)
  | n + 1 => by
    cases hp : P n with
    | false => exact .inr ⟨n, by omega, hp, fun j h1 h2 => absurd h1 (by omega)⟩
    | true =>
      rcases last_no P n with h | ⟨i, hi, h1, h2⟩
      · refine .inl fun j hj => ?_
        rcases (by omega : j < n ∨ j = n) with h3 | rfl
        · exact h j h3
        · exact hp
      · refine .inr ⟨i, by omega, h1, fun j h3 h4 => ?_⟩
        rcases (by omega : j < n ∨ j = n) with h5 | rfl
        · exact h2 j h3 h5
        · exact hp
/-- the case before a case: the last choice that is not 0 is one less, what stands behind it is the last one -/
theorem dg_pred {fs : List Int} {n k : Nat} (h1 : ∀ j, j < n → 1 ≤ chF fs j) (hk : k + 1 < pr fs n) {i : Nat} (hi : i < n) (hne : dg fs n (k + 1) i ≠ 0) (hz : ∀ j, i < j → j < n → dg fs n (k + 1) j = 0) :
    ∀ j, j < n → dg fs n k j = if j < i then dg fs n (k + 1) j else if j = i then dg fs n (k + 1) i - 1 else (chF fs j : Int) - 1 := by
  rcases last_no (fun j => decide (dg fs n k j = (chF fs j : Int) - 1)) n with h | ⟨m, hm, h2, h3⟩
  · have := nxt_end h1 (by omega) (fun j hj => of_decide_eq_true (h j hj))
    omega
  · obtain ⟨-, h4⟩ := nxt_some h1 (by omega) hm (of_decide_eq_false h2) (fun j h5 h6 => of_decide_eq_true (h3 j h5 h6))
    have h5 := h4 m hm
    rw [if_neg (by omega), if_pos rfl] at h5
    have h6 := dg_bd (fs := fs) (n := n) k h1
    have hmi : m = i := by
      rcases Nat.lt_trichotomy m i with h7 | h7 | h7
      · have h8 := h4 i hi
        rw [if_neg (by omega), if_neg (by omega)] at h8
        exact absurd h8 hne
      · exact h7
      · have h8 := hz m h7 hm
        have := h6 m hm
        omega
    subst hmi
    intro j hj
    have h9 := h4 j hj
    rcases Nat.lt_trichotomy j m with h7 | h7 | h7
    · rw [if_pos h7] at h9 ⊢
      exact h9.symm
    · subst h7
      rw [if_neg (by omega), if_pos rfl]
      omega
    · rw [if_neg (by omega), if_neg (by omega)]
      exact of_decide_eq_true (h3 j h7 hj)
/-- a list by its places -/
def lsF (n : Nat) (f : Nat → Int) : List Int := (List.range n).map f
theorem lsF_len (n : Nat) (f : Nat → Int) : (lsF n f).length = n := by unfold lsF; simp
theorem lsF_at (n : Nat) (f : Nat → Int) {k : Nat} (hk : k < n) : (lsF n f).getD k 0 = f k := by
  unfold lsF
  rw [List.getD_eq_getElem?_getD, List.getElem?_map, List.getElem?_range hk]; rfl
theorem lsF_congr {n : Nat} {f g : Nat → Int} (h : ∀ k, k < n → f k = g k) : lsF n f = lsF n g := by
  unfold lsF
  exact List.map_congr_left fun k hk => h k (List.mem_range.1 hk)
theorem clL_ls (fs : List Int) (k : Nat) : clL fs k = lsF fs.length (dg fs fs.length k) := rfl
/-- an own list that is written at one place -/
theorem OwnJ.put {W : World} {base g c n : Nat} {f : Nat → Int} (h : OwnJ W base (.slice (some ⟨g, 0, none⟩) n c) (lsF n f)) {i : Nat} (hi : i < n) (x : Int) :
    OwnJ (W.setCell ⟨g, i, none⟩ (.int .i64 x)) base (.slice (some ⟨g, 0, none⟩) n c) (lsF n (upd f i x)) := by
  obtain ⟨h1, h2⟩ := h
  rw [lsF_len] at h1 h2
  refine ⟨by rw [intJ_len, Nat.mul_one], ?_⟩
  rw [lsF_len]
  rcases h2 with ⟨h2, -⟩ | ⟨g', cap, cur, h2, h3, h4, h5, h6, h7, h8⟩
  · injection h2 with h2; cases h2
  · injection h2 with e1 e2 e3
    injection e1 with e1
    injection e1 with e1
    subst e1 e3
    refine .inr ⟨g, c, cur.setIfInBounds i (.int .i64 x), rfl, h3, Blk.set_ (t := 3) h4 i _, h5, h6, by simpa using h7, ?_⟩
    apply List.ext_getElem?
    intro j
    rw [List.getElem?_take]
    by_cases hj : j < n * 1
    · rw [if_pos hj, Array.getElem?_toList, Array.getElem?_setIfInBounds]
      have hsz : cur.size = c := by rw [h7, Nat.mul_one]
      have hr : (intJ (lsF n (upd f i x)))[j]? = some (.int .i64 (upd f i x j)) := by
        rw [intJ_at _ (by rw [lsF_len]; omega), lsF_at _ _ (by omega)]
      rw [hr]
      by_cases e : i = j
      · subst e
        rw [if_pos rfl, if_pos (by omega), upd_same]
      · rw [if_neg e, upd_ne _ _ (fun h => e h.symm)]
        have h9 : (cur.toList.take (n * 1))[j]? = (intJ (lsF n f))[j]? := by rw [h8]
        rw [List.getElem?_take, if_pos hj, Array.getElem?_toList, intJ_at _ (by rw [lsF_len]; omega), lsF_at _ _ (by omega)] at h9
        exact h9
    · rw [if_neg hj, List.getElem?_eq_none (by rw [intJ_len, lsF_len]; omega)]
theorem OwnJ.cell_at {W : World} {base n c : Nat} {A : Option Addr} {f : Nat → Int} (h : OwnJ W base (.slice A n c) (lsF n f)) (hn : 0 < n) :
    ∃ g, A = some ⟨g, 0, none⟩ ∧ base ≤ g ∧ g < W.heap.size ∧ ∀ i, i < n → W.cell? ⟨g, i, none⟩ = some (.int .i64 (f i)) ∧ W.frozen? ⟨g, i, none⟩ = false := by
  obtain ⟨-, h2⟩ := h
  rw [lsF_len] at h2
  rcases h2 with ⟨-, h3⟩ | ⟨g, cap, cur, h2, h3, h4, h5, h6, h7, h8⟩
  · omega
  · injection h2 with e1
    have hb : Blk W g 3 cur := h4
    refine ⟨g, e1, h3, hb.lt, fun i hi => ⟨?_, hb.frozen i⟩⟩
    have h9 : (cur.toList.take (n * 1))[i]? = (intJ (lsF n f))[i]? := by rw [h8]
    rw [List.getElem?_take, if_pos (by omega), Array.getElem?_toList, intJ_at _ (by rw [lsF_len]; exact hi), lsF_at _ _ hi] at h9
    rw [hb.cell, h9]
end Go.Proofs.YtmpegkojencbjaaDoor
