/- School: the law SchoolApart: the row and the tied card. -/
import Derived.Test.YtmpegkojencbjaaDoorMergesI
import Derived.Deep.CutBlock
import Derived.Deep.DeepCutAuto
import Derived.IntWalk
import Derived.Deep.QuietTactic
import Derived.BigQuiet
import Derived.Test.YtmpegkojencbjaaDoorRows
import Derived.ProofKit
import Derived.OpenShut
import Derived.Carry
import Derived.ChangeSame
import Derived.Deep.SlicePairs
import Derived.ChangeSlices
import Derived.Deep.Fields
import Derived.Test.YtmpegkojencbjaaDoorCards
import Derived.Test.YtmpegkojencbjaaDoorTie
import Derived.LaidMore
import Derived.Lay
import Derived.SevenTiedAt
import Derived.Stop.Joined
set_option linter.unusedSimpArgs false
set_option linter.unusedVariables false
set_option linter.unnecessarySimpa false
/- School: the law SchoolApart, walked. -/
namespace Go.Proofs.YtmpegkojencbjaaDoor
open List renaming getElem_toArray → glA, getElem_cons_zero → glB, getElem_cons_succ → glC, setIfInBounds_toArray → glD, set_cons_zero → glE, set_cons_succ → glF
open Go Go.RowKit Go.Shelf
set_option maxHeartbeats 40000000
set_option maxRecDepth 100000
theorem apart_any (d d' : Ad_) (s t : Sch) (q : Int) (w : World) (hz : ScZ s) (hz' : ScZ t) (hd : ScR w w.heap.size d s) (hd' : ScR w w.heap.size d' t) :
    Calls Tryd.prog 11 #[scV d s, scV d' t, .int .i64 q] w fun e w' => e = .returned (.bool true) ∧ Below w.heap.size w w' := by
  have HZ := hide hz
  have HZ' := hide hz'
  obtain ⟨nf, hf⟩ : ∃ n, s.fs.length = n := ⟨_, rfl⟩
  obtain ⟨nr, hr⟩ : ∃ n, s.rs.length = n := ⟨_, rfl⟩
  obtain ⟨Q, hQ⟩ : ∃ n, s.q = n := ⟨_, rfl⟩
  obtain ⟨nf', hf'⟩ : ∃ n, t.fs.length = n := ⟨_, rfl⟩
  obtain ⟨nr', hr'⟩ : ∃ n, t.rs.length = n := ⟨_, rfl⟩
  obtain ⟨Q', hQ'⟩ : ∃ n, t.q = n := ⟨_, rfl⟩
  have HN := hide (And.intro hf (And.intro hr hQ))
  have HN' := hide (And.intro hf' (And.intro hr' hQ'))
  have es : scV d s = .agg #[.slice d.fa nf d.fc, .int .i64 Q, .slice d.ra nr d.rc] := by unfold scV; rw [hf, hr, hQ]
  have et : scV d' t = .agg #[.slice d'.fa nf' d'.fc, .int .i64 Q', .slice d'.ra nr' d'.rc] := by unfold scV; rw [hf', hr', hQ']
  rw [es, et]
  have k3 : Blk ((w.alloc (.cells #[.slice d.fa nf d.fc, .int .i64 Q, .slice d.ra nr d.rc] 47)).alloc (.cells #[.slice d'.fa nf' d'.fc, .int .i64 Q', .slice d'.ra nr' d'.rc] 47)) w.heap.size 47 #[.slice d.fa nf d.fc, .int .i64 Q, .slice d.ra nr d.rc] := (Blk.new w _ _).alloc _
  have k4 : Blk ((w.alloc (.cells #[.slice d.fa nf d.fc, .int .i64 Q, .slice d.ra nr d.rc] 47)).alloc (.cells #[.slice d'.fa nf' d'.fc, .int .i64 Q', .slice d'.ra nr' d'.rc] 47)) (w.heap.size + 1) 47 #[.slice d'.fa nf' d'.fc, .int .i64 Q', .slice d'.ra nr' d'.rc] := by simpa using Blk.new (w.alloc (.cells #[.slice d.fa nf d.fc, .int .i64 Q, .slice d.ra nr d.rc] 47)) 47 #[.slice d'.fa nf' d'.fc, .int .i64 Q', .slice d'.ra nr' d'.rc]
  have HB0 : Hid (Below w.heap.size w ((w.alloc (.cells #[.slice d.fa nf d.fc, .int .i64 Q, .slice d.ra nr d.rc] 47)).alloc (.cells #[.slice d'.fa nf' d'.fc, .int .i64 Q', .slice d'.ra nr' d'.rc] 47))) := hide (((Below.refl _ _).alloc (Nat.le_refl _) _).alloc (by simp) _)
  have HD := hide (hd.below HB0.out)
  have HD' := hide (hd'.below HB0.out)
  have HES := hide (And.intro es et)
  clear hd hd' hz hz' hf hr hQ hf' hr' hQ' es et
  go_enter Tryd.func11, Tryd.ntmps11
  go_upto_region 1 with fail
  generalize ((w.alloc (.cells #[.slice d.fa nf d.fc, .int .i64 Q, .slice d.ra nr d.rc] 47)).alloc (.cells #[.slice d'.fa nf' d'.fc, .int .i64 Q', .slice d'.ra nr' d'.rc] 47)) = w1 at k3 k4 HB0 HD HD' ⊢
  obtain ⟨G, hG⟩ : ∃ x, w.heap.size = x := ⟨_, rfl⟩
  obtain ⟨G', hG'⟩ : ∃ x, G + 1 = x := ⟨_, rfl⟩
  rw [hG] at k3 k4 ⊢
  rw [hG'] at k4 ⊢
  have HSB : Hid (∀ W, Below w1.heap.size w1 W → ((W.cell? ⟨G, 0, none⟩ = some (.slice d.fa nf d.fc) ∧ W.cell? ⟨G, 1, none⟩ = some (.int .i64 Q) ∧ W.cell? ⟨G, 2, none⟩ = some (.slice d.ra nr d.rc)) ∧ (W.cell? ⟨G', 0, none⟩ = some (.slice d'.fa nf' d'.fc) ∧ W.cell? ⟨G', 1, none⟩ = some (.int .i64 Q') ∧ W.cell? ⟨G', 2, none⟩ = some (.slice d'.ra nr' d'.rc)))) := hide fun W h => by
    obtain ⟨-, q0, q1, q2, -⟩ := blk3 (k3.ext h)
    obtain ⟨-, p0, p1, p2, -⟩ := blk3 (k4.ext h)
    exact ⟨⟨q0, q1, q2⟩, p0, p1, p2⟩
  clear k3 k4 hG hG'
  have HGS : Hid (∀ W, Below w1.heap.size w1 W → Calls Tryd.prog 29 #[.agg #[.slice d.fa nf d.fc, .int .i64 Q, .slice d.ra nr d.rc]] W fun e w' => e = .returned (.bool (grB s)) ∧ Below W.heap.size W w') := hide fun W h => by
    have := great_any d s W (HD.out.below h) HZ.out
    rwa [HES.out.1] at this
  have HGT : Hid (∀ W, Below w1.heap.size w1 W → Calls Tryd.prog 29 #[.agg #[.slice d'.fa nf' d'.fc, .int .i64 Q', .slice d'.ra nr' d'.rc]] W fun e w' => e = .returned (.bool (grB t)) ∧ Below W.heap.size W w') := hide fun W h => by
    have := great_any d' t W (HD'.out.below h) HZ'.out
    rwa [HES.out.2] at this
  have B1 : Hid (Below w1.heap.size w1 w1) := hide (Below.refl _ _)
  obtain ⟨⟨x0, x1, x2⟩, y0, y1, y2⟩ := HSB.out _ B1.out
  rcases hgs : grB s with _ | _
  rotate_left
  · as_aux_lemma =>
    rw [hgs] at HGS
    clear hgs
    go_wp2_with fail
    refine (HGS.out w1 B1.out).mono ?_
    rintro e w2 ⟨rfl, hb⟩
    have B2 := hide (B1.out.trans (hb.mono B1.out.size))
    clear hb
    (clear x0 x1 x2 y0 y1 y2)
    obtain ⟨⟨x0, x1, x2⟩, y0, y1, y2⟩ := HSB.out _ B2.out
    go_wp2_with fail
    refine (known_any w2).mono ?_
    rintro e wz ⟨rfl, hbz⟩
    go_wp2_with fail
    go_ret
    exact ⟨rfl, HB0.out.trans ((B2.out.trans (hbz.mono B2.out.size)).mono HB0.out.size)⟩
  rw [hgs] at HGS
  rcases hgt : grB t with _ | _
  rotate_left
  · as_aux_lemma =>
    rw [hgt] at HGT
    clear hgs hgt
    go_wp2_with fail
    refine (HGS.out w1 B1.out).mono ?_
    rintro e w2 ⟨rfl, hb⟩
    have B2 := hide (B1.out.trans (hb.mono B1.out.size))
    clear hb
    (clear x0 x1 x2 y0 y1 y2)
    obtain ⟨⟨x0, x1, x2⟩, y0, y1, y2⟩ := HSB.out _ B2.out
    go_wp2_with fail
    refine (HGT.out w2 B2.out).mono ?_
    rintro e w3 ⟨rfl, hb⟩
    have B3 := hide (B2.out.trans (hb.mono B2.out.size))
    clear hb
    (clear x0 x1 x2 y0 y1 y2)
    obtain ⟨⟨x0, x1, x2⟩, y0, y1, y2⟩ := HSB.out _ B3.out
    go_wp2_with fail
    refine (known_any w3).mono ?_
    rintro e wz ⟨rfl, hbz⟩
    go_wp2_with fail
    go_ret
    exact ⟨rfl, HB0.out.trans ((B3.out.trans (hbz.mono B3.out.size)).mono HB0.out.size)⟩
  rw [hgt] at HGT
  obtain ⟨b1, b2, b3⟩ := grB_no hgs
  obtain ⟨b4, b5, b6⟩ := grB_no hgt
  have HCS : Hid (∀ W, Below w1.heap.size w1 W → Calls Tryd.prog 31 #[.agg #[.slice d.fa nf d.fc, .int .i64 Q, .slice d.ra nr d.rc]] W fun e w' => ∃ d1, e = .returned (scV d1 s) ∧ ScR w' w'.heap.size d1 s ∧ Below W.heap.size W w') := hide fun W h => by
    have := copied_any d s W (HD.out.below h) (by omega) (by omega) (fun r hr => by have := b3 r hr; omega)
    rwa [HES.out.1] at this
  have HCT : Hid (∀ W, Below w1.heap.size w1 W → Calls Tryd.prog 31 #[.agg #[.slice d'.fa nf' d'.fc, .int .i64 Q', .slice d'.ra nr' d'.rc]] W fun e w' => ∃ d1, e = .returned (scV d1 t) ∧ ScR w' w'.heap.size d1 t ∧ Below W.heap.size W w') := hide fun W h => by
    have := copied_any d' t W (HD'.out.below h) (by omega) (by omega) (fun r hr => by have := b6 r hr; omega)
    rwa [HES.out.2] at this
  clear hgs hgt b1 b2 b3 b4 b5 b6
  rcases hs : schB s with _ | _
  · as_aux_lemma =>
    go_wp2_with fail
    refine (HGS.out w1 B1.out).mono ?_
    rintro e w2 ⟨rfl, hb⟩
    have B2 := hide (B1.out.trans (hb.mono B1.out.size))
    clear hb
    (clear x0 x1 x2 y0 y1 y2)
    obtain ⟨⟨x0, x1, x2⟩, y0, y1, y2⟩ := HSB.out _ B2.out
    go_wp2_with fail
    refine (HGT.out w2 B2.out).mono ?_
    rintro e w3 ⟨rfl, hb⟩
    have B3 := hide (B2.out.trans (hb.mono B2.out.size))
    clear hb
    (clear x0 x1 x2 y0 y1 y2)
    obtain ⟨⟨x0, x1, x2⟩, y0, y1, y2⟩ := HSB.out _ B3.out
    go_wp2_with fail
    refine (HCS.out w3 B3.out).mono ?_
    rintro e w4 ⟨dp1, rfl, hdp1, hbp1⟩
    have B4 := hide (B3.out.trans (hbp1.mono B3.out.size))
    have Dp1 := hide hdp1
    have Gp1 := hide hbp1
    clear hdp1 hbp1
    (clear x0 x1 x2 y0 y1 y2)
    obtain ⟨⟨x0, x1, x2⟩, y0, y1, y2⟩ := HSB.out _ B4.out
    have HCK := hide (Check_any dp1 s w4 Dp1.out HZ.out)
    rw [hs] at HCK
    clear hs
    go_wp2_with fail
    refine HCK.out.mono ?_
    rintro e w5 ⟨rfl, hb⟩
    have B5 := hide (B4.out.trans (hb.mono B4.out.size))
    clear hb
    go_wp2_with fail
    refine (known_any w5).mono ?_
    rintro e wz ⟨rfl, hbz⟩
    go_wp2_with fail
    go_ret
    exact ⟨rfl, HB0.out.trans ((B5.out.trans (hbz.mono B5.out.size)).mono HB0.out.size)⟩
  rcases ht : schB t with _ | _
  · as_aux_lemma =>
    go_wp2_with fail
    refine (HGS.out w1 B1.out).mono ?_
    rintro e w2 ⟨rfl, hb⟩
    have B2 := hide (B1.out.trans (hb.mono B1.out.size))
    clear hb
    (clear x0 x1 x2 y0 y1 y2)
    obtain ⟨⟨x0, x1, x2⟩, y0, y1, y2⟩ := HSB.out _ B2.out
    go_wp2_with fail
    refine (HGT.out w2 B2.out).mono ?_
    rintro e w3 ⟨rfl, hb⟩
    have B3 := hide (B2.out.trans (hb.mono B2.out.size))
    clear hb
    (clear x0 x1 x2 y0 y1 y2)
    obtain ⟨⟨x0, x1, x2⟩, y0, y1, y2⟩ := HSB.out _ B3.out
    go_wp2_with fail
    refine (HCS.out w3 B3.out).mono ?_
    rintro e w4 ⟨dp1, rfl, hdp1, hbp1⟩
    have B4 := hide (B3.out.trans (hbp1.mono B3.out.size))
    have Dp1 := hide hdp1
    have Gp1 := hide hbp1
    clear hdp1 hbp1
    (clear x0 x1 x2 y0 y1 y2)
    obtain ⟨⟨x0, x1, x2⟩, y0, y1, y2⟩ := HSB.out _ B4.out
    have HCK := hide (Check_any dp1 s w4 Dp1.out HZ.out)
    rw [hs] at HCK
    clear hs
    go_wp2_with fail
    refine HCK.out.mono ?_
    rintro e w5 ⟨rfl, hb⟩
    have B5 := hide (B4.out.trans (hb.mono B4.out.size))
    (clear hb x0 x1 x2 y0 y1 y2)
    obtain ⟨⟨x0, x1, x2⟩, y0, y1, y2⟩ := HSB.out _ B5.out
    go_wp2_with fail
    refine (HCT.out w5 B5.out).mono ?_
    rintro e w6 ⟨dp2, rfl, hdp2, hbp2⟩
    have B6 := hide (B5.out.trans (hbp2.mono B5.out.size))
    have Dp2 := hide hdp2
    have Gp2 := hide hbp2
    clear hdp2 hbp2
    (clear x0 x1 x2 y0 y1 y2)
    obtain ⟨⟨x0, x1, x2⟩, y0, y1, y2⟩ := HSB.out _ B6.out
    have HCK := hide (Check_any dp2 t w6 Dp2.out HZ'.out)
    rw [ht] at HCK
    clear ht
    go_wp2_with fail
    refine HCK.out.mono ?_
    rintro e w7 ⟨rfl, hb⟩
    have B7 := hide (B6.out.trans (hb.mono B6.out.size))
    clear hb
    go_wp2_with fail
    refine (known_any w7).mono ?_
    rintro e wz ⟨rfl, hbz⟩
    go_wp2_with fail
    go_ret
    exact ⟨rfl, HB0.out.trans ((B7.out.trans (hbz.mono B7.out.size)).mono HB0.out.size)⟩
  -- both are valid
  have HS := hide hs
  have HT := hide ht
  clear hs ht
  go_wp2_with fail
  refine (HGS.out w1 B1.out).mono ?_
  rintro e w2 ⟨rfl, hb⟩
  have B2 := hide (B1.out.trans (hb.mono B1.out.size))
  clear hb
  (clear x0 x1 x2 y0 y1 y2)
  obtain ⟨⟨x0, x1, x2⟩, y0, y1, y2⟩ := HSB.out _ B2.out
  go_wp2_with fail
  refine (HGT.out w2 B2.out).mono ?_
  rintro e w3 ⟨rfl, hb⟩
  have B3 := hide (B2.out.trans (hb.mono B2.out.size))
  clear hb
  (clear x0 x1 x2 y0 y1 y2)
  obtain ⟨⟨x0, x1, x2⟩, y0, y1, y2⟩ := HSB.out _ B3.out
  go_wp2_with fail
  refine (HCS.out w3 B3.out).mono ?_
  rintro e w4 ⟨dp1, rfl, hdp1, hbp1⟩
  have B4 := hide (B3.out.trans (hbp1.mono B3.out.size))
  have Dp1 := hide hdp1
  have Gp1 := hide hbp1
  clear hdp1 hbp1
  (clear x0 x1 x2 y0 y1 y2)
  obtain ⟨⟨x0, x1, x2⟩, y0, y1, y2⟩ := HSB.out _ B4.out
  have HCK := hide (Check_any dp1 s w4 Dp1.out HZ.out)
  rw [HS.out, if_pos rfl] at HCK
  go_wp2_with fail
  refine HCK.out.mono ?_
  rintro e w5 ⟨rfl, hb⟩
  have B5 := hide (B4.out.trans (hb.mono B4.out.size))
  (clear hb x0 x1 x2 y0 y1 y2)
  obtain ⟨⟨x0, x1, x2⟩, y0, y1, y2⟩ := HSB.out _ B5.out
  go_wp2_with fail
  refine (HCT.out w5 B5.out).mono ?_
  rintro e w6 ⟨dp2, rfl, hdp2, hbp2⟩
  have B6 := hide (B5.out.trans (hbp2.mono B5.out.size))
  have Dp2 := hide hdp2
  have Gp2 := hide hbp2
  clear hdp2 hbp2
  (clear x0 x1 x2 y0 y1 y2)
  obtain ⟨⟨x0, x1, x2⟩, y0, y1, y2⟩ := HSB.out _ B6.out
  have HCK := hide (Check_any dp2 t w6 Dp2.out HZ'.out)
  rw [HT.out, if_pos rfl] at HCK
  go_wp2_with fail
  refine HCK.out.mono ?_
  rintro e w7 ⟨rfl, hb⟩
  have B7 := hide (B6.out.trans (hb.mono B6.out.size))
  (clear hb x0 x1 x2 y0 y1 y2 HCK Dp1 Dp2 Gp1 Gp2)
  obtain ⟨⟨x0, x1, x2⟩, y0, y1, y2⟩ := HSB.out _ B7.out
  obtain ⟨⟨L, E⟩, hst⟩ : ∃ r, dfR s t q = r := ⟨_, rfl⟩
  have hts : dfR t s q = (L, E) := by rw [dfR_comm t s q, hst]
  obtain ⟨⟨L3, E3⟩, hss⟩ : ∃ r, dfR s s q = r := ⟨_, rfl⟩
  have he3 := dfR_self (q := q) HS.out
  rw [hss] at he3
  dsimp only at he3
  have HST := hide hst
  have HTS := hide hts
  have HSS := hide hss
  have HE3 := hide he3
  have hcs := dfR_cases (q := q) HS.out HT.out
  rw [hst] at hcs
  have HCASE := hide hcs
  have hL100 : L.length ≤ 1000 := by
    rcases hcs with h | h | ⟨-, -, -, ⟨h, -⟩ | ⟨k, -, h, -⟩⟩
    · injection h with h; rw [h]; simp
    · injection h with h; rw [h]; simp
    · injection h with h; rw [h]; simp
    · injection h with h
      rw [h, clL_len]
      have := (schB_ok HS.out).nf5
      omega
  have HL100 := hide hL100
  clear hst hts hss he3 hcs hL100 HGS HGT
  go_upto_region 3 with fail
  have Bd := hide (B7.out.trans ((Below.refl w7.heap.size w7).drew.mono B7.out.size))
  (try replace Oc1 := hide (OwnJ.ext Oc1.out (Below.refl w7.heap.size w7).drew))
  (try replace Oc2 := hide (OwnJ.ext Oc2.out (Below.refl w7.heap.size w7).drew))
  refine wp_region_J (fun W : World => ((W.cell? ⟨G, 0, none⟩ = some (.slice d.fa nf d.fc) ∧ W.cell? ⟨G, 1, none⟩ = some (.int .i64 Q) ∧ W.cell? ⟨G, 2, none⟩ = some (.slice d.ra nr d.rc)) ∧ (W.cell? ⟨G', 0, none⟩ = some (.slice d'.fa nf' d'.fc) ∧ W.cell? ⟨G', 1, none⟩ = some (.int .i64 Q') ∧ W.cell? ⟨G', 2, none⟩ = some (.slice d'.ra nr' d'.rc)))) (by kernel_rfl) ?_
  (clear x0 x1 x2 y0 y1 y2)
  first | generalize w7.drew = wd at Bd Oc1 Oc2 ⊢ | generalize w7.drew = wd at Bd Oc1 ⊢ | generalize w7.drew = wd at Bd ⊢
  refine wpAnyJ_take 0 (v := ?_) (by first | exact hF | exact wideFn) (HSB.out _ Bd.out) rfl (by kernel_rfl) (by kernel_rfl) (by kernel_rfl) (by kernel_rfl) rfl ?_ (by first | exact fun _ _ _ h => h | exact fun _ _ _ h => hQ2 _ _ _ _ _ h) ?_
  rotate_left
  · intro W hSW
    simp only [glA, glB, glC]
    (try dsimp only at hSW)
    go_simp
    with_reducible rfl
  (try simp only [glA, glB, glC, Act.put, glD, glE, glF])
  refine wpAnyJ_take 2 (v := ?_) (by first | exact hF | exact wideFn) (HSB.out _ Bd.out) rfl (by kernel_rfl) (by kernel_rfl) (by kernel_rfl) (by kernel_rfl) rfl ?_ (by first | exact fun _ _ _ h => h | exact fun _ _ _ h => hQ2 _ _ _ _ _ h) ?_
  rotate_left
  · intro W hSW
    simp only [glA, glB, glC]
    (try dsimp only at hSW)
    go_simp
    with_reducible rfl
  (try simp only [glA, glB, glC, Act.put, glD, glE, glF])
  refine wpAnyJ_take 4 (v := ?_) (by first | exact hF | exact wideFn) (HSB.out _ Bd.out) rfl (by kernel_rfl) (by kernel_rfl) (by kernel_rfl) (by kernel_rfl) rfl ?_ (by first | exact fun _ _ _ h => h | exact fun _ _ _ h => hQ2 _ _ _ _ _ h) ?_
  rotate_left
  · intro W hSW
    simp only [glA, glB, glC]
    (try dsimp only at hSW)
    go_simp
    with_reducible rfl
  (try simp only [glA, glB, glC, Act.put, glD, glE, glF])
  refine wpAnyJ_one 1 rfl (by kernel_rfl) (fun K hK => ?_)
  simp only [glA, glB, glC]
  go_simp
  refine ⟨trivial, rfl, ?_⟩
  (with_reducible refine (callsIn_wide.2 (HCS.out wd Bd.out)).mono ?_)
  rintro e we ⟨d1, rfl, hd1, hb1⟩
  have Be := hide (Bd.out.trans (hb1.mono Bd.out.size))
  dsimp only
  refine hK.out _ _ (fun _ => HSB.out _ Be.out) ?_
  clear hK K
  (try simp only [glA, glB, glC, Act.put, glD, glE, glF])
  refine wpAnyJ_one 3 rfl (by kernel_rfl) (fun K hK => ?_)
  simp only [glA, glB, glC]
  go_simp
  refine ⟨trivial, rfl, ?_⟩
  (with_reducible refine (callsIn_wide.2 (HCT.out we Be.out)).mono ?_)
  rintro e wf ⟨d2, rfl, hd2, hb2⟩
  have Bf := hide (Be.out.trans (hb2.mono Be.out.size))
  dsimp only
  refine hK.out _ _ (fun _ => HSB.out _ Bf.out) ?_
  clear hK K
  (try simp only [glA, glB, glC, Act.put, glD, glE, glF])
  have HDF := Differ_any d1 d2 s t q wf (hd1.below hb2) hd2 HZ.out.nf HZ.out.nr HZ'.out.nf HZ'.out.nr
  rw [HST.out] at HDF
  unfold DfPost at HDF
  dsimp only at HDF
  refine wpAnyJ_one 5 rfl (by kernel_rfl) (fun K hK => ?_)
  simp only [glA, glB, glC]
  go_simp
  refine ⟨trivial, rfl, ?_⟩
  (with_reducible refine (callsIn_wide.2 HDF).mono ?_)
  rintro e w8 ⟨vc1, rfl, hoc1, hb3⟩
  have B8 := hide (Bf.out.trans (hb3.mono Bf.out.size))
  dsimp only
  refine hK.out _ _ (fun _ => HSB.out _ B8.out) ?_
  clear hK K
  (try simp only [glA, glB, glC, Act.put, glD, glE, glF])
  refine wpAnyJ_take 6 (v := ?_) (by first | exact hF | exact wideFn) (HSB.out _ B8.out) rfl (by kernel_rfl) (by kernel_rfl) (by kernel_rfl) (by kernel_rfl) rfl ?_ (by first | exact fun _ _ _ h => h | exact fun _ _ _ h => hQ2 _ _ _ _ _ h) ?_
  rotate_left
  · intro W hSW
    simp only [glA, glB, glC]
    (try dsimp only at hSW)
    go_simp
    with_reducible rfl
  (try simp only [glA, glB, glC, Act.put, glD, glE, glF])
  refine wpAnyJ_take 7 (v := ?_) (by first | exact hF | exact wideFn) (HSB.out _ B8.out) rfl (by kernel_rfl) (by kernel_rfl) (by kernel_rfl) (by kernel_rfl) rfl ?_ (by first | exact fun _ _ _ h => h | exact fun _ _ _ h => hQ2 _ _ _ _ _ h) ?_
  rotate_left
  · intro W hSW
    simp only [glA, glB, glC]
    (try dsimp only at hSW)
    go_simp
    with_reducible rfl
  (try simp only [glA, glB, glC, Act.put, glD, glE, glF])
  refine wpAnyJ_take 8 (v := ?_) (by first | exact hF | exact wideFn) (HSB.out _ B8.out) rfl (by kernel_rfl) (by kernel_rfl) (by kernel_rfl) (by kernel_rfl) rfl ?_ (by first | exact fun _ _ _ h => h | exact fun _ _ _ h => hQ2 _ _ _ _ _ h) ?_
  rotate_left
  · intro W hSW
    simp only [glA, glB, glC]
    (try dsimp only at hSW)
    go_simp
    with_reducible rfl
  (try simp only [glA, glB, glC, Act.put, glD, glE, glF])
  refine wpAnyJ_take 9 (v := ?_) (by first | exact hF | exact wideFn) (HSB.out _ B8.out) rfl (by kernel_rfl) (by kernel_rfl) (by kernel_rfl) (by kernel_rfl) rfl ?_ (by first | exact fun _ _ _ h => h | exact fun _ _ _ h => hQ2 _ _ _ _ _ h) ?_
  rotate_left
  · intro W hSW
    simp only [glA, glB, glC]
    (try dsimp only at hSW)
    go_simp
    with_reducible rfl
  (try simp only [glA, glB, glC, Act.put, glD, glE, glF])
  refine wpAnyJ_take 10 (v := ?_) (by first | exact hF | exact wideFn) (HSB.out _ B8.out) rfl (by kernel_rfl) (by kernel_rfl) (by kernel_rfl) (by kernel_rfl) rfl ?_ (by first | exact fun _ _ _ h => h | exact fun _ _ _ h => hQ2 _ _ _ _ _ h) ?_
  rotate_left
  · intro W hSW
    simp only [glA, glB, glC]
    (try dsimp only at hSW)
    go_simp
    with_reducible rfl
  (try simp only [glA, glB, glC, Act.put, glD, glE, glF])
  refine wpAnyJ_done (by kernel_rfl) ?_
  obtain ⟨Ac1, cc1, hvc1⟩ := own_shape hoc1
  subst hvc1
  have Oc1 := hide hoc1
  (try replace Oc1 := hide (OwnJ.ext Oc1.out (hb1.trans ((hb2.trans (hb3.mono hb2.size)).mono hb1.size))))
  (try replace Oc2 := hide (OwnJ.ext Oc2.out (hb1.trans ((hb2.trans (hb3.mono hb2.size)).mono hb1.size))))
  have BF := hide Bf.out
  clear hoc1 hb1 hb2 hb3 hd1 hd2 HDF Bd Be Bf
  obtain ⟨⟨x0, x1, x2⟩, y0, y1, y2⟩ := HSB.out _ B8.out
  have Oc1 := hide (OwnJ.low2 Oc1.out BF.out.size)
  go_upto_region 4 with fail
  have Bd := hide (B8.out.trans ((Below.refl w8.heap.size w8).drew.mono B8.out.size))
  (try replace Oc1 := hide (OwnJ.ext Oc1.out (Below.refl w8.heap.size w8).drew))
  (try replace Oc2 := hide (OwnJ.ext Oc2.out (Below.refl w8.heap.size w8).drew))
  refine wp_region_J (fun W : World => ((W.cell? ⟨G, 0, none⟩ = some (.slice d.fa nf d.fc) ∧ W.cell? ⟨G, 1, none⟩ = some (.int .i64 Q) ∧ W.cell? ⟨G, 2, none⟩ = some (.slice d.ra nr d.rc)) ∧ (W.cell? ⟨G', 0, none⟩ = some (.slice d'.fa nf' d'.fc) ∧ W.cell? ⟨G', 1, none⟩ = some (.int .i64 Q') ∧ W.cell? ⟨G', 2, none⟩ = some (.slice d'.ra nr' d'.rc)))) (by kernel_rfl) ?_
  (clear x0 x1 x2 y0 y1 y2)
  first | generalize w8.drew = wd at Bd Oc1 Oc2 ⊢ | generalize w8.drew = wd at Bd Oc1 ⊢ | generalize w8.drew = wd at Bd ⊢
  refine wpAnyJ_take 0 (v := ?_) (by first | exact hF | exact wideFn) (HSB.out _ Bd.out) rfl (by kernel_rfl) (by kernel_rfl) (by kernel_rfl) (by kernel_rfl) rfl ?_ (by first | exact fun _ _ _ h => h | exact fun _ _ _ h => hQ2 _ _ _ _ _ h) ?_
  rotate_left
  · intro W hSW
    simp only [glA, glB, glC]
    (try dsimp only at hSW)
    go_simp
    with_reducible rfl
  (try simp only [glA, glB, glC, Act.put, glD, glE, glF])
  refine wpAnyJ_take 2 (v := ?_) (by first | exact hF | exact wideFn) (HSB.out _ Bd.out) rfl (by kernel_rfl) (by kernel_rfl) (by kernel_rfl) (by kernel_rfl) rfl ?_ (by first | exact fun _ _ _ h => h | exact fun _ _ _ h => hQ2 _ _ _ _ _ h) ?_
  rotate_left
  · intro W hSW
    simp only [glA, glB, glC]
    (try dsimp only at hSW)
    go_simp
    with_reducible rfl
  (try simp only [glA, glB, glC, Act.put, glD, glE, glF])
  refine wpAnyJ_take 4 (v := ?_) (by first | exact hF | exact wideFn) (HSB.out _ Bd.out) rfl (by kernel_rfl) (by kernel_rfl) (by kernel_rfl) (by kernel_rfl) rfl ?_ (by first | exact fun _ _ _ h => h | exact fun _ _ _ h => hQ2 _ _ _ _ _ h) ?_
  rotate_left
  · intro W hSW
    simp only [glA, glB, glC]
    (try dsimp only at hSW)
    go_simp
    with_reducible rfl
  (try simp only [glA, glB, glC, Act.put, glD, glE, glF])
  refine wpAnyJ_one 1 rfl (by kernel_rfl) (fun K hK => ?_)
  simp only [glA, glB, glC]
  go_simp
  refine ⟨trivial, rfl, ?_⟩
  (with_reducible refine (callsIn_wide.2 (HCT.out wd Bd.out)).mono ?_)
  rintro e we ⟨d1, rfl, hd1, hb1⟩
  have Be := hide (Bd.out.trans (hb1.mono Bd.out.size))
  dsimp only
  refine hK.out _ _ (fun _ => HSB.out _ Be.out) ?_
  clear hK K
  (try simp only [glA, glB, glC, Act.put, glD, glE, glF])
  refine wpAnyJ_one 3 rfl (by kernel_rfl) (fun K hK => ?_)
  simp only [glA, glB, glC]
  go_simp
  refine ⟨trivial, rfl, ?_⟩
  (with_reducible refine (callsIn_wide.2 (HCS.out we Be.out)).mono ?_)
  rintro e wf ⟨d2, rfl, hd2, hb2⟩
  have Bf := hide (Be.out.trans (hb2.mono Be.out.size))
  dsimp only
  refine hK.out _ _ (fun _ => HSB.out _ Bf.out) ?_
  clear hK K
  (try simp only [glA, glB, glC, Act.put, glD, glE, glF])
  have HDF := Differ_any d1 d2 t s q wf (hd1.below hb2) hd2 HZ'.out.nf HZ'.out.nr HZ.out.nf HZ.out.nr
  rw [HTS.out] at HDF
  unfold DfPost at HDF
  dsimp only at HDF
  refine wpAnyJ_one 5 rfl (by kernel_rfl) (fun K hK => ?_)
  simp only [glA, glB, glC]
  go_simp
  refine ⟨trivial, rfl, ?_⟩
  (with_reducible refine (callsIn_wide.2 HDF).mono ?_)
  rintro e w9 ⟨vc2, rfl, hoc2, hb3⟩
  have B9 := hide (Bf.out.trans (hb3.mono Bf.out.size))
  dsimp only
  refine hK.out _ _ (fun _ => HSB.out _ B9.out) ?_
  clear hK K
  (try simp only [glA, glB, glC, Act.put, glD, glE, glF])
  refine wpAnyJ_take 6 (v := ?_) (by first | exact hF | exact wideFn) (HSB.out _ B9.out) rfl (by kernel_rfl) (by kernel_rfl) (by kernel_rfl) (by kernel_rfl) rfl ?_ (by first | exact fun _ _ _ h => h | exact fun _ _ _ h => hQ2 _ _ _ _ _ h) ?_
  rotate_left
  · intro W hSW
    simp only [glA, glB, glC]
    (try dsimp only at hSW)
    go_simp
    with_reducible rfl
  (try simp only [glA, glB, glC, Act.put, glD, glE, glF])
  refine wpAnyJ_take 7 (v := ?_) (by first | exact hF | exact wideFn) (HSB.out _ B9.out) rfl (by kernel_rfl) (by kernel_rfl) (by kernel_rfl) (by kernel_rfl) rfl ?_ (by first | exact fun _ _ _ h => h | exact fun _ _ _ h => hQ2 _ _ _ _ _ h) ?_
  rotate_left
  · intro W hSW
    simp only [glA, glB, glC]
    (try dsimp only at hSW)
    go_simp
    with_reducible rfl
  (try simp only [glA, glB, glC, Act.put, glD, glE, glF])
  refine wpAnyJ_take 8 (v := ?_) (by first | exact hF | exact wideFn) (HSB.out _ B9.out) rfl (by kernel_rfl) (by kernel_rfl) (by kernel_rfl) (by kernel_rfl) rfl ?_ (by first | exact fun _ _ _ h => h | exact fun _ _ _ h => hQ2 _ _ _ _ _ h) ?_
  rotate_left
  · intro W hSW
    simp only [glA, glB, glC]
    (try dsimp only at hSW)
    go_simp
    with_reducible rfl
  (try simp only [glA, glB, glC, Act.put, glD, glE, glF])
  refine wpAnyJ_take 9 (v := ?_) (by first | exact hF | exact wideFn) (HSB.out _ B9.out) rfl (by kernel_rfl) (by kernel_rfl) (by kernel_rfl) (by kernel_rfl) rfl ?_ (by first | exact fun _ _ _ h => h | exact fun _ _ _ h => hQ2 _ _ _ _ _ h) ?_
  rotate_left
  · intro W hSW
    simp only [glA, glB, glC]
    (try dsimp only at hSW)
    go_simp
    with_reducible rfl
  (try simp only [glA, glB, glC, Act.put, glD, glE, glF])
  refine wpAnyJ_take 10 (v := ?_) (by first | exact hF | exact wideFn) (HSB.out _ B9.out) rfl (by kernel_rfl) (by kernel_rfl) (by kernel_rfl) (by kernel_rfl) rfl ?_ (by first | exact fun _ _ _ h => h | exact fun _ _ _ h => hQ2 _ _ _ _ _ h) ?_
  rotate_left
  · intro W hSW
    simp only [glA, glB, glC]
    (try dsimp only at hSW)
    go_simp
    with_reducible rfl
  (try simp only [glA, glB, glC, Act.put, glD, glE, glF])
  refine wpAnyJ_done (by kernel_rfl) ?_
  obtain ⟨Ac2, cc2, hvc2⟩ := own_shape hoc2
  subst hvc2
  have Oc2 := hide hoc2
  (try replace Oc1 := hide (OwnJ.ext Oc1.out (hb1.trans ((hb2.trans (hb3.mono hb2.size)).mono hb1.size))))
  (try replace Oc2 := hide (OwnJ.ext Oc2.out (hb1.trans ((hb2.trans (hb3.mono hb2.size)).mono hb1.size))))
  have BF := hide Bf.out
  clear hoc2 hb1 hb2 hb3 hd1 hd2 HDF Bd Be Bf
  obtain ⟨⟨x0, x1, x2⟩, y0, y1, y2⟩ := HSB.out _ B9.out
  have HEQ := equal_any Ac1 Ac2 cc1 cc2 L L w9 (by have := HL100.out; unfold maxLen; omega) (OwnJ.li Oc1.out).2 (OwnJ.li Oc2.out).2
  rw [decide_eq_true rfl] at HEQ
  have HEQ := hide HEQ
  go_wp2_with fail
  refine HEQ.out.mono ?_
  rintro e wa ⟨rfl, hb⟩
  have Ba := hide (B9.out.trans (hb.mono B9.out.size))
  have Oc1 := hide (OwnJ.ext Oc1.out hb)
  (clear hb x0 x1 x2 y0 y1 y2 HEQ Oc2)
  obtain ⟨⟨x0, x1, x2⟩, y0, y1, y2⟩ := HSB.out _ Ba.out
  go_upto_region 7 with fail
  have Bd := hide (Ba.out.trans ((Below.refl wa.heap.size wa).drew.mono Ba.out.size))
  (try replace Oc1 := hide (OwnJ.ext Oc1.out (Below.refl wa.heap.size wa).drew))
  (try replace Oc2 := hide (OwnJ.ext Oc2.out (Below.refl wa.heap.size wa).drew))
  refine wp_region_J (fun W : World => ((W.cell? ⟨G, 0, none⟩ = some (.slice d.fa nf d.fc) ∧ W.cell? ⟨G, 1, none⟩ = some (.int .i64 Q) ∧ W.cell? ⟨G, 2, none⟩ = some (.slice d.ra nr d.rc)) ∧ (W.cell? ⟨G', 0, none⟩ = some (.slice d'.fa nf' d'.fc) ∧ W.cell? ⟨G', 1, none⟩ = some (.int .i64 Q') ∧ W.cell? ⟨G', 2, none⟩ = some (.slice d'.ra nr' d'.rc)))) (by kernel_rfl) ?_
  (clear x0 x1 x2 y0 y1 y2)
  first | generalize wa.drew = wd at Bd Oc1 Oc2 ⊢ | generalize wa.drew = wd at Bd Oc1 ⊢ | generalize wa.drew = wd at Bd ⊢
  refine wpAnyJ_take 0 (v := ?_) (by first | exact hF | exact wideFn) (HSB.out _ Bd.out) rfl (by kernel_rfl) (by kernel_rfl) (by kernel_rfl) (by kernel_rfl) rfl ?_ (by first | exact fun _ _ _ h => h | exact fun _ _ _ h => hQ2 _ _ _ _ _ h) ?_
  rotate_left
  · intro W hSW
    simp only [glA, glB, glC]
    (try dsimp only at hSW)
    go_simp
    with_reducible rfl
  (try simp only [glA, glB, glC, Act.put, glD, glE, glF])
  refine wpAnyJ_take 2 (v := ?_) (by first | exact hF | exact wideFn) (HSB.out _ Bd.out) rfl (by kernel_rfl) (by kernel_rfl) (by kernel_rfl) (by kernel_rfl) rfl ?_ (by first | exact fun _ _ _ h => h | exact fun _ _ _ h => hQ2 _ _ _ _ _ h) ?_
  rotate_left
  · intro W hSW
    simp only [glA, glB, glC]
    (try dsimp only at hSW)
    go_simp
    with_reducible rfl
  (try simp only [glA, glB, glC, Act.put, glD, glE, glF])
  refine wpAnyJ_take 4 (v := ?_) (by first | exact hF | exact wideFn) (HSB.out _ Bd.out) rfl (by kernel_rfl) (by kernel_rfl) (by kernel_rfl) (by kernel_rfl) rfl ?_ (by first | exact fun _ _ _ h => h | exact fun _ _ _ h => hQ2 _ _ _ _ _ h) ?_
  rotate_left
  · intro W hSW
    simp only [glA, glB, glC]
    (try dsimp only at hSW)
    go_simp
    with_reducible rfl
  (try simp only [glA, glB, glC, Act.put, glD, glE, glF])
  refine wpAnyJ_one 1 rfl (by kernel_rfl) (fun K hK => ?_)
  simp only [glA, glB, glC]
  go_simp
  refine ⟨trivial, rfl, ?_⟩
  (with_reducible refine (callsIn_wide.2 (HCS.out wd Bd.out)).mono ?_)
  rintro e we ⟨d1, rfl, hd1, hb1⟩
  have Be := hide (Bd.out.trans (hb1.mono Bd.out.size))
  dsimp only
  refine hK.out _ _ (fun _ => HSB.out _ Be.out) ?_
  clear hK K
  (try simp only [glA, glB, glC, Act.put, glD, glE, glF])
  refine wpAnyJ_one 3 rfl (by kernel_rfl) (fun K hK => ?_)
  simp only [glA, glB, glC]
  go_simp
  refine ⟨trivial, rfl, ?_⟩
  (with_reducible refine (callsIn_wide.2 (HCS.out we Be.out)).mono ?_)
  rintro e wf ⟨d2, rfl, hd2, hb2⟩
  have Bf := hide (Be.out.trans (hb2.mono Be.out.size))
  dsimp only
  refine hK.out _ _ (fun _ => HSB.out _ Bf.out) ?_
  clear hK K
  (try simp only [glA, glB, glC, Act.put, glD, glE, glF])
  have HDF := Differ_any d1 d2 s s q wf (hd1.below hb2) hd2 HZ.out.nf HZ.out.nr HZ.out.nf HZ.out.nr
  rw [HSS.out] at HDF
  unfold DfPost at HDF
  dsimp only at HDF
  refine wpAnyJ_one 5 rfl (by kernel_rfl) (fun K hK => ?_)
  simp only [glA, glB, glC]
  go_simp
  refine ⟨trivial, rfl, ?_⟩
  (with_reducible refine (callsIn_wide.2 HDF).mono ?_)
  rintro e wb ⟨vc3, rfl, hoc3, hb3⟩
  have Bb := hide (Bf.out.trans (hb3.mono Bf.out.size))
  dsimp only
  refine hK.out _ _ (fun _ => HSB.out _ Bb.out) ?_
  clear hK K
  (try simp only [glA, glB, glC, Act.put, glD, glE, glF])
  refine wpAnyJ_take 6 (v := ?_) (by first | exact hF | exact wideFn) (HSB.out _ Bb.out) rfl (by kernel_rfl) (by kernel_rfl) (by kernel_rfl) (by kernel_rfl) rfl ?_ (by first | exact fun _ _ _ h => h | exact fun _ _ _ h => hQ2 _ _ _ _ _ h) ?_
  rotate_left
  · intro W hSW
    simp only [glA, glB, glC]
    (try dsimp only at hSW)
    go_simp
    with_reducible rfl
  (try simp only [glA, glB, glC, Act.put, glD, glE, glF])
  refine wpAnyJ_take 7 (v := ?_) (by first | exact hF | exact wideFn) (HSB.out _ Bb.out) rfl (by kernel_rfl) (by kernel_rfl) (by kernel_rfl) (by kernel_rfl) rfl ?_ (by first | exact fun _ _ _ h => h | exact fun _ _ _ h => hQ2 _ _ _ _ _ h) ?_
  rotate_left
  · intro W hSW
    simp only [glA, glB, glC]
    (try dsimp only at hSW)
    go_simp
    with_reducible rfl
  (try simp only [glA, glB, glC, Act.put, glD, glE, glF])
  refine wpAnyJ_take 8 (v := ?_) (by first | exact hF | exact wideFn) (HSB.out _ Bb.out) rfl (by kernel_rfl) (by kernel_rfl) (by kernel_rfl) (by kernel_rfl) rfl ?_ (by first | exact fun _ _ _ h => h | exact fun _ _ _ h => hQ2 _ _ _ _ _ h) ?_
  rotate_left
  · intro W hSW
    simp only [glA, glB, glC]
    (try dsimp only at hSW)
    go_simp
    with_reducible rfl
  (try simp only [glA, glB, glC, Act.put, glD, glE, glF])
  refine wpAnyJ_take 9 (v := ?_) (by first | exact hF | exact wideFn) (HSB.out _ Bb.out) rfl (by kernel_rfl) (by kernel_rfl) (by kernel_rfl) (by kernel_rfl) rfl ?_ (by first | exact fun _ _ _ h => h | exact fun _ _ _ h => hQ2 _ _ _ _ _ h) ?_
  rotate_left
  · intro W hSW
    simp only [glA, glB, glC]
    (try dsimp only at hSW)
    go_simp
    with_reducible rfl
  (try simp only [glA, glB, glC, Act.put, glD, glE, glF])
  refine wpAnyJ_take 10 (v := ?_) (by first | exact hF | exact wideFn) (HSB.out _ Bb.out) rfl (by kernel_rfl) (by kernel_rfl) (by kernel_rfl) (by kernel_rfl) rfl ?_ (by first | exact fun _ _ _ h => h | exact fun _ _ _ h => hQ2 _ _ _ _ _ h) ?_
  rotate_left
  · intro W hSW
    simp only [glA, glB, glC]
    (try dsimp only at hSW)
    go_simp
    with_reducible rfl
  (try simp only [glA, glB, glC, Act.put, glD, glE, glF])
  refine wpAnyJ_done (by kernel_rfl) ?_
  obtain ⟨Ac3, cc3, hvc3⟩ := own_shape hoc3
  subst hvc3
  have Oc3 := hide hoc3
  (try replace Oc1 := hide (OwnJ.ext Oc1.out (hb1.trans ((hb2.trans (hb3.mono hb2.size)).mono hb1.size))))
  (try replace Oc2 := hide (OwnJ.ext Oc2.out (hb1.trans ((hb2.trans (hb3.mono hb2.size)).mono hb1.size))))
  have BF := hide Bf.out
  clear hoc3 hb1 hb2 hb3 hd1 hd2 HDF Bd Be Bf
  obtain ⟨⟨x0, x1, x2⟩, y0, y1, y2⟩ := HSB.out _ Bb.out
  go_upto_region 8 with fail
  go_cut [92] (fun v w' => v = .bool false ∧ w' = wb)
  case first =>
   as_aux_lemma =>
    rcases HE3.out with h | h
    · subst h
      go_wp2_with fail
      go_meet
      exact ⟨rfl, rfl⟩
    · subst h
      go_wp2_with fail
      go_meet
      exact ⟨rfl, rfl⟩
  obtain ⟨rfl, hw⟩ := hcut
  have hw := hw.symm
  subst hw
  obtain ⟨⟨g1, g2, g3⟩, hg⟩ : ∃ r, gpR s q = r := ⟨_, rfl⟩
  obtain ⟨⟨i1, i2, i3⟩, hi⟩ : ∃ r, gpR t q = r := ⟨_, rfl⟩
  have HG1 := hide hg
  have HG2 := hide hi
  clear hg hi Oc3 HSS HE3
  go_wp2_with fail
  refine (HCS.out wb Bb.out).mono ?_
  rintro e wc ⟨dp3, rfl, hdp3, hbp3⟩
  have Bc := hide (Bb.out.trans (hbp3.mono Bb.out.size))
  have Dp3 := hide hdp3
  have Gp3 := hide hbp3
  clear hdp3 hbp3
  (clear x0 x1 x2 y0 y1 y2)
  obtain ⟨⟨x0, x1, x2⟩, y0, y1, y2⟩ := HSB.out _ Bc.out
  have Oc1 := hide (OwnJ.ext Oc1.out Gp3.out)
  have HGP := Gaps_any dp3 s q wc Dp3.out HZ.out.nf HZ.out.nr
  rw [HG1.out] at HGP
  unfold GpPost at HGP
  dsimp only at HGP
  have HGP := hide HGP
  clear Dp3 Gp3
  go_wp2_with fail
  refine HGP.out.mono ?_
  rintro e wd ⟨rfl, hb⟩
  have Bd := hide (Bc.out.trans (hb.mono Bc.out.size))
  have Oc1 := hide (OwnJ.ext Oc1.out hb)
  (clear hb x0 x1 x2 y0 y1 y2 HGP)
  obtain ⟨⟨x0, x1, x2⟩, y0, y1, y2⟩ := HSB.out _ Bd.out
  go_wp2_with fail
  refine (HCT.out wd Bd.out).mono ?_
  rintro e we ⟨dp4, rfl, hdp4, hbp4⟩
  have Be := hide (Bd.out.trans (hbp4.mono Bd.out.size))
  have Dp4 := hide hdp4
  have Gp4 := hide hbp4
  clear hdp4 hbp4
  (clear x0 x1 x2 y0 y1 y2)
  obtain ⟨⟨x0, x1, x2⟩, y0, y1, y2⟩ := HSB.out _ Be.out
  have Oc1 := hide (OwnJ.ext Oc1.out Gp4.out)
  have HGP := Gaps_any dp4 t q we Dp4.out HZ'.out.nf HZ'.out.nr
  rw [HG2.out] at HGP
  unfold GpPost at HGP
  dsimp only at HGP
  have HGP := hide HGP
  clear Dp4 Gp4
  go_wp2_with fail
  refine HGP.out.mono ?_
  rintro e wf ⟨rfl, hb⟩
  have Bf := hide (Be.out.trans (hb.mono Be.out.size))
  have Oc1 := hide (OwnJ.ext Oc1.out hb)
  (clear hb x0 x1 x2 y0 y1 y2 HGP)
  obtain ⟨⟨x0, x1, x2⟩, y0, y1, y2⟩ := HSB.out _ Bf.out
  rcases HCASE.out with h | h | ⟨q0, q1, hff, ⟨h, hall⟩ | ⟨K, hK, h, hne, heq⟩⟩
  · as_aux_lemma =>
    injection h with h1 h2
    subst h1 h2
    go_wp2_with fail
    refine (known_any wf).mono ?_
    rintro e wz ⟨rfl, hbz⟩
    go_wp2_with fail
    go_ret
    exact ⟨rfl, HB0.out.trans ((Bf.out.trans (hbz.mono Bf.out.size)).mono HB0.out.size)⟩
  · as_aux_lemma =>
    injection h with h1 h2
    subst h1 h2
    go_wp2_with fail
    refine (known_any wf).mono ?_
    rintro e wz ⟨rfl, hbz⟩
    go_wp2_with fail
    go_ret
    exact ⟨rfl, HB0.out.trans ((Bf.out.trans (hbz.mono Bf.out.size)).mono HB0.out.size)⟩
  · as_aux_lemma =>
    injection h with h1 h2
    subst h1 h2
    obtain ⟨z1, z2⟩ := gpR_eq HS.out HT.out q0 q1 hff hall
    rw [HG1.out, HG2.out] at z1
    rw [HG1.out] at z2
    injection z1 with z1 z3
    injection z3 with z3 z4
    dsimp only at z2
    subst z1 z3 z4 z2
    clear hall
    go_wp2_with fail
    refine (known_any wf).mono ?_
    rintro e wz ⟨rfl, hbz⟩
    go_wp2_with fail
    go_ret
    exact ⟨rfl, HB0.out.trans ((Bf.out.trans (hbz.mono Bf.out.size)).mono HB0.out.size)⟩
  injection h with h1 h2
  subst h1 h2
  rw [clL_len, HN.out.1] at Oc1 ⊢
  have HOK := hide (schB_ok HS.out)
  have hnf1 : 1 ≤ nf := by have := HOK.out.nf1; rw [HN.out.1] at this; exact this
  have hnf5 : nf ≤ 5 := by have := HOK.out.nf5; rw [HN.out.1] at this; exact this
  have hfv : ∀ i, i < nf → 1 ≤ s.fs.getD i 0 ∧ s.fs.getD i 0 ≤ 4 := fun i hi => fsB_at HOK.out.fs i (by rw [HN.out.1]; exact hi)
  have HFV := hide hfv
  have HCH : Hid (∀ j, j < nf → 1 ≤ chF s.fs j) := hide fun j hj => by have := hfv j hj; unfold chF; omega
  have hpr : pr s.fs nf ≤ 1024 := by
    have h1 := pr_le (fs := s.fs) nf (fun j hj => by have := hfv j hj; unfold chF; omega)
    have h2 : 4 ^ nf ≤ 4 ^ 5 := Nat.pow_le_pow_right (by decide) hnf5
    exact Nat.le_trans h1 h2
  rw [HN.out.1] at hK
  have hK2 : K < 1024 := by omega
  obtain ⟨g, hA, hge, -, -⟩ := OwnJ.cell_at (f := dg s.fs nf K) (by rw [clL_ls, HN.out.1] at Oc1; exact Oc1.out) (by omega)
  subst hA
  obtain ⟨qs, qt⟩ := min_le q1
  have HVS : Hid (∀ k, ((decR s (clL s.fs k) q).1, (decR s (clL s.fs k) q).2.1) = vdF s q k) := hide fun k => decR_at HS.out q0 qs k
  have HVT : Hid (∀ k, ((decR t (clL s.fs k) q).1, (decR t (clL s.fs k) q).2.1) = vdF t q k) := hide fun k => by rw [hff]; exact decR_at HT.out q0 qt k
  have HNE := hide hne
  have HEQ := hide heq
  have HKP := hide hK
  clear HCASE HG1 HG2 HST HTS hfv hpr q0 q1 qs qt hne heq hff hK HL100
  go_wp2_with fail
  go_loopw [19] (fun i wr => ∃ k : Nat, k ≤ nf ∧ i = .int .i64 k ∧ Hid (wf = wr)) (fun i _ => nf - (intOf i).toNat)
  case atStart => exact ⟨0, Nat.zero_le _, rfl, hide rfl⟩
  case round =>
    obtain ⟨k, hk, rfl, HW⟩ := hrel
    have hw := HW.out
    subst hw
    by_cases hlt : k < nf
    · as_aux_lemma =>
      have hlt' : (k : Int) < (nf : Int) := by omega
      have k0 : (0 : Int) ≤ (k : Int) := by omega
      have hst : IntKind.i64.wrap ((k : Int) + 1) = ((k + 1 : Nat) : Int) := by rw [IntWalk.i64_in _ (by omega)]; omega
      obtain ⟨fb, fo, hfa, hfb, hfc⟩ := VR1.at_ HD.out.fs (k := k) (by rw [HN.out.1]; exact hlt)
      obtain ⟨fv, hv⟩ : ∃ x, s.fs.getD k 0 = x := ⟨_, rfl⟩
      have hfv := HFV.out k hlt
      rw [hv] at hfc hfv
      have cf := (Bf.out.cell (p := ⟨fb, fo + k, none⟩) hfb).trans hfc
      have f1 : ¬ fv < 1 := by omega
      have f2 : ¬ 4 < fv := by omega
      rw [hfa] at x0 ⊢
      clear hfc hv
      go_wp2_with fail
      go_roundw
      case rel => exact ⟨k + 1, by omega, by go_num, by first | exact hide trivial | exact hide rfl⟩
      case measure => simp [intOf]; omega
      -- END1
    · as_aux_lemma =>
      obtain rfl : k = nf := by omega
      have hnl : ¬ (k : Int) < (k : Int) := by omega
      go_wp2_with fail
      refine (HCS.out wf Bf.out).mono ?_
      rintro e wg ⟨dr1, rfl, hdr1, hbr1⟩
      have Bg := hide (Bf.out.trans (hbr1.mono Bf.out.size))
      have Dr1 := hide hdr1
      have Gr1 := hide hbr1
      clear hdr1 hbr1
      (clear x0 x1 x2 y0 y1 y2)
      obtain ⟨⟨x0, x1, x2⟩, y0, y1, y2⟩ := HSB.out _ Bg.out
      have Oc1 := hide (OwnJ.ext Oc1.out Gr1.out)
      have HNM := numbers_any (some ⟨g, 0, none⟩) cc1 (clL s.fs K) wg (by rw [clL_len, HN.out.1]; omega) (OwnJ.li Oc1.out).2
      rw [clL_len, HN.out.1] at HNM
      have HNM := hide HNM
      go_wp2_with fail
      refine HNM.out.mono ?_
      rintro e wh ⟨vr1, rfl, hor1, hb⟩
      obtain ⟨Ar1, cr1, hvr1⟩ := own_shape hor1
      rw [clL_len, HN.out.1] at hvr1
      subst hvr1
      have Bh := hide (Bg.out.trans (hb.mono Bg.out.size))
      have Oc1 := hide (OwnJ.ext Oc1.out hb)
      have HDE := Decide_any dr1 s Ar1 cr1 (clL s.fs K) q wh (Dr1.out.below hb) HZ.out.nf HZ.out.nr (OwnJ.li hor1).2
      rw [clL_len, HN.out.1] at HDE
      unfold DePost at HDE
      obtain ⟨⟨nr1, er1, lr1⟩, hdr1⟩ : ∃ r, decR s (clL s.fs K) q = r := ⟨_, rfl⟩
      have hvr1 := HVS.out K
      rw [hdr1] at HDE hvr1
      dsimp only at HDE hvr1
      have HDE := hide HDE
      have HVr1 := hide hvr1
      (clear hb x0 x1 x2 y0 y1 y2 hdr1 hvr1 hor1 HNM Dr1 Gr1)
      obtain ⟨⟨x0, x1, x2⟩, y0, y1, y2⟩ := HSB.out _ Bh.out
      go_wp2_with fail
      refine HDE.out.mono ?_
      rintro e wi ⟨ur1, rfl, hou, hb⟩
      obtain ⟨AUr1, CUr1, hvu⟩ := own_shape hou
      subst hvu
      have Bi := hide (Bh.out.trans (hb.mono Bh.out.size))
      have Oc1 := hide (OwnJ.ext Oc1.out hb)
      (clear hb x0 x1 x2 y0 y1 y2 HDE hou)
      obtain ⟨⟨x0, x1, x2⟩, y0, y1, y2⟩ := HSB.out _ Bi.out
      go_wp2_with fail
      refine (HCT.out wi Bi.out).mono ?_
      rintro e wj ⟨dr2, rfl, hdr2, hbr2⟩
      have Bj := hide (Bi.out.trans (hbr2.mono Bi.out.size))
      have Dr2 := hide hdr2
      have Gr2 := hide hbr2
      clear hdr2 hbr2
      (clear x0 x1 x2 y0 y1 y2)
      obtain ⟨⟨x0, x1, x2⟩, y0, y1, y2⟩ := HSB.out _ Bj.out
      have Oc1 := hide (OwnJ.ext Oc1.out Gr2.out)
      have HNM := numbers_any (some ⟨g, 0, none⟩) cc1 (clL s.fs K) wj (by rw [clL_len, HN.out.1]; omega) (OwnJ.li Oc1.out).2
      rw [clL_len, HN.out.1] at HNM
      have HNM := hide HNM
      go_wp2_with fail
      refine HNM.out.mono ?_
      rintro e wk ⟨vr2, rfl, hor2, hb⟩
      obtain ⟨Ar2, cr2, hvr2⟩ := own_shape hor2
      rw [clL_len, HN.out.1] at hvr2
      subst hvr2
      have Bk := hide (Bj.out.trans (hb.mono Bj.out.size))
      have Oc1 := hide (OwnJ.ext Oc1.out hb)
      have HDE := Decide_any dr2 t Ar2 cr2 (clL s.fs K) q wk (Dr2.out.below hb) HZ'.out.nf HZ'.out.nr (OwnJ.li hor2).2
      rw [clL_len, HN.out.1] at HDE
      unfold DePost at HDE
      obtain ⟨⟨nr2, er2, lr2⟩, hdr2⟩ : ∃ r, decR t (clL s.fs K) q = r := ⟨_, rfl⟩
      have hvr2 := HVT.out K
      rw [hdr2] at HDE hvr2
      dsimp only at HDE hvr2
      have HDE := hide HDE
      have HVr2 := hide hvr2
      (clear hb x0 x1 x2 y0 y1 y2 hdr2 hvr2 hor2 HNM Dr2 Gr2)
      obtain ⟨⟨x0, x1, x2⟩, y0, y1, y2⟩ := HSB.out _ Bk.out
      go_wp2_with fail
      refine HDE.out.mono ?_
      rintro e wl ⟨ur2, rfl, hou, hb⟩
      obtain ⟨AUr2, CUr2, hvu⟩ := own_shape hou
      subst hvu
      have Bl := hide (Bk.out.trans (hb.mono Bk.out.size))
      have Oc1 := hide (OwnJ.ext Oc1.out hb)
      (clear hb x0 x1 x2 y0 y1 y2 HDE hou)
      obtain ⟨⟨x0, x1, x2⟩, y0, y1, y2⟩ := HSB.out _ Bl.out
      have hne : ¬ (nr1 = nr2 ∧ er1 = er2) := fun h => HNE.out (by rw [← HVr1.out, ← HVr2.out, h.1, h.2])
      go_upto_region 25 with fail
      go_cut [200] (fun v w' => v = .bool false ∧ w' = wl)
      case first =>
       as_aux_lemma =>
        by_cases hn : nr1 = nr2
        · have z1 : (nr1 == nr2) = true := by simp [hn]
          have z2 : (er1 == er2) = false := by
            rw [beq_eq_false_iff_ne]
            exact fun h => hne ⟨hn, h⟩
          clear hne hn
          go_wp2_with fail
          go_meet
          exact ⟨rfl, rfl⟩
        · have z1 : (nr1 == nr2) = false := by rw [beq_eq_false_iff_ne]; exact hn
          clear hne hn
          go_wp2_with fail
          go_meet
          exact ⟨rfl, rfl⟩
      obtain ⟨rfl, hw⟩ := hcut
      have hw := hw.symm
      subst hw
      have hO0 : Hid (OwnJ wl w1.heap.size (.slice (some ⟨g, 0, none⟩) k cc1) (lsF k (dg s.fs k (K - 0)))) := hide (by
        have h := Oc1.out
        rw [clL_ls, HN.out.1] at h
        exact h)
      clear hne HVr1 HVr2 HNE Oc1
      go_wp2_with fail
      go_loopw [24] (fun st wr => ∃ j : Nat, j ≤ K ∧ st = .int .i64 j ∧ Hid (OwnJ wr w1.heap.size (.slice (some ⟨g, 0, none⟩) k cc1) (lsF k (dg s.fs k (K - j)))) ∧ Hid (Below w1.heap.size w1 wr)) (fun st _ => 1024 - (intOf st).toNat)
      case atStart => exact ⟨0, Nat.zero_le _, rfl, hO0, Bl⟩
      case round =>
        obtain ⟨j, hj, rfl, HO, HB⟩ := hrel
        clear hO0
        have j1 : (j : Int) < 1024 := by omega
        have jst : IntKind.i64.wrap ((j : Int) + 1) = ((j + 1 : Nat) : Int) := by rw [IntWalk.i64_in _ (by omega)]; omega
        have wnf : IntKind.i64.wrap ((k : Int) - 1) = (k : Int) - 1 := IntWalk.i64_in _ (by omega)
        obtain ⟨kk, hkk⟩ : ∃ x, K - j = x := ⟨_, rfl⟩
        rw [hkk] at HO
        have HKK := hide hkk
        clear hkk
        go_wp2_with fail
        go_loopw [25] (fun x wq => ∃ (r : Nat) (iv : Int), r ≤ k ∧ x = .int .i64 iv ∧ Hid (iv = (k : Int) - 1 - r) ∧ Hid (∀ i, k - r ≤ i → i < k → dg s.fs k kk i = 0) ∧ Hid (OwnJ wq w1.heap.size (.slice (some ⟨g, 0, none⟩) k cc1) (lsF k (fun i => if k - r ≤ i then (chF s.fs i : Int) - 1 else dg s.fs k kk i))) ∧ Hid (Below w1.heap.size w1 wq)) (fun x _ => (intOf x + 1).toNat)
        case atStart => exact ⟨0, (k : Int) - 1, Nat.zero_le _, rfl, hide (by omega), hide (fun i h1 h2 => absurd h1 (by omega)), hide (by rw [lsF_congr (g := dg s.fs k kk) (fun i hi => if_neg (by omega))]; exact HO.out), HB⟩
        case round =>
          obtain ⟨r, iv, hr, rfl, HIV, HZR, HO2, HB2⟩ := hrel
          clear HO HB
          obtain ⟨⟨x0, x1, x2⟩, y0, y1, y2⟩ := HSB.out _ HB2.out
          by_cases hrk : r < k
          · as_aux_lemma =>
            obtain ⟨i0, hi0⟩ : ∃ i0 : Nat, iv = (i0 : Int) := ⟨iv.toNat, by have := HIV.out; omega⟩
            subst hi0
            have hik : i0 + 1 + r = k := by have := HIV.out; omega
            have HIK := hide hik
            have i1 : (0 : Int) ≤ (i0 : Int) := by omega
            have i2 : (i0 : Int) < (k : Int) := by omega
            have i3 : i0 < k := by omega
            have i4 : ¬ (i0 : Int) < 0 := by omega
            have wi : IntKind.i64.wrap ((i0 : Int) - 1) = (i0 : Int) - 1 := IntWalk.i64_in _ (by omega)
            obtain ⟨g', hA, hge', hgl, hcl⟩ := OwnJ.cell_at HO2.out (by omega)
            injection hA with hA
            injection hA with hA
            subst hA
            obtain ⟨ci, cz⟩ := hcl i0 i3
            rw [if_neg (show ¬ k - r ≤ i0 by omega)] at ci
            have hdb := dg_bd (fs := s.fs) (n := k) kk HCH.out i0 i3
            have hf4 := HFV.out i0 i3
            obtain ⟨xv, hxv⟩ : ∃ x, dg s.fs k kk i0 = x := ⟨_, rfl⟩
            rw [hxv] at ci hdb
            have HXV := hide hxv
            have hch8 : (chF s.fs i0 : Int) = s.fs.getD i0 0 := by unfold chF; omega
            clear hcl hge' hxv hik
            by_cases hx0 : xv = 0
            · as_aux_lemma =>
              subst hx0
              obtain ⟨fb, fo, hfa, hfb, hfc⟩ := VR1.at_ HD.out.fs (k := i0) (by rw [HN.out.1]; exact i3)
              obtain ⟨fv, hv⟩ : ∃ x, s.fs.getD i0 0 = x := ⟨_, rfl⟩
              rw [hv] at hfc hf4 hch8
              have cf := (HB2.out.cell (p := ⟨fb, fo + i0, none⟩) hfb).trans hfc
              have wf' : IntKind.i64.wrap (fv - 1) = fv - 1 := IntWalk.i64_in _ (by omega)
              have hnew : Hid (OwnJ (wr.setCell ⟨g, i0, none⟩ (.int .i64 (fv - 1))) w1.heap.size (.slice (some ⟨g, 0, none⟩) k cc1) (lsF k (fun i => if k - (r + 1) ≤ i then (chF s.fs i : Int) - 1 else dg s.fs k kk i))) := hide (by
                have h := HO2.out.put i3 (fv - 1)
                rw [lsF_congr (g := fun i => if k - (r + 1) ≤ i then (chF s.fs i : Int) - 1 else dg s.fs k kk i) (fun i hi => by
                  by_cases e : i = i0
                  · subst e
                    rw [upd_same, if_pos (by have := HIK.out; omega)]
                    omega
                  · rw [upd_ne _ _ e]
                    have := HIK.out
                    by_cases e2 : k - r ≤ i
                    · rw [if_pos e2, if_pos (by omega)]
                    · rw [if_neg e2, if_neg (by omega)])] at h
                exact h)
              have hbn : Hid (Below w1.heap.size w1 (wr.setCell ⟨g, i0, none⟩ (.int .i64 (fv - 1)))) := hide (HB2.out.setCell (p := ⟨g, i0, none⟩) hge _)
              have HXZ : Hid (∀ i, k - (r + 1) ≤ i → i < k → dg s.fs k kk i = 0) := hide (fun i h1 h2 => by
                have := HIK.out
                by_cases e : i = i0
                · rw [e]; exact HXV.out
                · exact HZR.out i (by omega) h2)
              rw [hfa] at x0 ⊢
              clear hfc hv hf4 hch8 hdb HIV HO2 HB2 HZR
              go_wp2_with fail
              go_roundw
              case rel => exact ⟨r + 1, (i0 : Int) - 1, by omega, rfl, hide (by have := HIK.out; omega), HXZ, hnew, hbn⟩
              case measure => first | (simp [intOf]; omega) | simp [intOf]
            · as_aux_lemma =>
              have hxb : (xv == 0) = false := by rw [beq_eq_false_iff_ne]; exact hx0
              have wx : IntKind.i64.wrap (xv - 1) = xv - 1 := IntWalk.i64_in _ (by omega)
              have hkz : kk ≠ 0 := fun e => hx0 (by rw [← HXV.out, e, dg_zero])
              obtain ⟨k', hk'⟩ : ∃ k', kk = k' + 1 := ⟨kk - 1, by omega⟩
              have hnew : Hid (OwnJ (wr.setCell ⟨g, i0, none⟩ (.int .i64 (xv - 1))) w1.heap.size (.slice (some ⟨g, 0, none⟩) k cc1) (lsF k (dg s.fs k k'))) := hide (by
                have h := HO2.out.put i3 (xv - 1)
                have hlt : k' + 1 < pr s.fs k := by have h1 := HKP.out; have h2 := HKK.out; omega
                have hp := dg_pred HCH.out hlt i3 (by rw [← hk', HXV.out]; exact hx0) (fun m h1 h2 => by rw [← hk']; exact HZR.out m (by have := HIK.out; omega) h2)
                rw [lsF_congr (g := dg s.fs k k') (fun i hi => by
                  rw [hp i hi, ← hk']
                  have := HIK.out
                  by_cases e : i = i0
                  · subst e
                    rw [upd_same, if_neg (by omega), if_pos rfl, HXV.out]
                  · rw [upd_ne _ _ e]
                    by_cases e2 : k - r ≤ i
                    · rw [if_pos e2, if_neg (by omega), if_neg e]
                    · rw [if_neg e2, if_pos (by omega)])] at h
                exact h)
              have hbn : Hid (Below w1.heap.size w1 (wr.setCell ⟨g, i0, none⟩ (.int .i64 (xv - 1)))) := hide (HB2.out.setCell (p := ⟨g, i0, none⟩) hge _)
              have hkj : k' < K := by have := HKK.out; omega
              have HKJ : Hid (K - (j + 1) = k') := hide (by have := HKK.out; omega)
              have hjn : j + 1 ≤ K := by have := HKK.out; omega
              have hvd := HEQ.out k' hkj
              have HVD := hide hvd
              clear hvd hkj hk' hkz hf4 hch8 hdb HIV HZR HO2 hx0 HIK HXV
              go_upto_region 36 with fail
              generalize (wr.setCell ⟨g, i0, none⟩ (.int .i64 (xv - 1))) = wt at hnew hbn ⊢
              have Oc1 : Hid (OwnJ wt w1.heap.size (.slice (some ⟨g, 0, none⟩) k cc1) (clL s.fs k')) := hide (by rw [clL_ls, HN.out.1]; exact hnew.out)
              clear ci cz hgl x0 x1 x2 y0 y1 y2 hnew HB2
              obtain ⟨⟨x0, x1, x2⟩, y0, y1, y2⟩ := HSB.out _ hbn.out
              go_wp2_with fail
              refine (HCS.out wt hbn.out).mono ?_
              rintro e wA ⟨dr3, rfl, hdr3, hbr3⟩
              have BA := hide (hbn.out.trans (hbr3.mono hbn.out.size))
              have Dr3 := hide hdr3
              have Gr3 := hide hbr3
              clear hdr3 hbr3
              (clear x0 x1 x2 y0 y1 y2)
              obtain ⟨⟨x0, x1, x2⟩, y0, y1, y2⟩ := HSB.out _ BA.out
              have Oc1 := hide (OwnJ.ext Oc1.out Gr3.out)
              have HNM := numbers_any (some ⟨g, 0, none⟩) cc1 (clL s.fs k') wA (by rw [clL_len, HN.out.1]; omega) (OwnJ.li Oc1.out).2
              rw [clL_len, HN.out.1] at HNM
              have HNM := hide HNM
              go_wp2_with fail
              refine HNM.out.mono ?_
              rintro e wB ⟨vr3, rfl, hor3, hb⟩
              obtain ⟨Ar3, cr3, hvr3⟩ := own_shape hor3
              rw [clL_len, HN.out.1] at hvr3
              subst hvr3
              have BB := hide (BA.out.trans (hb.mono BA.out.size))
              have Oc1 := hide (OwnJ.ext Oc1.out hb)
              have HDE := Decide_any dr3 s Ar3 cr3 (clL s.fs k') q wB (Dr3.out.below hb) HZ.out.nf HZ.out.nr (OwnJ.li hor3).2
              rw [clL_len, HN.out.1] at HDE
              unfold DePost at HDE
              obtain ⟨⟨nr3, er3, lr3⟩, hdr3⟩ : ∃ r, decR s (clL s.fs k') q = r := ⟨_, rfl⟩
              have hvr3 := HVS.out k'
              rw [hdr3] at HDE hvr3
              dsimp only at HDE hvr3
              have HDE := hide HDE
              have HVr3 := hide hvr3
              (clear hb x0 x1 x2 y0 y1 y2 hdr3 hvr3 hor3 HNM Dr3 Gr3)
              obtain ⟨⟨x0, x1, x2⟩, y0, y1, y2⟩ := HSB.out _ BB.out
              go_wp2_with fail
              refine HDE.out.mono ?_
              rintro e wC ⟨ur3, rfl, hou, hb⟩
              obtain ⟨AUr3, CUr3, hvu⟩ := own_shape hou
              subst hvu
              have BC := hide (BB.out.trans (hb.mono BB.out.size))
              have Oc1 := hide (OwnJ.ext Oc1.out hb)
              (clear hb x0 x1 x2 y0 y1 y2 HDE hou)
              obtain ⟨⟨x0, x1, x2⟩, y0, y1, y2⟩ := HSB.out _ BC.out
              go_wp2_with fail
              refine (HCT.out wC BC.out).mono ?_
              rintro e wD ⟨dr4, rfl, hdr4, hbr4⟩
              have BD := hide (BC.out.trans (hbr4.mono BC.out.size))
              have Dr4 := hide hdr4
              have Gr4 := hide hbr4
              clear hdr4 hbr4
              (clear x0 x1 x2 y0 y1 y2)
              obtain ⟨⟨x0, x1, x2⟩, y0, y1, y2⟩ := HSB.out _ BD.out
              have Oc1 := hide (OwnJ.ext Oc1.out Gr4.out)
              have HNM := numbers_any (some ⟨g, 0, none⟩) cc1 (clL s.fs k') wD (by rw [clL_len, HN.out.1]; omega) (OwnJ.li Oc1.out).2
              rw [clL_len, HN.out.1] at HNM
              have HNM := hide HNM
              go_wp2_with fail
              refine HNM.out.mono ?_
              rintro e wE ⟨vr4, rfl, hor4, hb⟩
              obtain ⟨Ar4, cr4, hvr4⟩ := own_shape hor4
              rw [clL_len, HN.out.1] at hvr4
              subst hvr4
              have BE := hide (BD.out.trans (hb.mono BD.out.size))
              have Oc1 := hide (OwnJ.ext Oc1.out hb)
              have HDE := Decide_any dr4 t Ar4 cr4 (clL s.fs k') q wE (Dr4.out.below hb) HZ'.out.nf HZ'.out.nr (OwnJ.li hor4).2
              rw [clL_len, HN.out.1] at HDE
              unfold DePost at HDE
              obtain ⟨⟨nr4, er4, lr4⟩, hdr4⟩ : ∃ r, decR t (clL s.fs k') q = r := ⟨_, rfl⟩
              have hvr4 := HVT.out k'
              rw [hdr4] at HDE hvr4
              dsimp only at HDE hvr4
              have HDE := hide HDE
              have HVr4 := hide hvr4
              (clear hb x0 x1 x2 y0 y1 y2 hdr4 hvr4 hor4 HNM Dr4 Gr4)
              obtain ⟨⟨x0, x1, x2⟩, y0, y1, y2⟩ := HSB.out _ BE.out
              go_wp2_with fail
              refine HDE.out.mono ?_
              rintro e wF ⟨ur4, rfl, hou, hb⟩
              obtain ⟨AUr4, CUr4, hvu⟩ := own_shape hou
              subst hvu
              have BF2 := hide (BE.out.trans (hb.mono BE.out.size))
              have Oc1 := hide (OwnJ.ext Oc1.out hb)
              (clear hb x0 x1 x2 y0 y1 y2 HDE hou)
              obtain ⟨⟨x0, x1, x2⟩, y0, y1, y2⟩ := HSB.out _ BF2.out
              have he : nr3 = nr4 ∧ er3 = er4 := by
                have h := HVD.out
                rw [← HVr3.out, ← HVr4.out] at h
                injection h with h1 h2
                exact ⟨h1, h2⟩
              obtain ⟨z1, z2⟩ := he
              subst z1 z2
              have hfin : Hid (OwnJ wF w1.heap.size (.slice (some ⟨g, 0, none⟩) k cc1) (lsF k (dg s.fs k (K - (j + 1))))) := hide (by
                have h := Oc1.out
                rw [clL_ls, HN.out.1] at h
                rw [HKJ.out]
                exact h)
              clear HVD HVr3 HVr4 Oc1
              go_wp2_with fail
              go_roundw
              case rel => exact ⟨j + 1, hjn, by go_num, hfin, BF2⟩
              case measure => simp [intOf]; omega
            -- END3
          · as_aux_lemma =>
            have hiv : iv = -1 := by have := HIV.out; omega
            subst hiv
            clear HIV HZR HO2
            go_wp2_with fail
            refine (known_any wr).mono ?_
            rintro e wz ⟨rfl, hbz⟩
            go_wp2_with fail
            go_ret
            exact ⟨rfl, HB0.out.trans ((HB2.out.trans (hbz.mono HB2.out.size)).mono HB0.out.size)⟩
            -- END4
      -- END2
end Go.Proofs.YtmpegkojencbjaaDoor
/- How a law's statement follows from its walk; arguments opened as readings. -/
namespace Go.Proofs.YtmpegkojencbjaaDoor
open Go Go.RowKit Go.ChangeShapes Go.WideShapes Go.ChangeAt
set_option maxRecDepth 100000
theorem own_knob : ownKnob Tryd.prog.godebug = none := by kernel_rfl
theorem laidOut : laidOutB Tryd.prog = true := by kernel_rfl
section
variable {H : Type} {enc : TypeId × Value → H}
/-- arguments read behind the call as before, if below the heap's old size nothing has turned -/
theorem stay_all {W W' : World} (hb : Below W.heap.size W W') {sp : Nat → Bool} : ∀ {ts : List TypeId} {vs : List Value} {ds : List (DataW H)} {ps : List MemPlace},
    (∀ t ∈ ts, Tryd.prog.readableRec t = true ∧ t < Tryd.prog.types.size) → DataW.TrodAll enc Tryd.prog W 0 (fun _ => true) true ts vs ds ps → (∀ x ∈ ps, x.block < W.heap.size) → (∀ x ∈ ps, sp x.block = true) →
    DataW.TrodAll enc Tryd.prog W' 0 sp true ts vs ds ps
  | [], _, _, _, _, h, _, _ => by
    obtain ⟨rfl, rfl, rfl⟩ := trodAll_nil h
    exact trodAll_mk0
  | t :: ts, _, _, _, hr, h, hlt, hsp => by
    obtain ⟨v, vs, d, ds, p, q, rfl, rfl, rfl, h0, r0⟩ := trodAll_cons h
    have k := hr t (by simp)
    exact trodAll_cons_mk (WideElems.Trod_stays laidOut k.1 k.2 h0 (fun x hx => hb.same (hlt x (by simp [hx]))) (fun x hx => hsp x (by simp [hx])))
      (stay_all hb (fun t ht => hr t (by simp [ht])) r0 (fun x hx => hlt x (by simp [hx])) (fun x hx => hsp x (by simp [hx])))
/-- a law that returned true and turned nothing old -/
theorem law_post {f : Func} {s : ChangeSpec} {apart fresh handsOn again : Bool} {W W' : World} {args : Array Value} {ds gs : List (DataW H)} {before : List MemPlace}
    (hW : DataW.Whole enc Tryd.prog f.params.toList s.vars apart W args.toList ds gs before) (hb : Below W.heap.size W W')
    (hvs : s.vars = []) (hr1 : f.resultTypes = #[4])
    (hpar : f.params.toList.all (fun t => Tryd.prog.readableRec t && decide (t < Tryd.prog.types.size)) = true)
    (hfn : (s.fn H ds).results = [.lit (.bool true)] ∧ (s.fn H ds).args = ds ∧ (s.fn H ds).vars = []) :
    s.post enc Tryd.prog f apart fresh handsOn again W args (.bool true) W' := by
  have hW0 := hW
  have hlt : ∀ p ∈ before, p.block < W.heap.size := fun p hp => hW.lt p hp
  have hold : ∀ p ∈ before, (fun b => decide (b < W.heap.size)) p.block = true := fun p hp => by simpa using hlt p hp
  obtain ⟨p, q, hA, hV, rfl, hz, hn⟩ := hW
  rw [hvs] at hV
  obtain ⟨rfl, rfl⟩ := trodVars_none hV
  simp only [List.append_nil] at *
  have hk : ∀ t ∈ f.params.toList, Tryd.prog.readableRec t = true ∧ t < Tryd.prog.types.size := by
    intro t ht
    have := List.all_eq_true.1 hpar t ht
    simpa using this
  have hargs : ∀ sp : Nat → Bool, (∀ x ∈ p, sp x.block = true) → DataW.TrodAll enc Tryd.prog W' 0 sp true f.params.toList args.toList (s.fn H (ds ++ [])).args p := fun sp hsp => by
    rw [List.append_nil, hfn.2.1]; exact stay_all hb hk hA hlt hsp
  have hvars : ∀ sp : Nat → Bool, DataW.TrodVars enc Tryd.prog W' sp s.vars (s.fn H (ds ++ [])).vars [] := fun sp => by
    rw [hvs, List.append_nil, hfn.2.2]; exact rfl
  have hres : ∀ (b : Nat) (sp : Nat → Bool) (hd : Bool), DataW.TrodAll enc Tryd.prog W' b sp hd f.resultTypes.toList ((Value.bool true).resultList f.resultTypes.size) (s.fn H (ds ++ [])).results [] := fun b sp hd => by
    rw [List.append_nil, hfn.1, hr1]
    exact trodAll_cons_mk (shut_bool Tryd.underlying4 _) trodAll_mk0
  refine ⟨ds, [], p, [], p, [], hW0, hres _ _ _, hargs _ hold, hvars _, World.keptBut_mono (fun x hx => ⟨hx, Or.inr (by simpa using hx)⟩) (hb.frame (· ∈ p)), fun _ => ?_⟩
  refine ⟨ok_one hr1 rfl (okWide_bool_mk Tryd.underlying4 _), _, _, ([] ++ p) ++ [], ⟨[] ++ p, [], trodAll_append (hargs _ (fun _ _ => rfl)) (hres _ _ _), hvars (fun _ => true), rfl, ?_, ?_⟩, ?_⟩
  · intro b off hp
    have hin : MemPlace.cell b off ∈ p := by simpa using hp
    rw [hb.frozen (hlt _ hin)]
    exact hz b off hin
  · intro ha
    simpa using hn ha
  · intro x hx _
    simpa using hx
/-- a slice of structs of two cells: the readings of its elements -/
theorem open_pairs_c {W : World} {t e : TypeId} {f0 f1 : Field} {v : Value} {x : DataW H × List MemPlace} {fuel : Nat} (ht : Tryd.prog.underlying t = some (.slice e)) (he : Tryd.prog.underlying e = some (.struct #[f0, f1]))
    (ce : Tryd.prog.cellsOf e = 2) (o0 : f0.offset = 0) (o1 : f1.offset = 1) (c0 : Tryd.prog.cellsOf f0.type = 1) (c1 : Tryd.prog.cellsOf f1.type = 1)
    (h : DataW.trod enc Tryd.prog W 0 (fun _ => true) true fuel t [v] = some x) (hlt : ∀ y ∈ x.2, y.block < W.heap.size) :
    ∃ A n c V0 V1, v = .slice A n c ∧ n ≤ maxLen ∧ n ≤ c ∧ P2 W W.heap.size A n V0 V1 ∧ ∀ i, i < n → ∃ m x0 x1, DataW.trod enc Tryd.prog W 0 (fun _ => true) true m f0.type [V0 i] = some x0 ∧ DataW.trod enc Tryd.prog W 0 (fun _ => true) true m f1.type [V1 i] = some x1 ∧
      (∀ y ∈ x0.2, y.block < W.heap.size) ∧ (∀ y ∈ x1.2, y.block < W.heap.size) := by
  rcases Deep.open_slice_pairs ht he ce o0 o1 c0 c1 h with ⟨h1, -⟩ | ⟨a, len, cap, m, n, V0, V1, D0, D1, P0, P1, h1, hb, hl, hm, hmm, hx, hc⟩
  · injection h1 with h1
    subst h1
    exact ⟨none, 0, 0, fun _ => .nilIface, fun _ => .nilIface, rfl, by simp [maxLen], Nat.le_refl _, ER.nil _ _ _ _ _, fun i hi => absurd hi (by omega)⟩
  · injection h1 with h1
    subst h1
    simp only [if_true] at hmm
    subst hmm
    refine ⟨some a, len, m, V0, V1, rfl, by omega, hl, fun hn => ?_, fun i hi => ?_⟩
    · have h0 := (hc 0 (by omega)).1
      obtain ⟨b, off, spot⟩ := a
      have hsp : spot = none := by simpa [Addr.add] using World.cell?_spot h0
      subst hsp
      refine ⟨b, off, rfl, ?_, fun k i hk hi => ?_⟩
      · have hb1 := hlt (.cell b (off + 0)) (by
          rw [hx]
          exact List.mem_append_left _ (MemPlace.mem_row.2 ⟨0, by omega, rfl⟩))
        exact hb1
      · have hk2 := hc k (by omega)
        have q0 := hk2.1
        have q1 := hk2.2.1
        rw [add_lit'] at q0 q1
        rcases (by omega : i = 0 ∨ i = 1) with rfl | rfl
        · simpa using q0
        · simpa [Nat.add_assoc] using q1
    · have hi2 := hc i (by omega)
      refine ⟨n, _, _, hi2.2.2.1, hi2.2.2.2, fun y hy => hlt y ?_, fun y hy => hlt y ?_⟩
      · rw [hx]; exact List.mem_append_right _ (List.mem_flatMap.2 ⟨i, by simp; omega, List.mem_append_left _ hy⟩)
      · rw [hx]; exact List.mem_append_right _ (List.mem_flatMap.2 ⟨i, by simp; omega, List.mem_append_right _ hy⟩)
/-- a slice of ints -/
theorem open_ints_c {W : World} {t : TypeId} {v : Value} {x : DataW H × List MemPlace} {fuel : Nat} (ht : Tryd.prog.underlying t = some (.slice 3))
    (h : DataW.trod enc Tryd.prog W 0 (fun _ => true) true fuel t [v] = some x) (hlt : ∀ y ∈ x.2, y.block < W.heap.size) :
    ∃ A n c z, v = .slice A n c ∧ n ≤ maxLen ∧ n ≤ c ∧ IR W W.heap.size A n z ∧ ∀ i, i < n → -9223372036854775808 ≤ z i ∧ z i ≤ 9223372036854775807 := by
  rcases open_ints ht Tryd.underlying3 (by kernel_rfl) h with ⟨h1, -⟩ | ⟨a, len, cap, zs, h1, hb, hl, hm, hz, hx, hc, hwf⟩
  · injection h1 with h1
    subst h1
    exact ⟨none, 0, 0, fun _ => 0, rfl, by simp [maxLen], Nat.le_refl _, ER.nil _ _ _ _ _, fun i hi => absurd hi (by omega)⟩
  · injection h1 with h1
    subst h1
    simp only [if_true] at hz
    refine ⟨some a, len, cap, fun i => zs.getD i 0, rfl, by omega, hl, fun hn => ?_, fun i hi => ?_⟩
    · have h0 := hc 0 (by omega)
      obtain ⟨b, off, spot⟩ := a
      have hsp : spot = none := by simpa [Addr.add] using World.cell?_spot h0
      subst hsp
      refine ⟨b, off, rfl, ?_, fun k i hk hi => ?_⟩
      · have hb1 := hlt (.cell b (off + 0)) (by
          rw [hx]
          exact MemPlace.mem_row.2 ⟨0, by omega, rfl⟩)
        exact hb1
      · obtain rfl : i = 0 := by omega
        have := hc k (by omega)
        rw [add_lit'] at this
        simpa using this
    · have h1 : zs.getD i 0 ∈ zs := by
        rw [List.getD_eq_getElem?_getD, List.getElem?_eq_getElem (by omega)]
        exact List.getElem_mem _
      have := hwf _ h1
      simp only [Lit.wf, Bool.and_eq_true, decide_eq_true_eq] at this
      simpa [IntKind.min, IntKind.max, IntKind.signed, IntKind.bits] using this
theorem int_of_trod {W : World} {t : TypeId} {v : Value} {x : DataW H × List MemPlace} {fuel : Nat} (ht : Tryd.prog.underlying t = some (.int .i64)) (h : DataW.trod enc Tryd.prog W 0 (fun _ => true) true fuel t [v] = some x) :
    v = .int .i64 (intOf v) ∧ -9223372036854775808 ≤ intOf v ∧ intOf v ≤ 9223372036854775807 := by
  obtain ⟨z, hz, -, hw⟩ := DataW.trod_int ht h
  injection hz with hz
  subst hz
  simp only [Lit.wf, Bool.and_eq_true, decide_eq_true_eq] at hw
  exact ⟨rfl, by simpa [intOf, IntKind.min, IntKind.max, IntKind.signed, IntKind.bits] using hw⟩
theorem cells_slice {A : Option Addr} {n c : Nat} : (Value.slice A n c).cells.toList = [.slice A n c] := rfl
/-- a slice of structs of two ints -/
theorem open_pairs {r : Reach} {b0 : Nat} {W : World} {t e : TypeId} {f0 f1 : Field} {v : Value} {d : DataW H} {p : List MemPlace} (ht : Tryd.prog.underlying t = some (.slice e)) (he : Tryd.prog.underlying e = some (.struct #[f0, f1]))
    (ce : Tryd.prog.cellsOf e = 2) (o0 : f0.offset = 0) (o1 : f1.offset = 1) (c0 : Tryd.prog.cellsOf f0.type = 1) (c1 : Tryd.prog.cellsOf f1.type = 1)
    (k0 : Tryd.prog.underlying f0.type = some (.int .i64)) (k1 : Tryd.prog.underlying f1.type = some (.int .i64)) (hval : Value.okWide Tryd.prog W r b0 t v)
    (h : DataW.Trod enc Tryd.prog W 0 (fun _ => true) true t v d p) (hlt : ∀ x ∈ p, x.block < W.heap.size) :
    ∃ A n c x y, v = .slice A n c ∧ n ≤ maxLen ∧ n ≤ c ∧ PI W W.heap.size A n x y := by
  obtain ⟨fuel, h⟩ := h
  obtain ⟨A, n, c, rfl⟩ := okWide_slice ht hval
  rw [cells_slice] at h
  obtain ⟨A', n', c', V0, V1, h1, hn, hnc, hP, hV⟩ := open_pairs_c ht he ce o0 o1 c0 c1 h hlt
  injection h1 with h1 h2 h3
  subst h1 h2 h3
  refine ⟨A, n, c, fun i => intOf (V0 i), fun i => intOf (V1 i), rfl, hn, hnc, fun hn0 => ?_⟩
  obtain ⟨b, off, hA, hb, hc⟩ := hP hn0
  refine ⟨b, off, hA, hb, fun k i hk hi => ?_⟩
  obtain ⟨m, x0, x1, g0, g1, -, -⟩ := hV k hk
  rw [hc k i hk hi]
  rcases (by omega : i = 0 ∨ i = 1) with rfl | rfl
  · simpa using (int_of_trod k0 g0).1
  · simpa using (int_of_trod k1 g1).1
end
end Go.Proofs.YtmpegkojencbjaaDoor
/- School: a law's arguments opened: schools. -/
namespace Go.Proofs.YtmpegkojencbjaaDoor
open Go Go.RowKit Go.ChangeShapes Go.WideShapes Go.ChangeAt
section
variable {H : Type} {enc : TypeId × Value → H} {r : Reach} {b0 : Nat} {W : World} {v : Value} {d : DataW H} {p : List MemPlace}
set_option maxRecDepth 100000
/-- a slice of structs of one-cell fields -/
theorem open_cellsR {t e : TypeId} {fs : Array Field} {x : DataW H × List MemPlace} {fuel : Nat} (ht : Tryd.prog.underlying t = some (.slice e)) (he : Tryd.prog.underlying e = some (.struct fs)) (hone : Deep.oneCellFields Tryd.prog fs = true)
    (ce : Tryd.prog.cellsOf e = fs.size) (hpos : 0 < fs.size) (h : DataW.trod enc Tryd.prog W 0 (fun _ => true) true fuel t [v] = some x) (hlt : ∀ y ∈ x.2, y.block < W.heap.size) :
    ∃ A n c V, v = .slice A n c ∧ n ≤ maxLen ∧ n ≤ c ∧ ER W W.heap.size fs.size A n V ∧ ∀ i k f, i < n → fs[k]? = some f → ∃ m y, DataW.trod enc Tryd.prog W 0 (fun _ => true) true m f.type [V i k] = some y ∧ (∀ z ∈ y.2, z.block < W.heap.size) := by
  rcases Deep.open_slice ht h with ⟨h1, -⟩ | ⟨a, len, cap, m, n, D, Pl, h1, hb, hl, hm, hmm, hx, hc⟩
  · injection h1 with h1
    subst h1
    exact ⟨none, 0, 0, fun _ _ => .nilIface, rfl, by simp [maxLen], Nat.le_refl _, ER.nil _ _ _ _ _, fun i k f hi => absurd hi (by omega)⟩
  · injection h1 with h1
    subst h1
    simp only [if_true] at hmm
    subst hmm
    rw [ce] at hc hx
    obtain ⟨C, hC⟩ := Deep.choose_lt hc
    refine ⟨some a, len, m, fun i k => (C i).getD k undef, rfl, by omega, hl, fun hn => ?_, fun i k f hi hf => ?_⟩
    · obtain ⟨-, hl0, hc0⟩ := World.cells?_some (hC 0 (by omega)).1
      have h0 := hc0 0 hpos
      rw [List.getElem?_eq_getElem (by omega)] at h0
      obtain ⟨b, off, spot⟩ := a
      have hsp : spot = none := by simpa [Addr.add] using World.cell?_spot h0
      subst hsp
      refine ⟨b, off, rfl, ?_, fun k i hk hi => ?_⟩
      · have hb1 := hlt (.cell b (off + 0)) (by
          rw [hx]
          exact List.mem_append_left _ (MemPlace.mem_row.2 ⟨0, Nat.mul_pos (by omega) hpos, rfl⟩))
        exact hb1
      · obtain ⟨-, hl1, hc1⟩ := World.cells?_some (hC k (by omega)).1
        have h2 := hc1 i hi
        rw [Deep.add_add, add_lit', List.getElem?_eq_getElem (by omega)] at h2
        rw [show off + k * fs.size + i = off + (k * fs.size + i) by omega, h2]
        simp [List.getD, List.getElem?_eq_getElem (show i < (C k).length by omega)]
    · obtain ⟨-, hl1, -⟩ := World.cells?_some (hC i (by omega)).1
      obtain ⟨xs, m', -, hxy, -, hxl, hf2⟩ := DataW.trod_struct he (hC i (by omega)).2
      have hk : k < fs.size := (Array.getElem?_eq_some_iff.1 hf).1
      obtain ⟨ho, hc1⟩ := Deep.hone_of hone k f hf
      have g := hf2 k f hf
      rw [ho, hc1, Deep.take1_drop (C i) k undef (by omega), List.getElem?_eq_getElem (by omega)] at g
      refine ⟨m', _, g, fun z hz => hlt z ?_⟩
      rw [hx]
      simp only [Prod.mk.injEq] at hxy
      refine List.mem_append_right _ (List.mem_flatMap.2 ⟨i, by simp; omega, ?_⟩)
      rw [hxy.2]
      exact List.mem_flatMap.2 ⟨_, List.getElem_mem _, hz⟩
theorem arr3R {cs : Array Value} (h : cs.size = 3) : ∃ a b c, cs = #[a, b, c] := by
  rcases cs with ⟨l⟩
  match l, h with
  | [a, b, c], _ => exact ⟨a, b, c, rfl⟩
/-- a list of tests -/
theorem open_tests {x : DataW H × List MemPlace} {fuel : Nat} (h : DataW.trod enc Tryd.prog W 0 (fun _ => true) true fuel 71 [v] = some x) (hlt : ∀ y ∈ x.2, y.block < W.heap.size) :
    ∃ (A : Option Addr) (c : Nat) (l : List (Int × Int)), v = .slice A l.length c ∧ l.length ≤ maxLen ∧ TsR W W.heap.size A l ∧ ∀ t ∈ l, -9223372036854775808 ≤ t.2 ∧ t.2 ≤ 9223372036854775807 := by
  obtain ⟨A, n, c, V, rfl, hn, hnc, hE, hV⟩ := open_cellsR Tryd.underlying71 Tryd.underlying76 (by kernel_rfl) (by kernel_rfl) (by decide) h hlt
  have k0 : ∀ k, k < n → V k 0 = .int .i64 (intOf (V k 0)) := fun k hk => by
    obtain ⟨m, y, g, -⟩ := hV k 0 _ hk rfl
    exact (int_of_trod Tryd.underlying3 g).1
  have k1 : ∀ k, k < n → V k 1 = .int .i64 (intOf (V k 1)) ∧ -9223372036854775808 ≤ intOf (V k 1) ∧ intOf (V k 1) ≤ 9223372036854775807 := fun k hk => by
    obtain ⟨m, y, g, -⟩ := hV k 1 _ hk rfl
    exact int_of_trod Tryd.underlying3 g
  obtain ⟨f, hf⟩ : ∃ f : Nat → Int × Int, f = fun k => (intOf (V k 0), intOf (V k 1)) := ⟨_, rfl⟩
  have hl : ((List.range n).map f).length = n := by simp
  have hg : ∀ k, k < n → ((List.range n).map f).getD k (0, 0) = f k := fun k hk => by
    rw [List.getD_eq_getElem?_getD, List.getElem?_map, List.getElem?_range hk]; rfl
  refine ⟨A, c, (List.range n).map f, by rw [hl], by rw [hl]; exact hn, ?_, fun t ht => by
    obtain ⟨k, hk, rfl⟩ := List.mem_map.1 ht
    rw [hf]
    exact (k1 k (List.mem_range.1 hk)).2⟩
  unfold TsR
  rw [hl]
  refine fun hn0 => ?_
  obtain ⟨b, off, hA, hb, hc⟩ := hE hn0
  refine ⟨b, off, hA, hb, fun k i hk hi => ?_⟩
  refine (hc k i hk hi).trans ?_
  show _ = some (tsV (((List.range n).map f).getD k (0, 0)) i)
  rw [hg k hk, hf]
  rcases (by omega : i = 0 ∨ i = 1) with rfl | rfl
  · rw [k0 k hk]; rfl
  · rw [(k1 k hk).1]; rfl
/-- a list of rules -/
theorem open_rules {x : DataW H × List MemPlace} {fuel : Nat} (h : DataW.trod enc Tryd.prog W 0 (fun _ => true) true fuel 45 [v] = some x) (hlt : ∀ y ∈ x.2, y.block < W.heap.size) :
    ∃ (A : Option Addr) (c : Nat) (rs : List Rl) (ta : Nat → Option Addr) (tc : Nat → Nat), v = .slice A rs.length c ∧ rs.length ≤ maxLen ∧ (∀ r ∈ rs, r.when_.length ≤ maxLen) ∧ RsR W W.heap.size A ta tc rs ∧ ∀ r ∈ rs, ∀ t ∈ r.when_, -9223372036854775808 ≤ t.2 ∧ t.2 ≤ 9223372036854775807 := by
  obtain ⟨A, n, c, V, rfl, hn, hnc, hE, hV⟩ := open_cellsR Tryd.underlying45 Tryd.underlying73 (by kernel_rfl) (by kernel_rfl) (by decide) h hlt
  have key : ∀ i, i < n → ∃ q : Option Addr × Nat × List (Int × Int), V i 0 = .slice q.1 q.2.2.length q.2.1 ∧ q.2.2.length ≤ maxLen ∧ TsR W W.heap.size q.1 q.2.2 ∧ V i 1 = .int .i64 (intOf (V i 1)) ∧ V i 2 = .int .i64 (intOf (V i 2)) ∧ ∀ t ∈ q.2.2, -9223372036854775808 ≤ t.2 ∧ t.2 ≤ 9223372036854775807 := fun i hi => by
    obtain ⟨m0, y0, g0, l0⟩ := hV i 0 _ hi rfl
    obtain ⟨m1, y1, g1, l1⟩ := hV i 1 _ hi rfl
    obtain ⟨m2, y2, g2, l2⟩ := hV i 2 _ hi rfl
    obtain ⟨A0, c0, t0, e0, h0, r0, z0⟩ := open_tests g0 l0
    exact ⟨(A0, c0, t0), e0, h0, r0, (int_of_trod Tryd.underlying3 g1).1, (int_of_trod Tryd.underlying3 g2).1, z0⟩
  obtain ⟨q, hq⟩ := Deep.choose_lt key
  obtain ⟨f, hf⟩ : ∃ f : Nat → Rl, f = fun k => ⟨(q k).2.2, intOf (V k 1), intOf (V k 2)⟩ := ⟨_, rfl⟩
  have hl : ((List.range n).map f).length = n := by simp
  have hg : ∀ k, k < n → ((List.range n).map f).getD k r0 = f k := fun k hk => by
    rw [List.getD_eq_getElem?_getD, List.getElem?_map, List.getElem?_range hk]; rfl
  refine ⟨A, c, (List.range n).map f, fun k => (q k).1, fun k => (q k).2.1, by rw [hl], by rw [hl]; exact hn, fun r hr => ?_, ⟨?_, fun k hk => ?_⟩, fun r hr => by
    obtain ⟨k, hk, rfl⟩ := List.mem_map.1 hr
    rw [hf]
    exact (hq k (List.mem_range.1 hk)).2.2.2.2.2⟩
  · obtain ⟨k, hk, rfl⟩ := List.mem_map.1 hr
    rw [hf]
    exact (hq k (List.mem_range.1 hk)).2.1
  · rw [hl]
    refine fun hn0 => ?_
    obtain ⟨b, off, hA, hb, hc⟩ := hE hn0
    refine ⟨b, off, hA, hb, fun k i hk hi => ?_⟩
    refine (hc k i hk hi).trans ?_
    show _ = some (rlV (((List.range n).map f).getD k r0) (q k).1 (q k).2.1 i)
    rw [hg k hk, hf]
    obtain ⟨e0, -, -, e1, e2, -⟩ := hq k hk
    rcases (by omega : i = 0 ∨ i = 1 ∨ i = 2) with rfl | rfl | rfl
    · rw [e0]; rfl
    · rw [e1]; rfl
    · rw [e2]; rfl
  · rw [hl] at hk
    rw [hg k hk, hf]
    exact (hq k hk).2.2.1
/-- a school -/
theorem open_school (hval : Value.okWide Tryd.prog W r b0 47 v) (h : DataW.Trod enc Tryd.prog W 0 (fun _ => true) true 47 v d p) (hlt : ∀ x ∈ p, x.block < W.heap.size) :
    ∃ (dd : Ad_) (s : Sch), v = scV dd s ∧ ScZ s ∧ ScR W W.heap.size dd s ∧ ∀ r ∈ s.rs, ∀ t ∈ r.when_, -9223372036854775808 ≤ t.2 ∧ t.2 ≤ 9223372036854775807 := by
  obtain ⟨cs, rfl, hsz⟩ := okWide_struct Tryd.underlying47 hval
  obtain ⟨a, b, c, rfl⟩ := arr3R (hsz.trans (by kernel_rfl))
  obtain ⟨fuel, h⟩ := h
  have h' : DataW.trod enc Tryd.prog W 0 (fun _ => true) true fuel 47 [a, b, c] = some (d, p) := h
  obtain ⟨xs, m, -, hxy, -, hxl, hf⟩ := DataW.trod_struct Tryd.underlying47 h'
  have g0 := hf 0 _ rfl
  have g1 := hf 1 _ rfl
  have g2 := hf 2 _ rfl
  rw [List.getElem?_eq_getElem (by rw [hxl]; decide)] at g0 g1 g2
  have k0 : DataW.trod enc Tryd.prog W 0 (fun _ => true) true m 36 [a] = _ := g0
  have k1 : DataW.trod enc Tryd.prog W 0 (fun _ => true) true m 3 [b] = _ := g1
  have k2 : DataW.trod enc Tryd.prog W 0 (fun _ => true) true m 45 [c] = _ := g2
  have e1 := (int_of_trod Tryd.underlying3 k1).1
  simp only [Prod.mk.injEq] at hxy
  obtain ⟨A0, n0, c0, z, e0, l0, -, r0', -⟩ := open_ints_c Tryd.underlying36 k0 (fun y hy => hlt y (by
    rw [hxy.2]
    exact List.mem_flatMap.2 ⟨_, List.getElem_mem _, hy⟩))
  obtain ⟨A2, c2, rs, ta, tc, e2, l2, l3, r2, rz⟩ := open_rules k2 (fun y hy => hlt y (by
    rw [hxy.2]
    exact List.mem_flatMap.2 ⟨_, List.getElem_mem _, hy⟩))
  have hl : ((List.range n0).map z).length = n0 := by simp
  refine ⟨⟨A0, c0, A2, c2, ta, tc⟩, ⟨(List.range n0).map z, intOf b, rs⟩, ?_, ⟨by rw [hl]; exact l0, l2, l3⟩, ⟨?_, r2⟩, rz⟩
  · unfold scV
    dsimp only
    rw [hl, ← e0, ← e2, ← e1]
  · unfold LI
    rw [hl]
    refine fun hn => ?_
    obtain ⟨b', off, hA, hb, hc⟩ := r0' hn
    refine ⟨b', off, hA, hb, fun k i hk hi => ?_⟩
    rw [hc k i hk hi]
    have e : ((List.range n0).map z).getD k 0 = z k := by
      rw [List.getD_eq_getElem?_getD, List.getElem?_map, List.getElem?_range hk]; rfl
    show some (Value.int .i64 (z k)) = some (Value.int .i64 (((List.range n0).map z).getD k 0))
    rw [e]
end
end Go.Proofs.YtmpegkojencbjaaDoor
namespace Go.Proofs.YtmpegkojencbjaaDoor.schoolApart
open Go Go.ChangeShapes Go.WideShapes Go.ChangeAt Go.RowKit
set_option maxRecDepth 100000 in
theorem lifted (os : Os) (started : os.Started) (H : Type) (enc : TypeId × Value → H) :
    ReturnsInHanded {} Tryd.checked os 11 .any (fun w args => (Rows.schoolApartSpec.pre enc Tryd.prog Tryd.f11 Rows.schoolApartRow.domain false w args ∧ laidMetH Tryd.prog Rows.schoolApartRow.laid w) ∧ sizedMet enc Tryd.prog Tryd.f11 (OpenSpec.ofChange Rows.schoolApartSpec) false w args)
      (Rows.schoolApartSpec.post enc Tryd.prog Tryd.f11 false true false false) := by
  refine returnsInHanded_of_change_and (C := Tryd.checked) (X := fun w _ => laidMetH Tryd.prog Rows.schoolApartRow.laid w) (fun _ _ _ hh h => h.of_heap hh) own_knob started (by kernel_rfl) Tryd.func11
    (ChangeSpec.witness_shaped (enc := enc) (C := Tryd.checked) (os := os) (X := fun w _ => laidMetH Tryd.prog Rows.schoolApartRow.laid w) false (World.laidAll Tryd.prog os Rows.schoolApartRow.laid) #[.agg #[.slice none 0 0, .int .i64 0, .slice none 0 0], .agg #[.slice none 0 0, .int .i64 0, .slice none 0 0], .int .i64 0] 8 (World.laidAll_os _ _ _)
      (World.shaped_of_ZipB (by kernel_rfl) (by kernel_rfl)) (by kernel_rfl) (by kernel_rfl) (by kernel_rfl)
      (by rw [MakeChecks.laidMetH_plain _ _ _ (by kernel_rfl)]; exact laidMet_laidAll _ (by kernel_rfl) (by kernel_rfl))) ?_
  intro W base args ds gs before hval0 hW _ _ hL _
  have hval : ∀ (j : Nat) t v, Tryd.f11.params[j]? = some t → args[j]? = some v → Value.okWide Tryd.prog W .any base t v := hval0
  have hW' := hW
  have hlt : ∀ p ∈ before, p.block < W.heap.size := fun p hp => hW.lt p hp
  obtain ⟨p, q, hA0, hV, rfl, hfz, hnd⟩ := hW
  have hA : DataW.TrodAll enc Tryd.prog W 0 (fun _ => true) true Tryd.f11.params.toList args.toList ds p := hA0
  rw [Tryd.params11] at hA hval
  obtain ⟨v0, vs0, d0, ds0, p0, q0, hargs, rfl, rfl, h0, r0⟩ := trodAll_cons hA
  obtain ⟨v1, vs1, d1, ds1, p1, q1, rfl, rfl, rfl, h1, r1⟩ := trodAll_cons r0
  obtain ⟨v2, vs2, d2, ds2, p2, q2, rfl, rfl, rfl, h2, r2⟩ := trodAll_cons r1
  obtain ⟨rfl, rfl, rfl⟩ := trodAll_nil r2
  obtain rfl : args = #[v0, v1, v2] := by cases args; simp_all
  obtain ⟨rfl, rfl⟩ := trodVars_none hV
  have k0 := hval 0 47 v0 rfl rfl
  have k1 := hval 1 47 v1 rfl rfl
  have k2 := hval 2 3 v2 rfl rfl
  obtain ⟨e0, l0, rfl, z0, s0, -⟩ := open_school k0 h0 (fun x hx => hlt x (by simp [hx]))
  obtain ⟨e1, l1, rfl, z1, s1, -⟩ := open_school k1 h1 (fun x hx => hlt x (by simp [hx]))
  obtain ⟨a2, rfl, rfl, rfl, -⟩ := open_int Tryd.underlying3 k2 h2
  clear hA0 hval0
  refine (apart_any e0 e1 l0 l1 a2 W z0 z1 s0 s1).mono fun e W' ⟨he, hb⟩ => ?_
  subst he
  exact ⟨_, rfl, law_post hW' hb rfl rfl (by kernel_rfl) ⟨rfl, rfl, rfl⟩⟩
theorem over : Rows.schoolApartRow.holds Tryd.pinned (OpenSpec.ofChange Rows.schoolApartSpec) :=
  OpenClaim.holds_of_wide 11 Tryd.f11 rfl rfl rfl rfl rfl rfl rfl ⟨rfl, rfl, rfl, rfl, rfl⟩ rfl rfl rfl rfl rfl (by kernel_rfl) Tryd.func11 (by kernel_rfl)
    (of_decide_eq_true (by kernel_rfl)) (by unfold Func.isWrapper; first | (rw [if_pos (by decide +kernel)]; kernel_rfl) | (rw [if_neg (by decide +kernel)]; exact ⟨rfl, rfl⟩))
    (fun os started H enc _ => lifted os started H enc)
theorem proved : Rows.SchoolApartCardSaid :=
  Claim7.holds_tied_plain_at .later [] [.data, .pinned] true (true, "de0e8bac062d770159938a4787e32507ef436192cdeecd4cdeadb3815a38d22b") false over (fun _ h => by cases h) (by kernel_rfl) (fun _ h => by cases h) schoolApart_row_tie rfl ⟨rfl, rfl⟩ (by kernel_rfl) rfl
    (fun f fn hf hfn => by
      obtain rfl : f = 11 := Option.some.inj ((show Tryd.prog.funcNamed "chiti/chitilaw11.SchoolApart" = some 11 by kernel_rfl).symm.trans hf) |>.symm
      obtain rfl : fn = Tryd.f11 := (Option.some.inj (Tryd.func11.symm.trans hfn)).symm
      exact ⟨by kernel_rfl, fun j t ht => by
        rw [Tryd.params11] at ht
        have hm : t ∈ ([47, 3] : List TypeId) := by simpa using Array.mem_of_getElem? ht
        have hall : (([47, 3] : List TypeId).all fun u => !Tryd.prog.wantsStandIn u) = true := by kernel_rfl
        exact (show Tryd.prog.wantsStandIn t = false by simpa using List.all_eq_true.1 hall t hm)⟩)
    (by kernel_rfl)
#print axioms proved
end Go.Proofs.YtmpegkojencbjaaDoor.schoolApart
